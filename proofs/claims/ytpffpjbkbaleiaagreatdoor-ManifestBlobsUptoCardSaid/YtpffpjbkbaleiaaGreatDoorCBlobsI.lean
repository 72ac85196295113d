/- Texts of this proof, one after the other: R16B, R16C, R16D, RbE, RgA, LdP, RfsP, NumP, Small, RgC, BuiltA, BlbP, NedQ, LawA, LawBlb, Frame, Few, OpM, FrameU, OpV. -/
import Derived.Test.YtpffpjbkbaleiaaGreatDoorCBlobsH
set_option maxRecDepth 100000
set_option maxHeartbeats 8000000
namespace Go.Proofs.YtpffpjbkbaleiaaGreatDoor
open Go Go.RowKit
theorem Tryz.appIntsM :kf Tryz.prog 65 3 1 8:=kf.mk' (z:= .int .i64 0) Tryz.underlying65 (by kernel_rfl) rfl (by decide) (by decide)
def rC (n:Nat):Value:= .int .i64 (n:Int)
def ke (mk:Nat->Bool) (mn k:Nat):List Nat:=(List.range k).filter fun p=>kt mk mn p
theorem JO (mk:Nat->Bool) (mn k:Nat):ke mk mn (k+1)=if kt mk mn k=true then ke mk mn k++[k]else ke mk mn k:=by
 unfold ke;rw[lM,gD]
 by_cases h:kt mk mn k=true
 ·rw[if_pos h]; simp[h]
 ·rw[if_neg h]; simp[h]
theorem Do (mk:Nat->Bool) (mn k:Nat):(ke mk mn k).length<=k:=by
 have:=dH (fun p=>kt mk mn p) (List.range k);rw[List.length_range]at this;exact this
def qb (mk:Nat->Bool) (mn p q:Nat) (b:Bool):Prop:=b=true<->mk p=true/\ ∀r,1<=r->q<r->r<p->p<r+mn->mk r=false
theorem qb.start (mk:Nat->Bool) (mn p:Nat):qb mk mn p (p-1) (mk p):=⟨fun h=>⟨h,fun r h1 h2 h3 _=>by omega⟩,fun h=>h.1⟩
theorem qb.hit {mk:Nat->Bool} {mn p q:Nat} {b:Bool} (_h:qb mk mn p q b) (hq:1<=q) (hp:q<p) (hm:p<q+mn) (hk:mk q=true):qb mk mn p (q-1) false:=
 ⟨fun h=>(by cases h),fun h=>(by rw[h.2 q hq (by omega) hp hm]at hk; cases hk)⟩
theorem qb.miss {mk:Nat->Bool} {mn p q:Nat} {b:Bool} (h:qb mk mn p q b) (hk:mk q=false):qb mk mn p (q-1) b:=
 ⟨fun hb=>⟨(h.1 hb).1,fun r h1 h2 h3 h4=>by
  by_cases e:r=q
  ·rw[e]; exact hk
  ·exact(h.1 hb).2 r h1 (by omega) h3 h4⟩,fun hb=>h.2 ⟨hb.1,fun r h1 h2 h3 h4=>hb.2 r h1 (by omega) h3 h4⟩⟩
theorem qb.done {mk:Nat->Bool} {mn p q:Nat} {b:Bool} (h:qb mk mn p q b) (hp:1<=p) (hq:q=0\/q+mn<=p):b=kt mk mn p:=by
 rw[dk,JN]
 constructor
 ·intro hb;exact⟨hp,(h.1 hb).1,fun r h1 h2 h3=>(h.1 hb).2 r h1 (by omega) h2 h3⟩
 ·rintro⟨_,h1,h2⟩;exact h.2 ⟨h1,fun r k1 _ k3 k4=>h2 r k1 k3 k4⟩
theorem yB (S:Nat->Prop) (c:fN) (data:List UInt8) (v:Value) (w:World) (hc:jG c=true) (hs:c.seed<18446744073709551616) (hv:bH S w v data) (hl:data.length<=1048576):
  Calls Tryz.prog 177 #[kj c,v] w fun e w'=> ∃a cap,e= .returned (.slice a (ke (qg c data) c.mn.toNat (data.length+1)).length cap)/\w'.ownsRow w.heap.size 3 1 (.slice a (ke (qg c data) c.mn.toNat (data.length+1)).length cap) (ke (qg c data) c.mn.toNat (data.length+1)).length ((ke (qg c data) c.mn.toNat (data.length+1)).map rC)/\Below w.heap.size w w':=by
 obtain⟨hV,a,cap,rfl,hn,hm,-⟩:=id hv;unfold maxLen at hm;obtain⟨n,hu⟩: ∃n,n=data.length:=⟨_,rfl⟩;obtain⟨v1,v2,v3,v4,v5,v6,v7⟩:=kW.1 hc;obtain⟨mn,hO⟩: ∃mn:Nat,mn=c.mn.toNat:=⟨_,rfl⟩;have hS:=am (show c.mn=(mn:Int) by omega);have h0:mn<=32768:=by omega
 obtain⟨mk,hE⟩: ∃mk,mk=qg c data:=⟨_,rfl⟩;obtain⟨W,hW⟩: ∃W,W=w.alloc (.cells #[.int .i64 c.mn, .int .i64 c.mx, .int .i64 c.win, .int .i64 c.bits, .int .u64 (c.seed:Int)] 45):=⟨_,rfl⟩;have HB:=am (show Below w.heap.size w W by rw[hW]; exact eK);have HX:=am (show iO c w.heap.size W by rw[hW]; exact aF w _);have HV:=am (show bH S W (.slice a data.length cap) data by rw[hW]; exact cC.below hv (by omega) (eK))
 rw[<-hu]at hl hn HV;rw[<-hO,<-hE,<-hu];have HN:=am hu;have hR:=am hE;have HC:=am hc;have HS:=am hs;clear hv hV hu hO hE hc hs v1 v2 v4 v5 v6 v7;unfold kj
 go_enter Tryz.func177,Tryz.ntmps177
 go_upto_region 1 with fail
 rw[<-hW];clear hW;have hj:=HX.o;unfold iO at hj;obtain⟨c0,c1,c2,c3,c4,_⟩:=aU hj;clear hj;go_wp2_with fail;clear c0 c1 c2 c3 c4;refine(Bc S c data _ _ HC.o HS.o HV.o (by rw[<-HN.o]; exact hl)).mono ?_;rw[<-HN.o];rintro e w1 ⟨g,gc,rfl,hw,hC⟩;have hH:=am (show ∀q,q<=n->w1.cell? ⟨g,q,none⟩=some (.bool (mk q))from fun q hq=>by
  rw[hw.cellAt q (by omega),ph c data hq,hR.o,show decide (q<n+1)=true by rw[aL]; omega,gT])
 have hF:=am (ar HB.o hC);have hT:=am (HX.o.below hC);have hN:g<w1.heap.size:=(hw.lt g rfl).2;have h9:n+1<=gc:=by
  obtain⟨a0,c0,he,h1,h2⟩:=aH hw
  cases he
  exact h1
 have h8:=hF.o.size;clear hw hC;have hI:=am (show(w1.alloc (.cells #[] 3)).ownsRow w1.heap.size 3 1 (.slice (some ⟨w1.heap.size,0,none⟩) 0 0) 0 ((ke mk mn 1).map rC)from dg (e:=3) (size:=1) (base:=w1.heap.size) w1 #[] 0 (ak _) (aW _) (by simp));have hG:=am ((au w1.heap.size w1).alloc (ak _) (.cells #[] 3));go_wp2_with fail
 go_loopw [6,7] (fun o i wr=> ∃(p l:Nat) (ao:Option Addr) (co:Nat),1<=p/\p<=n+1/\i= .int .i64 (p:Int)/\o= .slice ao l co/\l=(ke mk mn p).length/\wr.ownsRow w1.heap.size 3 1 (.slice ao l co) l ((ke mk mn p).map rC)/\Below w1.heap.size w1 wr) (fun _ i _=>n+1-(intOf i).toNat)
 case atStart=>exact⟨1,0,_,_,ak _,by omega,rfl,rfl,rfl,hI.o,hG.o⟩
 case round=>
  obtain⟨p,l,ao,co,h3,Hc,rfl,rfl,hD,ho,hb⟩:=hrel;have hk:=am hD;have HO:=am ho;have hh:=am hb;have hX:=Do mk mn p;rw[<-hD]at hX;clear ho hb hD hI hG
  by_cases hY:p<=n
  ·obtain⟨W2,hU⟩: ∃y:World,y=wr:=⟨_,rfl⟩;subst hU;have Hb:(p:Int)<=(n:Int):=by omega
   have Ha:p<gc:=by omega
   have q0:=(hh.o.cell (p:=⟨g,p,none⟩) hN).trans (hH.o p hY);go_wp2_with fail;clear q0
   go_loopw [8,9] (fun y j wq=> ∃(q:Nat) (b:Bool),q+1<=p/\j= .int .i64 (q:Int)/\y= .bool b/\qb mk mn p q b/\W2=wq) (fun _ j _=>(intOf j).toNat)
   case atStart=>exact⟨p-1,mk p,by omega,by rw[show((p-1:Nat):Int)=(p:Int)-1 by omega],rfl,qb.start _ _ _,rfl⟩
   case round=>
    obtain⟨q,b,Hf,rfl,rfl,hM,rfl⟩:=hrel;have hz:=am hM;have hj:=hT.o.below hh.o;unfold iO at hj;have c0:=bL (k:=0) hj;simp only[ai,ah]at c0;rw[hS.o]at c0;clear hM hj
    by_cases hp:1<=q/\p<q+mn
    ·have hP:1<=(q:Int):=by omega
     have hQ:(p:Int)-(mn:Int)<(q:Int):=by omega
     have Hd:q<gc:=by omega
     have He:q<n+1:=by omega
     have h7:(q:Int)<(n:Int)+1:=by omega
     have q0:=(hh.o.cell (p:=⟨g,q,none⟩) hN).trans (hH.o q (by omega))
     cases hg:mk q with
     | true=>
      rw[hg]at q0;have hA:=am (hz.o.hit hp.1 (by omega) hp.2 hg);clear hg;go_wp2_with fail
      go_roundw
      case rel=>exact⟨q-1,false,by omega,by rw[show((q-1:Nat):Int)=(q:Int)-1 by omega],rfl,hA.o,trivial⟩
      case measure=>simp[intOf]; omega
     | false=>
      rw[hg]at q0;have hA:=am (hz.o.miss hg);clear hg;go_wp2_with fail
      go_roundw
      case rel=>exact⟨q-1,b,by omega,by rw[show((q-1:Nat):Int)=(q:Int)-1 by omega],rfl,hA.o,trivial⟩
      case measure=>simp[intOf]; omega
    ·have hJ:=am (hz.o.done h3 (by omega));have hL:=am (JO mk mn p);have hr:l<1099511627775:=by omega
     have hx:=hh.o.size;have HZ:=am (show ∀u∈[Value.int .i64 (p:Int)],u.oneCell'=true by simp[Value.oneCell'])
     cases b with
     | true=>
      have hf:=am (show ke mk mn (p+1)=ke mk mn p++[p] by rw[hL.o,if_pos hJ.o.symm])
      by_cases hP:(1:Int)<=(q:Int)
      ·have hQ: ¬(p:Int)-(mn:Int)<(q:Int):=by omega
       clear hp;go_wp2_with (at_builtin; go_loud (refine bO Tryz.appIntsM rfl _ _ rfl w1.heap.size (.slice ao l co) l ((ke mk mn p).map rC) rfl W2 [Value.int .i64 (p:Int)] _ rfl rfl HZ.o HO.o hr hx ?_); intro v' wc hd ha _ _; obtain⟨ae,ce,rfl,-,-⟩:=aH hd; have hB:=am (show wc.ownsRow w1.heap.size 3 1 (.slice ae (l+1) ce) (l+1) ((ke mk mn (p+1)).map rC) by rw[hf.o,aN]; exact hd); have hy:=am (bX hh.o HO.o ha (ak _) hx); clear hd ha)
       exact⟨⟨p+1,l+1,ae,ce,by omega,by omega,by go_num,rfl,by rw[hf.o,an,<-hk.o]; rfl,hB.o,hy.o⟩,by simp[intOf]; omega⟩
      ·clear hp;go_wp2_with (at_builtin; go_loud (refine bO Tryz.appIntsM rfl _ _ rfl w1.heap.size (.slice ao l co) l ((ke mk mn p).map rC) rfl W2 [Value.int .i64 (p:Int)] _ rfl rfl HZ.o HO.o hr hx ?_); intro v' wc hd ha _ _; obtain⟨ae,ce,rfl,-,-⟩:=aH hd; have hB:=am (show wc.ownsRow w1.heap.size 3 1 (.slice ae (l+1) ce) (l+1) ((ke mk mn (p+1)).map rC) by rw[hf.o,aN]; exact hd); have hy:=am (bX hh.o HO.o ha (ak _) hx); clear hd ha)
       exact⟨⟨p+1,l+1,ae,ce,by omega,by omega,by go_num,rfl,by rw[hf.o,an,<-hk.o]; rfl,hB.o,hy.o⟩,by simp[intOf]; omega⟩
     | false=>
      have hf:=am (show ke mk mn (p+1)=ke mk mn p by rw[hL.o,if_neg (by rw[<-hJ.o]; decide)])
      by_cases hP:(1:Int)<=(q:Int)
      ·have hQ: ¬(p:Int)-(mn:Int)<(q:Int):=by omega
       clear hp;go_wp2_with fail;exact⟨⟨p+1,l,ao,co,by omega,by omega,by go_num,rfl,by rw[hf.o,<-hk.o],by rw[hf.o]; exact HO.o,hh.o⟩,by simp[intOf]; omega⟩
      ·clear hp;go_wp2_with fail;exact⟨⟨p+1,l,ao,co,by omega,by omega,by go_num,rfl,by rw[hf.o,<-hk.o],by rw[hf.o]; exact HO.o,hh.o⟩,by simp[intOf]; omega⟩
  ·have h4:p=n+1:=by omega
   subst h4;have hZ: ¬((n:Int)+1<=(n:Int)):=by omega
   go_wp2_with fail;go_ret;exact⟨ao,co,by rw[<-hk.o]; rfl,by rw[<-hk.o]; exact iR HO.o h8,ar hF.o hh.o⟩
theorem ud {f:Nat->Bool} : ∀ {m k e:Nat},((List.range m).filter f)[k]? =some e->e<m/\f e=true/\((List.range m).filter f).take k=(List.range e).filter f
 | 0,k,e,h=>by simp at h
 | m+1,k,e,h=>by
  rw[lM,gD]at h ⊢
  by_cases hk:k<((List.range m).filter f).length
  ·rw[bK hk]at h;obtain⟨h1,h2,h3⟩:=ud h;exact⟨by omega,h2,by rw[fx (by omega)]; exact h3⟩
  ·rw[bG (by omega)]at h
   by_cases hm:f m=true
   ·have h4:[m].filter f=[m]:=by simp[hm]
    rw[h4]at h ⊢;have ha:k-((List.range m).filter f).length=0:=by
     have:=(aG.1 h).1;simp at this;omega
    rw[ha]at h;simp only[ah,aV]at h;subst h;exact⟨by omega,hm,by rw[List.take_left' (by omega)]⟩
   ·have h4:[m].filter f=[]:=by simp[hm]
    rw[h4]at h;simp at h
def nZ (mk:Nat->Bool) (mn n:Nat):List Nat:=ke mk mn (n+1)++[n]
def pg (E:List Nat) (k:Nat):Nat:=if k=0 then 0 else E.getD (k-1) 0
structure PC (mk : Nat → Bool) (mn n s e : Nat) : Prop where
 le:s<=e
 top:e<=n
 stop:kt mk mn e=true\/e=n
 none: ∀r,s<r->r<e->kt mk mn r=false
theorem Pg {mk:Nat->Bool} {mn n k e:Nat} (h:(nZ mk mn n)[k]? =some e):PC mk mn n (pg (nZ mk mn n) k) e:=by
 have ha: ∀j x,(ke mk mn (n+1))[j]? =some x->pg (nZ mk mn n) (j+1)=x:=fun j x hx=>by
  unfold pg nZ;rw[if_neg (by omega),jq,cH,bK (aG.1 hx).1,hx]
  rfl
 have hg: ∀k,k<=(ke mk mn (n+1)).length->(∀r∈(ke mk mn (n+1)).take k,r<=pg (nZ mk mn n) k)/\pg (nZ mk mn n) k<=n/\(k=0\/pg (nZ mk mn n) k∈(ke mk mn (n+1)).take k):=by
  intro k hk
  cases k with
  | zero=>exact⟨fun r hr=>by simp at hr,by show 0<=n; omega, .inl rfl⟩
  | succ j=>
   obtain⟨x,hx⟩: ∃x,(ke mk mn (n+1))[j]? =some x:=⟨_,bJ (by omega)⟩;rw[ha j x hx];obtain⟨h1,h2,h3⟩:=ud hx;have h4:(ke mk mn (n+1)).take (j+1)=(List.range x).filter (fun p=>kt mk mn p)++[x]:=by
    rw[ci,hx];unfold ke;rw[h3]; rfl
   rw[h4];refine⟨fun r hr=> ?_,by omega, .inr (by simp)⟩
   rcases aT.1 hr with hr | hr
   ·have:=dO.1 (fg.1 hr).1;omega
   ·rw[aM.1 hr]; exact ak _
 have hf:k<=(ke mk mn (n+1)).length:=by
  have:=(aG.1 h).1;unfold nZ at this;simp at this;omega
 obtain⟨a1,a2,a3⟩:=hg k hf
 by_cases hk:k<(ke mk mn (n+1)).length
 ·have hx:(ke mk mn (n+1))[k]? =some e:=by
   unfold nZ at h;rw[bK hk]at h;exact h
  obtain⟨h1,h2,h3⟩:=ud hx;have hb:(ke mk mn (n+1)).take k=(List.range e).filter (fun p=>kt mk mn p):=h3;refine⟨?_,by omega, .inl h2,fun r hh hc=> ?_⟩
  ·rcases a3 with a3 | a3
   ·rw[a3]; show 0<=e; omega
   ·rw[hb]at a3;have:=dO.1 (fg.1 a3).1;omega
  ·cases hp:kt mk mn r with
   | false=>rfl
   | true=>
    have:=a1 r (by rw[hb]; exact fg.2 ⟨dO.2 hc,hp⟩);omega
 ·have hd:k=(ke mk mn (n+1)).length:=by omega
  have he:e=n:=by
   unfold nZ at h;rw[bG (by omega),hd,eF]at h;simp only[ah,aV]at h;exact h.symm
  refine⟨by rw[he]; exact a2,by omega, .inr he,fun r hh hc=> ?_⟩
  cases hp:kt mk mn r with
  | false=>rfl
  | true=>
   have:=a1 r (by
    rw[bB (by omega)];unfold ke;exact fg.2 ⟨dO.2 (by omega),hp⟩)
   omega
theorem Cs (mk:Nat->Bool) (mn n:Nat):(nZ mk mn n).length=(ke mk mn (n+1)).length+1:=by unfold nZ; simp
theorem IV (mk:Nat->Bool) (mn n:Nat):pg (nZ mk mn n) (nZ mk mn n).length=n:=by
 unfold pg;rw[Cs,if_neg (by omega),jq,cH];unfold nZ;rw[bG (by omega),eF]
 rfl
theorem zG {E:List Nat} {k e:Nat} (h:E[k]? =some e):pg E (k+1)=e:=by
 unfold pg;rw[if_neg (by omega),jq,cH,h]; rfl
theorem zW {mk:Nat->Bool} {mn mx n s:Nat} {L:List Nat} (h:yf mk mn mx n L s):L.length<=s:=by
 induction h with
 | nil=>simp
 | snoc _ h2 ih=>rw[an,bT]; have:=h2.1; omega
structure Az (base g0 : Nat) (w3 wr : World) (o : Value) (L : List Nat) : Prop where
 own:wr.ownsRow base 3 1 o L.length (L.map rC)
 place: ∀k,o.ownBlock=some k->k=g0\/w3.heap.size<=k
 keep: ∀k,k<w3.heap.size->k≠g0->wr.heap[k]? =w3.heap[k]?
 below:Below base w3 wr
theorem Az.drew {base g0:Nat} {w3 wr:World} {o:Value} {L:List Nat} {nq:Nat} (h:Az base g0 w3 wr o L):Az base g0 w3 (wr.drewN nq) o L:=
 ⟨h.own,h.place,h.keep,h.below.trans ⟨rfl,rfl,rfl,ak _,fun _ _=>rfl⟩⟩
theorem Az.push {base g0:Nat} {w3 wr wc:World} {o o':Value} {L:List Nat} {x l:Nat} (h:Az base g0 w3 wr o L) (hl:l=L.length) (hb:base<=w3.heap.size) (h1:wc.ownsRow base 3 1 o' (l+1) (L.map rC++[rC x])) (h2:wr.grownBy wc o.ownBlock) (h3: ∀k,o'.ownBlock=some k->o.ownBlock=some k\/wr.heap.size<=k):Az base g0 w3 wc o' (L++[x]):=by
 subst hl;have hs:=h.below.size;refine⟨by rw[an,aN]; exact h1,fun k hk=> ?_,fun k hk ha=> ?_,bX h.below h.own h2 (ak _) (ay hb hs)⟩
 ·rcases h3 k hk with h4 | h4
  ·exact h.place k h4
  ·exact .inr (by omega)
 ·refine(h2.block k (by omega) (fun e=> ?_)).trans (h.keep k hk ha)
  rcases h.place k e.symm with h5 | h5
  ·exact ha h5
  ·omega
theorem Eu (S:Nat->Prop) (c:fN) (data:List UInt8) (v:Value) (w:World) (hc:jG c=true) (hs:c.seed<18446744073709551616) (hv:bH S w v data) (hl:data.length<=1048576):
  Calls Tryz.prog 157 #[kj c,v] w fun e w'=> ∃a cap,e= .returned (.slice a (qu (qg c data) c.mn.toNat c.mx.toNat data.length).length cap)/\w'.ownsRow w.heap.size 3 1 (.slice a (qu (qg c data) c.mn.toNat c.mx.toNat data.length).length cap) (qu (qg c data) c.mn.toNat c.mx.toNat data.length).length ((qu (qg c data) c.mn.toNat c.mx.toNat data.length).map rC)/\Below w.heap.size w w':=by
 obtain⟨HA,a,cap,rfl,hn,hm,-⟩:=id hv;unfold maxLen at hm;obtain⟨n,hA⟩: ∃n,n=data.length:=⟨_,rfl⟩;obtain⟨v1,v2,v3,v4,v5,v6,v7⟩:=kW.1 hc;obtain⟨mn,hP⟩: ∃mn:Nat,mn=c.mn.toNat:=⟨_,rfl⟩;obtain⟨mx,Hf⟩: ∃mx:Nat,mx=c.mx.toNat:=⟨_,rfl⟩;have Hs:=am (show c.mx=(mx:Int) by omega);have hQ:1<=mx/\mx<=32768:=by omega
 obtain⟨mk,hO⟩: ∃mk,mk=qg c data:=⟨_,rfl⟩;obtain⟨W,hW⟩: ∃W,W=w.alloc (.cells #[.int .i64 c.mn, .int .i64 c.mx, .int .i64 c.win, .int .i64 c.bits, .int .u64 (c.seed:Int)] 45):=⟨_,rfl⟩;have HB:=am (show Below w.heap.size w W by rw[hW]; exact eK);have HX:=am (show iO c w.heap.size W by rw[hW]; exact aF w _);have HV:=am (show bH S W (.slice a data.length cap) data by rw[hW]; exact cC.below hv (by omega) (eK))
 rw[<-hA]at hl hn HV;rw[<-hP,<-Hf,<-hO,<-hA];have HN:=am hA;have Hq:=am hO;have Hr:=am hP;have HC:=am hc;have HS:=am hs;obtain⟨W1,hg⟩: ∃W1,W1=W.alloc (.cells #[] 3):=⟨_,rfl⟩;obtain⟨g0,hx⟩: ∃g,g=W.heap.size:=⟨_,rfl⟩;have Ht:=am (show W1.ownsRow W.heap.size 3 1 (.slice (some ⟨g0,0,none⟩) 0 0) 0 (([]:List Nat).map rC) by rw[hg,hx]; exact dg (e:=3) (size:=1) (base:=W.heap.size) W #[] 0 (ak _) (aW _) (by simp))
 have hB:=am (show Below W.heap.size W W1 by rw[hg]; exact eK);have HM:W1.heap.size=W.heap.size+1:=by rw[hg]; simp
 clear hv HA hA hP hO hc hs v1 v2 v3 v4 v5 v6 v7 Hf;unfold kj
 go_enter Tryz.func157,Tryz.ntmps157
 go_upto_region 1 with fail
 rw[<-hW];clear hW
 go_upto_region 2 with fail
 rw[<-hg,<-hx];clear hg;have hZ:=am hx;have h7:=am (HX.o.below hB.o);have Hw:=am (show bH S W1 (.slice a n cap) data from cC.below HV.o (by omega) hB.o);have hT:=h7.o;unfold iO at hT;obtain⟨c0,c1,c2,c3,c4,_⟩:=aU hT;clear hT;go_wp2_with fail;clear c0 c1 c2 c3 c4;refine(yB S c data _ _ HC.o HS.o Hw.o (by rw[<-HN.o]; exact hl)).mono ?_;rw[<-HN.o,<-Hq.o,<-Hr.o]
 rintro e w2 ⟨a2,c2,rfl,hR,hG⟩;obtain⟨l2,hy⟩: ∃l,l=(ke mk mn (n+1)).length:=⟨_,rfl⟩;rw[<-hy]at hR ⊢;have Ho:=am hy;have hI:=Do mk mn (n+1);rw[<-hy]at hI;have h3:=am hR;have Hj:=am hG;have Hi:=hG.size;have hJ:l2<1099511627775:=by omega
 have HZ:=am (show ∀u∈[Value.int .i64 (n:Int)],u.oneCell'=true by simp[Value.oneCell']);clear hR hG hy hx;go_wp2_with (at_builtin; go_loud (refine bO Tryz.appIntsM rfl _ _ rfl W1.heap.size (.slice a2 l2 c2) l2 ((ke mk mn (n+1)).map rC) rfl w2 [Value.int .i64 (n:Int)] _ rfl rfl HZ.o h3.o hJ Hi ?_); intro v3 w3 ha Hc _ _; obtain⟨ge,c3,rfl⟩:=Joins.ownsRow_form ha (by omega); have hw:=am (show w3.ownsRow W1.heap.size 3 1 (.slice (some ⟨ge,0,none⟩) (l2+1) c3) (l2+1) ((nZ mk mn n).map rC) by unfold nZ; rw[aN]; exact ha); have hp:=am (bX Hj.o h3.o Hc (ak _) Hi); clear ha Hc)
 obtain⟨N,hN⟩: ∃N,N=(nZ mk mn n).length:=⟨_,rfl⟩;have h9:N=l2+1:=by rw[hN,Cs,Ho.o]
 have h0:=am hN;rw[<-h9]at hw ⊢;have Hz:W1.heap.size<=ge/\ge<w3.heap.size:=hw.o.lt ge rfl;have HI:N<=c3:=by
  obtain⟨a0,c0,he,h1,h2⟩:=aH hw.o
  cases he
  exact h1
 have hX:=am (show Az W.heap.size g0 w3 w3 (.slice (some ⟨g0,0,none⟩) 0 0) []from
  ⟨cR Ht.o hp.o,fun k hk=> .inl (by simp[Value.ownBlock]at hk; exact hk.symm),fun k _ _=>rfl,au _ _⟩)
 have Hn:=am (show ∀(i e:Nat),(nZ mk mn n)[i]? =some e->w3.cell? ⟨ge,i,none⟩=some (.int .i64 (e:Int))from fun i e h=>by
  have hi:=(aG.1 h).1;rw[hw.o.cellAt i (by omega),bn,h]; rfl)
 have h8:=am (h7.o.below hp.o);have hH:ge≠g0:=by have:=hZ.o; omega
 have hV:w.heap.size≠g0:=by have:=hZ.o; have:=aw (show W.heap[w.heap.size]? =_ from HX.o); omega
 have Hb:W.heap.size<=w3.heap.size:=by have:=hp.o.size; omega
 have HH:N<=1048578:=by omega
 have Hk:=am (show Below w.heap.size w w3 from ar HB.o (hB.o.trans (hp.o.mono (by omega))));clear hN h9
 go_loopw [5,6,8] (fun o f i wr=> ∃(k s l:Nat) (L:List Nat) (ao:Option Addr) (co:Nat),k<=N/\i= .int .i64 (k:Int)/\f= .int .i64 (s:Int)/\o= .slice ao l co/\l=L.length/\s=pg (nZ mk mn n) k/\yf mk mn mx n L s/\Az W.heap.size g0 w3 wr (.slice ao l co) L) (fun _ _ i _=>N-(intOf i).toNat)
 case atStart=>exact⟨0,0,0,[],_,_,aW _,rfl,rfl,rfl,rfl,rfl, .nil,hX.o⟩
 case round=>
  obtain⟨k,s,l,L,ao,co,hk,rfl,rfl,rfl,hj,Hh,hd,hh⟩:=hrel;have hD:=am hj;have hF:=am Hh;have h4:=am hd;have hC:=am hh;clear hj Hh hd hh hX
  by_cases HE:k<N
  ·obtain⟨e,he⟩: ∃e,(nZ mk mn n)[k]? =some e:=⟨_,bJ (show k<(nZ mk mn n).length by rw[<-h0.o]; exact HE)⟩;have hu:=am (Pg he);have Hp:=am (zG he);have Hm:=am (Hn.o k e he);have HF:s<=e:=by rw[hF.o]; exact hu.o.le
   have Hy:e<=n:=hu.o.top;clear he;go_wp2_with fail
   go_loopw [5,6] (fun o f wq=> ∃(s' l':Nat) (L':List Nat) (ao':Option Addr) (co':Nat),s<=s'/\s'<=e/\f= .int .i64 (s':Int)/\o= .slice ao' l' co'/\l'=L'.length/\yf mk mn mx n L' s'/\Az W.heap.size g0 w3 wq (.slice ao' l' co') L') (fun _ f _=>e-(intOf f).toNat)
   case atStart=>exact⟨s,l,L,ao,co,ak _,HF,rfl,rfl,hD.o,h4.o,hC.o⟩
   case round=>
    obtain⟨s',l',L',ao',co',HK,HL,rfl,rfl,hj,hd,hh⟩:=hrel;have hf:=am hj;have hE:=am hd;have hr:=am hh;have q0:wr.cell? ⟨ge,k,none⟩=some (.int .i64 (e:Int)):=by
     rw[<-Hm.o];unfold World.cell?;rw[hr.o.keep ge Hz.2 hH]
    have HJ:k<c3:=by omega
    have He:(k:Int)<(N:Int):=by omega
    clear hj hd hh
    by_cases hL:s'<e
    ·have hM:(s':Int)<(e:Int):=by omega
     have hU:iO c w.heap.size wr:=by
      unfold iO;rw[hr.o.keep w.heap.size (aw h8.o) hV];exact h8.o
     unfold iO at hU;have c1:=bL (k:=1) hU;simp only[ai,ah,aj]at c1;rw[Hs.o]at c1;clear hU;go_wp2_with fail
     go_quiet (fail)
     obtain⟨z,hz⟩: ∃z,z=min (s'+mx) e:=⟨_,rfl⟩;have Hg:min ((s':Int)+(mx:Int)) (e:Int)=(z:Int):=by omega
     rw[Hg];have Hv:=am (show AF mk mn mx n s' z by
      rw[hz];exact MT hQ.1 hL Hy hu.o.stop (fun r h1 h2=>hu.o.none r (by rw[<-hF.o]; omega) h2))
     have HO:s'<z/\z<=e:=by omega
     have hq:=am (hr.o.drew (nq:=nq));obtain⟨W5,Ha⟩: ∃y,y=wr.drewN nq:=⟨_,rfl⟩;rw[<-Ha]at hq ⊢;have Hu:=am (show W5.ownsRow W.heap.size 3 1 (.slice ao' l' co') l' (L'.map rC) by rw[hf.o]; have h1:=hq.o.own; rw[<-hf.o]at h1 ⊢; exact h1);have HG:W.heap.size<=W5.heap.size:=ay Hb hq.o.below.size;have HD:l'<1099511627775:=by
      have h1:=zW hE.o;have h2:=hf.o;omega
     have Hx:=am (show ∀u∈[Value.int .i64 (z:Int)],u.oneCell'=true by simp[Value.oneCell']);clear Ha q0 c1 hz Hg;go_wp2_with (at_builtin; go_loud (refine bO Tryz.appIntsM rfl _ _ rfl W.heap.size (.slice ao' l' co') l' (L'.map rC) rfl W5 [Value.int .i64 (z:Int)] _ rfl rfl Hx.o Hu.o HD HG ?_); intro v6 w6 hb Hd _ ho; obtain⟨a6,c6,rfl,-,-⟩:=aH hb; have Hl:=am (hq.o.push hf.o Hb hb Hd ho); clear hb Hd ho)
     go_roundw
     case rel=>exact⟨z,l'+1,L'++[z],a6,c6,by omega,by omega,rfl,rfl,by rw[an,<-hf.o]; rfl,hE.o.snoc Hv.o,Hl.o⟩
     case measure=>simp[intOf]; omega
    ·have hS:s'=e:=by omega
     subst hS;have hM: ¬(s':Int)<(s':Int):=by omega
     go_wp2_with fail;exact⟨⟨k+1,s',l',L',ao',co',by omega,by go_num,rfl,rfl,hf.o,by rw[Hp.o],hE.o,hr.o⟩,by simp[intOf]; omega⟩
  ·have He:k=N:=by omega
   subst He;have hY:=am (show L=qu mk mn mx n by
    have h1:s=n:=by rw[hF.o,h0.o,IV]
    have h2:=h4.o;rw[h1]at h2;exact h2.det nn)
   go_wp2_with fail;go_ret;exact⟨ao,co,by rw[<-hY.o,<-hD.o]; rfl,by rw[<-hY.o]; have h1:=hC.o.own; rw[<-hD.o]at h1 ⊢; exact iR h1 HB.o.size,Hk.o.trans (hC.o.below.mono HB.o.size)⟩
theorem CX {E:List Nat} {x k:Nat} (h:k<=E.length):pg (E++[x]) k=pg E k:=by
 unfold pg
 split
 ·rfl
 ·rw[cH,cH,bK (by omega)]
theorem zF (E:List Nat):pg E E.length=E.getLast?.getD 0:=by
 unfold pg
 cases E with
 | nil=>rfl
 | cons x E=>rw[if_neg (by simp),cH,List.getLast?_eq_getElem?]
theorem Jr {E:List Nat} {k:Nat} (h:k<=E.length):(E.take k).getLast?.getD 0=pg E k:=by
 have h1:=zF (E.take k);rw[bm,fh h]at h1;rw[<-h1];unfold pg
 split
 ·rfl
 ·rw[cH,cH,el,if_pos (by omega)]
theorem Mw {mk:Nat->Bool} {mn mx n s:Nat} {E:List Nat} (h:yf mk mn mx n E s): ∀(i e:Nat),E[i]? =some e->pg E i<e/\e<=n:=by
 induction h with
 | nil=>intro i e h; simp at h
 | snoc h1 h2 ih=>
  rename_i l s q;intro i e h
  by_cases hi:i<l.length
  ·rw[bK hi]at h;rw[CX (by omega)];exact ih i e h
  ·have hb:=(aG.1 h).1;rw[an,bT]at hb;have ha:i=l.length:=by omega
   subst ha;rw[bG (ak _),eF]at h;simp only[ah,aV]at h;subst h;rw[CX (ak _),zF];have h3:=h1.last;unfold lR at h3;rw[h3];exact⟨h2.1,h2.2.1⟩
structure KV (base g0 : Nat) (w2 wr : World) (o : Value) (ys : List (Value × List UInt8)) : Prop where
 own:wr.ownsRow base 29 1 o ys.length (ys.map Prod.fst)
 dat: ∀y∈ys,wr.ownsRow base 5 1 y.1 y.2.length (y.2.map aY)
 place: ∀k,o.ownBlock=some k->k=g0\/w2.heap.size<=k
 keep: ∀k,k<w2.heap.size->k≠g0->wr.heap[k]? =w2.heap[k]?
 below:Below base w2 wr
theorem KV.push {base g0:Nat} {w2 wr wb wd:World} {o o' pv:Value} {ys:List (Value×List UInt8)} {x:List UInt8} {l:Nat} (h:KV base g0 w2 wr o ys) (hl:l=ys.length) (hb:base<=w2.heap.size) (hwb:Below wr.heap.size wr wb) (hp:wb.ownsRow wr.heap.size 5 1 pv x.length (x.map aY))
  (h1:wd.ownsRow base 29 1 o' (l+1) (ys.map Prod.fst++[pv])) (h2:wb.grownBy wd o.ownBlock) (h3: ∀k,o'.ownBlock=some k->o.ownBlock=some k\/wb.heap.size<=k):KV base g0 w2 wd o' (ys++[(pv,x)]):=by
 subst hl;have hs:=h.below.size;have hd:=hwb.size;have ha:wb.ownsRow base 29 1 o ys.length (ys.map Prod.fst):=cR h.own hwb;refine⟨by rw[an,aN]; exact h1,fun y hy=> ?_,fun k hk=> ?_,fun k hk hc=> ?_, ?_⟩
 ·rcases aT.1 hy with hy | hy
  ·exact gN (cR (h.dat y hy) hwb) ha h2 (by decide)
  ·rw[aM]at hy;subst hy;exact gN (iR hp (by omega)) ha h2 (by decide)
 ·rcases h3 k hk with h4 | h4
  ·exact h.place k h4
  ·exact .inr (by omega)
 ·refine((h2.block k (by omega) (fun e=> ?_)).trans (hwb.block k (by omega))).trans (h.keep k hk hc)
  rcases h.place k e.symm with h5 | h5
  ·exact hc h5
  ·omega
 ·exact bX (h.below.trans (hwb.mono (by omega))) ha h2 (ak _) (by omega)
theorem DK (S:Nat->Prop) (c:fN) (data:List UInt8) (v:Value) (w:World) (hc:jG c=true) (hs:c.seed<18446744073709551616) (hv:bH S w v data) (hl:data.length<=1048576):
  Calls Tryz.prog 125 #[kj c,v] w fun e w'=> ∃(a:Option Addr) (cap:Nat) (ys:List (Value×List UInt8)),e= .returned (.slice a ys.length cap)/\ys.map Prod.snd=fZ c data/\w'.ownsRow w.heap.size 29 1 (.slice a ys.length cap) ys.length (ys.map Prod.fst)/\(∀y∈ys,w'.ownsRow w.heap.size 5 1 y.1 y.2.length (y.2.map aY))/\Below w.heap.size w w':=by
 obtain⟨HA,a,cap,rfl,hn,hm,-⟩:=id hv;unfold maxLen at hm;obtain⟨n,hA⟩: ∃n,n=data.length:=⟨_,rfl⟩;obtain⟨E,hE⟩: ∃E,E=qu (qg c data) c.mn.toNat c.mx.toNat data.length:=⟨_,rfl⟩;have Hc:=am (show fZ c data=jA data 0 E by rw[hE]; rfl);have hS:=am (show yf (qg c data) c.mn.toNat c.mx.toNat data.length E data.length by rw[hE]; exact nn);obtain⟨W,hW⟩: ∃W,W=w.alloc (.cells #[.int .i64 c.mn, .int .i64 c.mx, .int .i64 c.win, .int .i64 c.bits, .int .u64 (c.seed:Int)] 45):=⟨_,rfl⟩
 have HB:=am (show Below w.heap.size w W by rw[hW]; exact eK);have HX:=am (show iO c w.heap.size W by rw[hW]; exact aF w _);have hD:=am (show bH S w (.slice a data.length cap) data from hv);rw[<-hA]at hl hn hD;rw[<-hA];have HN:=am hA;have Hg:=am hE;have HC:=am hc;have HS:=am hs;obtain⟨W1,ho⟩: ∃W1,W1=W.alloc (.cells #[] 29):=⟨_,rfl⟩
 obtain⟨g0,hw⟩: ∃g,g=W.heap.size:=⟨_,rfl⟩;have Hm:=am (show W1.ownsRow w.heap.size 29 1 (.slice (some ⟨g0,0,none⟩) 0 0) 0 (([]:List (Value×List UInt8)).map Prod.fst) by rw[ho,hw]; exact iR (dg (e:=29) (size:=1) (base:=W.heap.size) W #[] 0 (ak _) (aW _) (by simp)) HB.o.size);have hM:=am (show Below W.heap.size W W1 by rw[ho]; exact eK)
 have HK:W1.heap.size=W.heap.size+1:=by rw[ho]; simp
 clear hv HA hA hE hc hs;unfold kj
 go_enter Tryz.func125,Tryz.ntmps125
 go_upto_region 1 with fail
 rw[<-hW];clear hW
 go_upto_region 2 with fail
 rw[<-ho,<-hw];clear ho;have Hi:=am hw;have Hv:=am (HX.o.below hM.o);have hh:=am (ar HB.o hM.o);have Hu:=am (show bH S W1 (.slice a n cap) data from cC.below hD.o (by omega) hh.o);have hL:=Hv.o;unfold iO at hL;obtain⟨c0,c1,c2,c3,c4,_⟩:=aU hL;clear hL;go_wp2_with fail;clear c0 c1 c2 c3 c4;refine(Eu S c data _ _ HC.o HS.o Hu.o (by rw[<-HN.o]; exact hl)).mono ?_
 rw[<-Hg.o];rintro e w2 ⟨a2,c2,rfl,hg,hF⟩;obtain⟨N,hN⟩: ∃l,l=E.length:=⟨_,rfl⟩;rw[<-hN]at hg ⊢;have hC:=am hN;have HG:N<=n:=by rw[hN,HN.o]; exact zW hS.o
 have HH:N<=c2:=by
  obtain⟨a0,c0,he,h1,h2⟩:=aH hg
  cases he
  exact h1
 have Hf:=am (show ∀(i e:Nat),E[i]? =some e-> ∃g,a2=some ⟨g,0,none⟩/\g<w2.heap.size/\g≠g0/\w2.cell? ⟨g,i,none⟩=some (.int .i64 (e:Int))from fun i e h=>by
  have hi:=(aG.1 h).1;obtain⟨g,c',he⟩:=Joins.ownsRow_form hg (by omega)
  cases he
  have h1:=hg.lt g rfl;refine⟨g,rfl,h1.2,by have:=Hi.o; omega, ?_⟩;rw[hg.cellAt i (by omega),bn,h]; rfl)
 have hP:=am (show KV w.heap.size g0 w2 w2 (.slice (some ⟨g0,0,none⟩) 0 0) []from
  ⟨cR Hm.o hF,(fun y hy=>by cases hy),fun k hk=> .inl (by simp[Value.ownBlock]at hk; exact hk.symm),fun k _ _=>rfl,au _ _⟩)
 have hB:=am (show Below w.heap.size w w2 from ar hh.o hF);have hV:w.heap.size<=w2.heap.size:=hB.o.size;clear hg hF hN hw;go_wp2_with fail
 go_loopw [5,6,8] (fun o f i wr=> ∃(k s l:Nat) (ys:List (Value×List UInt8)) (ao:Option Addr) (co:Nat),k<=N/\i= .int .i64 (k:Int)/\f= .int .i64 (s:Int)/\o= .slice ao l co/\l=ys.length/\l=k/\s=pg E k/\ys.map Prod.snd=jA data 0 (E.take k)/\KV w.heap.size g0 w2 wr (.slice ao l co) ys) (fun _ _ i _=>N-(intOf i).toNat)
 case atStart=>exact⟨0,0,0,[],_,_,aW _,rfl,rfl,rfl,rfl,rfl,rfl,rfl,hP.o⟩
 case round=>
  obtain⟨k,s,l,ys,ao,co,hk,rfl,rfl,rfl,h7,h4,h9,Ha,hX⟩:=hrel;have hj:=am h7;have Hj:=am h4;have hG:l<1099511627775:=by omega
  have hT:=am h9;have hU:=am Ha;have hf:=am hX;clear h7 h4 h9 Ha hX hP
  by_cases HD:k<N
  ·obtain⟨e,he⟩: ∃e,E[k]? =some e:=⟨_,bJ (show k<E.length by rw[<-hC.o]; exact HD)⟩;obtain⟨g,rfl,h0,hp,hb⟩:=Hf.o k e he;obtain⟨h8,Hy⟩:=Mw hS.o k e he;rw[<-hT.o]at h8;have Hk:=am (zG he);have Ht:=am (show E.take (k+1)=E.take k++[e]from dL he);have Hz:k<=E.length:=by have:=hC.o; omega
   have Hl:=am (Jr Hz);have q0:wr.cell? ⟨g,k,none⟩=some (.int .i64 (e:Int)):=by
    rw[<-hb];unfold World.cell?;rw[hf.o.keep g h0 hp]
   have Hd:=am (show bH S wr (.slice a n cap) data from cC.below hD.o (by omega) (hB.o.trans hf.o.below));obtain⟨sa,sc,hJ,hI⟩:=rq Hd.o h8 Hy;obtain⟨x,hx⟩: ∃x,x=iQ data s e:=⟨_,rfl⟩;obtain⟨m,hz⟩: ∃m,m=x.length:=⟨_,rfl⟩;rw[<-hx,<-hz]at hJ hI;have Hw:=am hx;have hQ:=am hz;have HJ:m<=n:=by rw[hz,hx]; unfold iQ; rw[bm,bw,<-HN.o]; omega
   have Hs:=am hI;have He:=am hb;clear he hb hx hz hI;have HI:k<c2:=by omega
   have h3:(k:Int)<(N:Int):=by omega
   have hr:=am (show Below wr.heap.size wr (wr.alloc (.cells #[] 5))from eK);have hR:=am (show(wr.alloc (.cells #[] 5)).ownsRow wr.heap.size 5 1 (.slice (some ⟨wr.heap.size,0,none⟩) 0 0) 0 []from dg (e:=5) (size:=1) (base:=wr.heap.size) wr #[] 0 (ak _) (aW _) (by simp));have Hp:=am (show cC S (wr.alloc (.cells #[] 5)) 1 (.slice sa m sc) m (x.map aY) by have h1:=Hs.o; unfold bH at h1; rw[<-hQ.o]at h1; exact cC.below h1 (by omega) hr.o)
   have Hb:wr.heap.size<=(wr.alloc (.cells #[] 5)).heap.size:=hr.o.size;have hH:0+m<1099511627775:=by omega
   have q4:(wr.alloc (.cells #[] 5)).cell? ⟨g,k,none⟩=some (.int .i64 (e:Int)):=(hr.o.cell (p:=⟨g,k,none⟩) (cF q0)).trans q0;have Ho:=am (show wr.ownsRow w.heap.size 29 1 (.slice ao l co) l (ys.map Prod.fst) by have h1:=hf.o.own; rw[<-hj.o]at h1; exact h1);have HF:w.heap.size<=wr.heap.size:=ay hV hf.o.below.size;go_wp2_with (at_builtin; first
    | (refine eh Tryz.appBytes rfl _ _ rfl wr.heap.size (.slice (some ⟨wr.heap.size,0,none⟩) 0 0) 0 [] rfl hR.o (.slice sa m sc) m (x.map aY) rfl Hp.o (fj x) hH Hb ?_; intro v5 w5 ha hY; rw[bS,aJ]at ha; obtain⟨a5,c5,rfl,-,-⟩:=aH ha; have Hq:=am ha; have hu:=am (bX hr.o hR.o hY (ak _) Hb); have Hn:=am (cR Ho.o hu.o); have HE:w.heap.size<=w5.heap.size:=ay HF hu.o.size; have q5:w5.cell? ⟨g,k,none⟩=some (.int .i64 (e:Int)):=(hu.o.cell (p:=⟨g,k,none⟩) (cF q0)).trans q0; have Hx:=am (show ∀u∈[Value.slice a5 m c5],u.oneCell'=true by simp[Value.oneCell']); clear ha hY)
    | (go_loud (refine bO Tryz.appChunks rfl _ _ rfl w.heap.size (.slice ao l co) l (ys.map Prod.fst) rfl w5 [Value.slice a5 m c5] _ rfl rfl Hx.o Hn.o hG HE ?_); intro v6 w6 hd hZ _ hq; obtain⟨a6,c6,rfl,-,-⟩:=aH hd; have hO:=am (hf.o.push (pv:= .slice a5 m c5) (x:=x) hj.o hV hu.o (by rw[<-hQ.o]; exact Hq.o) hd hZ hq); have q6:w6.cell? ⟨g,k,none⟩=some (.int .i64 (e:Int)):=(by rw[<-He.o]; unfold World.cell?; rw[hO.o.keep g h0 hp]); clear hd hZ hq))
   have Hr:=am (show(ys++[((Value.slice a5 m c5:Value),x)]).map Prod.snd=jA data 0 (E.take (k+1)) by
    rw[Ht.o,lG,Hl.o,<-hT.o,<-Hw.o,<-hU.o,aN]; rfl)
   exact⟨⟨k+1,e,l+1,ys++[(.slice a5 m c5,x)],a6,c6,by omega,by go_num,rfl,rfl,by rw[an,<-hj.o]; rfl,by rw[Hj.o],by rw[Hk.o],Hr.o,hO.o⟩,by simp[intOf]; omega⟩
  ·have h3:k=N:=by omega
   subst h3;have Hh:=am (show ys.map Prod.snd=fZ c data by rw[hU.o,hC.o,dj,Hc.o]);go_wp2_with fail;go_ret;exact⟨ao,co,ys,by rw[<-hj.o]; rfl,Hh.o,(by have h1:=hf.o.own; rw[hj.o]at h1; exact h1),hf.o.dat,hB.o.trans hf.o.below⟩
open Go Go.RowKit Go.Maps
theorem Lx {G:Prop} (T:Prop) (rest:HdS T->G) (tl:T):G:=rest (am tl)
theorem eI.keep {S:Nat->Prop} {w w':World} {v:Value} {l:List dl} (h:eI S w v l) (hs: ∀i,S i->w'.heap[i]? =w.heap[i]?):eI S w' v l:=
 cP.same h hs (fun _ _ _ ⟨v,h1,h2,h3⟩=>⟨v,h1,cC.same h2 hs,h3⟩)
structure RdX (base bb : Nat) (k : dh) (c : fN) (gs : List (ByteArray × Int)) (tree : List dl) : Prop where
 keys:jx k=true
 cut:jG c=true
 seed:c.seed<18446744073709551616
 gens:km gs
 bbb:base<=bb
 tok:BA tree
 small:ny tree
def OP (base bb:Nat) (k:dh) (c:fN) (tv gv v:Value) (gs:List (ByteArray×Int)) (lg:Bool) (p:List UInt8×List (List UInt8)) (s:List cZ×Bool) (w:World) (e:Ending) (w':World):Prop:=
 e= .returned (ef (bA k gs p.1))/\ ∃v',jQ w' base bb k c tv gv v' lg (gH k gs p.2 s)/\jz base bb v v' w w'
def RdC (base bb:Nat) (k:dh) (c:fN) (gs:List (ByteArray×Int)) (tree:List dl) (tv gv:Value) (lg:Bool) (f:Nat):Prop:= ∀(d:ByteArray) (v:Value) (s:List cZ×Bool) (w:World),
 (bl d).length<=512->512<f+(bl d).length->jQ w base bb k c tv gv v lg s->kK (· <base) w gv gs->eI (· <base) w tv tree->s.1.length+(dS k gs c tree f d).2.length<=1000000->
 Calls Tryz.prog 76 #[.pointer (some ⟨bb,0,none⟩), .string d] w (OP base bb k c tv gv v gs lg (dS k gs c tree f d) s w)
def qk (w:World) (base:Nat) (pv:Value) (ys:List (Value×List UInt8)):Prop:=w.ownsRow base 29 1 pv ys.length (ys.map Prod.fst)/\ ∀y∈ys,w.ownsRow base 5 1 y.1 y.2.length (y.2.map aY)
section
variable {w w' wc : World} {base bb M n sz xb q : Nat} {pv rv u v v' tv gv : Value} {ys : List (Value × List UInt8)} {k : dh} {c : fN} {lg : Bool} {s : List cZ × Bool} {xs : List Value} {cs : Array Value}
theorem qk.below (h:qk w base pv ys) (hb:Below w.heap.size w w'):qk w' base pv ys:=⟨cR h.1 hb,fun y hy=>cR (h.2 y hy) hb⟩
theorem qk.kp (h:qk w base pv ys) (hr:jQ w base bb k c tv gv v lg s) (hk:jz base bb v v' w w'):qk w' base pv ys:=⟨jz.row hr hk h.1 (by decide) (by decide),fun y hy=>jz.row hr hk (h.2 y hy) (by decide) (by decide)⟩
theorem qk.push (h:qk w base pv ys) (hrow:w.ownsRow M 26 sz rv n xs) (hg:w.grownBy wc rv.ownBlock) (hx:wc.heap[xb]? =some (.cells cs 28 (0,0))):qk (wc.setCell ⟨xb,q,none⟩ u) base pv ys:=by
 have key: ∀ {t:TypeId} {n' z:Nat} {v':Value} {xs':List Value},w.ownsRow base t z v' n' xs'->t≠26->t≠28->(wc.setCell ⟨xb,q,none⟩ u).ownsRow base t z v' n' xs':=fun hr h1 h2=>by
  have h3:=gN hr hrow hg h1;refine eP h3 (fun i hi hu=>aC _ _ _ _ (fun e=> ?_));obtain⟨cs2,ha⟩:=bI h3 hu;exact h2 (bU (e▸ha) hx)
 exact⟨key h.1 (by decide) (by decide),fun y hy=>key (h.2 y hy) (by decide) (by decide)⟩
theorem qk.grown (h:qk w base pv ys) (hrow:w.ownsRow M 26 sz rv n xs) (hg:w.grownBy wc rv.ownBlock):qk wc base pv ys:=
 ⟨gN h.1 hrow hg (by decide),fun y hy=>gN (h.2 y hy) hrow hg (by decide)⟩
theorem qk.at' {b o n cap m:Nat} {y:Value×List UInt8} (h:qk w base (.slice (some ⟨b,o,none⟩) n cap) ys) (hy:ys[m]? =some y):w.cell? ⟨b,o+m,none⟩=some y.1:=by
 obtain⟨_,a,cap,e,_,_,h0⟩:=cL h.1;have ha:=(aG.1 hy).1
 rcases h0 with h0 | ⟨b',o',rfl,_,hc⟩
 ·omega
 ·cases e
  exact hc m y.1 (by rw[bn,hy]; rfl)
theorem yN.grown {it:cg} {v3 iv:Value} {rs:List cy} {its:List cg} (h:yN w base bb k c tv gv v lg M xb w' v3 iv s its rv it rs) (hg:w'.grownBy wc rv.ownBlock):wc.heap[xb]? =some (.cells (eW rv it).toArray 28 (0,0)):=
 (hg.block xb (aw h.box) (fun e=>by
  obtain⟨cs2,hc2⟩:=bI h.row e.symm;exact absurd (bU h.box hc2) (by decide))).trans h.box
theorem qk.cell (h:qk w base pv ys) {m:Nat} {y:Value×List UInt8} (hy:ys[m]? =some y): ∃b o cap,pv= .slice (some ⟨b,o,none⟩) ys.length cap/\w.cell? ⟨b,o+m,none⟩=some y.1:=by
 obtain⟨_,a,cap,e,_,_,h0⟩:=cL h.1;have ha:=(aG.1 hy).1
 rcases h0 with h0 | ⟨b,o,rfl,_,hc⟩
 ·omega
 ·exact⟨b,o,cap,e,hc m y.1 (by rw[bn,hy]; rfl)⟩
end
theorem JQ {base bb:Nat} {k:dh} {c:fN} {gs:List (ByteArray×Int)} {tree:List dl} {tv gv:Value} {lg:Bool} (f:Nat) (hX:RdX base bb k c gs tree) (IH:RdC base bb k c gs tree tv gv lg f):RdC base bb k c gs tree tv gv lg (f+1):=by
 intro d v s w hd hf h hg ht h9;have Zv:=aw h.box;have hD:base<=w.heap.size:=by have:=hX.bbb; omega
 obtain⟨ta,tc,rfl,Zp,Zq,-⟩:=cP.shape ht nx.len;unfold maxLen at Zq;obtain⟨n,hn⟩: ∃n,n=tree.length:=⟨_,rfl⟩;rw[<-hn]at ht Zp h IH ⊢;have HN:=am hn;have Zn:n<=12:=by rw[hn]; exact hX.small.len
 have HX:=am hX;have z6:=am IH;have HG:=am hg;have HT:=am ht;have YP:=am h9;have HD:=am hd;have HF:=am hf;obtain⟨W0,HB⟩: ∃W0,W0=(w.alloc (.cells #[.string ⟨#[]⟩, .int .i64 0, .int .i64 0] 26)).alloc (.cells #[] 28):=⟨_,rfl⟩;have Ys:Below w.heap.size w W0:=by rw[HB]; exact(eK).alloc (by simp) _
 have YC:(w.alloc (.cells #[.string ⟨#[]⟩, .int .i64 0, .int .i64 0] 26)).heap.size=w.heap.size+1:=by simp
 have Hq:=am (show KU w base bb k c (.slice ta n tc) gv v lg W0 v (.slice (some ⟨w.heap.size+1,0,none⟩) 0 0) s []from⟨h.below Ys,jz.ofBelow Ys hD,⟨[],rfl,by
  have h1:=dg (e:=28) (size:=10) (base:=w.heap.size) (w.alloc (.cells #[.string ⟨#[]⟩, .int .i64 0, .int .i64 0] 26)) #[] 0 (by rw[YC]; omega) (aW _) (by simp);rw[YC,<-HB]at h1;exact h1,by simp⟩,by rw[HB]; exact lW (dZ w _) _⟩)
 clear hX IH hg ht h9 hd hf h Ys YC hn
 go_enter Tryz.func76,Tryz.ntmps76
 go_upto_region 2 with(fail)
 rw[<-HB];clear HB;go_wp2_with fail
 go_loopw [5,6] (fun iv i wr=> ∃(j:Nat) (v2:Value),j<=n/\i= .int .i64 (j:Int)/\KU w base bb k c (.slice ta n tc) gv v lg wr v2 iv (gH k gs ((dF (tree.take j) d).flatMap (ik k gs c tree f)) s) ((dF (tree.take j) d).map fun e=>cS k gs c d e (bA k gs (dS k gs c tree f e.path).1))) (fun _ i _=>n-(intOf i).toNat)
 case atStart=>exact⟨0,v,aW _,rfl,Hq.o⟩
 case round=>
  obtain⟨j,v2,hj,rfl,hQ⟩:=hrel;obtain⟨s2,YB⟩: ∃s2,s2=gH k gs ((dF (tree.take j) d).flatMap (ik k gs c tree f)) s:=⟨_,rfl⟩;obtain⟨its,hw⟩: ∃its,its=(dF (tree.take j) d).map fun e=>cS k gs c d e (bA k gs (dS k gs c tree f e.path).1):=⟨_,rfl⟩
  rw[<-YB,<-hw]at hQ;have H5:=am YB;have Yg:=am hw;have hT:=am hQ;have Hj:its.length<=12:=by rw[hw,aB]; exact ay (dH _ _) (by rw[bm,<-HN.o]; omega)
  clear hQ Hq YB hw;have hh:=hT.o.bd.box;have k5:=az (k:=5) hh;have k6:=az (k:=6) hh;have k7:=az (k:=7) hh;have k8:=az (k:=8) hh;have k9:=az (k:=9) hh;have k10:=az (k:=10) hh;simp only[tA,eC,fU,aK,aJ,ai,aj,ah]at k5 k6 k7 k8 k9 k10
  clear hh
  by_cases Zl:j<n
  ·obtain⟨e,he⟩: ∃e,tree[j]? =some e:=⟨tree[j]'(by rw[<-HN.o]; exact Zl),by simp⟩;have HE:=am he;have Ze:=am (HT.o.keep (w':=wr) (fun i hi=>hT.o.kp.below.block i hi));obtain⟨tb,ot,dv,rfl,-,-,Hh,yb,-,p0,p1,p2,p3,p4,p5⟩:=ki Ze.o he;obtain⟨da,dc,Zh,Zg,Zf⟩:=eH.slice Hh
   subst Zh;have Yz:e∈tree:=aQ he;have z5:=am Yz;have H6:=am (HX.o.tok.val e Yz);have Zt:=am yb;have z4:=am Hh
   have YM:=am (wW (d:=d) he);have Zo:e.path.size<=512:=(mf H6.o).1;have H0:=am (ay hD hT.o.kp.below.size);obtain⟨dn,Hi⟩: ∃l,l=e.data.length:=⟨_,rfl⟩;rw[<-Hi]at p4 Zg;unfold maxLen at Zf;have YH:=am Hi;clear Hh yb he Yz Hi
   go_upto_region 6 with(fail)
   obtain⟨W1,H7⟩: ∃W1:World,W1=wr.alloc (.cells #[.string e.path, .int .i64 e.kind, .int .i64 e.mode, .int .i64 e.time, .slice da dn dc, .string e.link] 79):=⟨_,rfl⟩;rw[<-H7];have YZ:Below wr.heap.size wr W1:=by rw[H7]; exact eK
   have Yn:=am (show W1.heap[wr.heap.size]? =some (.cells #[.string e.path, .int .i64 e.kind, .int .i64 e.mode, .int .i64 e.time, .slice da dn dc, .string e.link] 79 (0,0)) by rw[H7]; exact dZ wr _);have y6:=am YZ;clear H7 YZ p0 p1 p2 p3 p4 p5 k5 k6 k7 k8 k9 k10;obtain⟨d0,d1,d2,d3,d4,d5,_⟩:=aU Yn.o
   by_cases hQ:cr (bl e.path)=bl d
   ·have H2:=am hQ;have HQ:=am (show d=⟨(cr (bl e.path)).toArray⟩from GS hQ.symm);clear hQ;go_wp2_with (go_at_call 92; refine(oB e.path d _ (by omega) HQ.o).mono ?_; rintro e7 w7 ⟨rfl,hP⟩; have HZ:=am (ar y6.o hP); have YT:=am (dX hP Yn.o); clear hP);clear d0 d1 d2 d3 d4 d5;obtain⟨W2,Yp⟩: ∃W,W=w7.drew:=⟨_,rfl⟩;have Yt:Below w7.heap.size w7 W2:=by rw[Yp]; exact(au _ _).drew
    have y7:=am (ar HZ.o Yt);have hv:=am (dX Yt YT.o);obtain⟨nm,YA⟩: ∃nm:ByteArray,nm=⟨(mC (bl d) (bl e.path)).toArray⟩:=⟨_,rfl⟩;have YN:=am (show xc (bl e.path)=nm by rw[YA]; exact Ma H6.o H2.o);have H1:=am YA;refine ey (fun w'=>w'.heap[wr.heap.size]? =some (.cells #[.string e.path, .int .i64 e.kind, .int .i64 e.mode, .int .i64 e.time, .slice da dn dc, .string e.link] 79 (0,0))) (by kernel_rfl) (by kernel_rfl) ?_
    simp only[br,bt,aD,bo,Nat.reduceAdd,Nat.reduceSub];rw[<-Yp];clear Yp Yt YT HZ Yn y6 YA
    iterate 2 (refine cA rfl (by kernel_rfl) (fun _ _ _ h=>h) rfl hv.o (by rintro w' hx; have d0:=bL (k:=0) hx; have d1:=bL (k:=1) hx; have d2:=bL (k:=2) hx; have d3:=bL (k:=3) hx; have d4:=bL (k:=4) hx; have d5:=bL (k:=5) hx; simp only[ai,aj,ah]at d0 d1 d2 d3 d4 d5; clear hx; go_simp; rfl) ?_; simp only[Act.put,aa,ag,ab])
    refine bN 3 rfl (by kernel_rfl) (by kernel_rfl) (by kernel_rfl) (fun _ _ _ h=>h) rfl hv.o (by rintro w' hx; have d0:=bL (k:=0) hx; have d1:=bL (k:=1) hx; have d2:=bL (k:=2) hx; have d3:=bL (k:=3) hx; have d4:=bL (k:=4) hx; have d5:=bL (k:=5) hx; simp only[ai,aj,ah]at d0 d1 d2 d3 d4 d5; clear hx; go_simp; rfl) ?_
    simp only[Act.put,aa,ag,ab];refine bN 4 rfl (by kernel_rfl) (by kernel_rfl) (by kernel_rfl) (fun _ _ _ h=>h) rfl hv.o (by rintro w' hx; have d0:=bL (k:=0) hx; have d1:=bL (k:=1) hx; have d2:=bL (k:=2) hx; have d3:=bL (k:=3) hx; have d4:=bL (k:=4) hx; have d5:=bL (k:=5) hx; simp only[ai,aj,ah]at d0 d1 d2 d3 d4 d5; clear hx; go_simp; rfl) ?_
    simp only[Act.put,aa,ag,ab];refine bN 5 rfl (by kernel_rfl) (by kernel_rfl) (by kernel_rfl) (fun _ _ _ h=>h) rfl hv.o (by rintro w' hx; have d0:=bL (k:=0) hx; have d1:=bL (k:=1) hx; have d2:=bL (k:=2) hx; have d3:=bL (k:=3) hx; have d4:=bL (k:=4) hx; have d5:=bL (k:=5) hx; simp only[ai,aj,ah]at d0 d1 d2 d3 d4 d5; clear hx; go_simp; rfl) ?_
    simp only[Act.put,aa,ag,ab];refine bN 6 rfl (by kernel_rfl) (by kernel_rfl) (by kernel_rfl) (fun _ _ _ h=>h) rfl hv.o (by rintro w' hx; have d0:=bL (k:=0) hx; have d1:=bL (k:=1) hx; have d2:=bL (k:=2) hx; have d3:=bL (k:=3) hx; have d4:=bL (k:=4) hx; have d5:=bL (k:=5) hx; simp only[ai,aj,ah]at d0 d1 d2 d3 d4 d5; clear hx; go_simp; rfl) ?_
    simp only[Act.put,aa,ag,ab];refine bN 7 rfl (by kernel_rfl) (by kernel_rfl) (by kernel_rfl) (fun _ _ _ h=>h) rfl hv.o (by rintro w' hx; have d0:=bL (k:=0) hx; have d1:=bL (k:=1) hx; have d2:=bL (k:=2) hx; have d3:=bL (k:=3) hx; have d4:=bL (k:=4) hx; have d5:=bL (k:=5) hx; simp only[ai,aj,ah]at d0 d1 d2 d3 d4 d5; clear hx; go_simp; rfl) ?_
    simp only[Act.put,aa,ag,ab];refine bN 8 rfl (by kernel_rfl) (by kernel_rfl) (by kernel_rfl) (fun _ _ _ h=>h) rfl hv.o (by rintro w' hx; have d0:=bL (k:=0) hx; have d1:=bL (k:=1) hx; have d2:=bL (k:=2) hx; have d3:=bL (k:=3) hx; have d4:=bL (k:=4) hx; have d5:=bL (k:=5) hx; simp only[ai,aj,ah]at d0 d1 d2 d3 d4 d5; clear hx; go_simp; rfl) ?_
    simp only[Act.put,aa,ag,ab];refine bN 9 rfl (by kernel_rfl) (by kernel_rfl) (by kernel_rfl) (fun _ _ _ h=>h) rfl hv.o (by rintro w' hx; have d0:=bL (k:=0) hx; have d1:=bL (k:=1) hx; have d2:=bL (k:=2) hx; have d3:=bL (k:=3) hx; have d4:=bL (k:=4) hx; have d5:=bL (k:=5) hx; simp only[ai,aj,ah]at d0 d1 d2 d3 d4 d5; clear hx; go_simp; rfl) ?_
    simp only[Act.put,aa,ag,ab];refine bN 10 rfl (by kernel_rfl) (by kernel_rfl) (by kernel_rfl) (fun _ _ _ h=>h) rfl hv.o (by rintro w' hx; have d0:=bL (k:=0) hx; have d1:=bL (k:=1) hx; have d2:=bL (k:=2) hx; have d3:=bL (k:=3) hx; have d4:=bL (k:=4) hx; have d5:=bL (k:=5) hx; simp only[ai,aj,ah]at d0 d1 d2 d3 d4 d5; clear hx; go_simp; rfl) ?_
    simp only[Act.put,aa,ag,ab];refine bN 11 rfl (by kernel_rfl) (by kernel_rfl) (by kernel_rfl) (fun _ _ _ h=>h) rfl hv.o (by rintro w' hx; have d0:=bL (k:=0) hx; have d1:=bL (k:=1) hx; have d2:=bL (k:=2) hx; have d3:=bL (k:=3) hx; have d4:=bL (k:=4) hx; have d5:=bL (k:=5) hx; simp only[ai,aj,ah]at d0 d1 d2 d3 d4 d5; clear hx; go_simp; rfl) ?_
    simp only[Act.put,aa,ag,ab];refine bN 12 rfl (by kernel_rfl) (by kernel_rfl) (by kernel_rfl) (fun _ _ _ h=>h) rfl hv.o (by rintro w' hx; have d0:=bL (k:=0) hx; have d1:=bL (k:=1) hx; have d2:=bL (k:=2) hx; have d3:=bL (k:=3) hx; have d4:=bL (k:=4) hx; have d5:=bL (k:=5) hx; simp only[ai,aj,ah]at d0 d1 d2 d3 d4 d5; clear hx; go_simp; rfl) ?_
    simp only[Act.put,aa,ag,ab];refine bN 13 rfl (by kernel_rfl) (by kernel_rfl) (by kernel_rfl) (fun _ _ _ h=>h) rfl hv.o (by rintro w' hx; have d0:=bL (k:=0) hx; have d1:=bL (k:=1) hx; have d2:=bL (k:=2) hx; have d3:=bL (k:=3) hx; have d4:=bL (k:=4) hx; have d5:=bL (k:=5) hx; simp only[ai,aj,ah]at d0 d1 d2 d3 d4 d5; clear hx; go_simp; rfl) ?_
    simp only[Act.put,aa,ag,ab]
    apply Lx
    ·intro tail;refine wO 2 15 rfl rfl (by kernel_rfl) rfl rfl (fun K hK=> ?ca) (fun K hK=> ?al)
     case ca=>
      go_wp2_with fail;refine(xa e.path _ (by omega)).mono ?_;rintro e' w3 ⟨rfl,Hf⟩;rw[YN.o];have h4:=am (ar y7.o Hf);have hU:=am (dX Hf hv.o);clear Hf;go_wp2_with fail;refine⟨hU.o, ?_⟩;refine bN 14 rfl (by kernel_rfl) (by kernel_rfl) (by kernel_rfl) (fun _ _ _ h=>h) rfl hU.o (by rintro w' hx; have d0:=bL (k:=0) hx; have d1:=bL (k:=1) hx; have d2:=bL (k:=2) hx; have d3:=bL (k:=3) hx; have d4:=bL (k:=4) hx; have d5:=bL (k:=5) hx; simp only[ai,aj,ah]at d0 d1 d2 d3 d4 d5; clear hx; go_simp; rfl) ?_
      simp only[Act.put,aa,ag,ab];refine cn 15 rfl (fun K hK=> ?_);go_wp2_with fail;obtain⟨W,hW⟩: ∃W,W=w3.alloc (.cells #[.string ⟨#[]⟩, .int .i64 0, .int .i64 0, .int .i64 0, .int .i64 0, .string ⟨#[]⟩, .slice none 0 0, .string ⟨#[]⟩, .int .i64 0, .int .i64 0] 28):=⟨_,rfl⟩;obtain⟨xb,hR⟩: ∃b,b=w3.heap.size:=⟨_,rfl⟩
      have hY:W.heap[xb]? =some (.cells #[.string ⟨#[]⟩, .int .i64 0, .int .i64 0, .int .i64 0, .int .i64 0, .string ⟨#[]⟩, .slice none 0 0, .string ⟨#[]⟩, .int .i64 0, .int .i64 0] 28 (0,0)):=by rw[hW,hR]; exact aF w3 _
      have hG:Below w3.heap.size w3 W:=by rw[hW]; exact eK
      have hB:Below wr.heap.size wr W:=ar h4.o hG;have hE:W.heap[wr.heap.size]? =some (.cells #[.string e.path, .int .i64 e.kind, .int .i64 e.mode, .int .i64 e.time, .slice da dn dc, .string e.link] 79 (0,0)):=dX hG hU.o;have hM:wr.heap.size<xb:=by rw[hR]; exact aw hU.o
      rw[<-hW,<-hR];refine⟨hE, ?_⟩;refine cE (by kernel_rfl) ?_;clear hW hR hG h4 hU;have hF:=aE hB (aE hE (aE hY hM));clear hB hE hY hM
      revert hF
      revert xb
      revert W
      exact tail.o
     case al=>
      go_wp2_with fail;obtain⟨W3,H8⟩: ∃W,W=W2.alloc (.cells #[.string ⟨#[]⟩, .int .i64 0, .int .i64 0, .int .i64 0, .int .i64 0, .string ⟨#[]⟩, .slice none 0 0, .string ⟨#[]⟩, .int .i64 0, .int .i64 0] 28):=⟨_,rfl⟩;obtain⟨xb,hR⟩: ∃b,b=W2.heap.size:=⟨_,rfl⟩;have zc:W3.heap[xb]? =some (.cells #[.string ⟨#[]⟩, .int .i64 0, .int .i64 0, .int .i64 0, .int .i64 0, .string ⟨#[]⟩, .slice none 0 0, .string ⟨#[]⟩, .int .i64 0, .int .i64 0] 28 (0,0)):=by rw[H8,hR]; exact aF W2 _
      have Hd:=am zc;have Hf:Below W2.heap.size W2 W3:=by rw[H8]; exact eK
      have h4:=am (ar y7.o Hf);have hU:=am (dX Hf hv.o);have hM:wr.heap.size<xb:=by rw[hR]; exact aw hv.o
      rw[<-H8,<-hR];clear H8 hR zc Hf;refine⟨hU.o, ?_⟩;refine cn 2 rfl (fun K hK=> ?_);go_wp2_with fail;refine(xa e.path _ (by omega)).mono ?_;rintro e' W ⟨rfl,hG⟩;rw[YN.o];have hB:Below wr.heap.size wr W:=ar h4.o hG;have hE:W.heap[wr.heap.size]? =some (.cells #[.string e.path, .int .i64 e.kind, .int .i64 e.mode, .int .i64 e.time, .slice da dn dc, .string e.link] 79 (0,0)):=dX hG hU.o
      have hY:=dX hG Hd.o;have HE:=am hE;clear hG h4 hU Hd;go_wp2_with fail;refine⟨HE.o, ?_⟩;refine bN 14 rfl (by kernel_rfl) (by kernel_rfl) (by kernel_rfl) (fun _ _ _ h=>h) rfl HE.o (by rintro w' hx; have d0:=bL (k:=0) hx; have d1:=bL (k:=1) hx; have d2:=bL (k:=2) hx; have d3:=bL (k:=3) hx; have d4:=bL (k:=4) hx; have d5:=bL (k:=5) hx; simp only[ai,aj,ah]at d0 d1 d2 d3 d4 d5; clear hx; go_simp; rfl) ?_
      simp only[Act.put,aa,ag,ab];refine cE (by kernel_rfl) ?_;clear HE;have hF:=aE hB (aE hE (aE hY hM));clear hB hE hY hM
      revert hF
      revert xb
      revert W
      exact tail.o
    ·rintro W3 xb ⟨hB,hE,hY,hR⟩;have h4:=am hB;have YI:=am hE;have Hd:=am hY;clear hB hE hY hv y7;refine eD rfl rfl (fun K hK=> ?_);obtain⟨i0,i1,i2,i3,i4,i5,i6,i7,i8,i9,_⟩:=aU Hd.o;obtain⟨g0,g1,g2,g3,g4,g5,g6,g7,g8,g9,_⟩:=gG Hd.o
     go_upto_region 8 with(fail)
     obtain⟨W4,HC⟩: ∃W4:World,W4=((((((((((W3.setCell ⟨xb,0,none⟩ (.string nm)).setCell ⟨xb,1,none⟩ (.int .i64 e.kind)).setCell ⟨xb,2,none⟩ (.int .i64 e.mode)).setCell ⟨xb,3,none⟩ (.int .i64 e.time)).setCell ⟨xb,4,none⟩ (.int .i64 (dn:Int))).setCell ⟨xb,5,none⟩ (.string e.link)).setCell ⟨xb,6,none⟩ (.slice none 0 0)).setCell ⟨xb,7,none⟩ (.string ⟨#[]⟩)).setCell ⟨xb,8,none⟩ (.int .i64 0)).setCell ⟨xb,9,none⟩ (.int .i64 0)):=⟨_,rfl⟩
     rw[<-HC];have hJ:(eW (.slice none 0 0) (cS k gs c d e er)).toArray= #[.string nm, .int .i64 e.kind, .int .i64 e.mode, .int .i64 e.time, .int .i64 (dn:Int), .string e.link, .slice none 0 0, .string ⟨#[]⟩, .int .i64 0, .int .i64 0]:=by
      unfold eW;rw[Ji H6.o,<-YH.o,H1.o];unfold cS;simp[er]
     have hG:Below wr.heap.size wr W4:=by rw[HC]; exact ji h4.o (by omega)
     have hS:=am (hT.o.item (xb:=xb) (it:=cS k gs c d e er) hG (by rw[hJ,HC]; exact Ig Hd.o) (by omega) H0.o);have Ya:=am (show W4.heap[wr.heap.size]? =some (.cells #[.string e.path, .int .i64 e.kind, .int .i64 e.mode, .int .i64 e.time, .slice da dn dc, .string e.link] 79 (0,0)) by rw[HC]; exact(pE (show wr.heap.size≠xb by omega)).trans YI.o);have y8:=am hG
     clear HC hJ hG Hd h4 YI i0 i1 i2 i3 i4 i5 i6 i7 i8 i9 g0 g1 g2 g3 g4 g5 g6 g7 g8 g9;obtain⟨d0,d1,d2,d3,d4,d5,_⟩:=aU Ya.o;have YL:=am (show dF (tree.take (j+1)) d=dF (tree.take j) d++[e] by rw[YM.o,if_pos H2.o]);have Yl:=am (show gH k gs ((dF (tree.take (j+1)) d).flatMap (ik k gs c tree f)) s=gH k gs (ik k gs c tree f e) s2 by rw[YL.o,bP,pS,<-H5.o]; simp)
     have Yf:=am (show((dF (tree.take (j+1)) d).map fun e=>cS k gs c d e (bA k gs (dS k gs c tree f e.path).1))=its++[cS k gs c d e (bA k gs (dS k gs c tree f e.path).1)] by rw[YL.o,aN,<-Yg.o]; rfl);have YO:=am (show s2.1.length+(ik k gs c tree f e).length<=1000000 by
      have h1:=rm (k:=k) (gs:=gs) ((dF (tree.take j) d).flatMap (ik k gs c tree f)) s;rw[<-H5.o]at h1;have h2:=Jn (g:=ik k gs c tree f) HE.o H2.o;have h3:=YP.o;rw[fo,an]at h3
      omega)
     have Yi:=am (fun nd (hn:dY nd)=>(show iw (cS k gs c d e nd)from by
      have h1:=CR (bl d) (bl e.path);rw[<-bh e.path]at h1;have h2:=(mf H6.o).2.1;refine⟨?_, ?_, ?_⟩
      ·show ByteArray.size ⟨_⟩<=_
       simp only[ByteArray.size,bR];unfold maxLen; omega
      ·show e.link.size<=_
       unfold maxLen; omega
      ·show dY (if e.kind=2 then nd else er)
       split
       ·exact hn
       ·exact nN))
     by_cases h8:e.kind=1
     ·have e1:(e.kind == 1)=true:=by simp[h8]
      have h7:=am h8;clear h8
      go_upto_region 10 with(fail)
      clear d0 d1 d2 d3 d4 d5;have Zw:e.data.length<=60:=HX.o.small.data e z5.o;have Yw:=ay H0.o y8.o.size;refine ez (fun w'=>fY bb k c (.slice (some ⟨tb,ot,none⟩) n tc) gv v2 lg s2.2 w'/\w'.heap[wr.heap.size]? =some (.cells #[.string e.path, .int .i64 e.kind, .int .i64 e.mode, .int .i64 e.time, .slice da dn dc, .string e.link] 79 (0,0))) (by kernel_rfl) ?_
      obtain⟨V,hV⟩: ∃V:World,V=W4.drew:=⟨_,rfl⟩;rw[<-hV];have Hg:Below W4.heap.size W4 V:=by rw[hV]; exact(au _ _).drew
      have hO:=am (hS.o.below Hg Yw);have Yb:=am (dX Hg Ya.o);have y9:=am (ar y8.o Hg);have SV:=am (show fY bb k c (.slice (some ⟨tb,ot,none⟩) n tc) gv v2 lg s2.2 V/\V.heap[wr.heap.size]? =some (.cells #[.string e.path, .int .i64 e.kind, .int .i64 e.mode, .int .i64 e.time, .slice da dn dc, .string e.link] 79 (0,0))from aE hO.o.bd.box Yb.o);clear hV Hg hS Ya y8
      iterate 6 (refine cA rfl (by kernel_rfl) (fun _ _ _ h=>h) rfl SV.o (by rintro w' ⟨hA,hx⟩; unfold fY at hA; have k5:=az (k:=5) hA; have k6:=az (k:=6) hA; have k7:=az (k:=7) hA; have k8:=az (k:=8) hA; have k9:=az (k:=9) hA; have d4:=bL (k:=4) hx; simp only[tA,eC,fU,aK,aJ,ai,aj,ah]at k5 k6 k7 k8 k9 d4; clear hx hA; go_simp; rfl) ?_; simp only[Act.put,aa,ag,ab])
      refine cn 6 rfl (fun K hK=> ?_);go_wp2_with fail;refine(DK (fun _=>True) c e.data (.slice da dn dc) V HX.o.cut HX.o.seed (by show cC _ V 1 (.slice da dn dc) e.data.length (e.data.map aY); have h1:=(eH.below z4.o y9.o).weak (T:=fun _=>True) fun _ _=>trivial; rw[YH.o]; exact h1) (by omega)).mono ?_;rintro e' w5 ⟨pa,pcap,ys,rfl,YG,Y5,Y4,Yu⟩;have hZ:=ay H0.o y9.o.size
      have Hb:=am (hO.o.below Yu hZ);have S5:=am (show fY bb k c (.slice (some ⟨tb,ot,none⟩) n tc) gv v2 lg s2.2 w5/\w5.heap[wr.heap.size]? =some (.cells #[.string e.path, .int .i64 e.kind, .int .i64 e.mode, .int .i64 e.time, .slice da dn dc, .string e.link] 79 (0,0))from aE Hb.o.bd.box (dX Yu Yb.o));have Yj:=am (show qk w5 base (.slice pa ys.length pcap) ys from⟨gA Y5 hZ,fun y hy=>gA (Y4 y hy) hZ⟩)
      have YX:=am YG;obtain⟨yn,YF⟩: ∃l,l=ys.length:=⟨_,rfl⟩;have YW:=am YF;have y4:yn<=60:=by
       have h1:=vE HX.o.cut e.data;rw[<-YG,aB]at h1;omega
      rw[<-YF]at Yj ⊢;clear YG Y5 Y4 Yu YF hO Yb y9 SV hZ;go_wp2_with fail;refine⟨S5.o, ?_⟩;refine cA rfl (by kernel_rfl) (fun _ _ _ h=>h) rfl S5.o (by rintro w' ⟨hA,hx⟩; unfold fY at hA; have k5:=az (k:=5) hA; have k6:=az (k:=6) hA; have k7:=az (k:=7) hA; have k8:=az (k:=8) hA; have k9:=az (k:=9) hA; have d4:=bL (k:=4) hx; simp only[tA,eC,fU,aK,aJ,ai,aj,ah]at k5 k6 k7 k8 k9 d4; clear hx hA; go_simp; rfl) ?_
      simp only[Act.put,aa,ag,ab];refine cE (by kernel_rfl) ?_;clear S5;obtain⟨itf,Hk⟩: ∃it,it=cS k gs c d e er:=⟨_,rfl⟩;have Ye:=am Hk;have Ho:=Hb.o;rw[<-Hk]at Ho;have YJ:=am Ho;clear Hk Ho Hb;obtain⟨wo,Zr⟩: ∃wo:World,wo=wr:=⟨_,rfl⟩;subst Zr;go_wp2_with fail
      go_loopw [10] (fun i wq=> ∃(m:Nat) (v3 u6:Value),m<=yn/\i= .int .i64 (m:Int)/\yN w base bb k c (.slice (some ⟨tb,ot,none⟩) n tc) gv v lg wo.heap.size xb wq v3 u5 (gH k gs ((fZ c e.data).take m) s2) its u6 itf (((fZ c e.data).take m).map (bA k gs))/\qk wq base (.slice pa yn pcap) ys) (fun i _=>yn-(intOf i).toNat)
      case atStart=>exact⟨0,v2, .slice none 0 0,aW _,rfl,YJ.o,Yj.o⟩
      case round=>
       obtain⟨m,v3,u6,hm,rfl,h0,Y6⟩:=hrel;obtain⟨rs,y3⟩: ∃rs,rs=((fZ c e.data).take m).map (bA k gs):=⟨_,rfl⟩;obtain⟨sm,Ha⟩: ∃s,s=gH k gs ((fZ c e.data).take m) s2:=⟨_,rfl⟩;rw[<-y3,<-Ha]at h0;obtain⟨ra,rc,rfl,-,-⟩:=aH h0.row;have Y1:yn=(fZ c e.data).length:=by rw[YW.o,<-YX.o,aB]
       obtain⟨rn,yv⟩: ∃l,l=rs.length:=⟨_,rfl⟩;have za:rn=m:=by rw[yv,y3,aB,bm]; omega
       rw[<-yv]at h0;have Hr:=am h0;have Hw:=am Y6;have YR:=am y3;have Ym:=am Ha;have YQ:=am yv;have Yk:=am za;have zz:=am Y1;have Y0:base<=wr.heap.size:=ay hD Hr.o.kp.below.size;clear h0 Y6 YJ Yj y3 Ha yv za Y1
       by_cases Zm:m<yn
       ·obtain⟨y,hy⟩: ∃y,ys[m]? =some y:=⟨ys[m]'(by rw[<-YW.o]; exact Zm),by simp⟩;have HY:=am hy;obtain⟨pb,po,pc,Y8,HO⟩:=Hw.o.cell hy;simp only[cW]at Y8;obtain⟨rfl,-,-⟩:=Y8;have zl:=Hw.o.2 y (aQ hy);obtain⟨ya,yc,y5,-,-⟩:=aH zl;obtain⟨yl,y4⟩: ∃l,l=y.2.length:=⟨_,rfl⟩;rw[<-y4]at y5;rw[y5]at HO
        have HA:=am y5;have Zu:=am y4;have Yo:=am (show(fZ c e.data)[m]? =some y.2 by rw[<-YX.o,bn,hy]; rfl);clear hy zl y5 y4 HO
        go_upto_region 14 with(fail)
        refine ey (fun w'=>w'.heap[xb]? =some (.cells (eW (.slice ra rn rc) itf).toArray 28 (0,0))/\w'.cell? ⟨pb,po+m,none⟩=some (.slice ya yl yc)) (by kernel_rfl) (by kernel_rfl) ?_;simp only[br,bt,aD,bo,Nat.reduceAdd,Nat.reduceSub];obtain⟨V,hV⟩: ∃V:World,V=wr.drew:=⟨_,rfl⟩;rw[<-hV]
        have hP:Below wr.heap.size wr V:=by rw[hV]; exact(au _ _).drew
        have hO:=am (Hr.o.below hP Y0);have H3:=am (Hw.o.below hP);have SV:=am (show V.heap[xb]? =some (.cells (eW (.slice ra rn rc) itf).toArray 28 (0,0))/\V.cell? ⟨pb,po+m,none⟩=some (.slice ya yl yc)from aE hO.o.box (by rw[<-HA.o]; exact H3.o.at' HY.o));clear hV hP Hr Hw Y0
        iterate 7 (refine cA rfl (by kernel_rfl) (fun _ _ _ h=>h) rfl SV.o (by rintro w' ⟨hx,hp⟩; unfold eW at hx; have i6:=az (k:=6) hx; simp only[ai,aj,ah]at i6; clear hx; go_simp; rfl) ?_; simp only[Act.put,aa,ag,ab])
        have Y9:sm.1.length<=1000000:=by
         have h1:=rm (k:=k) (gs:=gs) ((fZ c e.data).take m) s2;rw[<-Ym.o]at h1;have h2:(((fZ c e.data).take m)).length<=(fZ c e.data).length:=by rw[bm]; omega
         have h3:=YO.o;unfold ik at h3;rw[if_pos h7.o]at h3;omega
        have HU:y.2.length<=32768:=(qr HX.o.cut e.data y.2 (aQ Yo.o)).2;have hp:=zX base bb k c (.slice (some ⟨tb,ot,none⟩) n tc) gv v3 (.slice ya yl yc) gs lg sm.2 sm.1 y.2 V hO.o.bd HX.o.keys (HG.o.keep (fun i hi _=>hO.o.kp.below.block i hi)) HX.o.gens (by have h1:=H3.o.2 y (aQ HY.o); rw[HA.o]at h1; exact h1) HU Y9 HX.o.bbb
        obtain⟨r,hr⟩: ∃r,r=bA k gs y.2:=⟨_,rfl⟩;rw[<-hr]at hp;unfold ef at hp;have HP:=am hp;have Hx:=am hr;clear hp hr Y9 HU;refine cn 7 rfl (fun K hK=> ?_);go_wp2_with fail;refine HP.o.mono ?_;rintro e7 w7 ⟨rfl,v7,HJ,Hm⟩;have hN:=am (hO.o.step HJ Hm);have Hv:=am (H3.o.kp hO.o.bd Hm);have S7:=am (show w7.heap[xb]? =some (.cells (eW (.slice ra rn rc) itf).toArray 28 (0,0))/\w7.cell? ⟨pb,po+m,none⟩=some (.slice ya yl yc)from aE hN.o.box (by rw[<-HA.o]; exact Hv.o.at' HY.o))
        clear HJ Hm hO H3 SV HP;go_wp2_with fail;refine⟨S7.o, ?_⟩;refine cn 8 rfl (fun K hK=> ?_);go_wp2_with fail;have Yr:=(au w7.heap.size w7).alloc (ak _) (.cells #[.string r.name, .int .i64 r.gen, .int .i64 r.size] 26);have S8:=am (show(w7.alloc (.cells #[.string r.name, .int .i64 r.gen, .int .i64 r.size] 26)).heap[xb]? =some (.cells (eW (.slice ra rn rc) itf).toArray 28 (0,0))/\(w7.alloc (.cells #[.string r.name, .int .i64 r.gen, .int .i64 r.size] 26)).cell? ⟨pb,po+m,none⟩=some (.slice ya yl yc)from aE (dX Yr hN.o.box) (by rw[<-HA.o]; exact(Hv.o.below Yr).at' HY.o))
        clear Yr S7;refine⟨S8.o, ?_⟩;refine cn 9 rfl (fun K hK=> ?_);have HR:rn<1099511627775:=by have:=Yk.o; omega
        have YY:wo.heap.size<=w7.heap.size:=by have:=hN.o.mark; have:=aw hN.o.box; omega
        go_wp2_with (at_builtin; go_must (refine bO Tryz.appRefs rfl _ _ rfl wo.heap.size (.slice ra rn rc) rn (rs.flatMap jg) rfl w7 [.string r.name, .int .i64 r.gen, .int .i64 r.size] _ rfl rfl (qF (r:=r)) (by have h1:=hN.o.row; rw[<-YQ.o]at h1; exact h1) HR YY ?_); intro v' wc hb ha _ yp; obtain⟨ae,ce,rfl,-,-⟩:=aH hb);have Y7:=hN.o.push (r:=r) (by rw[<-YQ.o]; exact hb) ha hD
        have YE:=hN.o.grown ha;have HO:=Hv.o.grown hN.o.row ha;have z8:=am (Hv.o.push (xb:=xb) (q:=6) (u:= .slice ae (rn+1) ce) hN.o.row ha YE);have S9:=am (show wc.heap[xb]? =some (.cells (eW (.slice ra rn rc) itf).toArray 28 (0,0))/\wc.cell? ⟨pb,po+m,none⟩=some (.slice ya yl yc)from aE YE (by rw[<-HA.o]; exact HO.at' HY.o));have Hc:=am Y7
        clear hb ha yp Y7 YE HO S8 hN Hv YY;refine⟨S9.o, ?_⟩;refine cA rfl (by kernel_rfl) (fun _ _ _ h=>h) rfl S9.o (by rintro w' ⟨hx,hp⟩; unfold eW at hx; have i6:=az (k:=6) hx; simp only[ai,aj,ah]at i6; clear hx; go_simp; rfl) ?_;simp only[Act.put,aa,ag,ab]
        refine cE (by kernel_rfl) ?_;refine eD rfl rfl (fun K hK=> ?_);have hx:=S9.o.1;unfold eW at hx;have i6:=az (k:=6) hx;have g6:=dw (k:=6) hx;simp only[ai,aj,ah]at i6;have Zc:=am (show gH k gs ((fZ c e.data).take (m+1)) s2=pR k gs sm y.2 by rw[Fk Yo.o,<-Ym.o]);have Zd:=am (show((fZ c e.data).take (m+1)).map (bA k gs)=rs++[r] by rw[dL Yo.o,aN,<-YR.o,Hx.o]; rfl)
        clear hx S9;go_wp2_with fail
        go_roundw
        case rel=>exact⟨m+1,v7, .slice ae (rn+1) ce,by omega,by go_num,by rw[Zc.o,Zd.o]; exact Hc.o,z8.o⟩
        case measure=>simp[intOf]; omega
       ·obtain rfl:m=yn:=by omega
        go_upto_region 17 with(fail)
        have He:(fZ c e.data).take m=fZ c e.data:=bB (by rw[<-zz.o]; exact ak _);have hL:itf.chunks=(fZ c e.data).map (bA k gs):=by
         rw[Ye.o]
         show(if e.kind=1 then _ else [])=_
         rw[if_pos h7.o]
        have h0:=Hr.o;rw[show rs=itf.chunks by rw[YR.o,He,hL]]at h0;have hC:=am h0;have Hu:=am (show iw itf by rw[Ye.o]; exact Yi.o er nN);have Hy:=am (show ∀r∈itf.chunks,dY r by
         rw[hL];intro r hr;obtain⟨z,hz,rfl⟩:=aS.1 hr;exact iK HX.o.gens (by have:=(qr HX.o.cut e.data z hz).2; omega))
        have Hs:=am (show cS k gs c d e (bA k gs (dS k gs c tree f e.path).1)=itf by rw[Ye.o]; exact nK (by have:=h7.o; omega) _ _);have Hz:=am (show gH k gs (ik k gs c tree f e) s2=sm by rw[Ym.o,He]; unfold ik; rw[if_pos h7.o]);obtain⟨it,hl⟩: ∃it,it=itf:=⟨_,rfl⟩;subst hl;clear He hL h0 Hr Hw;obtain⟨zs4,hk,hu,-,hs⟩:=hC.o.its.row
        have HW:zs4.length<=12:=by rw[<-aB (f:=Prod.snd),hk]; exact Hj
        have hI:=am hk;have ho:=am hu;have hH:=am (fun z hz=>(hs z hz).1);have HV:w.heap.size<=(wr).heap.size:=hC.o.kp.below.size;clear hk hu hs;have hh:=hC.o.box;unfold eW at hh;obtain⟨i0,i1,i2,i3,i4,i5,i6,i7,i8,i9,_⟩:=aU hh;clear hh;go_wp2_with (at_builtin; go_must (refine bO Tryz.appItems rfl _ _ rfl w.heap.size u5 zs4.length (pG zs4) rfl (wr) [.string it.name, .int .i64 it.kind, .int .i64 it.mode, .int .i64 it.time, .int .i64 it.size, .string it.link, .slice ra rn rc, .string it.node.name, .int .i64 it.node.gen, .int .i64 it.node.size] _ rfl rfl (kC (it:=it)) ho.o (by omega) HV ?_); intro v' wc hb ha _ _; have Hc:=am (hC.o.done hI.o ho.o hH.o hb ha Hu.o Hy.o hD); clear hb ha)
        clear i0 i1 i2 i3 i4 i5 i6 i7 i8 i9
        go_roundw
        case rel=>exact⟨j+1,v3,by omega,by go_num,by rw[Yl.o,Yf.o,Hs.o,Hz.o]; exact Hc.o⟩
        case measure=>simp[intOf]; omega
     ·have e1:(e.kind == 1)=false:=by simp[h8]
      have h7:=am h8
      by_cases Hl:e.kind=2
      ·have e2:(e.kind == 2)=true:=by simp[Hl]
       have Ht:=am Hl;have Yx:ik k gs c tree f e=(dS k gs c tree f e.path).2:=by unfold ik; rw[if_neg h8,if_pos Hl]
       have yp:=pO (l:=bl e.path) (rg HX.o.tok (aQ HE.o));rw[H2.o]at yp;have Zi:=HF.o;have HK:=z6.o e.path v2 s2 W4 (by rw[<-bh]; exact Zo) (by omega) hS.o.bd (HG.o.keep (fun i hi _=>hS.o.kp.below.block i hi)) (HT.o.keep (fun i hi=>hS.o.kp.below.block i hi)) (by rw[<-Yx]; exact YO.o);unfold OP at HK;obtain⟨r,hr⟩: ∃r,r=bA k gs (dS k gs c tree f e.path).1:=⟨_,rfl⟩
       rw[<-Yx,<-hr]at HK;have Hx:=am hr;have Zb:=am (show dY r by rw[hr]; exact iK HX.o.gens (by have:=pi (k:=k) HX.o.gens HX.o.cut HX.o.tok HX.o.small f e.path; omega));unfold ef at HK;have Za:=am HK;clear Hl h8 Yx yp Zi HK hr;go_wp2_with fail;refine Za.o.mono ?_;rintro e' w5 ⟨rfl,v5,HH,HL⟩;have Hb:=am (hS.o.step HH HL);have hh:=Hb.o.box
       unfold eW at hh;have i7:=az (k:=7) hh;have i8:=az (k:=8) hh;have i9:=az (k:=9) hh;have g7:=dw (k:=7) hh;have g8:=dw (k:=8) hh;have g9:=dw (k:=9) hh;simp only[ai,aj,ah]at i7 i8 i9;clear hh HH HL d0 d1 d2 d3 d4 d5
       go_upto_region 17 with(fail)
       obtain⟨W6,Yq⟩: ∃W6:World,W6=((w5.setCell ⟨xb,7,none⟩ (.string r.name)).setCell ⟨xb,8,none⟩ (.int .i64 r.gen)).setCell ⟨xb,9,none⟩ (.int .i64 r.size):=⟨_,rfl⟩;obtain⟨it,hl⟩: ∃it,it=cS k gs c d e r:=⟨_,rfl⟩;have hL:it.chunks=[]:=by rw[hl]; unfold cS; simp only[if_neg h7.o]
       have Hp:yN w base bb k c (.slice (some ⟨tb,ot,none⟩) n tc) gv v lg wr.heap.size xb W6 v5 u5 (gH k gs (ik k gs c tree f e) s2) its (.slice none 0 0) it it.chunks:=by
        rw[hL,Yq];have Ho:=Hb.o;have Y2:it= {cS k gs c d e er with node:=r} :=by rw[hl]; unfold cS; simp only[if_pos Ht.o]
        have Hn:(cS k gs c d e er).node=er:=by unfold cS; simp only[if_pos Ht.o]
        obtain⟨it0,Zj⟩: ∃i,i=cS k gs c d e er:=⟨_,rfl⟩;rw[<-Zj]at Ho Y2 Hn;have a1:=Ho.set (q:=7) (u:= .string r.name) (it':= {it0 with node:=⟨r.name,0,0⟩}) (by simp[eW,Hn,er]) hD;have a2:=a1.set (q:=8) (u:= .int .i64 r.gen) (it':= {it0 with node:=⟨r.name,r.gen,0⟩}) (by simp[eW]) hD;have a3:=a2.set (q:=9) (u:= .int .i64 r.size) (it':=it) (by rw[Y2]; simp[eW]) hD
        exact a3
       have hC:=am Hp;have Hu:=am (show iw it by rw[hl]; exact Yi.o r Zb.o);have Hy:=am (show ∀r∈it.chunks,dY r by rw[hL]; simp);have Hs:=am (show cS k gs c d e (bA k gs (dS k gs c tree f e.path).1)=it by rw[hl,Hx.o]);have Hz:=am (show gH k gs (ik k gs c tree f e) s2=gH k gs (ik k gs c tree f e) s2 from rfl);rw[<-Yq];clear hl hL Hp Yq hS Hb i7 i8 i9 g7 g8 g9
       obtain⟨zs4,hk,hu,-,hs⟩:=hC.o.its.row;have HW:zs4.length<=12:=by rw[<-aB (f:=Prod.snd),hk]; exact Hj
       have hI:=am hk;have ho:=am hu;have hH:=am (fun z hz=>(hs z hz).1);have HV:w.heap.size<=(W6).heap.size:=hC.o.kp.below.size;clear hk hu hs;have hh:=hC.o.box;unfold eW at hh;obtain⟨i0,i1,i2,i3,i4,i5,i6,i7,i8,i9,_⟩:=aU hh;clear hh;go_wp2_with (at_builtin; go_must (refine bO Tryz.appItems rfl _ _ rfl w.heap.size u5 zs4.length (pG zs4) rfl (W6) [.string it.name, .int .i64 it.kind, .int .i64 it.mode, .int .i64 it.time, .int .i64 it.size, .string it.link, .slice none 0 0, .string it.node.name, .int .i64 it.node.gen, .int .i64 it.node.size] _ rfl rfl (kC (it:=it)) ho.o (by omega) HV ?_); intro v' wc hb ha _ _; have Hc:=am (hC.o.done hI.o ho.o hH.o hb ha Hu.o Hy.o hD); clear hb ha)
       clear i0 i1 i2 i3 i4 i5 i6 i7 i8 i9
       go_roundw
       case rel=>exact⟨j+1,v5,by omega,by go_num,by rw[Yl.o,Yf.o,Hs.o,Hz.o]; exact Hc.o⟩
       case measure=>simp[intOf]; omega
      ·have e2:(e.kind == 2)=false:=by simp[Hl]
       have Ht:=am Hl;clear Hl h8
       go_upto_region 17 with(fail)
       obtain⟨it,hl⟩: ∃it,it=cS k gs c d e er:=⟨_,rfl⟩;have hL:it.chunks=[]:=by rw[hl]; unfold cS; simp only[if_neg h7.o]
       have Hp:=hS.o;rw[<-hl]at Hp;have hC:=am (show yN w base bb k c (.slice (some ⟨tb,ot,none⟩) n tc) gv v lg wr.heap.size xb W4 v2 u5 s2 its (.slice none 0 0) it it.chunks by rw[hL]; exact Hp);have Hu:=am (show iw it by rw[hl]; exact Yi.o er nN);have Hy:=am (show ∀r∈it.chunks,dY r by rw[hL]; simp);have Hs:=am (show cS k gs c d e (bA k gs (dS k gs c tree f e.path).1)=it by rw[hl]; exact nK Ht.o _ _)
       have Hz:=am (show gH k gs (ik k gs c tree f e) s2=s2 by unfold ik; rw[if_neg h7.o,if_neg Ht.o]; rfl);clear hl hL Hp hS d0 d1 d2 d3 d4 d5;obtain⟨zs4,hk,hu,-,hs⟩:=hC.o.its.row;have HW:zs4.length<=12:=by rw[<-aB (f:=Prod.snd),hk]; exact Hj
       have hI:=am hk;have ho:=am hu;have hH:=am (fun z hz=>(hs z hz).1);have HV:w.heap.size<=(W4).heap.size:=hC.o.kp.below.size;clear hk hu hs;have hh:=hC.o.box;unfold eW at hh;obtain⟨i0,i1,i2,i3,i4,i5,i6,i7,i8,i9,_⟩:=aU hh;clear hh;go_wp2_with (at_builtin; go_must (refine bO Tryz.appItems rfl _ _ rfl w.heap.size u5 zs4.length (pG zs4) rfl (W4) [.string it.name, .int .i64 it.kind, .int .i64 it.mode, .int .i64 it.time, .int .i64 it.size, .string it.link, .slice none 0 0, .string it.node.name, .int .i64 it.node.gen, .int .i64 it.node.size] _ rfl rfl (kC (it:=it)) ho.o (by omega) HV ?_); intro v' wc hb ha _ _; have Hc:=am (hC.o.done hI.o ho.o hH.o hb ha Hu.o Hy.o hD); clear hb ha)
       clear i0 i1 i2 i3 i4 i5 i6 i7 i8 i9
       go_roundw
       case rel=>exact⟨j+1,v2,by omega,by go_num,by rw[Yl.o,Yf.o,Hs.o,Hz.o]; exact Hc.o⟩
       case measure=>simp[intOf]; omega
   ·obtain⟨q,hq⟩: ∃q:ByteArray,q=⟨(cr (bl e.path)).toArray⟩:=⟨_,rfl⟩;have HQ:=am hq;have z7:=am (show dF (tree.take (j+1)) d=dF (tree.take j) d by rw[YM.o,if_neg hQ,bY]);have e1:(q.toList == d.toList)=false:=by
     rw[eY];intro hc;have h1:bl q=bl d:=by rw[<-fp,<-fp]; simpa using hc
     exact hQ (((congrArg bl hq).trans (jD _)).symm.trans h1)
    clear hQ hq;go_wp2_with (go_at_call 92; refine(oB e.path q _ (by omega) HQ.o).mono ?_; rintro e7 w7 ⟨rfl,hP⟩; have HZ:=am (ar y6.o hP); clear hP)
    go_roundw
    case rel=>exact⟨j+1,v2,by omega,by go_num,by rw[z7.o,<-H5.o,<-Yg.o]; exact hT.o.below HZ.o H0.o⟩
    case measure=>simp[intOf]; omega
  ·have Zk:j=n:=by omega
   subst Zk;have hw:its=mZ k gs c tree f d:=by rw[Yg.o,HN.o,dj]; rfl
   have YK:=am (show lx wr w.heap.size u5 (mZ k gs c tree f d) by rw[<-hw]; exact hT.o.its);have Ha:=EQ (k:=k) (gs:=gs) HX.o.cut HX.o.small f d;have YD:=Jj (k:=k) HX.o.gens HX.o.cut HX.o.tok HX.o.small f d;have H9:=pi (k:=k) HX.o.gens HX.o.cut HX.o.tok HX.o.small (f+1) d;have Y3:tq (mZ k gs c tree f d)=(dS k gs c tree (f+1) d).1:=by
    rw[fo];refine Mj YD (fun it hl=> ?_) (by rw[fo]at H9; simp only at H9; omega);unfold mZ at hl;obtain⟨e,he,rfl⟩:=aS.1 hl;obtain⟨i,hi⟩:=List.mem_iff_getElem?.1 (fm.1 he).1;obtain⟨_,_,_,_,_,_,_,yb,_⟩:=ki HT.o hi;have:=yb.tim;simp[Lit.wf,IntKind.min,IntKind.max,IntKind.signed,IntKind.bits]at this
    show e.time<_
    omega
   have Hn:=Fc (fun _=>True) u5 (mZ k gs c tree f d) wr YK.o.at (fun it hl=>EO ((pq YD).2 it hl)) (by have:=Df Ha.1 Ha.2; omega) (by have:=Ha.1; omega);unfold Gd at Hn;rw[Y3]at Hn;have Yh:=am Hn;have H1:=am H9;have YS:=am (show s2=gH k gs ((dF tree d).flatMap (ik k gs c tree f)) s by rw[H5.o,HN.o,dj])
   obtain⟨X,hX⟩: ∃X,X=(dS k gs c tree (f+1) d).1:=⟨_,rfl⟩;rw[<-hX]at Yh H1;have YV:=am hX;have z9:=am (show gH k gs (dS k gs c tree (f+1) d).2 s=pR k gs s2 X by rw[fo,pS,<-YS.o,hX,fo]; rfl);clear hw Ha YD H9 Y3 Hn hX;go_wp2_with fail;refine Yh.o.mono ?_;rintro e' w5 ⟨cv,rfl,Yy,Hg⟩;have Yv:=ay hD hT.o.kp.below.size
   have z3:=am (gA Yy Yv);obtain⟨ca,cc,rfl,-,-⟩:=aH Yy;have Yc:=am (hT.o.below Hg Yv);obtain⟨xl,HS⟩: ∃l,l=X.length:=⟨_,rfl⟩;have Zx:1<=xl:=by
    rw[HS,YV.o,fo]
    show 1<=(fO _).length
    unfold fO;rw[an];have:=rU (mZ k gs c tree f d).length;omega
   have Zs:xl<=32768:=by rw[HS]; exact H1.o
   have YU:=am HS;rw[<-HS];clear Yy Hg Yv HS hT Yh YK k5 k6 k7 k8 k9 k10;have hp:=zX base bb k c (.slice ta j tc) gv v2 (.slice ca xl cc) gs lg s2.2 s2.1 X w5 Yc.o.bd HX.o.keys (HG.o.keep (fun i hi _=>Yc.o.kp.below.block i hi)) HX.o.gens (by have h1:=z3.o; rw[<-YU.o]at h1 ⊢; exact h1) (by rw[<-YU.o]; exact Zs) (by
    have h1:=rm (k:=k) (gs:=gs) ((dF tree d).flatMap (ik k gs c tree f)) s;rw[<-YS.o]at h1;have h3:=YP.o;rw[fo,an]at h3
    omega) HX.o.bbb
   have HP:=am hp;clear hp;unfold ef at HP;have e1:((xl:Int) == 0)=false:=by simp; omega
   go_upto_region 22 with(fail)
   obtain⟨r,hr⟩: ∃r,r=bA k gs X:=⟨_,rfl⟩;rw[<-hr]at HP;have Hx:=am hr;clear hr e1;go_wp2_with fail;refine HP.o.mono ?_;rintro e6 w6 ⟨rfl,v6,HI,HM⟩;have Yd:=am (Yc.o.step HI HM);clear HI HM;have H4:=am Yd.o.res;obtain⟨z0,z1,z2,_⟩:=aU H4.o;obtain⟨y0,y1,y2,_⟩:=gG H4.o;go_wp2_with fail;refine MG H4.o rfl rfl ?_;refine⟨by rw[<-YV.o,<-Hx.o]; rfl,v6, ?_, ?_⟩
   ·rw[z9.o];exact Yd.o.bd.other H4.o (by decide) (by decide) (by decide) (fun i hi _=>ed hi)
   ·exact((Yd.o.kp.setNew (ak _) hD).setNew (ak _) hD).setNew (ak _) hD
theorem Ow (S:Nat->Prop) (L:List dl) (v:Value) (x:Int) (w:World) (hv:eI S w v L) (hps: ∀e∈L,e.path.size<=16777216) (hx:iy L=x):Calls Tryz.prog 31 #[v] w fun e w'=>e= .returned (.int .i64 x)/\Below w.heap.size w w':=by
 rw[<-hx]; exact Ds S L v w hv hps
theorem Dx {base bb:Nat} {k:dh} {c:fN} {gs:List (ByteArray×Int)} {tree:List dl} {tv gv:Value} {lg:Bool} (hX:RdX base bb k c gs tree): ∀f,RdC base bb k c gs tree tv gv lg f
 | 0=>fun d v s w h1 h2=>by omega
 | f+1=>JQ f hX (Dx hX f)
end Go.Proofs.YtpffpjbkbaleiaaGreatDoor
namespace Go.Proofs.YtpffpjbkbaleiaaGreatDoor
open Go.RowKit
section
variable {k : dh} {gs : List (ByteArray × Int)} {c : fN} {tree : List dl} {M : List (ByteArray × List UInt8)}
def qc (k:dh) (gs:List (ByteArray×Int)) (M:List (ByteArray×List UInt8)) (cs:List (List UInt8)):Prop:= ∀x∈cs,gE M (bA k gs x).name=some x
structure tO (k : dh) (gs : List (ByteArray × Int)) (c : fN) (tree : List dl) : Prop where
 ok:BA tree
 cut:jG c=true
 gens:km gs
 time: ∀e∈tree,e.time<9223372036854775808
theorem LV (h:tO k gs c tree) {f:Nat} {d:ByteArray} : ∀it∈mZ k gs c tree f d,it.time<9223372036854775808:=by
 intro it ha;obtain⟨e,he,rfl⟩:=aS.1 ha;exact h.time e (fm.1 he).1
theorem oZ (h:tO k gs c tree) {f:Nat} {d:ByteArray} (hf:512<f+1+(bl d).length) {e:dl} (he:e∈dF tree d):(bl e.path).length<=512/\512<f+(bl e.path).length/\1<=f:=by
 obtain⟨ha,hb⟩:=fm.1 he;have h3:=dm (h.ok.val e ha);have h4:=fz h3;have h5:=mp h3;rw[hb]at h4;omega
theorem LU (h:tO k gs c tree) {f:Nat} {d:ByteArray} (hf:512<f+1+(bl d).length) (hb:lY k gs c tree (f+1) d=false):jy (mZ k gs c tree f d)=true:=
 sj h.ok h.cut h.gens d _ fun e he hk=>by
  refine nS h.gens ?_;have h6:=oZ h hf he;obtain⟨g,rfl⟩: ∃g,f=g+1:=⟨f-1,by omega⟩;exact(mq ((mq hb).1 e he hk)).2
theorem GN (f:Nat) (d:ByteArray):(dS k gs c tree (f+1) d).1∈(dS k gs c tree (f+1) d).2:=by
 rw[fo]; simp
theorem sr (h:tO k gs c tree) {f:Nat} {d:ByteArray} (hf:512<f+1+(bl d).length) (hb:lY k gs c tree (f+1) d=false) (hM:qc k gs M (dS k gs c tree (f+1) d).2):
  gh M (bA k gs (dS k gs c tree (f+1) d).1)= .ok (mZ k gs c tree f d):=by
 unfold gh;rw[BZ (hM _ (GN f d))];simp only;have h1:=(mq hb).2;rw[fo]at h1 ⊢;simp only at h1 ⊢;rw[Mm (LU h hf hb) (LV h) h1]
end
section
variable {visit : cy → Except Int (List cg)}
def oT (visit:cy->Except Int (List cg)) (st:List cy×List cy) (r:cy):Prop:= ∃l,visit r= .ok l/\ ∀it∈l,(∀c∈it.chunks,c∈st.2)/\(it.kind=2->it.node∈st.1/\it.node∈st.2)
structure rP (st st' : List cy × List cy) : Prop where
 ex: ∀q∈st.1,q∈st'.1
 li: ∃t,st'.2=st.2++t
theorem rP.refl (st:List cy×List cy):rP st st:=⟨fun _ h=>h,[],by simp⟩
theorem rP.trans {a b c:List cy×List cy} (h:rP a b) (h2:rP b c):rP a c:=⟨fun q hq=>h2.ex q (h.ex q hq),by
 obtain⟨t,ht⟩:=h.li;obtain⟨s,hs⟩:=h2.li;exact⟨t++s,by rw[hs,ht,bi]⟩⟩
theorem rP.mem {a b:List cy×List cy} (h:rP a b) {q:cy} (hq:q∈a.2):q∈b.2:=by
 obtain⟨t,ht⟩:=h.li;rw[ht]; exact fL _ hq
theorem oT.mono {a b:List cy×List cy} (h:rP a b) {r:cy} (hd:oT visit a r):oT visit b r:=by
 obtain⟨l,h1,h2⟩:=hd;exact⟨l,h1,fun it ha=>⟨fun c hc=>h.mem ((h2 it ha).1 c hc),fun hk=>⟨h.ex _ ((h2 it ha).2 hk).1,h.mem ((h2 it ha).2 hk).2⟩⟩⟩
theorem oz (r:cy) (rs:List cy): ∃t,cO r rs=rs++t:=by
 unfold cO
 split
 ·exact⟨[],by simp⟩
 ·exact⟨[r],rfl⟩
theorem sq : ∀(cs rs:List cy),∃t,fi cs rs=rs++t
 | [],rs=>⟨[],by simp[fi]⟩
 | c::cs,rs=>by
  obtain⟨t,ht⟩:=oz c rs;obtain⟨s,hs⟩:=sq cs (cO c rs);exact⟨t++s,by
   show fi cs (cO c rs)=_
   rw[hs,ht,bi]⟩
def Lc (visit:cy->Except Int (List cg)) (f:cy->List cy×List cy->Option (Int×(List cy×List cy))):Prop:= ∀(S:List cy) (r:cy) (st st':List cy×List cy),f r st=some (0,st')->(∀q∈st.1,q∈S\/oT visit st q)->
 rP st st'/\r∈st'.1/\r∈st'.2/\ ∀q∈st'.1,q∈S\/oT visit st' q
theorem Bi {f:cy->List cy×List cy->Option (Int×(List cy×List cy))} (hf:Lc visit f) (S:List cy): ∀(l:List cg) (st st':List cy×List cy),jc f l st=some (0,st')->(∀q∈st.1,q∈S\/oT visit st q)->
  rP st st'/\(∀it∈l,(∀c∈it.chunks,c∈st'.2)/\(it.kind=2->it.node∈st'.1/\it.node∈st'.2))/\ ∀q∈st'.1,q∈S\/oT visit st' q
 | [],st,st',h,hi=>by
  rw[jc,aV,cI]at h;obtain⟨-,rfl⟩:=h;exact⟨rP.refl _,(fun it hit=>by cases hit),hi⟩
 | it::l,st,st',h,hi=>by
  have hsub:rP st (st.1,fi it.chunks st.2):=⟨fun _ hq=>hq,sq _ _⟩;have hi2: ∀q∈(st.1,fi it.chunks st.2).1,q∈S\/oT visit (st.1,fi it.chunks st.2) q:=fun q hq=>(hi q hq).imp id (oT.mono hsub)
  have hch: ∀c∈it.chunks,c∈(st.1,fi it.chunks st.2).2:=fun c hc=>(pI _).2 (.inr hc)
  rw[jc]at h
  by_cases hk:it.kind≠2
  ·rw[if_pos hk]at h;obtain⟨h1,h2,h3⟩:=Bi hf S l _ _ h hi2;refine⟨hsub.trans h1,fun x hx=> ?_,h3⟩
   rcases aZ.1 hx with rfl | hx
   ·exact⟨fun c hc=>h1.mem (hch c hc),fun h=>absurd h hk⟩
   ·exact h2 x hx
  ·rw[if_neg hk,dx]at h;obtain⟨p,hp,h⟩:=h
   by_cases h0:p.1=0
   ·rw[if_neg (by simpa using h0)]at h;obtain⟨p1,p2⟩:=p;simp only at h0;subst h0;obtain⟨k1,k2,k3,k4⟩:=hf S it.node _ p2 hp hi2;obtain⟨h1,h2,h3⟩:=Bi hf S l _ _ h k4;refine⟨(hsub.trans k1).trans h1,fun x hx=> ?_,h3⟩
    rcases aZ.1 hx with rfl | hx
    ·exact⟨fun c hc=>h1.mem (k1.mem (hch c hc)),fun _=>⟨h1.ex _ k2,h1.mem k3⟩⟩
    ·exact h2 x hx
   ·rw[if_pos (by simpa using h0),aV]at h;rw[h]at h0;exact absurd rfl h0
theorem Ik (h0: ∀r,visit r≠ .error 0): ∀n,Lc visit (fq visit n)
 | 0=>fun S r st st' h _=>by simp[fq]at h
 | n+1=>fun S r st st' h hi=>by
  have hsub:rP st (st.1,cO r st.2):=⟨fun _ hq=>hq,oz _ _⟩;have hrm:r∈cO r st.2:=lC.2 (.inr rfl);rw[fq]at h
  by_cases hr:r∈st.1
  ·rw[if_pos hr,aV,cI]at h;obtain⟨-,rfl⟩:=h;exact⟨hsub,hr,hrm,fun q hq=>(hi q hq).imp id (oT.mono hsub)⟩
  ·rw[if_neg hr]at h
   cases hv:visit r with
   | error x=>
    rw[hv]at h;simp only[aV,cI]at h;rw[h.1]at hv;exact absurd hv (h0 r)
   | ok l=>
    rw[hv]at h;simp only at h;have hsub2:rP st (st.1++[r],cO r st.2):=⟨fun q hq=>fL _ hq,oz _ _⟩;obtain⟨h1,h2,h3⟩:=Bi (Ik h0 n) (r::S) l _ _ h (fun q hq=>by
     rcases aT.1 hq with hq | hq
     ·exact(hi q hq).imp (fun h=>fM _ h) (oT.mono hsub2)
     ·exact .inl (by rw[aM.1 hq]; exact List.mem_cons_self))
    refine⟨hsub2.trans h1,h1.ex r (lu _ (aM.2 rfl)),h1.mem hrm,fun q hq=> ?_⟩
    rcases h3 q hq with h4 | h4
    ·rcases aZ.1 h4 with rfl | h4
     ·exact .inr ⟨l,hv,h2⟩
     ·exact .inl h4
    ·exact .inr h4
theorem KE {n:Nat} {r:cy} {x:Int} {st':List cy×List cy} (h:fq visit (n+2) r ([],[])=some (x,st')): ∃t,st'.2=r::t:=by
 rw[fq,if_neg (by simp)]at h;have hm:cO r []=[r]:=by unfold cO; rw[if_neg (by simp)]; rfl
 have ha: ∀(f:cy->List cy×List cy->Option (Int×(List cy×List cy))),(∀r st p,f r st=some p-> ∃t,p.2.2=st.2++t)-> ∀(l:List cg) (st:List cy×List cy) (p:Int×(List cy×List cy)),jc f l st=some p-> ∃t,p.2.2=st.2++t:=by
  intro f hf l
  induction l with
  | nil=>
   intro st p h;rw[jc,aV]at h;subst h;exact⟨[],by simp⟩
  | cons it l ih=>
   intro st p h;obtain⟨t,ht⟩:=sq it.chunks st.2;rw[jc]at h
   split at h
   ·obtain⟨s,hs⟩:=ih _ _ h;exact⟨t++s,by rw[hs,ht,bi]⟩
   ·rw[dx]at h;obtain⟨y,hy,h⟩:=h;obtain⟨u,hu⟩:=hf _ _ _ hy
    split at h
    ·simp only[aV]at h;subst h;exact⟨t++u,by rw[hu,ht,bi]⟩
    ·obtain⟨s,hs⟩:=ih _ _ h;exact⟨t++(u++s),by rw[hs,hu,ht]; simp⟩
 have hb: ∀n r st p,fq visit n r st=some p-> ∃t,p.2.2=st.2++t:=by
  intro n
  induction n with
  | zero=>intro r st p h; simp[fq]at h
  | succ n ih=>
   intro r st p h;obtain⟨t,ht⟩:=oz r st.2;rw[fq]at h
   split at h
   ·simp only[aV]at h;subst h;exact⟨t,ht⟩
   ·split at h
    ·simp only[aV]at h;subst h;exact⟨t,ht⟩
    ·obtain⟨s,hs⟩:=ha _ ih _ _ _ h;exact⟨t++s,by rw[hs,ht,bi]⟩
 split at h
 ·simp only[aV,cI]at h;obtain⟨-,rfl⟩:=h;exact⟨[],hm⟩
 ·obtain⟨s,hs⟩:=ha _ (hb _) _ _ _ h;simp only at hs;rw[hm]at hs;exact⟨s,hs⟩
structure ON (visit : cy → Except Int (List cg)) (G U : cy → Prop) : Prop where
 there: ∀r,G r-> ∃l,visit r= .ok l/\ ∀it∈l,(it.kind=2->G it.node)/\ ∀c∈it.chunks,U c
 self: ∀r,G r->U r
def Lb (G U:cy->Prop) (f:cy->List cy×List cy->Option (Int×(List cy×List cy))):Prop:= ∀(r:cy) (st st':List cy×List cy) (x:Int),G r->(∀q∈st.2,U q)->f r st=some (x,st')->x=0/\ ∀q∈st'.2,U q
theorem Bh {G U:cy->Prop} {f:cy->List cy×List cy->Option (Int×(List cy×List cy))} (hf:Lb G U f): ∀(l:List cg) (st st':List cy×List cy) (x:Int),(∀it∈l,(it.kind=2->G it.node)/\ ∀c∈it.chunks,U c)->(∀q∈st.2,U q)->jc f l st=some (x,st')->x=0/\ ∀q∈st'.2,U q
 | [],st,st',x,_,hi,h=>by
  rw[jc,aV,cI]at h;obtain⟨rfl,rfl⟩:=h;exact⟨rfl,hi⟩
 | it::l,st,st',x,hl,hi,h=>by
  have h1:=hl it (by simp);have hi2: ∀q∈fi it.chunks st.2,U q:=fun q hq=>by
   rcases(pI _).1 hq with hq | hq
   ·exact hi q hq
   ·exact h1.2 q hq
  rw[jc]at h
  by_cases hk:it.kind≠2
  ·rw[if_pos hk]at h;exact Bh hf l _ _ _ (fun y hy=>hl y (by simp[hy])) hi2 h
  ·rw[if_neg hk,dx]at h;obtain⟨p,hp,h⟩:=h;obtain⟨p1,p2⟩:=p;obtain⟨h2,h3⟩:=hf it.node _ p2 p1 (h1.1 (by simpa using hk)) hi2 hp;subst h2;rw[if_neg (by simp)]at h;exact Bh hf l _ _ _ (fun y hy=>hl y (by simp[hy])) h3 h
theorem Ij {G U:cy->Prop} (hG:ON visit G U): ∀n,Lb G U (fq visit n)
 | 0=>fun r st st' x _ _ h=>by simp[fq]at h
 | n+1=>fun r st st' x hr hi h=>by
  have hi2: ∀q∈cO r st.2,U q:=fun q hq=>by
   rcases lC.1 hq with hq | rfl
   ·exact hi q hq
   ·exact hG.self _ hr
  rw[fq]at h
  split at h
  ·rw[aV,cI]at h;obtain⟨rfl,rfl⟩:=h;exact⟨rfl,hi2⟩
  ·obtain⟨l,hv,hl⟩:=hG.there r hr;rw[hv]at h;exact Bh (Ij hG n) l _ _ _ hl hi2 h
end
section
variable {k : dh} {gs : List (ByteArray × Int)} {c : fN} {tree : List dl} {M : List (ByteArray × List UInt8)}
theorem JD (M:List (ByteArray×List UInt8)) (r:cy):gh M r≠ .error 0:=by
 intro h;unfold gh at h
 cases hc:je M r with
 | error x=>
  rw[hc]at h;simp only[eL]at h;subst h;unfold je at hc
  split at hc
  ·simp at hc
  ·split at hc<;> simp at hc
 | ok b=>
  rw[hc]at h;simp only at h
  split at h<;> simp at h
def PB (k:dh) (gs:List (ByteArray×Int)) (c:fN) (tree:List dl) (M:List (ByteArray×List UInt8)) (r:cy):Prop:= ∃f d,(bl d).length<=512/\512<f+1+(bl d).length/\lY k gs c tree (f+1) d=false/\qc k gs M (dS k gs c tree (f+1) d).2/\(∀x∈(dS k gs c tree (f+1) d).2,x∈(dS k gs c tree 514 ⟨#[]⟩).2)/\r=bA k gs (dS k gs c tree (f+1) d).1
def PX (k:dh) (gs:List (ByteArray×Int)) (c:fN) (tree:List dl) (r:cy):Prop:= ∃x∈(dS k gs c tree 514 ⟨#[]⟩).2,r=bA k gs x
theorem LQ {f:Nat} {d:ByteArray} {e:dl} (he:e∈dF tree d) {x:List UInt8} (hx:x∈ik k gs c tree f e):x∈(dS k gs c tree (f+1) d).2:=by
 rw[fo];exact fL _ (dz.2 ⟨e,he,hx⟩)
theorem ug {f:Nat} {d:ByteArray} {e:dl} (he:e∈dF tree d) (hk:e.kind=2) {x:List UInt8} (hx:x∈(dS k gs c tree f e.path).2):x∈(dS k gs c tree (f+1) d).2:=by
 refine LQ he ?_;unfold ik;rw[if_neg (by omega),if_pos hk];exact hx
theorem sZ {d:ByteArray} {e:dl} {r:cy} (hk:e.kind=2):(cS k gs c d e r).node=r:=by
 show(if e.kind=2 then _ else er)=_
 rw[if_pos hk]
theorem uh {d:ByteArray} {e:dl} {r:cy} (hk:e.kind=1):(cS k gs c d e r).chunks=(fZ c e.data).map (bA k gs):=by
 show(if e.kind=1 then _ else [])=_
 rw[if_pos hk]
theorem Jb (h:tO k gs c tree):ON (gh M) (PB k gs c tree M) (PX k gs c tree) where
 there:=by
  rintro r ⟨f,d,h1,h2,hb,hM,ha,rfl⟩;refine⟨_,sr h h2 hb hM,fun it hf=> ?_⟩;obtain⟨e,he,rfl⟩:=aS.1 hf;obtain⟨h3,h4,h5⟩:=oZ h h2 he
  constructor
  ·intro hk;have hc:e.kind=2:=hk;obtain⟨g,rfl⟩: ∃g,f=g+1:=⟨f-1,by omega⟩;exact⟨g,e.path,h3,h4,(mq hb).1 e he hc,fun x hx=>hM x (ug he hc hx),fun x hx=>ha x (ug he hc hx),sZ hc⟩
  ·intro r hr
   by_cases hk:e.kind=1
   ·rw[uh hk]at hr;obtain⟨x,hx,rfl⟩:=aS.1 hr;exact⟨x,ha x (LQ he (by unfold ik; rw[if_pos hk]; exact hx)),rfl⟩
   ·have hd:r∈(if e.kind=1 then(fZ c e.data).map (bA k gs)else []):=hr;rw[if_neg hk]at hd
    cases hd
 self:=by
  rintro r ⟨f,d,h1,h2,hb,hM,ha,rfl⟩;exact⟨_,ha _ (GN f d),rfl⟩
theorem Cp (h:tO k gs c tree) {st:List cy×List cy} (hd: ∀q∈st.1,oT (gh M) st q): ∀(f:Nat) (d:ByteArray),512<f+1+(bl d).length->lY k gs c tree (f+1) d=false->qc k gs M (dS k gs c tree (f+1) d).2->
  bA k gs (dS k gs c tree (f+1) d).1∈st.1->bA k gs (dS k gs c tree (f+1) d).1∈st.2-> ∀x∈(dS k gs c tree (f+1) d).2,bA k gs x∈st.2
 | f,d,h2,hb,hM,hr,hr2,x,hx=>by
  obtain⟨l,hv,hall⟩:=hd _ hr;rw[sr h h2 hb hM,dp]at hv;subst hv;have hx2:=hx;rw[fo]at hx2
  rcases aT.1 hx2 with hx3 | hx3
  ·obtain⟨e,he,hxe⟩:=dz.1 hx3;have hit:=hall (cS k gs c d e (bA k gs (dS k gs c tree f e.path).1)) (aS.2 ⟨e,he,rfl⟩);unfold ik at hxe
   by_cases hk1:e.kind=1
   ·rw[if_pos hk1]at hxe;refine hit.1 _ ?_;rw[uh hk1];exact aS.2 ⟨x,hxe,rfl⟩
   ·rw[if_neg hk1]at hxe
    by_cases hk2:e.kind=2
    ·rw[if_pos hk2]at hxe;obtain⟨h3,h4,h5⟩:=oZ h h2 he
     match f,h5 with
     | g+1,_=>
      have h6:=hit.2 hk2;rw[sZ hk2]at h6;exact Cp h hd g e.path h4 ((mq hb).1 e he hk2) (fun y hy=>hM y (ug he hk2 hy)) h6.1 h6.2 x hxe
    ·rw[if_neg hk2]at hxe; cases hxe
  ·rw[aM.1 hx3];rw[fo]at hr2;exact hr2
 termination_by f=>f
structure KR (k : dh) (gs : List (ByteArray × Int)) (c : fN) (tree : List dl) (rs : List cy) : Prop where
 nodup:rs.Nodup
 head: ∃t,rs=bA k gs (dS k gs c tree 514 ⟨#[]⟩).1::t
 all: ∀r,r∈rs<-> ∃x∈(dS k gs c tree 514 ⟨#[]⟩).2,r=bA k gs x
theorem Mg (h:tO k gs c tree) (hb:lY k gs c tree 514 ⟨#[]⟩=false) (hM:qc k gs M (dS k gs c tree 514 ⟨#[]⟩).2): ∃rs,zM M (bA k gs (dS k gs c tree 514 ⟨#[]⟩).1)= .ok rs/\KR k gs c tree rs:=by
 have h0:(bl (⟨#[]⟩:ByteArray)).length=0:=rfl;have hc:PB k gs c tree M (bA k gs (dS k gs c tree 514 ⟨#[]⟩).1):=⟨513,⟨#[]⟩,by omega,by omega,hb,hM,fun _ hx=>hx,rfl⟩;obtain⟨x,st',h1,h2⟩:=As M (bA k gs (dS k gs c tree 514 ⟨#[]⟩).1);obtain⟨h3,h4⟩:=Ij (Jb (M:=M) h) _ _ _ _ _ hc (fun q hq=>by cases hq) h1;subst h3;obtain⟨h5,h6,h7,h8⟩:=Ik (JD M) _ [] _ _ _ h1 (fun q hq=>by cases hq)
 have hd: ∀q∈st'.1,oT (gh M) st' q:=fun q hq=>(h8 q hq).resolve_left (by simp)
 have ha:zM M (bA k gs (dS k gs c tree 514 ⟨#[]⟩).1)= .ok st'.2:=by
  unfold zM lT;rw[if_pos (nS h.gens (mq hb).2),h1]
  rfl
 refine⟨_,ha,h2.l1, ?_,fun r=>⟨h4 r,fun⟨y,hy,e⟩=> ?_⟩⟩
 ·obtain⟨t,ht⟩:=KE (by unfold mQ at h1; exact h1);exact⟨t,ht⟩
 ·rw[e];exact Cp h hd 513 ⟨#[]⟩ (by omega) hb hM h6 h7 y hy
end
section
variable {k : dh} {gs : List (ByteArray × Int)} {c : fN} {tree : List dl} {M : List (ByteArray × List UInt8)}
theorem Gy {A:dl->List (List UInt8)} {B:dl->List dl} : ∀(L:List dl),(∀e∈L,(A e).length<=61*(B e).length)->(L.flatMap A).length<=61*(L.flatMap B).length
 | [],_=>by simp
 | e::L,h=>by
  have h1:=h e (by simp);have h2:=Gy L fun x hx=>h x (by simp[hx])
  rw[bu,bu,an,an];omega
theorem Gx {B:dl->List dl} {L:List dl} {e:dl} (he:e∈L):(B e).length<=(L.flatMap B).length:=by
 obtain⟨s,t,rfl⟩:=iq he;rw[bP,bu,an,an];omega
theorem GM (hc:jG c=true) (hs:ny tree): ∀(f:Nat) (d:ByteArray),(dS k gs c tree f d).2.length<=61*(pP tree f d).length+1
 | 0,d=>by simp[dS]
 | f+1,d=>by
  have hk: ∀e∈dF tree d,(ik k gs c tree f e).length<=61*(e::(if e.kind=2 then pP tree f e.path else [])).length:=by
   intro e he;unfold ik
   by_cases h1:e.kind=1
   ·rw[if_pos h1];have h2:=vE hc e.data;have h3:=hs.data e (fm.1 he).1;rw[aD];omega
   ·rw[if_neg h1]
    by_cases h2:e.kind=2
    ·rw[if_pos h2,if_pos h2,aD];have:=GM hc hs f e.path;omega
    ·rw[if_neg h2]; simp
  have:=Gy (dF tree d) hk;rw[fo]
  show(_++[_]).length<=61*((dF tree d).flatMap fun e=>e::(if e.kind=2 then pP tree f e.path else [])).length+1
  rw[an,bT];omega
theorem GL (hc:jG c=true) (hs:ny tree) (h:BA tree):(dS k gs c tree 514 ⟨#[]⟩).2.length<=733:=by
 have h1:=GM (k:=k) (gs:=gs) hc hs 514 ⟨#[]⟩;rw[Bk h (by omega)]at h1;have:=hs.len;omega
def szF (M:List (ByteArray×List UInt8)):Nat->cy->Nat
 | 0,_=>0
 | n+1,r=>match gh M r with
  | .ok l=>(l.map fun it=>1+if it.kind=2 then szF M n it.node else 0).sum
  | .error _=>0
theorem FK (h:tO k gs c tree): ∀(f:Nat) (d:ByteArray) (n:Nat),(bl d).length<=512->512<f+(bl d).length->lY k gs c tree f d=false->qc k gs M (dS k gs c tree f d).2->f<=n->szF M n (bA k gs (dS k gs c tree f d).1)=(pP tree f d).length
 | 0,d,n,h1,h2,_,_,_=>by omega
 | f+1,d,n,h1,h2,hb,hM,hn=>by
  obtain⟨m,rfl⟩: ∃m,n=m+1:=⟨n-1,by omega⟩;unfold szF;rw[sr h h2 hb hM]
  show((mZ k gs c tree f d).map _).sum=((dF tree d).flatMap fun e=>e::(if e.kind=2 then pP tree f e.path else [])).length
  unfold mZ;rw[jI,List.length_flatMap]
  congr 1
  refine List.map_congr_left fun e he=> ?_
  simp only[Function.comp];have hkk:(cS k gs c d e (bA k gs (dS k gs c tree f e.path).1)).kind=e.kind:=rfl;rw[hkk,aD]
  by_cases hk:e.kind=2
  ·rw[if_pos hk,if_pos hk,sZ hk];obtain⟨h3,h4,h5⟩:=oZ h h2 he;have hb2:=(mq hb).1 e he hk;rw[FK h f e.path m h3 h4 hb2 (fun x hx=>hM x (ug he hk hx)) (by omega)];omega
  ·rw[if_neg hk,if_neg hk]; simp
def InT (k:dh) (gs:List (ByteArray×Int)) (c:fN) (tree:List dl) (M:List (ByteArray×List UInt8)) (n:Nat) (x:List UInt8):Prop:=(∃e∈tree,e.kind=1/\x∈fZ c e.data)\/ ∃f d,(bl d).length<=512/\512<f+(bl d).length/\lY k gs c tree f d=false/\qc k gs M (dS k gs c tree f d).2/\f<=514/\x=(dS k gs c tree f d).1/\(pP tree f d).length<=n
theorem wQ (h:tO k gs c tree): ∀(f:Nat) (d:ByteArray),(bl d).length<=512->512<f+(bl d).length->lY k gs c tree f d=false->qc k gs M (dS k gs c tree f d).2->f<=514-> ∀x∈(dS k gs c tree f d).2,InT k gs c tree M (pP tree f d).length x
 | 0,d,h1,h2,_,_,_,_,_=>by omega
 | f+1,d,h1,h2,hb,hM,hf,x,hx=>by
  have hx0:=hx;rw[fo]at hx
  rcases aT.1 hx with hx | hx
  ·obtain⟨e,he,hxe⟩:=dz.1 hx;unfold ik at hxe
   by_cases hk1:e.kind=1
   ·rw[if_pos hk1]at hxe;exact .inl ⟨e,(fm.1 he).1,hk1,hxe⟩
   ·rw[if_neg hk1]at hxe
    by_cases hk:e.kind=2
    ·rw[if_pos hk]at hxe;obtain⟨h3,h4,h5⟩:=oZ h h2 he;have hb2:=(mq hb).1 e he hk
     rcases wQ h f e.path h3 h4 hb2 (fun x hx=>hM x (ug he hk hx)) (by omega) x hxe with h6 | ⟨f',d',a1,a2,a3,a4,a5,a6,a7⟩
     ·exact .inl h6
     ·refine .inr ⟨f',d',a1,a2,a3,a4,a5,a6, ?_⟩;have h7:=Gx (B:=fun e=>e::(if e.kind=2 then pP tree f e.path else [])) he;simp only[if_pos hk,aD]at h7
      show _<=((dF tree d).flatMap fun e=>e::(if e.kind=2 then pP tree f e.path else [])).length
      omega
    ·rw[if_neg hk]at hxe
     cases hxe
  ·rw[aM]at hx;refine .inr ⟨f+1,d,h1,h2,hb,hM,hf, ?_,ak _⟩;rw[hx,fo]
theorem Oc {l:List cg} {it:cg} (h:it∈l):(fu it).length<=(fO l).length:=by
 obtain⟨s,t,rfl⟩:=iq h;unfold fO;rw[bP,bu];simp only[an];omega
theorem xA (x:List UInt8):32<=(ff (bA k gs x)).length:=by
 have h1:(bA k gs x).name.size=32:=kr _ _ _;unfold ff;rw[an,<-bh,h1];omega
theorem LZ {d:ByteArray} {f:Nat} {e:dl} {x:List UInt8} (hx:x∈ik k gs c tree f e):32<=(fu (cS k gs c d e (bA k gs (dS k gs c tree f e.path).1))).length:=by
 obtain⟨it,ha⟩: ∃it,it=cS k gs c d e (bA k gs (dS k gs c tree f e.path).1):=⟨_,rfl⟩;rw[<-ha];have hc:it.kind=e.kind:=by rw[ha]; rfl
 unfold ik at hx;have key:32<=(kh it).length:=by
  unfold kh
  by_cases hb:e.kind=1
  ·rw[if_pos hb]at hx;rw[if_pos (hc.trans hb)];have hd:it.chunks=(fZ c e.data).map (bA k gs):=by rw[ha]; exact uh hb
   obtain⟨s,t,he⟩:=iq hx;rw[hd,he,aN,cB,bP,bu];have:=xA (k:=k) (gs:=gs) x;simp only[an];omega
  ·rw[if_neg hb]at hx
   by_cases hk:e.kind=2
   ·rw[if_neg (by omega),if_pos (hc.trans hk)];have hn:it.node=bA k gs (dS k gs c tree f e.path).1:=by rw[ha]; exact sZ hk
    rw[hn];exact xA _
   ·rw[if_neg hk]at hx
    cases hx
 unfold fu;simp only[an];omega
theorem MK (h:tO k gs c tree) (hm:c.mx<=31) (hb:lY k gs c tree 514 ⟨#[]⟩=false) (hM:qc k gs M (dS k gs c tree 514 ⟨#[]⟩).2) {x:List UInt8} (hx:x∈(dF tree ⟨#[]⟩).flatMap (ik k gs c tree 513)):x≠(dS k gs c tree 514 ⟨#[]⟩).1:=by
 intro hf;obtain⟨e,he,ha⟩:=dz.1 hx;have h1:32<=(dS k gs c tree 514 ⟨#[]⟩).1.length:=by
  rw[fo];exact ay (LZ ha) (Oc (aS.2 ⟨e,he,rfl⟩))
 rw[<-hf]at h1;have hc: ∀(y:List UInt8),x∈fZ c y->False:=fun y hy=>by
  have hv:=kW.1 h.cut;have:=uq (mx:=c.mx.toNat) (by omega) (nn) x hy;omega
 have hz:(bl ⟨#[]⟩).length=0:=rfl;have hs:=FK h 514 ⟨#[]⟩ 514 (by omega) (by omega) hb hM (ak _);rw[Bk h.ok (by omega)]at hs;have hd:((dF tree ⟨#[]⟩).flatMap fun e=>e::(if e.kind=2 then pP tree 513 e.path else []))=tree:=Bk (f:=514) h.ok (by omega);unfold ik at ha
 by_cases hg:e.kind=1
 ·rw[if_pos hg]at ha;exact hc _ ha
 ·rw[if_neg hg]at ha
  by_cases hk:e.kind=2
  ·rw[if_pos hk]at ha;obtain⟨h3,h4,h5⟩:=oZ (f:=513) h (by omega) he;have hh:=(mq hb).1 e he hk;have h7:=Gx (B:=fun e=>e::(if e.kind=2 then pP tree 513 e.path else [])) he;rw[hd]at h7;simp only[if_pos hk,aD]at h7
   rcases wQ h 513 e.path h3 h4 hh (fun x hx=>hM x (ug he hk hx)) (by omega) x ha with⟨e',_,_,h6⟩ | ⟨f',d',a1,a2,a3,a4,a5,a6,a7⟩
   ·exact hc _ h6
   ·have h8:=FK h f' d' 514 a1 a2 a3 a4 a5;rw[<-a6,hf,hs]at h8;omega
  ·rw[if_neg hk]at ha
   cases ha
end
open Go Go.RowKit Go.Maps
def sA (l:List dl):Bool:=l.all (fun e=>decide (e.data.length<=60)) && decide (l.length<=12)
theorem eI.lts {S:Nat->Prop} {w:World} {v:Value} {l:List dl} (h:eI S w v l):eI (· <w.heap.size) w v l:=
 cP.mono h (by omega) (fun _ hk _=>hk) (fun _ _ _ ⟨v,h1,h2,h3⟩=>⟨v,h1,cC.mono h2 (fun _ hk _=>hk) (by omega),h3⟩)
theorem kK.lts {S:Nat->Prop} {w:World} {v:Value} {l:List (ByteArray×Int)} (h:kK S w v l):kK (· <w.heap.size) w v l:=by
 rcases h with h | ⟨b,h1,_,h2⟩
 ·exact .inl h
 ·exact .inr ⟨b,h1,h2.lt,h2⟩
theorem DI (S:Nat->Prop) (l:List dl) (v:Value) (w:World) (hv:eI S w v l):Calls Tryz.prog 21 #[v] w fun e w'=>e= .returned (.bool (sA l))/\Below w.heap.size w w':=by
 obtain⟨a,c,rfl,hc,hm,-⟩:=cP.shape hv nx.len;unfold maxLen at hm;obtain⟨n,hn⟩: ∃n,n=l.length:=⟨_,rfl⟩;rw[<-hn]at hv hc ⊢;have HV:=am hv;have HN:=am hn;clear hv hn
 go_enter Tryz.func21,Tryz.ntmps21
 go_wp2_with fail
 go_loopw [3] (fun i wr=> ∃j:Nat,j<=n/\i= .int .i64 (j:Int)/\(∀e∈l.take j,e.data.length<=60)/\wr=w) (fun i _=>n-(intOf i).toNat)
 case atStart=>exact⟨0,aW _,rfl,by simp,rfl⟩
 case round=>
  obtain⟨j,hj,rfl,hb,rfl⟩:=hrel;have ha:=am hb;clear hb
  by_cases hp:j<n
  ·obtain⟨e,he⟩: ∃e,l[j]? =some e:=⟨l[j]'(by rw[<-HN.o]; exact hp),by simp⟩;obtain⟨b,o,dv,rfl,-,-,hf,-,-,p0,p1,p2,p3,p4,p5⟩:=ki HV.o he;obtain⟨da,dc,ho,-,-⟩:=eH.slice hf
   subst ho;have HE:=am he;obtain⟨dn,hg⟩: ∃d,d=e.data.length:=⟨_,rfl⟩;rw[<-hg]at p4;have hh:=am hg;clear he hf p0 p1 p2 p3 p5 hg
   by_cases hd:dn<=60
   ·have hl: ¬60<(dn:Int):=by omega
    have hk:=am (show ∀e∈l.take (j+1),e.data.length<=60 from by
     rw[dL HE.o];intro x hx
     rcases aT.1 hx with hx | hx
     ·exact ha.o x hx
     ·rw[aM]at hx;subst hx;rw[<-hh.o]; exact hd)
    go_wp2_with fail
    go_roundw
    case rel=>exact⟨j+1,by omega,by go_num,hk.o,trivial⟩
    case measure=>simp[intOf]; omega
   ·have hl:60<(dn:Int):=by omega
    have HF:=am (show sA l=false by
     unfold sA;rw[Bool.and_eq_false_iff]
     left
     rw[eY];intro h;have:=cj.1 h e (aQ HE.o);rw[aL,<-hh.o]at this;exact hd this)
    go_wp2_with fail;go_ret;exact⟨bW HF.o.symm,au _ _⟩
  ·obtain rfl:j=n:=by omega
   have HB:=am (show sA l=decide ((j:Int)<=12) by
    unfold sA;have h1:l.all (fun e=>decide (e.data.length<=60))=true:=by
     rw[cj];intro x hx;rw[aL];exact ha.o x (by rw[bB (by rw[<-HN.o]; exact ak _)]; exact hx)
    rw[h1,gT,<-HN.o]
    congr 1
    simp only[eq_iff_iff]
    omega)
   go_wp2_with fail;go_ret;exact⟨bW HB.o.symm,au _ _⟩
def PR (r:Except Int (cy×List cZ)):cy×List cZ×Int:=match r with
 | .error x=>(⟨⟨#[]⟩,0,0⟩,[],x)
 | .ok p=>(p.1,p.2,0)
theorem sG.flat {res:Except Int (cy×List cZ)} {r:cy} {bs:List cZ} {x:Int} {w w':World} {e:Ending} (h:sG res w e w') (he:PR res=(r,bs,x)):
  Below w.heap.size w w'/\ ∃a cap zs,e= .returned (.tuple #[ef r, .slice a bs.length cap, .int .i64 x])/\zs.map Prod.snd=bs/\ii w' w.heap.size (.slice a bs.length cap) zs/\bs.length<=cap/\cap<=maxLen:=by
 obtain⟨hb,h⟩:=h;refine⟨hb, ?_⟩
 cases res with
 | error y=>
  obtain⟨rfl,-⟩:=h
  cases he
  exact⟨none,0,[],rfl,rfl,⟨bM _ _ _ _,by simp⟩,ak _,aW _⟩
 | ok p=>
  obtain⟨v,zs,rfl,hz,ho⟩:=h
  cases he
  obtain⟨a,cap,rfl,h1,h2⟩:=aH ho.row;have hl:p.2.length=zs.length:=by rw[<-hz,aB]
  rw[<-hl]at h1 ho;exact⟨a,cap,zs,by rw[hl],hz,ho,h1,h2⟩
theorem nt {w w':World} {base n cap:Nat} {a:Option Addr} {zs:List mw} {bs:List cZ} (hz:zs.map Prod.snd=bs) (h:ii w base (.slice a n cap) zs) (hb:Below w.heap.size w w') {k:Nat} {b:cZ} (hk:bs[k]? =some b):
  ∃bk o za zc,a=some ⟨bk,o,none⟩/\w'.cell? ⟨bk,o+k*4,none⟩=some (.string b.ref.name)/\w'.cell? ⟨bk,o+k*4+1,none⟩=some (.int .i64 b.ref.gen)/\w'.cell? ⟨bk,o+k*4+2,none⟩=some (.int .i64 b.ref.size)/\w'.cell? ⟨bk,o+k*4+3,none⟩=some (.slice za b.con.length zc)/\bH (fun _=>True) w' (.slice za b.con.length zc) b.con:=by
 rw[<-hz,bn,gk]at hk;obtain⟨z,ha,rfl⟩:=hk;have h':=h.below hb;obtain⟨bk,o,rfl,-,hf,hc⟩:=sP (cL h'.row) ha;have hd:=cL (h'.dat z (aQ ha));obtain⟨_,za,zc,he,-,-,-⟩:=id hd;have q0:=hc 0 (by omega);have q1:=hc 1 (by omega);have q2:=hc 2 (by omega);have q3:=hc 3 (by omega);simp only[nD,ah,aj,cT]at q0 q1 q2 q3
 rw[he]at q3;exact⟨bk,o,za,zc,rfl,q0,q1,q2,q3,by rw[<-he]; exact hd.weak fun _ _=>trivial⟩
def nE (k:dh) (c:fN) (ts:List (List dl)):List cZ×Bool:=ts.foldl (fun s t=>gH k [] (dS k [] c t 514 ⟨#[]⟩).2 s) ([],false)
def tX (k:dh) (c:fN) (ts:List (List dl)):Bool:=(nE k c ts).2 || DT (nE k c ts).1
theorem Ca {k:dh} {c:fN} {ts:List (List dl)} {j:Nat} {t:List dl} (h:ts[j]? =some t):nE k c (ts.take (j+1))=gH k [] (dS k [] c t 514 ⟨#[]⟩).2 (nE k c (ts.take j)):=by
 rw[dL h];unfold nE;rw[dV]; rfl
def Gf (w:World) (sv:Value) (zs:List (Value×List dl)):Prop:=cC (· <w.heap.size) w 1 sv zs.length (zs.map Prod.fst)/\ ∀z∈zs,eI (· <w.heap.size) w z.1 z.2
theorem jQ.tree {w:World} {base bb:Nat} {k:dh} {c:fN} {tv gv v:Value} {lg:Bool} {s:List cZ×Bool} (h:jQ w base bb k c tv gv v lg s) (tv':Value) (hb:base<=bb):jQ (w.setCell ⟨bb,10,none⟩ tv') base bb k c tv' gv v lg s/\Below base w (w.setCell ⟨bb,10,none⟩ tv'):=by
 obtain⟨zs,h1,h2⟩:=h.own;have hs: ∀j,j≠bb->(w.setCell ⟨bb,10,none⟩ tv').heap[j]? =w.heap[j]? :=fun j hj=>aC _ _ _ _ hj
 have ha: ∀ {t:TypeId} {n sz:Nat} {u:Value} {xs:List Value},w.ownsRow base t sz u n xs->t≠130->(w.setCell ⟨bb,10,none⟩ tv').ownsRow base t sz u n xs:=fun hr ht=>eP hr (fun i hi hu=>hs i (fun e=>by
  obtain⟨cs,hc⟩:=bI hr hu;subst e;exact ht (bU hc h.box)))
 refine⟨⟨?_,zs,h1,ha h2.row (by decide),fun z hz=>ha (h2.dat z hz) (by decide)⟩,(au _ _).grown (cG w bb 10 _) ?_ (fun i hi=>by cases hi; exact hb)⟩
 ·have:=jb (k:=10) h.box tv'
  simpa [tA,eC,fU]using this
 ·have:=aw h.box; omega
theorem Fd {N:List ByteArray} {m:Nat} {x:ByteArray} (h:N[m]? =some x):decide ((N.take (m+1)).Nodup)=(decide ((N.take m).Nodup) && !(N.take m).any (fun y=>decide (y=x))):=by
 rw[dL h,dk,aL,aI,aL,gO,List.any_eq_false];rw[fc]
 constructor
 ·rintro⟨h1,_,h3⟩;exact⟨h1,fun y hy e=>h3 y hy x (by simp) (by simpa using e)⟩
 ·rintro⟨h1,h3⟩;refine⟨h1,by simp,fun a ha b hb e=> ?_⟩;rw[aM]at hb;subst hb;exact h3 a ha (by simpa using e)
theorem BL {N:List ByteArray} {m:Nat} {x y:ByteArray} (h:N[m]? =some y):(N.take (m+1)).any (fun z=>decide (z=x))=((N.take m).any (fun z=>decide (z=x)) || decide (y=x)):=by
 rw[dL h,List.any_append];simp
theorem OS (a b:ByteArray):(a.toList == b.toList)=decide (b=a):=by
 rw[dk,jP,aL]
 constructor
 ·intro h;exact(kL (by rw[<-fp,<-fp]; exact h)).symm
 ·rintro rfl; rfl
theorem Fp (k:dh) (c:fN) (zs:List (Value×List dl)) (sv:Value) (w:World) (hk:jx k=true) (hc:jG c=true) (hsd:c.seed<18446744073709551616) (hz:Gf w sv zs) (hn:zs.length<=10) (ht: ∀z∈zs,BA z.2/\ny z.2):
  Calls Tryz.prog 32 #[kq k,kj c,sv] w fun e w'=>e= .returned (.bool (tX k c (zs.map Prod.snd)))/\Below w.heap.size w w':=by
 obtain⟨_,sa,sc,rfl,HS,HU,-⟩:=id hz.1;unfold maxLen at HU;obtain⟨n,Hb⟩: ∃n,n=zs.length:=⟨_,rfl⟩;have HN:=am Hb;rw[<-Hb]at hz hn HS ⊢;have HZ:=am hz;have HK:=am hk;have HC:=am hc;have HM:=am hsd;have HT:=am ht;obtain⟨W0,hp⟩: ∃W0,W0=((w.alloc (.cells #[.string k.nm, .string k.st, .string k.ck, .string k.ix, .string k.tk] 42)).alloc (.cells #[.int .i64 c.mn, .int .i64 c.mx, .int .i64 c.win, .int .i64 c.bits, .int .u64 (c.seed:Int)] 45)):=⟨_,rfl⟩
 have HW:W0.heap.size=w.heap.size+2:=by rw[hp]; simp
 have Hp:Below w.heap.size w W0:=by rw[hp]; exact(eK).alloc (by simp) _
 have HG:=am (show W0.heap[w.heap.size]? =some (.cells #[.string k.nm, .string k.st, .string k.ck, .string k.ix, .string k.tk] 42 (0,0)) by rw[hp]; exact lW (dZ w _) _);have HF:=am (show W0.heap[w.heap.size+1]? =some (.cells #[.int .i64 c.mn, .int .i64 c.mx, .int .i64 c.win, .int .i64 c.bits, .int .u64 (c.seed:Int)] 45 (0,0)) by rw[hp]; exact pJ w _ _);obtain⟨bb,Hq⟩: ∃b,b=W0.heap.size:=⟨_,rfl⟩
 have hd:w.heap.size<=bb:=by omega
 have hA:bb=w.heap.size+2:=by omega
 clear hk hc hsd ht Hb hz;unfold kq kj
 go_enter Tryz.func32,Tryz.ntmps32
 go_upto_region 1 with(fail)
 rw[<-hp];clear hp;obtain⟨a0,a1,a2,a3,a4,_⟩:=aU HG.o;obtain⟨b0,b1,b2,b3,b4,_⟩:=aU HF.o
 go_upto_region 2 with(fail)
 obtain⟨W1,hy⟩: ∃W1:World,W1=W0.alloc (.cells (tA k c (.slice none 0 0) (.map none) (.slice none 0 0) false false).toArray 130):=⟨_,rfl⟩;have Ho:=am (show jQ W1 w.heap.size bb k c (.slice none 0 0) (.map none) (.slice none 0 0) false (nE k c ((zs.map Prod.snd).take 0))from⟨by rw[hy,Hq]; exact dZ W0 _,[],rfl,bM _ _ _ _,by simp⟩);have Hg:=am (show Below w.heap.size w W1 from ar Hp (by rw[hy]; exact eK))
 simp only[tA,eC,fU,aK,aJ]at hy;rw[<-hy,<-hA];clear hy Hp Hq hA HW a0 a1 a2 a3 a4 b0 b1 b2 b3 b4;go_wp2_with fail
 go_loopw [8] (fun i wr=> ∃(j:Nat) (tv v:Value),j<=n/\i= .int .i64 (j:Int)/\jQ wr w.heap.size bb k c tv (.map none) v false (nE k c ((zs.map Prod.snd).take j))/\Below w.heap.size w wr/\(nE k c ((zs.map Prod.snd).take j)).1.length<=j*733) (fun i _=>n-(intOf i).toNat)
 case atStart=>exact⟨0,_,_,aW _,rfl,Ho.o,Hg.o,ak _⟩
 case round=>
  obtain⟨j,tv,v,hj,rfl,hh,h3,Hw⟩:=hrel;have hx:=am hh;have Hj:=am h3;have Hm:=am Hw;have hF:=cC.same HZ.o.1 (fun i hi=>h3.block i hi);clear hh h3 Hw Ho Hg
  by_cases HO:j<n
  ·obtain⟨z,hz⟩: ∃z,zs[j]? =some z:=⟨zs[j]'(by rw[<-HN.o]; exact HO),by simp⟩;obtain⟨_,sa',sc',he,_,_,h0⟩:=hF
   rcases h0 with h0 | ⟨pb,po,HR,_,hf⟩
   ·have:=HN.o; omega
   ·cases he
    subst HR;have p0:=hf j z.1 (by rw[bn,hz]; rfl);have Hf:=aQ hz;obtain⟨Hd,hl⟩:=HT.o z Hf;have h4:=HZ.o.2 z Hf;obtain⟨ta,tc,hL,_,_,_⟩:=cP.shape h4 nx.len;rw[hL]at p0;obtain⟨tl,HA⟩: ∃l,l=z.2.length:=⟨_,rfl⟩;rw[<-HA]at p0 hL;have k10:=az (k:=10) hx.o.box;have g10:=dw (k:=10) hx.o.box;simp only[tA,eC,fU,aK,aJ,ai,aj,ah]at k10
    have hG:=hx.o.tree (.slice ta tl tc) hd;have hR:=am (Ca (k:=k) (c:=c) (j:=j) (t:=z.2) (show(zs.map Prod.snd)[j]? =some z.2 by rw[bn,hz]; rfl));have Hc:=GL (k:=k) (gs:=[]) (c:=c) HC.o hl Hd;have Hv:=Hm.o;obtain⟨s2,HQ⟩: ∃s2,s2=nE k c ((zs.map Prod.snd).take j):=⟨_,rfl⟩;rw[<-HQ]at hG Hv hR;obtain⟨W3,h1⟩: ∃W3:World,W3=wr.setCell ⟨bb,10,none⟩ (.slice ta tl tc):=⟨_,rfl⟩
    rw[<-h1]at hG;have hr:Below w.heap.size w W3:=Hj.o.trans hG.2;have hD:=Dx (base:=w.heap.size) (bb:=bb) (lg:=false) (tv:= .slice ta tl tc) (gv:= .map none) ⟨HK.o,HC.o,HM.o,mB,hd,Hd,hl⟩ 514 ⟨#[]⟩ v s2 W3 (by decide) (by decide) hG.1 (.inl ⟨rfl,rfl⟩) (by rw[<-hL]; exact h4.keep (fun i hi=>hr.block i hi)) (by
     have:j*733<=10*733:=cY _ (by omega)
     omega)
    have HD:=am hD;have hu:=am hr;have HH:=am (show(gH k [] (dS k [] c z.2 514 ⟨#[]⟩).2 s2).1.length<=(j+1)*733 by
     have:=rm (k:=k) (gs:=[]) (dS k [] c z.2 514 ⟨#[]⟩).2 s2
     omega)
    clear hf Hf Hd hl h4 hL HA hG Hc Hv hr hD hz
    go_upto_region 6 with(fail)
    rw[<-h1];clear h1 k10 g10 p0;go_wp2_with fail;refine HD.o.mono ?_;rintro e w5 ⟨rfl,v5,hB,hE⟩;have hP:=am hB;have HB:=am (hu.o.trans hE.below);clear hB hE;go_wp2_with fail
    go_roundw
    case rel=>exact⟨j+1, .slice ta tl tc,v5,by omega,by go_num,by rw[hR.o]; exact hP.o,HB.o,by rw[hR.o]; exact HH.o⟩
    case measure=>simp[intOf]; omega
  ·obtain rfl:j=n:=by omega
   clear hF;obtain⟨bs,cl,h2⟩: ∃bs cl,nE k c (zs.map Prod.snd)=(bs,cl):=⟨_,_,rfl⟩;have Hz:(zs.map Prod.snd).take j=zs.map Prod.snd:=bB (by rw[aB,<-HN.o]; exact ak _);have Hk:=am (show tX k c (zs.map Prod.snd)=(cl || !decide ((bs.map fun b=>b.ref.name).Nodup)) by unfold tX DT; rw[h2]);have hh:=hx.o;rw[Hz,h2]at hh
   obtain⟨N,hN⟩: ∃N,N=bs.map fun b=>b.ref.name:=⟨_,rfl⟩
   rw[<-hN]at Hk;have hX:=am hN;obtain⟨ys,hI,ho⟩:=hh.own;have hs:ys.map Prod.snd=bs:=hI;obtain⟨av,cvv,hv,hH,hM⟩:=aH ho.row;have Hr:ys.length=bs.length:=by rw[<-hs,aB]
   rw[Hr]at hv hH;obtain⟨bl,hg⟩: ∃l,l=bs.length:=⟨_,rfl⟩;rw[<-hg]at hv hH;subst hv;unfold maxLen at hM;have hQ:=am hg;have HL:=am hh;clear h2 Hz hh hN hI hs ho Hr hg hx Hm;obtain⟨wo,HV⟩: ∃wo:World,wo=wr:=⟨_,rfl⟩;subst HV;go_wp2_with fail
   go_loopw [9,10] (fun i kk wq=> ∃(m:Nat) (fl:Bool),m<=bl/\i= .int .i64 (m:Int)/\jQ wq w.heap.size bb k c tv (.map none) (.slice av bl cvv) false (bs,fl)/\Below w.heap.size w wq/\fl=(cl || !decide ((N.take m).Nodup))) (fun i _ _=>bl-(intOf i).toNat)
   case atStart=>exact⟨0,cl,aW _,rfl,HL.o,Hj.o,by simp⟩
   case round=>
    obtain⟨m,fl,hm,rfl,Hx,hq,Ht⟩:=hrel;have hY:=am Hx;have Hh:=am hq;have Hl:=am Ht;clear Hx hq Ht;have k12:=az (k:=12) hY.o.box;have k14:=az (k:=14) hY.o.box;simp only[tA,eC,fU,aK,aJ,ai,aj,ah]at k12 k14
    by_cases h7:m<bl
    ·obtain⟨b,hb⟩: ∃b,bs[m]? =some b:=⟨bs[m]'(by rw[<-hQ.o]; exact h7),by simp⟩;have HE:=am hb;have Hn:=am (show N[m]? =some b.ref.name by rw[hX.o,bn,hb]; rfl);obtain⟨nm,Ha⟩: ∃n,n=b.ref.name:=⟨_,rfl⟩;rw[<-Ha]at Hn;have HI:=am Ha;clear hb Ha;obtain⟨wo2,He⟩: ∃wo:World,wo=wr:=⟨_,rfl⟩;subst He;go_wp2_with fail;clear k12 k14
     go_loopw [10] (fun kk wq=> ∃(m2:Nat) (f2:Bool),m2<=m/\kk= .int .i64 (m2:Int)/\jQ wq w.heap.size bb k c tv (.map none) (.slice av bl cvv) false (bs,f2)/\Below w.heap.size w wq/\f2=(fl || (N.take m2).any (fun y=>decide (y=nm)))) (fun kk _=>m-(intOf kk).toNat)
     case atStart=>exact⟨0,fl,aW _,rfl,hY.o,Hh.o,by simp⟩
     case round=>
      obtain⟨m2,f2,HX,rfl,Hy,hr,Hs⟩:=hrel;have hJ:=am Hy;have hu:=am hr;have hS:=am Hs;clear Hy hr Hs
      by_cases HP:m2<m
      ·have h8:m2<bl:=by omega
       obtain⟨b2,hq⟩: ∃b,bs[m2]? =some b:=⟨bs[m2]'(by rw[<-hQ.o]; exact h8),by simp⟩;have hW:=am (show N[m2]? =some b2.ref.name by rw[hX.o,bn,hq]; rfl);have hO:=am hq;obtain⟨nk,h9⟩: ∃n,n=b2.ref.name:=⟨_,rfl⟩;rw[<-h9]at hW;have HJ:=am h9;clear hq h9;go_wp2_with fail;obtain⟨ys,hs,ho⟩:=hJ.o.own;obtain⟨gb,go,_,_,rfl,p0,-,-,-,-⟩:=nt hs ho (au _ _) HE.o
       obtain⟨gb',go',_,_,Hu,q0,-,-,-,-⟩:=nt hs ho (au _ _) hO.o;simp only[aV,gx,and_true]at Hu;obtain⟨rfl,rfl⟩:=Hu;rw[<-HI.o]at p0;rw[<-HJ.o]at q0;refine ey (fun w'=>fY bb k c tv (.map none) (.slice (some ⟨gb,go,none⟩) bl cvv) false f2 w'/\w'.cell? ⟨gb,go+m*4,none⟩=some (.string nm)/\w'.cell? ⟨gb,go+m2*4,none⟩=some (.string nk)) (by kernel_rfl) (by kernel_rfl) ?_
       simp only[br,bt,aD,bo,Nat.reduceAdd,Nat.reduceSub];obtain⟨V,hV⟩: ∃W,W=wr.drew:=⟨_,rfl⟩;rw[<-hV];have hC:Below wr.heap.size wr V:=by rw[hV]; exact(au _ _).drew
       have hZ:=am (hJ.o.below hC);have Hi:=am (hu.o.trans (hC.mono hu.o.size));have SM:=am (show fY bb k c tv (.map none) (.slice (some ⟨gb,go,none⟩) bl cvv) false f2 V/\V.cell? ⟨gb,go+m*4,none⟩=some (.string nm)/\V.cell? ⟨gb,go+m2*4,none⟩=some (.string nk)from⟨hZ.o.box,(hC.cell (p:=⟨gb,go+m*4,none⟩) (cF p0)).trans p0,(hC.cell (p:=⟨gb,go+m2*4,none⟩) (cF q0)).trans q0⟩)
       clear hC hs ho p0 q0 hV hJ
       cases f2 with
       | true=>
        iterate 6 (refine cA rfl (by kernel_rfl) (fun _ _ _ h=>h) rfl SM.o (by rintro w' ⟨ha,hH,hM⟩; unfold fY at ha; have k12:=az (k:=12) ha; have k14:=az (k:=14) ha; simp only[tA,eC,fU,aK,aJ,ai,aj,ah]at k12 k14; clear ha; go_simp; rfl) ?_; simp only[Act.put,aa,ag,ab])
        iterate 19 (refine LP rfl (by kernel_rfl) (fun _ _ _ h=>h) rfl SM.o ?_; simp only[Act.put,aa,ag,ab])
        iterate 3 (refine cA rfl (by kernel_rfl) (fun _ _ _ h=>h) rfl SM.o (by rintro w' ⟨ha,hH,hM⟩; unfold fY at ha; have k12:=az (k:=12) ha; have k14:=az (k:=14) ha; simp only[tA,eC,fU,aK,aJ,ai,aj,ah]at k12 k14; clear ha; go_simp; rfl) ?_; simp only[Act.put,aa,ag,ab])
        refine cE (by kernel_rfl) ?_;refine eD rfl rfl (fun K hK=> ?_);have ha:=SM.o.1;unfold fY at ha;have k14:=az (k:=14) ha;have kz14:=dw (k:=14) ha;simp only[tA,eC,fU,aK,aJ,ai,aj,ah]at k14;clear ha;have hf:=jQ.clash hZ.o (true) hd;have hw:=am hf
        have hT:=am (show(true)=(fl || (N.take (m2+1)).any (fun y=>decide (y=nm))) by rw[BL hW.o,<-Bool.or_assoc,<-hS.o]; first | rfl | rw[OS]; rfl);clear hf;go_wp2_with fail
        go_roundw
        case rel=>exact⟨m2+1,true,by omega,by go_num,hw.o.1,Hi.o.trans hw.o.2.below,hT.o⟩
        case measure=>simp[intOf]; omega
       | false=>
        iterate 28 (refine cA rfl (by kernel_rfl) (fun _ _ _ h=>h) rfl SM.o (by rintro w' ⟨ha,hH,hM⟩; unfold fY at ha; have k12:=az (k:=12) ha; have k14:=az (k:=14) ha; simp only[tA,eC,fU,aK,aJ,ai,aj,ah]at k12 k14; clear ha; go_simp; rfl) ?_; simp only[Act.put,aa,ag,ab])
        refine cE (by kernel_rfl) ?_;refine eD rfl rfl (fun K hK=> ?_);have ha:=SM.o.1;unfold fY at ha;have k14:=az (k:=14) ha;have kz14:=dw (k:=14) ha;simp only[tA,eC,fU,aK,aJ,ai,aj,ah]at k14;clear ha;have hf:=jQ.clash hZ.o ((nm.toList == nk.toList)) hd
        have hw:=am hf;have hT:=am (show((nm.toList == nk.toList))=(fl || (N.take (m2+1)).any (fun y=>decide (y=nm))) by rw[BL hW.o,<-Bool.or_assoc,<-hS.o]; first | rfl | rw[OS]; rfl);clear hf;go_wp2_with fail
        go_roundw
        case rel=>exact⟨m2+1,(nm.toList == nk.toList),by omega,by go_num,hw.o.1,Hi.o.trans hw.o.2.below,hT.o⟩
        case measure=>simp[intOf]; omega
      ·obtain rfl:m2=m:=by omega
       have hU:=am (show f2=(cl || !decide ((N.take (m2+1)).Nodup)) by
        rw[hS.o,Hl.o,Fd Hn.o]
        generalize decide ((N.take m2).Nodup)=D
        generalize (N.take m2).any (fun y=>decide (y=nm))=A
        cases cl<;> cases D<;> cases A<;> rfl)
       go_wp2_with fail
       go_roundw
       case rel=>exact⟨m2+1,f2,by omega,by go_num,hJ.o,hu.o,hU.o⟩
       case measure=>simp[intOf]; omega
    ·obtain rfl:m=bl:=by omega
     have hU:=am (show fl=tX k c (zs.map Prod.snd) by
      rw[Hk.o,Hl.o,bB (by rw[hX.o,aB,<-hQ.o]; exact ak _)])
     go_wp2_with fail;go_ret;exact⟨bW hU.o,Hh.o⟩
theorem IE {a:Act} {w:World} {b:Nat} {x0 x1 x2 e9 e10:Value} (h:w.heap[b]? =some (.cells #[x0,x1,x2] 26 (0,0)))
  (h8:a.tmps[2]? =some (.pointer (some ⟨b,0,none⟩))) (h9:a.tmps[3]? =some e9) (h10:a.tmps[4]? =some e10):(results Tryz.f35 a.tmps).run Tryz.prog w= .ok (.tuple #[.agg #[x0,x1,x2],e9,e10]) w:=by
 obtain⟨m0,m1,m2,_⟩:=aU h;simp[results,Tryz.results35,go_sem,h8,h9,h10,m0,m1,m2]
theorem ID {a:Act} {w:World} {b:Nat} {a0 a1 a2 x0 x1 x2 e9 e10:Value} {Q:Ending->World->Prop} (h:w.heap[b]? =some (.cells #[a0,a1,a2] 26 (0,0)))
  (h8:a.tmps[2]? =some (.pointer (some ⟨b,0,none⟩))) (h9:a.tmps[3]? =some e9) (h10:a.tmps[4]? =some e10) (hd:a.defers=[])
  (hQ:Q (.returned (.tuple #[.agg #[x0,x1,x2],e9,e10])) (((w.setCell ⟨b,0,none⟩ x0).setCell ⟨b,1,none⟩ x1).setCell ⟨b,2,none⟩ x2)):
  bodyPost Tryz.prog Tryz.f35 Q Exit.ret a (((w.setCell ⟨b,0,none⟩ x0).setCell ⟨b,1,none⟩ x1).setCell ⟨b,2,none⟩ x2):=cM (IE (vj h) h8 h9 h10) hd hQ
def KK (r:cy) (bs:List cZ) (w:World) (e:Ending) (w':World):Prop:=Below w.heap.size w w'/\ ∃a cap zs,e= .returned (.tuple #[ef r, .slice a bs.length cap, .bool true])/\zs.map Prod.snd=bs/\ii w' w.heap.size (.slice a bs.length cap) zs/\bs.length<=cap/\cap<=maxLen
theorem IC (S:Nat->Prop) (tree:List dl) (tv:Value) (w:World) (he:rz w) (ht:eI S w tv tree) {r:cy} {bs:List cZ} (hb:ij eX kP tree []= .ok (r,bs)):Calls Tryz.prog 35 #[tv] w (KK r bs w):=by
 have HE:=am he;have HT:=am ht;have HB:=am hb;obtain⟨W0,hd⟩: ∃W0:World,W0=w.alloc (.cells #[.string ⟨#[]⟩, .int .i64 0, .int .i64 0] 26):=⟨_,rfl⟩;have hy:=am (show Below w.heap.size w W0 by rw[hd]; exact eK);have hD:=am (show W0.heap[w.heap.size]? =some (.cells #[.string ⟨#[]⟩, .int .i64 0, .int .i64 0] 26 (0,0)) by rw[hd]; exact dZ w _);clear he ht hb
 go_enter Tryz.func35,Tryz.ntmps35
 go_wp2_with fail;rw[<-hd];clear hd;refine(tf _).mono ?_;rintro e w1 ⟨rfl,hm⟩;have hz:=am (ar hy.o hm);have hE:=am (dX hm hD.o);clear hm;go_wp2_with fail;refine(og _).mono ?_;rintro e w2 ⟨rfl,hn⟩;have ha:=am (ar hz.o hn);have hF:=am (dX hn hE.o);have hw:=tV _ (fun _=>True) eX kP tree [] tv (.map none) w2 (by decide) (HT.o.below ha.o) (.inl ⟨rfl,rfl⟩) (HE.o.below ha.o)
 have hq:=am hw;clear hn hw;go_wp2_with fail;refine hq.o.mono ?_;rintro e w3 hr;obtain⟨ho,ba,bc,zs,rfl,hx,hv,hs,hu⟩:=hr.flat (show PR (ij eX kP tree [])=(r,bs,0) by rw[HB.o]; rfl);have hA:=am (ar ha.o ho);have hG:=am (dX ho hF.o);have hH:=am hx;have hk:=am hv;have hh:=am (aE hs hu);have hI:w.heap.size<=w2.heap.size:=ha.o.size
 obtain⟨bl,hp⟩: ∃l,l=bs.length:=⟨_,rfl⟩;have hj:=am hp;rw[<-hp]at hk hh ⊢;unfold ef;clear hr ho hx hv hs hu hq hp
 go_upto_region 2 with(fail)
 obtain⟨W3,hf⟩: ∃W3:World,W3=w3.alloc (.cells #[.string r.name, .int .i64 r.gen, .int .i64 r.size] 26):=⟨_,rfl⟩;have hg:=show Below w3.heap.size w3 W3 by rw[hf]; exact eK
 have hC:=am (show W3.heap[w3.heap.size]? =some (.cells #[.string r.name, .int .i64 r.gen, .int .i64 r.size] 26 (0,0)) by rw[hf]; exact dZ w3 _);have hB:=am (ar hA.o hg);have hc:=am (dX hg hG.o);have hl:=am (hk.o.below hg);rw[<-hf];clear hf hg hk;obtain⟨p0,p1,p2,_⟩:=aU hC.o;obtain⟨z0,z1,z2,_⟩:=aU hc.o;obtain⟨y0,y1,y2,_⟩:=gG hc.o
 go_wp2_with fail;refine ID hc.o rfl rfl rfl rfl ?_;refine⟨gZ hB.o (ak _),ba,bc,zs,by rw[<-hj.o]; rfl,hH.o, ?_,by rw[<-hj.o]; exact hh.o.1,hh.o.2⟩;rw[<-hj.o];exact hl.o.other hc.o (by decide) (by decide) hI (fun i hi=>ed hi)
end Go.Proofs.YtpffpjbkbaleiaaGreatDoor
namespace Go.Proofs.YtpffpjbkbaleiaaGreatDoor
open Go.RowKit
section
variable {k : dh} {gs : List (ByteArray × Int)}
theorem MA {bs:List cZ} {x:List UInt8} {b:cZ} (h:b∈jK k gs bs x):b∈bs\/b=⟨bA k gs x,x⟩:=by
 unfold jK at h
 split at h
 ·exact .inl h
 ·rcases aT.1 h with h | h
  ·exact .inl h
  ·exact .inr (aM.1 h)
theorem MC {bs:List cZ} {x:List UInt8} {b:cZ} (h:b∈bs):b∈jK k gs bs x:=by
 unfold jK
 split
 ·exact h
 ·exact fL _ h
theorem MB (bs:List cZ) (x:List UInt8):bA k gs x∈(jK k gs bs x).map cZ.ref:=by
 unfold jK
 split
 ·assumption
 ·simp
theorem Ou {bs:List cZ} {x:List UInt8} (h:(bs.map cZ.ref).Nodup):((jK k gs bs x).map cZ.ref).Nodup:=by
 unfold jK
 split
 ·exact h
 ·rename_i hn;rw[aN,fc];refine⟨h,by simp,fun a ha b hb=> ?_⟩;simp only[cB,eE,aM]at hb;subst hb;exact fun e=>hn (e▸ha)
theorem tT : ∀(cs:List (List UInt8)) {bs:List cZ} {b:cZ},b∈dB k gs cs bs->b∈bs\/ ∃x∈cs,b=⟨bA k gs x,x⟩
 | [],_,_,h=> .inl h
 | x::cs,bs,b,h=>by
  rcases tT cs (bs:=jK k gs bs x) h with h | ⟨y,hy,e⟩
  ·rcases MA h with h | h
   ·exact .inl h
   ·exact .inr ⟨x,by simp,h⟩
  ·exact .inr ⟨y,by simp[hy],e⟩
theorem yQ : ∀(cs:List (List UInt8)) {bs:List cZ} {b:cZ},b∈bs->b∈dB k gs cs bs
 | [],_,_,h=>h
 | x::cs,bs,_b,h=>yQ cs (bs:=jK k gs bs x) (MC h)
theorem tS : ∀(cs:List (List UInt8)) {bs:List cZ} {x:List UInt8},x∈cs->bA k gs x∈(dB k gs cs bs).map cZ.ref
 | y::cs,bs,x,h=>by
  rcases aZ.1 h with rfl | h
  ·obtain⟨_,hb,e⟩:=aS.1 (MB (k:=k) (gs:=gs) bs x);exact aS.2 ⟨_,yQ cs hb,e⟩
  ·exact tS cs (bs:=jK k gs bs y) h
theorem BP : ∀(cs:List (List UInt8)) {bs:List cZ},(bs.map cZ.ref).Nodup->((dB k gs cs bs).map cZ.ref).Nodup
 | [],_,h=>h
 | x::cs,bs,h=>BP cs (bs:=jK k gs bs x) (Ou h)
theorem Iw (a b:List (List UInt8)) (bs:List cZ):dB k gs (a++b) bs=dB k gs b (dB k gs a bs):=by
 unfold dB; rw[dV]
end
def NoC (k:dh) (gs:List (ByteArray×Int)) (U:List (List UInt8)):Prop:= ∀x∈U,∀y∈U,(bA k gs x).name=(bA k gs y).name->x=y
section
variable {k : dh} {gs : List (ByteArray × Int)}
theorem Dc : ∀ {bs:List cZ},(bs.map fun b=>b.ref.name).Nodup-> ∀a∈bs,∀b∈bs,a.ref.name=b.ref.name->a=b
 | x::bs,h,a,ha,b,hb,e=>by
  rw[cB,lL]at h
  rcases aZ.1 ha with ha1 | ha1
  ·rcases aZ.1 hb with hb1 | hb1
   ·rw[ha1,hb1]
   ·rw[ha1]at e;exact absurd (aS.2 ⟨b,hb1,e.symm⟩) h.1
  ·rcases aZ.1 hb with hb1 | hb1
   ·rw[hb1]at e;exact absurd (aS.2 ⟨a,ha1,e⟩) h.1
   ·exact Dc h.2 a ha1 b hb1 e
theorem Pt {cs1 cs2:List (List UInt8)} (h1:(gH k gs cs2 (gH k gs cs1 ([],false))).2=false) (h2:DT (gH k gs cs2 (gH k gs cs1 ([],false))).1=false):NoC k gs (cs1++cs2):=by
 obtain⟨g1,g2,g3⟩:=ur h1;obtain⟨_,_,f3⟩:=ur g1;have hc: ∀x∈cs1++cs2,∃b∈(gH k gs cs2 (gH k gs cs1 ([],false))).1,b.ref=bA k gs x/\b.con=x:=fun x hx=>by
  rcases aT.1 hx with hx | hx
  ·obtain⟨b,hb,e⟩:=f3 x hx;exact⟨b,g2 b hb,e⟩
  ·exact g3 x hx
 unfold DT at h2;rw[Bool.not_eq_false',aL]at h2;intro x hx y hy e;obtain⟨a,ha,hd,he⟩:=hc x hx;obtain⟨b,hb,hf,hg⟩:=hc y hy;rw[<-hd,<-hf]at e;rw[<-he,<-hg,Dc h2 a ha b hb e]
theorem Oi {cs:List (List UInt8)} (h1:(gH k gs cs ([],false)).2=false) (h2:DT (gH k gs cs ([],false)).1=false):NoC k gs cs:=by
 have:=Pt (cs1:=cs) (cs2:=[]) h1 h2
 rwa [bY]at this
theorem wt : ∀(bs:List cZ) (cs:List (ByteArray×List UInt8)),(∀a∈bs,∀b∈bs,a.ref.name=b.ref.name->a.con=b.con)-> ∀b∈bs,gE (bs.foldl (fun cs b=>pQ cs b.ref.name b.con) cs) b.ref.name=some b.con
 | a::bs,cs,h,b,hb=>by
  rw[ei]
  by_cases hx: ∃b'∈bs,b'.ref.name=b.ref.name
  ·obtain⟨b',hb',e⟩:=hx;have:=wt bs (pQ cs a.ref.name a.con) (fun x hx y hy=>h x (by simp[hx]) y (by simp[hy])) b' hb';rw[e]at this;rw[this,h b' (by simp[hb']) b hb e]
  ·rcases aZ.1 hb with rfl | hb
   ·rw[Ci bs _ _ fun y hy e=>hx ⟨y,hy,e⟩,ue,if_pos rfl]
   ·exact absurd ⟨b,hb,rfl⟩ hx
def OfC (k:dh) (gs:List (ByteArray×Int)) (U:List (List UInt8)) (bs:List cZ):Prop:= ∀b∈bs,∃x∈U,b=⟨bA k gs x,x⟩
theorem sQ (cs:List (List UInt8)):OfC k gs cs (dB k gs cs []):=fun b hb=>by
 rcases tT cs hb with h | h
 ·cases h
 ·exact h
theorem NT {U:List (List UInt8)} {bs:List cZ} (hn:NoC k gs U) (hU:OfC k gs U bs): ∀b∈bs,gE (mP bs) b.ref.name=some b.con:=
 wt bs [] fun a ha b hb e=>by
  obtain⟨x,hx,rfl⟩:=hU a ha;obtain⟨y,hy,rfl⟩:=hU b hb;exact hn x hx y hy e
theorem LK {U cs:List (List UInt8)} {bs:List cZ} (hn:NoC k gs U) (hU:OfC k gs U bs) (hc: ∀x∈cs,x∈U/\bA k gs x∈bs.map cZ.ref):qc k gs (mP bs) cs:=fun x hx=>by
 obtain⟨h1,h2⟩:=hc x hx;obtain⟨b,hb,e⟩:=aS.1 h2;obtain⟨y,hy,rfl⟩:=hU b hb;have h3:=NT hn hU _ hb;simp only at e h3;rw[<-e,h3,hn y hy x h1 (congrArg cy.name e)]
theorem uf {cs:List (List UInt8)} (hn:NoC k gs cs):qc k gs (mP (dB k gs cs [])) cs:=
 LK hn (sQ cs) fun _x hx=>⟨hx,tS cs hx⟩
end
structure Nu (k : dh) (gs : List (ByteArray × Int)) (X : List UInt8) (bs : List cZ) (rs : List cy) : Prop where
 last: ∃t,bs=t++[⟨bA k gs X,X⟩]
 len:rs.length=bs.length
 head: ∃t,rs=bA k gs X::t
 mem: ∀b∈bs,b.ref∈rs
 size: ∀b∈bs,b.ref.size=(b.con.length:Int)
 apart: ∀(i j:Nat) (a b:cZ),j<i->bs[i]? =some a->bs[j]? =some b->b.ref≠a.ref/\b.con≠a.con
section
variable {k : dh} {gs : List (ByteArray × Int)} {c : fN} {tree : List dl}
theorem Lk (h:tO k gs c tree) (hm:c.mx<=31) (hb:lY k gs c tree 514 ⟨#[]⟩=false) (hn:NoC k gs (dS k gs c tree 514 ⟨#[]⟩).2):
  ∃rs,zM (mP (dB k gs (dS k gs c tree 514 ⟨#[]⟩).2 [])) (bA k gs (dS k gs c tree 514 ⟨#[]⟩).1)= .ok rs/\Nu k gs (dS k gs c tree 514 ⟨#[]⟩).1 (dB k gs (dS k gs c tree 514 ⟨#[]⟩).2 []) rs:=by
 have hM:qc k gs (mP (dB k gs (dS k gs c tree 514 ⟨#[]⟩).2 [])) (dS k gs c tree 514 ⟨#[]⟩).2:=uf hn;obtain⟨rs,ho,hg⟩:=Mg h hb hM;refine⟨rs,ho, ?_⟩;obtain⟨cs,hf⟩: ∃cs,cs=(dS k gs c tree 514 ⟨#[]⟩).2:=⟨_,rfl⟩;obtain⟨X,hX⟩: ∃X,X=(dS k gs c tree 514 ⟨#[]⟩).1:=⟨_,rfl⟩;have hh: ∀x∈(dF tree ⟨#[]⟩).flatMap (ik k gs c tree 513),x≠X:=fun x hx=>hX▸MK h hm hb hM hx
 have he:cs=(dF tree ⟨#[]⟩).flatMap (ik k gs c tree 513)++[X]:=by rw[hf,hX,fo]
 have hj:((dB k gs cs []).map cZ.ref).Nodup:=BP cs (by simp);have hc:=sQ (k:=k) (gs:=gs) cs;rw[<-hf]at hn;rw[<-hf,<-hX];have hd: ∀r,r∈rs<->r∈(dB k gs cs []).map cZ.ref:=fun r=>by
  rw[hg.all r,<-hf]
  constructor
  ·rintro⟨x,hx,rfl⟩;exact tS cs hx
  ·intro hr;obtain⟨b,hb,rfl⟩:=aS.1 hr;obtain⟨x,hx,rfl⟩:=hc b hb;exact⟨x,hx,rfl⟩
 refine⟨?_, ?_,by rw[hX]; exact hg.head,fun b hb=>(hd _).2 (aS.2 ⟨b,hb,rfl⟩),fun b hb=> ?_, ?_⟩
 ·rw[he,Iw]
  show ∃t,jK k gs _ X=_
  unfold jK
  split
  ·rename_i hl
   exfalso
   obtain⟨b,hb,hr⟩:=aS.1 hl
   rcases tT _ hb with hb | ⟨x,hx,e⟩
   ·cases hb
   ·subst e;exact hh x hx (hn x (by rw[he]; exact fL _ hx) X (by rw[he]; simp) (congrArg cy.name hr))
  ·exact⟨_,rfl⟩
 ·have e1:=mD hg.nodup (fun x hx=>(hd x).1 hx);have e2:=mD hj (fun x hx=>(hd x).2 hx);rw[aB]at e1 e2;omega
 ·obtain⟨x,hx,rfl⟩:=hc b hb
  rfl
 ·intro i j a b hk ha hb;have key:b.ref≠a.ref:=by
   have hi:=(aG.1 ha).1;intro e;have:=List.pairwise_iff_getElem.1 hj j i (by rw[aB]; omega) (by rw[aB]; omega) hk;rw[List.getElem_map,List.getElem_map]at this;rw[aG]at ha hb;obtain⟨_,ha⟩:=ha;obtain⟨_,hb⟩:=hb;rw[ha,hb]at this;exact this e
  refine⟨key,fun e=>key ?_⟩;obtain⟨x,_,e1⟩:=hc a (aQ ha);obtain⟨y,_,e2⟩:=hc b (aQ hb);rw[e1,e2]at e ⊢;simp only at e ⊢;rw[e]
end
theorem Dq : ∀(cs:List (ByteArray×List UInt8)) (n:ByteArray) (x:List UInt8),(pQ cs n x).length<=cs.length+1
 | [],_,_=>by simp[pQ]
 | (m,y)::cs,n,x=>by
  unfold pQ
  split
  ·simp
  ·have:=Dq cs n x;simp only[aD]; omega
theorem IM (bs:List cZ):(mP bs).length<=bs.length:=by
 have: ∀(bs:List cZ) (cs:List (ByteArray×List UInt8)),(bs.foldl (fun cs b=>pQ cs b.ref.name b.con) cs).length<=cs.length+bs.length:=by
  intro bs
  induction bs with
  | nil=>intro cs; simp
  | cons b bs ih=>
   intro cs;rw[ei,aD];have h1:=ih (pQ cs b.ref.name b.con);have h2:=Dq cs b.ref.name b.con;omega
 have h:=this bs [];simp only[bo,bS]at h;exact h
theorem JB {cs:List (ByteArray×List UInt8)} (h:cs.length<=100000) (r:cy):lT (gh cs) (mQ cs) r=some (zM cs r)/\ ∀p,fq (gh cs) (mQ cs) r ([],[])=some p->p.2.2.length<1099511627775:=by
 obtain⟨x,st',h1,h2⟩:=As cs r;refine⟨?_,fun p hp=> ?_⟩
 ·unfold zM;have: ∃y,lT (gh cs) (mQ cs) r=some y:=by
   unfold lT
   split
   ·rw[h1]; exact⟨_,rfl⟩
   ·exact⟨_,rfl⟩
  obtain⟨y,hy⟩:=this;rw[hy]; rfl
 ·rw[h1]at hp;simp only[aV]at hp;subst hp;have h3:=mD h2.l1 h2.l2;have h4:=zb (cs:=cs);have h5:cs.length*3948544<=100000*3948544:=cY _ h;simp only[aD]at h3;simp only;omega
open Go Go.RowKit Go.Maps
theorem IX {S:Nat->Prop} {w:World} {v:Value} {l:List dl} (h:eI S w v l): ∀e∈l,e.time<9223372036854775808:=by
 intro e he;obtain⟨a,c,rfl,_⟩:=cP.shape h nx.len;obtain⟨i,hi⟩:=List.mem_iff_getElem?.1 he;obtain⟨_,_,_,_,_,_,_,ha,_⟩:=ki h hi;have:=ha.tim;simp[Lit.wf,IntKind.min,IntKind.max,IntKind.signed,IntKind.bits]at this;omega
theorem On {w:World} {base:Nat} {v:Value} {zs:List mw} {bs:List cZ} (hz:zs.map Prod.snd=bs) (h:ii w base v zs) (hr: ∀b∈bs,dY b.ref):mT (fun _=>True) w v bs:=
 ⟨zs,hz,cC.weak (cL h.row) (fun _ _=>trivial),fun z hzm=>⟨cC.weak (cL (h.dat z hzm)) (fun _ _=>trivial),hr _ (by rw[<-hz]; exact aS.2 ⟨z,hzm,rfl⟩)⟩⟩
theorem yY {k:dh} {gs:List (ByteArray×Int)} {c:fN} {tree:List dl} (h:tO k gs c tree) (hs:ny tree) {M:List (ByteArray×List UInt8)} (hM:qc k gs M (dS k gs c tree 514 ⟨#[]⟩).2): ∀x∈(dS k gs c tree 514 ⟨#[]⟩).2,x.length<=1048576:=by
 intro x hx;have hz:(bl ⟨#[]⟩).length=0:=rfl
 rcases wQ h 514 ⟨#[]⟩ (by omega) (by omega) (rr h.gens h.cut h.ok hs _ _) hM (ak _) x hx with⟨e,he,_,h6⟩ | ⟨f',d',a1,a2,a3,a4,a5,a6,a7⟩
 ·have:=(qr h.cut _ _ h6).2;omega
 ·rw[a6];have:=pi (k:=k) h.gens h.cut h.ok hs f' d';omega
theorem Lj (tree:List dl) (tv:Value) (w:World) (he:rz w) (ht:eI (fun _=>True) w tv tree) (hps: ∀e∈tree,e.path.size<=16777216):
  Calls Tryz.prog 9 #[tv] w fun e w'=>e= .returned (.bool true)/\Below w.heap.size w w':=by
 have HE:=am he;have HT:=am ht.lts;have Yh:=am hps;obtain⟨ta,tc,y3,Ys,Yr,-⟩:=cP.shape ht nx.len;unfold maxLen at Yr;have Yk:=am (IX ht);obtain⟨n,hn⟩: ∃n,n=tree.length:=⟨_,rfl⟩;rw[<-hn]at y3 Ys;have HN:=am hn;subst y3;clear he hps ht hn
 go_enter Tryz.func9,Tryz.ntmps9
 go_wp2_with fail;refine(BM _ HE.o).mono ?_;rintro e w1 ⟨rfl,H0⟩;have HM:=am H0;clear H0;go_wp2_with fail;obtain⟨sb,HI⟩: ∃b,b=sA tree:=⟨_,rfl⟩;have HJ:=DI _ tree (.slice ta n tc) w1 (HT.o.keep (fun i hi=>HM.o.block i hi));rw[<-HI]at HJ;have Yj:=am HI;refine HJ.mono ?_;rintro e w2 ⟨rfl,H1⟩;have Hi:=am (ar HM.o H1);clear H1 HJ HI
 cases sb
 ·go_wp2_with fail;go_ret;exact⟨rfl,Hi.o⟩
 obtain⟨x,hx⟩: ∃x,x=iy tree:=⟨_,rfl⟩;have H9:=Ow (· <w.heap.size) tree (.slice ta n tc) x w2 (HT.o.keep (fun i hi=>Hi.o.block i hi)) Yh.o hx.symm;have Yf:=am hx.symm;have HU:=am H9;clear hx H9;go_wp2_with fail;refine HU.o.mono ?_;rintro e w3 ⟨rfl,H2⟩;have HO:=am (ar Hi.o H2);clear H2 HU
 by_cases y4:x=0
 rotate_left
 ·have e1:(x != 0)=true:=by simp[y4]
  go_wp2_with fail;go_ret;exact⟨rfl,HO.o⟩
 subst y4;have hG:=am (py.1 Yf.o);have hE:=am (show ny tree from by
  have h1:=Yj.o;unfold sA at h1;rw[eq_comm,aI,aL,cj]at h1;exact⟨h1.2,fun e he=>by simpa using h1.1 e he⟩)
 go_wp2_with fail;refine(tf _).mono ?_;rintro e w4 ⟨rfl,H3⟩;have y8:=am (ar HO.o H3);clear H3;go_wp2_with fail;refine(og _).mono ?_;rintro e w5 ⟨rfl,H4⟩;have y9:=am (ar y8.o H4);clear H4;obtain⟨W5,h8⟩: ∃W5:World,W5=w5.alloc (.cells #[.slice ta n tc] 46):=⟨_,rfl⟩;have hT:Below w5.heap.size w5 W5:=by rw[h8]; exact eK
 have HP:=am (ar y9.o hT);have y0:Gf W5 (.slice (some ⟨w5.heap.size,0,none⟩) 1 1) [(.slice ta n tc,tree)]:=by
  have hx:W5.heap[w5.heap.size]? =some (.cells #[.slice ta n tc] 46 (0,0)):=by rw[h8]; exact dZ w5 _
  refine⟨⟨rfl,some ⟨w5.heap.size,0,none⟩,1,rfl,ak _,by unfold maxLen; omega, .inr ⟨w5.heap.size,0,rfl,aw hx,fun j u hj=> ?_⟩⟩,fun z hz=> ?_⟩
  ·have h0:=az (k:=0) hx
   match j,hj with
   | 0,hj=>exact h0.trans hj
  ·rw[aM]at hz;subst hz;exact(HT.o.keep (fun i hi=>HP.o.block i hi)).lts
 have Hz:=Fp eX kP [(.slice ta n tc,tree)] (.slice (some ⟨w5.heap.size,0,none⟩) 1 1) W5 (by decide) (by decide) (by decide) y0 (show 1<=10 by omega) (fun z hz=>by rw[aM]at hz; subst hz; exact⟨hG.o,hE.o⟩);obtain⟨cb,Hy⟩: ∃b,b=tX eX kP [tree]:=⟨_,rfl⟩;have Ye:=am Hy;rw[show [((.slice ta n tc:Value),tree)].map Prod.snd=[tree]from rfl,<-Hy]at Hz
 have HV:=am Hz;clear hT y0 Hz Hy;go_wp2_with fail;rw[<-h8];clear h8;refine HV.o.mono ?_;rintro e w6 ⟨rfl,hT⟩;have h3:=am (ar HP.o hT);clear hT HV
 cases cb
 rotate_left
 ·go_wp2_with fail;go_ret;exact⟨rfl,h3.o⟩
 have Hp:=am (show NoC eX [] (dS eX [] kP tree 514 ⟨#[]⟩).2 from by
  have h1:=Ye.o;unfold tX nE at h1;rw[eq_comm,fI]at h1;exact Oi h1.1 h1.2)
 have Hn:=am (show tO eX [] kP tree from⟨hG.o,by decide,mB,Yk.o⟩);have Yc:=am (rr (k:=eX) (gs:=[]) (c:=kP) mB (by decide) hG.o hE.o 514 ⟨#[]⟩);obtain⟨X,hX⟩: ∃X,X=(dS eX [] kP tree 514 ⟨#[]⟩).1:=⟨_,rfl⟩;obtain⟨bs,Hx⟩: ∃bs,bs=dB eX [] (dS eX [] kP tree 514 ⟨#[]⟩).2 []:=⟨_,rfl⟩;obtain⟨r,hr⟩: ∃r,r=bA eX [] X:=⟨_,rfl⟩
 have Hr:=am hX;have hM:=am Hx;have h7:=am hr;have H8:=IC _ tree (.slice ta n tc) w6 (HE.o.below h3.o) (HT.o.keep (fun i hi=>h3.o.block i hi)) (r:=r) (bs:=bs) (by rw[Hx,hr,hX]; exact BR (by decide) (by decide) mB hG.o hE.o);have HR:=am H8;clear hX Hx hr H8;go_wp2_with fail;refine HR.o.mono ?_;rintro e w7 ⟨H5,ba,bc,zs,rfl,y7,H6,Yl,Ym⟩
 unfold maxLen at Ym;have Ya:=am (ar h3.o H5);have hR:=am y7;have Hk:=am H6;obtain⟨bl,Hw⟩: ∃l,l=bs.length:=⟨_,rfl⟩;have h4:=am Hw;rw[<-Hw]at Hk Yl ⊢;unfold ef;clear H5 y7 H6 HR Hw
 go_upto_region 8 with(fail)
 obtain⟨W7,h9⟩: ∃W7:World,W7=w7.alloc (.cells #[.string r.name, .int .i64 r.gen, .int .i64 r.size] 26):=⟨_,rfl⟩;have hW:=show Below w7.heap.size w7 W7 by rw[h9]; exact eK
 have Hl:=am (show W7.heap[w7.heap.size]? =some (.cells #[.string r.name, .int .i64 r.gen, .int .i64 r.size] 26 (0,0)) by rw[h9]; exact dZ w7 _);have Yb:=am (ar Ya.o hW);have hB:=am (Hk.o.below hW);rw[<-h9];clear h9 hW Hk;obtain⟨rs,hd,Hd⟩:=Lk Hn.o (by decide) Yc.o Hp.o;rw[<-hM.o,<-Hr.o,<-h7.o]at hd;rw[<-hM.o,<-Hr.o]at Hd;have Yg:=am hd
 have hO:=am Hd;obtain⟨t,ht⟩:=Hd.last;obtain⟨m,hm⟩: ∃m,m=t.length:=⟨_,rfl⟩;obtain rfl:bl=m+1:=by rw[h4.o,ht,hm]; simp
 have hc:bs[m]? =some ⟨r,X⟩:=by rw[ht,hm,h7.o]; simp
 have Yy:=am hc;obtain⟨b1,o1,z1,c1,rfl,p0,p1,p2,p3,hY⟩:=nt hR.o hB.o (au _ _) hc;simp only at p0 p1 p2 p3;obtain⟨q0,q1,q2,_⟩:=aU Hl.o;have hg:=zk r r;unfold ef at hg;have e1:decide (r=r)=true:=by simp
 rw[e1]at hg;clear e1 hd Hd ht hm hc p3 hY
 have e1:(((m:Int)+1) == 0)=false:=by simp; omega
 have e2:IntKind.i64.wrap (m:Int)=(m:Int):=by simp[IntKind.wrap,IntKind.bits,IntKind.signed]; omega
 go_wp2_with fail
 go_quiet (fail)
 obtain⟨W8,Hu⟩: ∃W,W=W7.drewN nq:=⟨_,rfl⟩;rw[<-Hu];have Ha:Below W7.heap.size W7 W8:=by rw[Hu]; exact nR W7 nq
 have Hf:=am (ar Yb.o Ha);have hN:=am (dX Ha Hl.o);have hu:=am (hB.o.below Ha);clear Hu Ha p0 p1 p2 q0 q1 q2 hg e1 e2 hB Hl;go_wp2_with fail;refine ez (fun w'=>w'.heap[w7.heap.size]? =some (.cells #[.string r.name, .int .i64 r.gen, .int .i64 r.size] 26 (0,0))) (by kernel_rfl) ?_;obtain⟨V,hV⟩: ∃V:World,V=W8.drew:=⟨_,rfl⟩;rw[<-hV];have hs:Below W8.heap.size W8 V:=by rw[hV]; exact(au _ _).drew
 have Hg:=am (ar Hf.o hs);have Hm:=am (dX hs hN.o);have hC:=am (hu.o.below hs);clear hV hs hN hu
 iterate 2 (refine cA rfl (by kernel_rfl) (fun _ _ _ h=>h) rfl Hm.o (by rintro w' hx; have d0:=bL (k:=0) hx; have d1:=bL (k:=1) hx; have d2:=bL (k:=2) hx; simp only[ai,aj,ah]at d0 d1 d2; clear hx; go_simp; rfl) ?_; simp only[Act.put,aa,ag,ab])
 have hU:bs.length<=733:=by
  have h1:=qV eX [] (dS eX [] kP tree 514 ⟨#[]⟩).2 [];have h2:=GL (k:=eX) (gs:=[]) (c:=kP) (by decide) hE.o hG.o;rw[<-hM.o]at h1;simp only[bo]at h1;omega
 have HA:=sU (fun _=>True) bs (.slice (some ⟨b1,o1,none⟩) (m+1) bc) V (On hR.o hC.o (fun b hb=>by
  obtain⟨x,hx,rfl⟩:=sQ (k:=eX) (gs:=[]) (dS eX [] kP tree 514 ⟨#[]⟩).2 b (by rw[<-hM.o]; exact hb);exact iK mB (yY Hn.o hE.o (uf Hp.o) x hx))) (by omega)
 unfold FY at HA;have HW:=am HA;have Yd:=am hU;clear HA hU;refine cn 2 rfl (fun K hK=> ?_);go_wp2_with fail;refine HW.o.mono ?_;rintro e w8 ⟨mb,mm,rfl,Yo,yb,ya,Hb⟩;have hI:=am (ar Hg.o Hb);have hD:=am (dX Hb Hm.o);have hw:=am (hC.o.below Hb);have HX:=am (show fW (fun _=>True) w8 (.map (some mb)) (mP bs)from .inr ⟨mb,mm,rfl,trivial,yb.is,ya⟩)
 clear Yo yb ya Hb HW Hm hC;go_wp2_with fail;refine⟨hD.o, ?_⟩;have HG:=JB (cs:=mP bs) (by have:=IM bs; have:=Yd.o; omega) r;have hf:=MI (fun _=>True) (.map (some mb)) (mP bs) _ r _ w8 HX.o (HE.o.below hI.o).env (by rw[h7.o]; exact iK mB (by have:=pi (k:=eX) mB (c:=kP) (by decide) hG.o hE.o 514 ⟨#[]⟩; rw[<-Hr.o]at this; omega)) HG.1 HG.2
 rw[Yg.o]at hf;unfold ef at hf;have HY:=am hf;clear HG hf;refine cn 3 rfl (fun K hK=> ?_);go_wp2_with fail;refine HY.o.mono ?_;rintro e w9 ⟨hp,rv,rfl,He⟩;obtain⟨ra,rc,rfl,Yq,Yp,-⟩:=cP.shape He oU.len;unfold maxLen at Yp;have yp:rs.length=m+1:=by rw[hO.o.len,<-h4.o]
 rw[yp]at He Yq ⊢;have Hh:=am (ar hI.o hp);have hk:=am (dX hp hD.o);have hy:=am (hw.o.below hp);have Hq:=am He;clear hp He yp HY hD hw HX;go_wp2_with fail;refine⟨hk.o, ?_⟩
 iterate 5 (refine cA rfl (by kernel_rfl) (fun _ _ _ h=>h) rfl hk.o (by rintro w' hx; have d0:=bL (k:=0) hx; have d1:=bL (k:=1) hx; have d2:=bL (k:=2) hx; simp only[ai,aj,ah]at d0 d1 d2; clear hx; go_simp; rfl) ?_; simp only[Act.put,aa,ag,ab])
 refine cE (by kernel_rfl) ?_;obtain⟨th,yv⟩:=hO.o.head;have yc:rs[0]? =some r:=by rw[yv,h7.o]; rfl
 obtain⟨b2,o2,rfl,-,q0,q1,q2⟩:=lH Hq.o (au _ _) yc;simp only[ir,cT]at q0 q1 q2;obtain⟨p0,p1,p2,_⟩:=aU hk.o;have hg:=zk r r;unfold ef at hg;have e1:decide (r=r)=true:=by simp
 rw[e1]at hg;clear e1 yv yc;go_wp2_with fail
 go_quiet (fail)
 obtain⟨W9,Hv⟩: ∃W,W=w9.drewN nq:=⟨_,rfl⟩;rw[<-Hv];have hq:Below w9.heap.size w9 W9:=by rw[Hv]; exact nR w9 nq
 have hJ:=am (ar Hh.o hq);have ha:=am (hy.o.below hq);have hP:=am (cP.below Hq.o (by omega) hq (fun _ _ _ h=>h));clear Hv hq p0 p1 p2 q0 q1 q2 hg hy hk Hq;go_wp2_with fail
 go_loopw [8,9] (fun i kk wq=> ∃j:Nat,j<=m+1/\i= .int .i64 (j:Int)/\Below W9.heap.size W9 wq) (fun i _ _=>m+1-(intOf i).toNat)
 case atStart=>exact⟨0,aW _,rfl,au _ _⟩
 case round=>
  obtain⟨j,hj,rfl,hb⟩:=hrel;have HB:=am hb;clear hb
  by_cases Yn:j<m+1
  ·obtain⟨b,Hc⟩: ∃b,bs[j]? =some b:=⟨bs[j]'(by rw[<-h4.o]; exact Yn),by simp⟩;have HQ:=am Hc;have Hj:=am (aQ Hc);obtain⟨rf,hf⟩: ∃q,q=b.ref:=⟨_,rfl⟩;obtain⟨xl,HL⟩: ∃l,l=b.con.length:=⟨_,rfl⟩;have HK:rf.size=(xl:Int):=by rw[hf,HL]; exact hO.o.size b Hj.o
   have hZ:dY rf:=by
    rw[hf];obtain⟨x,hx,e⟩:=sQ (k:=eX) (gs:=[]) (dS eX [] kP tree 514 ⟨#[]⟩).2 b (by rw[<-hM.o]; exact Hj.o);rw[e];exact iK mB (yY Hn.o hE.o (uf Hp.o) x hx)
   have Yi:=am hZ;have Ho:=am (show decide (rf∈rs)=true by rw[aL,hf]; exact hO.o.mem b Hj.o);obtain⟨bk,ok,z2,c2,hA,p0,p1,p2,p3,-⟩:=nt hR.o ha.o HB.o Hc;simp only[aV,gx,and_true]at hA;obtain⟨rfl,rfl⟩:=hA;rw[<-hf]at p0 p1 p2;rw[HK]at p2;rw[<-HL]at p3;have Yz:=am hf;clear hZ Hc
   go_upto_region 16 with(fail)
   refine ez (fun w'=>w'.cell? ⟨b1,o1+j*4,none⟩=some (.string rf.name)/\w'.cell? ⟨b1,o1+j*4+1,none⟩=some (.int .i64 rf.gen)/\w'.cell? ⟨b1,o1+j*4+2,none⟩=some (.int .i64 (xl:Int))/\w'.cell? ⟨b1,o1+j*4+3,none⟩=some (.slice z2 xl c2)) (by kernel_rfl) ?_;obtain⟨V,hV⟩: ∃V:World,V=wr.drew:=⟨_,rfl⟩;rw[<-hV];have hs:Below wr.heap.size wr V:=by rw[hV]; exact(au _ _).drew
   have HS:=am (HB.o.trans (hs.mono HB.o.size));have keep: ∀(V':World),Below wr.heap.size wr V'->V'.cell? ⟨b1,o1+j*4,none⟩=some (.string rf.name)/\V'.cell? ⟨b1,o1+j*4+1,none⟩=some (.int .i64 rf.gen)/\V'.cell? ⟨b1,o1+j*4+2,none⟩=some (.int .i64 (xl:Int))/\V'.cell? ⟨b1,o1+j*4+3,none⟩=some (.slice z2 xl c2):=fun V' hv=>
    ⟨(hv.cell (p:=⟨b1,o1+j*4,none⟩) (cF p0)).trans p0,(hv.cell (p:=⟨b1,o1+j*4+1,none⟩) (cF p1)).trans p1,(hv.cell (p:=⟨b1,o1+j*4+2,none⟩) (cF p2)).trans p2,(hv.cell (p:=⟨b1,o1+j*4+3,none⟩) (cF p3)).trans p3⟩
   have KP:=am keep;have SV:=am (keep V hs);have HZ:=am hs;have hh:=Jc (fun _=>True) _ rs rf V (cP.mono (T:=fun _=>True) (cP.below hP.o (by omega) HS.o (fun _ _ _ h=>h)) (by omega) (fun _ _ _=>trivial) (fun _ _ _ h=>h)) Yi.o;rw[Ho.o]at hh;unfold ef at hh;rw[HK]at hh;have HH:=am hh;clear hh keep hs hV p0 p1 p2 p3 HK hf HL
   iterate 6 (refine cA rfl (by kernel_rfl) (fun _ _ _ h=>h) rfl SV.o (by rintro w' ⟨Yt,Yu,Yv,Yw⟩; go_simp; rfl) ?_; simp only[Act.put,aa,ag,ab])
   refine cn 6 rfl (fun K hK=> ?_);go_wp2_with fail;refine HH.o.mono ?_;rintro e w10 ⟨rfl,hS⟩;have hQ:=am (ar HZ.o hS);have hH:=am (HB.o.trans (hQ.o.mono HB.o.size));have Hs:=am (KP.o w10 hQ.o);clear hS HH SV HS HZ;go_wp2_with fail;refine⟨Hs.o, ?_⟩
   iterate 16 (refine cA rfl (by kernel_rfl) (fun _ _ _ h=>h) rfl Hs.o (by rintro w' ⟨Yt,Yu,Yv,Yw⟩; go_simp; rfl) ?_; simp only[Act.put,aa,ag,ab])
   refine cE (by kernel_rfl) ?_;clear Hs;obtain⟨wo,Yx⟩: ∃wo:World,wo=wr:=⟨_,rfl⟩;subst Yx;go_wp2_with fail
   go_loopw [9] (fun kk wq=> ∃m2:Nat,m2<=j/\kk= .int .i64 (m2:Int)/\Below W9.heap.size W9 wq) (fun kk _=>j-(intOf kk).toNat)
   case atStart=>exact⟨0,aW _,rfl,hH.o⟩
   case round=>
    obtain⟨m2,YC,rfl,H7⟩:=hrel;have hL:=am H7;clear H7
    by_cases HD:m2<j
    ·have HF:m2<m+1:=by omega
     obtain⟨b',hF⟩: ∃b,bs[m2]? =some b:=⟨bs[m2]'(by rw[<-h4.o]; exact HF),by simp⟩;obtain⟨hl,ho⟩:=hO.o.apart j m2 b b' HD HQ.o hF;obtain⟨bk,ok,y1,d1,hA,p0,p1,p2,p3,hY⟩:=nt hR.o ha.o hL.o HQ.o;simp only[aV,gx,and_true]at hA;obtain⟨rfl,rfl⟩:=hA;obtain⟨bk,ok,y2,d2,hA,q0,q1,q2,q3,HC⟩:=nt hR.o ha.o hL.o hF
     simp only[aV,gx,and_true]at hA;obtain⟨rfl,rfl⟩:=hA;obtain⟨rj,yl⟩: ∃r,r=b.ref:=⟨_,rfl⟩;obtain⟨xj,y5⟩: ∃x,x=b.con:=⟨_,rfl⟩;obtain⟨rk,yn⟩: ∃r,r=b'.ref:=⟨_,rfl⟩;obtain⟨xk,y6⟩: ∃x,x=b'.con:=⟨_,rfl⟩;rw[<-yl]at p0 p1 p2 hl;rw[<-y5]at p3 hY ho;rw[<-yn]at q0 q1 q2 hl;rw[<-y6]at q3 HC ho;have YA:=fun n=>iz (S:=fun _=>True) (w:=wr.drewN n) (cC.below hY (by omega) (nR wr n))
     have YB:=fun n=>iz (S:=fun _=>True) (w:=wr.drewN n) (cC.below HC (by omega) (nR wr n))
     have hg:=zk rk rj;unfold ef at hg;have e1:decide (rk=rj)=false:=by rw[eQ]; exact hl
     rw[e1]at hg;have e2:(xk == xj)=false:=by rw[fV]; exact ho
     clear e1 hY HC yl y5 yn y6 hF hl ho;go_wp2_with fail
     go_quiet (fail)
     obtain⟨V2,Ht⟩: ∃W,W=wr.drewN nq:=⟨_,rfl⟩;rw[<-Ht];have hW:Below wr.heap.size wr V2:=by rw[Ht]; exact nR wr nq
     clear Ht;go_wp2_with fail
     go_roundw
     case rel=>exact⟨m2+1,by omega,by go_num,hL.o.trans (hW.mono hL.o.size)⟩
     case measure=>simp[intOf]; omega
    ·obtain rfl:m2=j:=by omega
     go_wp2_with fail
     go_roundw
     case rel=>exact⟨m2+1,by omega,by go_num,hL.o⟩
     case measure=>simp[intOf]; omega
  ·obtain rfl:j=m+1:=by omega
   go_wp2_with fail;go_ret;exact⟨rfl,hJ.o.trans (HB.o.mono hJ.o.size)⟩
end Go.Proofs.YtpffpjbkbaleiaaGreatDoor
namespace Go.Proofs.YtpffpjbkbaleiaaGreatDoor
open Go.ChangeShapes Go.WideShapes Go.ChangeAt Go.RowKit Go.Lib Go.Shelf
open Go.ChangeMaps (open_string shut_string)
section
variable {H : Type} {enc : TypeId × Value → H}
end
def OQ :List (String×DataW Unit):=[("math/bits.deBruijn64tab",Rows.laid_math_bits_deBruijn64tab),("kinkeep/sha256.initial",Rows.laid_kinkeep_sha256_initial),("kinkeep/sha256.constants",Rows.laid_kinkeep_sha256_constants),("kinkeep/hmac.pads",Rows.laid_kinkeep_hmac_pads),("unicode/utf8.acceptRanges",Rows.laid_unicode_utf8_acceptRanges),("unicode/utf8.first",Rows.laid_unicode_utf8_first)]
theorem own :ownKnob Tryz.prog.godebug=none:=by kernel_rfl
theorem Iq :(Rows.laid_unicode_utf8_acceptRanges:DataW Unit)=acceptData:=by kernel_rfl
theorem IA :(Rows.laid_math_bits_deBruijn64tab:DataW Unit)=tabData .u8 (Lib.deBruijn64tab.map fun(n:Nat)=>(n:Int)):=by kernel_rfl
theorem EK :(Rows.laid_kinkeep_sha256_initial:DataW Unit)=tabData .u32 (pX.list.map fun(n:Nat)=>(n:Int)):=by kernel_rfl
theorem AQ :(Rows.laid_kinkeep_sha256_constants:DataW Unit)=tabData .u32 (kc.map fun(n:Nat)=>(n:Int)):=by kernel_rfl
theorem Oq :(Rows.laid_kinkeep_hmac_pads:DataW Unit)=tabData .u8 [54,92]:=by kernel_rfl
theorem ru {P:Program} {w:World} {n:String} {k:IntKind} {zs:List Int} {g:Nat} {t e:TypeId} {N:Nat} (hg:P.globalNamed n=some g) (hty:(P.globals[g]?).map (·.type)=some t)
  (ht:P.underlying t=some (.array N e)) (he:P.underlying e=some (.int k)) (hce:P.cellsOf e=1) (hct:P.cellsOf t=N) (h:VarReads P w n (tabData k zs)) (j:Nat):w.cell? ⟨g,j,none⟩=(zs.map fun z=>Value.int k z)[j]? :=by
 obtain⟨g',t',cs,fuel,p,hc,ha,hb,hd⟩:=h;obtain rfl:=bC (hg.symm.trans hc);obtain rfl:=bC (hty.symm.trans ha);rw[World.var?_cell hg hb j,<-Array.getElem?_toList,cells_of_tab ht he hce hct hd]
theorem vC {w:World} {b k:Nat} {v:Value} (h:w.cell? ⟨b,k,none⟩=some v):b<w.heap.size:=by
 by_cases hb:b<w.heap.size
 ·exact hb
 ·exfalso
  have:w.heap[b]? =none:=Array.getElem?_eq_none (by omega);simp[World.cell?,this]at h
theorem Ph {W:World} (hL:laidMetH Tryz.prog OQ W) (hsh:W.ShapedOpen Tryz.prog):rz W:=by
 rw[MakeChecks.laidMetH_plain _ _ _ (by kernel_rfl)]at hL;have h1:=gP hL (.head _);have h2:=gP hL (.tail _ (.head _));have h3:=gP hL (.tail _ (.tail _ (.head _)));have h4:=gP hL (.tail _ (.tail _ (.tail _ (.head _))));have h5:=gP hL (.tail _ (.tail _ (.tail _ (.tail _ (.head _)))));have h6:=gP hL (.tail _ (.tail _ (.tail _ (.tail _ (.tail _ (.head _))))))
 rw[IA]at h1;rw[EK]at h2;rw[AQ]at h3;rw[Oq]at h4;rw[Iq]at h5;have c1:=ru (g:=6) (t:=213) (e:=5) (N:=64) (by kernel_rfl) (by kernel_rfl) (by kernel_rfl) (by kernel_rfl) (by kernel_rfl) (by kernel_rfl) h1;have c2:=ru (g:=2) (t:=216) (e:=215) (N:=8) (by kernel_rfl) (by kernel_rfl) (by kernel_rfl) (by kernel_rfl) (by kernel_rfl) (by kernel_rfl) h2
 have c3:=ru (g:=5) (t:=252) (e:=215) (N:=64) (by kernel_rfl) (by kernel_rfl) (by kernel_rfl) (by kernel_rfl) (by kernel_rfl) (by kernel_rfl) h3;have c4:=ru (g:=0) (t:=221) (e:=5) (N:=2) (by kernel_rfl) (by kernel_rfl) (by kernel_rfl) (by kernel_rfl) (by kernel_rfl) (by kernel_rfl) h4;have ha:W.cell? ⟨0,0,none⟩=some (.int .u8 54):=c4 0;have he:W.cell? ⟨0,1,none⟩=some (.int .u8 92):=c4 1
 have hI:oH W:=fun j x hj=>by
  rw[c2 j];simp[hj,eU]
 have hK:lU W:=fun j x hj=>by
  rw[c3 j];simp[hj,eU]
 have hD:TabAt 6 Lib.deBruijn64tab W:=fun j hj=>by
  rw[c1 j];simp[hj]
 have hc:=hI 0 0x6a09e667 rfl;have hd:=hK 0 0x428a2f98 rfl;have hb:=hD 0 (by decide);refine⟨⟨?_, ?_⟩,⟨hI,hK,⟨ha,he⟩,vC hc,vC hd,vC ha⟩,⟨hD,vC hb⟩⟩
 ·exact cell_of_shapedOpen_int (zero:= #[.int .i64 0]) (t:=3) hsh (gS (by kernel_rfl)) (by kernel_rfl) rfl (by kernel_rfl) (by kernel_rfl) iW
 ·exact utf8Tabs_of_readsT (U8Types.of196 Tryz.laysValid) ⟨by kernel_rfl,by kernel_rfl,by kernel_rfl,by kernel_rfl,by kernel_rfl,by kernel_rfl,by kernel_rfl⟩ (Pinned.utf8First_eq▸h6) h5
end Go.Proofs.YtpffpjbkbaleiaaGreatDoor
namespace Go.Proofs.YtpffpjbkbaleiaaGreatDoor
open Go Go.RowKit Go.Maps Go.MapKept
theorem eT.len {S:Nat->Prop} {w:World} : ∀ {m:List (Value×Value)} {cs:List (ByteArray×List UInt8)},eT S w m cs->m.length=cs.length
 | [],[],_=>rfl
 | [],_::_,h=>False.elim h
 | _::_,[],h=>False.elim h
 | (_,_)::_,(_,_)::_,h=>by simp[eT.len h.2.2]
theorem eT.vals {S:Nat->Prop} {w:World} : ∀ {m:List (Value×Value)} {cs:List (ByteArray×List UInt8)},eT S w m cs-> ∀p∈m,∃n bs,p.1= .string n/\bH S w p.2 bs
 | [],[],_,_,hp=>by simp at hp
 | [],_::_,h,_,_=>False.elim h
 | _::_,[],h,_,_=>False.elim h
 | (k,v)::m,(n,bs)::cs,h,p,hp=>by
  rcases aZ.1 hp with rfl | hp
  ·exact⟨n,bs,h.1,h.2.1⟩
  ·exact eT.vals h.2.2 p hp
end Go.Proofs.YtpffpjbkbaleiaaGreatDoor
namespace Go.Proofs.YtpffpjbkbaleiaaGreatDoor
open Go.ChangeShapes Go.WideShapes Go.ChangeAt Go.RowKit Go.Lib Go.Shelf
section
variable {H : Type} {enc : TypeId × Value → H} {P : Program} {W : World} {base : Nat}
theorem NJ (a:Addr) (i j:Nat):(a.add i).add j=a.add (i+j):=by
 unfold Addr.add
 by_cases hi:i=0
 ·simp[hi]
 ·by_cases hj:j=0
  ·simp[hi,hj]
  ·simp[hi,hj]; omega
end
section
variable {H : Type} {enc : TypeId × Value → H} {W : World} {base b0 : Nat} {spare : Nat → Bool} {held : Bool} {v : Value} {d : DataW H} {ps : List MemPlace}
theorem pB {P:Program} {t:TypeId} {fs:Array Field} {fuel:Nat} {cs:List Value} {x:DataW H×List MemPlace} (ht:P.underlying t=some (.struct fs)) (h:DataW.trod enc P W base spare held fuel t cs=some x) (i:Nat) {f:Field} (hf:fs[i]? =some f):
  ∃n y,DataW.trod enc P W base spare held n f.type ((cs.drop f.offset).take (P.cellsOf f.type))=some y:=by
 obtain⟨xs,n,_,_,_,ha,hF⟩:=DataW.trod_struct ht h;have hi:i<xs.length:=by rw[ha]; exact(aO.1 hf).1
 exact⟨n,xs[i],by rw[hF i f hf]; simp[hi]⟩
theorem FI {P:Program} {t:TypeId} {fs:Array Field} {fuel:Nat} {cs:List Value} {x:DataW H×List MemPlace} (ht:P.underlying t=some (.struct fs)) (h:DataW.trod enc P W base spare held fuel t cs=some x):cs.length=P.cellsOf t:=by
 obtain⟨xs,n,_,_,hl,_,_⟩:=DataW.trod_struct ht h;exact hl
theorem Lr :Tryz.prog.cellsOf 9=1:=by kernel_rfl
theorem Lp :Tryz.prog.cellsOf 3=1:=by kernel_rfl
theorem NO :Tryz.prog.cellsOf 5=1:=by kernel_rfl
theorem II :Tryz.prog.cellsOf 29=1:=by kernel_rfl
theorem BV :Tryz.prog.cellsOf 79=6:=by kernel_rfl
theorem PJ {α:Type} {cs:List α} (h:cs.length=6): ∃c0 c1 c2 c3 c4 c5,cs=[c0,c1,c2,c3,c4,c5]:=by
 match cs,h with
 | [c0,c1,c2,c3,c4,c5],_=>exact⟨c0,c1,c2,c3,c4,c5,rfl⟩
def BC (c:List Value) (b:UInt8):Prop:=c=[aY b]
theorem JS {n:Nat} {cs:List Value} {y:DataW H×List MemPlace} (h:DataW.trod enc Tryz.prog W base spare held n 5 cs=some y): ∃b,BC cs b:=by
 obtain⟨a,e,_,hw⟩:=DataW.trod_int Tryz.underlying5 h;have h1:0<=a/\a<=255:=by
  simp only[Lit.wf,aI,aL]at hw;exact⟨hw.1,hw.2⟩
 refine⟨UInt8.ofNat a.toNat, ?_⟩;unfold BC;rw[lZ (by omega),e,Int.toNat_of_nonneg h1.1]
theorem AL {S:Nat->Prop} {w:World} {v:Value} {bs:List UInt8} (h:cP S w 1 BC v bs):bH S w v bs:=by
 obtain⟨cells,h1,h2⟩:=h;have: ∀(bs:List UInt8) (cells:List Value),eR BC cells bs->cells=bs.map aY:=by
  intro bs
  induction bs with
  | nil=>intro cells h; exact h
  | cons x bs ih=>
   rintro cells ⟨c,rest,rfl,hc,hr⟩;rw[ih rest hr,show c=[aY x]from hc]; rfl
 rw[this bs cells h2]at h1;exact h1
theorem Ev {S:Nat->Prop} {w:World} {v:Value} {bs:List UInt8} (h:bH S w v bs):eH S w v bs:=h
end
section
variable {H : Type} {enc : TypeId × Value → H}
theorem Qe {C:Checked} {os:Os} {f:FuncId} {fn:Func} {s:OpenSpec} {conds:List PathCond} {apart:Bool} {laid:List (String×DataW Unit)} (modest:Bool) (w0:World) (args:Array Value) (fuel:Nat) (hos:w0.os=os)
  (hsh:(w0.forCall (fun _ _=>0) ⟨#[],args,[]⟩).Shaped C.prog)
  (hok:Input.okWideB C.prog (w0.forCall (fun _ _=>0) ⟨#[],args,[]⟩) f ⟨#[],args,[]⟩=true)
  (hs:(DataW.whole enc C.prog (w0.forCall (fun _ _=>0) ⟨#[],args,[]⟩).memory fn.params.toList s.vars apart args.toList fuel).isSome=true)
  (hconds:conds.all (PathCond.test C.prog ⟨fn.params.toList,(Option.get _ hs).1,s.bare.plain.varTypes C.prog,(Option.get _ hs).2.1⟩)=true) (hkk: ∀k,s.cond=some k->k H ((Option.get _ hs).1++(Option.get _ hs).2.1)=true)
  (hsz:s.bare.sizedB enc C.prog fn apart (w0.forCall (fun _ _=>0) ⟨#[],args,[]⟩).memory args fuel=true) (hl:laidMetH C.prog laid (w0.forCall (fun _ _=>0) ⟨#[],args,[]⟩).memory):
  ∃(w:World) (tape:Tape) (i:Input),w.os=os/\(w.forCall tape i).Shaped C.prog/\i.vars=[]/\Input.okWide C.prog (w.forCall tape i) .any w.heap.size f i/\
   s.preRow enc C.prog fn conds apart laid (w.forCall tape i).memory i.args/\({modest:=modest} :Assume).holds C.prog (lone (Frame.enter C.prog f i.args .normal) [] (w.forCall tape i)):=
 ⟨w0,fun _ _=>0,⟨#[],args,[]⟩,hos,hsh,(Input.okWide_of_okWideB (base:=0) hok).1,(Input.okWide_of_okWideB hok).2,OpenSpec.preRow_of_cond fuel (Option.some_get hs).symm hconds hkk hsz hl,by
  simp only[Assume.holds];exact⟨by simp,by simp,fun _=>Modest.zero,by simp,by simp⟩⟩
end
theorem tW {H:Type} {d:DataW H} {l:List (DataW H)} (h:d∈l):Rows.uptoBulk d<=Rows.uptoBulkAll l:=by
 induction l with
 | nil=>cases h
 | cons x r ih=>
  simp only[Rows.uptoBulkAll]
  cases aZ.1 h with
  | inl e=>subst e; omega
  | inr e=>have:=ih e; omega
theorem En {H:Type} {l:List (DataW H)} (hk:Rows.uptoSmall H l=true):Rows.uptoBulkAll l<=1048576:=gS hk
section
variable {H : Type} {enc : TypeId × Value → H} {P : Program} {W : World} {base b0 : Nat} {spare : Nat → Bool} {held : Bool} {v : Value} {d : DataW H} {ps : List MemPlace}
def BF (d:DataW H):Prop:=Rows.uptoBulk d<=1048576
theorem Ln (d:DataW H):1<=Rows.uptoBulk d:=by
 cases d
 case lit l=>cases l<;> simp[Rows.uptoBulk]
 all_goals simp[Rows.uptoBulk]
theorem BS : ∀(l:List (DataW H)),l.length<=Rows.uptoBulkAll l
 | []=>by simp[Rows.uptoBulkAll]
 | d::l=>by
  have h1:=BS l;have h2:=Ln d;simp only[Rows.uptoBulkAll,aD]; omega
theorem LJ {l:List (DataW H)} (h:Rows.uptoSmall H l=true) {d:DataW H} (hd:d∈l):BF d:=ay (tW hd) (En h)
theorem Kr {es rest:List (DataW H)} (h:BF (.slice es rest)):es.length<=1048576/\ ∀d∈es,BF d:=by
 unfold BF at h;simp only[Rows.uptoBulk]at h;have h1:=BS es;refine⟨by omega,fun d hd=> ?_⟩;have:=tW hd;unfold BF; omega
theorem NL {ds:List (DataW H)} (h:BF (.agg ds)): ∀d∈ds,BF d:=fun d hd=>by
 unfold BF at h;simp only[Rows.uptoBulk]at h;have:=tW hd;unfold BF; omega
theorem zm {P:Program} {t:TypeId} {fs:Array Field} {fuel:Nat} {cs:List Value} {x:DataW H×List MemPlace} (ht:P.underlying t=some (.struct fs)) (h:DataW.trod enc P W base spare held fuel t cs=some x) (hL:BF x.1) (i:Nat) {f:Field} (hf:fs[i]? =some f):
  ∃n y,DataW.trod enc P W base spare held n f.type ((cs.drop f.offset).take (P.cellsOf f.type))=some y/\BF y.1:=by
 obtain⟨xs,n,_,hx,_,ha,hF⟩:=DataW.trod_struct ht h;have hi:i<xs.length:=by rw[ha]; exact(aO.1 hf).1
 refine⟨n,xs[i],by rw[hF i f hf]; simp[hi], ?_⟩;rw[hx]at hL;exact NL hL _ (aS.2 ⟨_,List.getElem_mem hi,rfl⟩)
theorem Ie {α:Type} {P:Program} {R:List Value->α->Prop} {t e:TypeId} {sz:Nat} {fuel:Nat} {cs0:List Value} {y0:DataW H×List MemPlace} (ht:P.underlying t=some (.slice e)) (hc:P.cellsOf e=sz) (hpos:0<sz)
  (hR: ∀n cs y,DataW.trod enc P W base spare held n e cs=some y->BF y.1-> ∃x,R cs x) (hs: ∀c x,R c x->c.length=sz)
  (hf:DataW.trod enc P W base spare held fuel t cs0=some y0) (hL:BF y0.1): ∃v,cs0=[v]/\ ∃xs:List α,cP (fun _=>True) W sz R v xs/\xs.length<=1048576:=by
 rcases DataW.trod_slice ht hf with⟨ha,_⟩ | ⟨a,len0,cap0,elems,rest,n,_,ha,hu,hb,hl,hm,he,hh,_,_⟩
 ·exact⟨_,ha,[],cP.nil,by simp⟩
 ·refine⟨_,ha, ?_⟩;rw[hc]at hh;rw[hu]at hL;obtain⟨hg,hn⟩:=Kr hL;rw[aB,he]at hg;have each: ∀i,i<len0-> ∃cs x,R cs x/\cs.length=sz/\ ∀j,j<sz->W.cell? (a.add (i*sz+j))=cs[j]? :=by
   intro i hi;have h1:=hh i hi;rw[bJ (by omega),dx]at h1;obtain⟨cs,ha,hy⟩:=h1;obtain⟨x,hx⟩:=hR n cs _ hy (hn _ (aS.2 ⟨_,List.getElem_mem (by omega),rfl⟩));refine⟨cs,x,hx,hs cs x hx,fun j hj=> ?_⟩;have h3:=World.cells?_some ha;rw[<-NJ];exact h3.2.2 j hj
  have main: ∀m,m<=len0-> ∃(cells:List Value) (xs:List α),xs.length=m/\cells.length=m*sz/\eR R cells xs/\ ∀(j:Nat) u,cells[j]? =some u->W.cell? (a.add j)=some u:=by
   intro m
   induction m with
   | zero=>intro _; exact⟨[],[],rfl,by simp,rfl,fun j u hj=>by simp at hj⟩
   | succ m ih=>
    intro hm;obtain⟨cells,xs,h1,h2,h3,h4⟩:=ih (by omega);obtain⟨cs,x,hx,hq,hp⟩:=each m (by omega);refine⟨cells++cs,xs++[x],by simp[h1],by rw[an,h2,hq,jw]; omega,eR.snoc h3 hx,fun j u hj=> ?_⟩
    rcases dK j cells.length with hd | hd
    ·rw[bK hd]at hj; exact h4 j u hj
    ·rw[bG hd]at hj;have hv:=(aG.1 hj).1;have:=hp (j-cells.length) (by omega);rw[h2,show m*sz+(j-m*sz)=j by omega]at this;rw[this,<-h2]; exact hj
  obtain⟨cells,xs,h1,h2,h3,h4⟩:=main len0 (ak _);subst h1;refine⟨xs,⟨cells,⟨h2,some a,cap0,rfl,hl,hm, ?_⟩,h3⟩,hg⟩
  rcases eO xs.length with h0 | h0
  ·exact .inl h0
  ·right
   have hr:0<cells.length:=by rw[h2]; exact Nat.mul_pos h0 hpos
   have ho:=h4 0 cells[0] (by simp[hr]);have hk:a.spot=none:=by simpa [Addr.add]using World.cell?_spot ho
   obtain⟨b,o,sp⟩:=a;simp only at hk;subst hk;refine⟨b,o,rfl,trivial,fun j u hj=> ?_⟩;have:=h4 j u hj;rw[vB]at this; exact this
end
section
variable {H : Type} {enc : TypeId × Value → H} {W : World} {base b0 : Nat} {spare : Nat → Bool} {held : Bool} {v : Value} {d : DataW H} {ps : List MemPlace}
theorem FG {n:Nat} {t:TypeId} {cs:List Value} {x:DataW H×List MemPlace} {P:Program} (ht:P.underlying t=some .string) (h:DataW.trod enc P W base spare held n t cs=some x) (hL:BF x.1): ∃s:ByteArray,cs=[.string s]/\s.size<=maxLen/\s.size<=1048576:=by
 obtain⟨s,e,hx,hw⟩:=DataW.trod_string ht h;refine⟨s,e,hw, ?_⟩;rw[hx]at hL;unfold BF at hL;simp only[Rows.uptoBulk]at hL;have h4:s.data.toList.length=s.size:=rfl;omega
theorem DC {α:Type} {R:List Value->α->Prop} {X:α->Prop} : ∀ {xs:List α} {cells:List Value},eR (fun c x=>R c x/\X x) cells xs->eR R cells xs/\ ∀x∈xs,X x
 | [],_,h=>⟨h,by simp⟩
 | x::xs,_,⟨c,rest,e,hx,hr⟩=>by
  obtain⟨h1,h2⟩:=DC hr;refine⟨⟨c,rest,e,hx.1,h1⟩,fun y hy=> ?_⟩
  rcases aZ.1 hy with rfl | hy
  ·exact hx.2
  ·exact h2 y hy
theorem JT {n:Nat} {cs:List Value} {y:DataW H×List MemPlace} (h:DataW.trod enc Tryz.prog W base spare held n 79 cs=some y) (hL:BF y.1): ∃e,nx (fun _=>True) W cs e/\e.path.size<=1048576/\e.data.length<=1048576:=by
 have hl:=FI fQ h;rw[BV]at hl;obtain⟨c0,c1,c2,c3,c4,c5,rfl⟩:=PJ hl;obtain⟨n0,y0,h0,ha⟩:=zm fQ h hL 0 rfl;obtain⟨n1,y1,h1⟩:=pB fQ h 1 rfl;obtain⟨n2,y2,h2⟩:=pB fQ h 2 rfl;obtain⟨n3,y3,h3⟩:=pB fQ h 3 rfl;obtain⟨n4,y4,h4,hb⟩:=zm fQ h hL 4 rfl
 obtain⟨n5,y5,h5⟩:=pB fQ h 5 rfl;simp only[List.getElem_toArray,List.getElem_cons_zero,List.getElem_cons_succ,Lr,Lp,II]at h0 h1 h2 h3 h4 h5;obtain⟨a0,e0,g0,k0⟩:=FG dQ h0 ha;obtain⟨a1,e1,_,g1⟩:=DataW.trod_int iW h1;obtain⟨a2,e2,_,g2⟩:=DataW.trod_int iW h2;obtain⟨a3,e3,_,g3⟩:=DataW.trod_int iW h3
 obtain⟨a4,e4,bs,g4,gb⟩:=Ie (R:=BC) df NO (by omega) (fun n cs y hy _=>JS hy) (fun c x hc=>by rw[show c=[aY x]from hc]; rfl) h4 hb;obtain⟨a5,e5,_,g5⟩:=DataW.trod_string dQ h5;simp at e0 e1 e2 e3 e4 e5;subst e0 e1 e2 e3 e4 e5;exact⟨⟨a0,a1,a2,a3,bs,a5⟩,⟨_,rfl,Ev (AL g4),⟨g0,g5,g1,g2,g3⟩⟩,k0,gb⟩
theorem Fe (hval:Value.okWide Tryz.prog W .any b0 46 v) (h:DataW.Trod enc Tryz.prog W base spare held 46 v d ps) (hL:BF d): ∃xs,eI (fun _=>True) W v xs/\ ∀e∈xs,e.path.size<=1048576/\e.data.length<=1048576:=by
 obtain⟨a0,len0,cap0,rfl⟩:=okWide_slice Tryz.underlying46 hval;obtain⟨fuel,hf⟩:=h;obtain⟨v,h1,xs,⟨cells,h2,h3⟩,_⟩:=Ie (R:=fun c e=>nx (fun _=>True) W c e/\e.path.size<=1048576/\e.data.length<=1048576) Tryz.underlying46 BV (by omega) (fun n cs y hy ha=>JT hy ha) (fun c x hx=>nx.len c x hx.1) hf hL;simp[Value.cells]at h1;subst h1;obtain⟨h4,h5⟩:=DC h3
 exact⟨xs,⟨cells,h2,h4⟩,h5⟩
end
end Go.Proofs.YtpffpjbkbaleiaaGreatDoor
