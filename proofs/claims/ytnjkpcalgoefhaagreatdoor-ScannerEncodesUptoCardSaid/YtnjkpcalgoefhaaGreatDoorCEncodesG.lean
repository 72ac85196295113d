/- Texts of this proof, one after the other: ScnX, IdxQ, RefI, RefJ, RfA, RefA, RefB, RfD, RfE, RfF, RcT, RfG, RefK, RefO, RefEnc. -/
import Derived.Test.YtnjkpcalgoefhaaGreatDoorCEncodesF
set_option maxRecDepth 100000
set_option maxHeartbeats 8000000
namespace Go.Proofs.YtnjkpcalgoefhaaGreatDoor
open Go Go.RowKit Go.Maps
theorem Gp (r r':bm) (w:World):(Op.equalIn 10000 82 (jB r) (jB r')).run Tryz.prog w= .ok (decide (r=r')) w:=by
 have u1:=Tryz.underlying9;have u2:=Tryz.underlying3;have hS:Tryz.prog.underlying 82=some (.struct (Tryz.prog.fieldsOf 82)):=by kernel_rfl
 rw[show(10000:Nat)=9999+1 from rfl];unfold jB;rw[run_equalIn_struct w 9999 82 _ _ hS (by kernel_rfl)];simp only[Program.fieldsOf,Tryz.underlying82]
 go_simp
 obtain⟨n,s⟩:=r;obtain⟨n',s'⟩:=r';have hn:n.toList=n'.toList<->n=n':=⟨fun h=>iY (by rw[<-bD,<-bD,h]),fun h=>by rw[h]⟩;simp only[bm.mk.injEq,hn]
 by_cases h1:n=n'<;> by_cases h3:s=s'<;> simp[h1,h3]
theorem vR (S T:Nat->Prop) (v u:Value) (rs ss:List bm) (w:World) (hv:aP S w v rs) (hu:aP T w u ss):
  Calls Tryz.prog 24 #[v,u] w fun e w'=>e= .returned (.bool (decide (rs=ss)))/\Below w.heap.size w w':=by
 obtain⟨a,cap,rfl,hc,hm,-⟩:=aY.shape hv dD.len;obtain⟨a2,cap2,rfl,hc2,hm2,-⟩:=aY.shape hu dD.len;unfold maxLen at hm hm2;have HV:=ab hv;have HU:=ab hu;clear hv hu
 by_cases hl:rs.length=ss.length
 ·have HL:=ab hl;have hl2:ss.length=rs.length:=hl.symm;rw[hl2]at HU hc2 ⊢;clear hl hl2
  go_enter Tryz.func24,Tryz.ntmps24
  go_wp2_with fail
  go_loopw [5] (fun i wr=> ∃k:Nat,k<=rs.length/\i= .int .i64 k/\rs.take k=ss.take k/\Below w.heap.size w wr) (fun i _=>rs.length-(intOf i).toNat)
  case atStart=>exact⟨0,Nat.zero_le _,rfl,by simp,Below.refl _ _⟩
  case round=>
   obtain⟨k,hk,rfl,hn,hb⟩:=hrel;have HN:=ab hn;have HB:=ab hb;clear hn hb
   by_cases hlt:k<rs.length
   ·obtain⟨r,hr⟩: ∃r,rs[k]? =some r:=⟨rs[k],by simp[hlt]⟩;obtain⟨x,hx⟩: ∃x,ss[k]? =some x:=⟨ss[k]'(by have:=HL.out; omega),by simp⟩;have HR:=ab hr;have HX:=ab hx;have heq:=Gp r x;obtain⟨W,hW⟩: ∃W:World,W=wr.drew:=⟨_,rfl⟩;have HBW:=ab (show Below w.heap.size w W by rw[hW]; exact HB.out.drew);obtain⟨b,o,rfl,-,-,-,q0,q1⟩:=dz HV.out HBW.out hr
    obtain⟨b2,o2,rfl,-,-,-,p0,p1⟩:=dz (by have:=HU.out; rw[HL.out]at this; exact this) HBW.out hx;unfold jB at heq;clear hr hx
    by_cases hm:r=x
    ·have e1:decide (r=x)=true:=by simp[hm]
     rw[e1]at heq;have HT:=ab (show rs.take (k+1)=ss.take (k+1) by rw[aX HR.out,aX HX.out,HN.out,hm]);clear e1 hm;go_wp2_with fail;refine aA [some 9] (by kernel_rfl) (by kernel_rfl) (by kernel_rfl) ?_;simp only[bz,List.take_succ_cons,List.take_zero];rw[<-hW];clear hW
     repeat (first | (refine aD rfl ?_; simp only[Act.put,aH,aI,aJ]) | (refine aM rfl (fun K hK=> ?_); go_simp; refine hK _ ?_; clear hK K))
     refine aL ?_;go_wp2_with fail
     go_roundw
     case rel=>exact⟨k+1,by omega,rfl,HT.out,HBW.out⟩
     case measure=>simp only[intOf,Int.toNat_natCast]; omega
    ·have e1:decide (r=x)=false:=by simp[hm]
     rw[e1]at heq;have HT:=ab (show decide (rs=ss)=false by
      rw[decide_eq_false_iff_not];intro e;have h1:=HR.out;rw[e,HX.out]at h1;exact hm (Option.some.inj h1).symm)
     clear e1 hm;go_wp2_with fail;refine aA [some 9] (by kernel_rfl) (by kernel_rfl) (by kernel_rfl) ?_;simp only[bz,List.take_succ_cons,List.take_zero];rw[<-hW];clear hW
     repeat (first | (refine aD rfl ?_; simp only[Act.put,aH,aI,aJ]) | (refine aM rfl (fun K hK=> ?_); go_simp; refine hK _ ?_; clear hK K))
     refine aL ?_;go_wp2_with fail;go_ret;exact⟨az HT.out.symm,HBW.out⟩
   ·obtain rfl:k=rs.length:=by omega
    have HT:=ab (show decide (rs=ss)=true by
     have:=HN.out;rw[List.take_of_length_le (Nat.le_refl _),List.take_of_length_le (by rw[HL.out]; exact Nat.le_refl _)]at this;simp[this])
    go_wp2_with fail;go_ret;exact⟨az HT.out.symm,HB.out⟩
 ·have HT:=ab (show decide (rs=ss)=false by rw[decide_eq_false_iff_not]; intro e; exact hl (by rw[e]));have e1:((rs.length:Int) != (ss.length:Int))=true:=by simp; omega
  clear hl
  go_enter Tryz.func24,Tryz.ntmps24
  go_wp2_with fail;go_ret;exact⟨az HT.out.symm,Below.refl _ _⟩
def tP (l:List Nat):Nat:=l.foldl (· + ·) 0
theorem Bi (l:List Nat) (n:Nat):tP (l++[n])=tP l+n:=by unfold tP; rw[List.foldl_append]; rfl
theorem Fi {l:List Nat} {B:Nat} (h: ∀n∈l,n<=B):tP l<=l.length*B:=by
 have key: ∀(l:List Nat) (a:Nat),(∀n∈l,n<=B)->l.foldl (· + ·) a<=a+l.length*B:=by
  intro l
  induction l with
  | nil=>intro a _; simp
  | cons x l ih=>
   intro a h;rw[List.foldl_cons,List.length_cons];have h1:=ih (a+x) fun n hn=>h n (by simp[hn])
   have h2:=h x (by simp);rw[Nat.add_mul];omega
 have:=key l 0 h;unfold tP;omega
def xT (x:cA):Nat:=tP ((x.files.take 20).map fun f=>f.parts.length)
def jn (x:cA):Bool:=decide (x.files.length<=16) && decide (xT x<=60)
theorem AZ (S:Nat->Prop) (x:cA) (fv:Value) (w:World) (hx:aT S w fv x.files) (hw: ∀f∈x.files,f.parts.length<=1125899906842624):Calls Tryz.prog 10 #[dQ fv x.tm] w fun e w'=>e= .returned (.bool (jn x))/\Below w.heap.size w w':=by
 obtain⟨a,cap,rfl,hc,hm,-⟩:=aY.shape hx dT.len;unfold maxLen at hm;have HX:=ab hx;have HWT:=ab hw;clear hx hw;obtain⟨n,hn⟩: ∃n,n=x.files.length:=⟨_,rfl⟩;rw[<-hn]at hc HX ⊢;have HN:=ab hn;clear hn;unfold dQ
 go_enter Tryz.func10,Tryz.ntmps10
 go_upto_region 1 with fail
 obtain⟨W,hW⟩: ∃W,W=w.alloc (.cells #[.int .i64 x.tm, .slice a n cap] 24):=⟨_,rfl⟩;rw[<-hW];have HBW:=ab (show Below w.heap.size w W by rw[hW]; exact(Below.refl _ _).alloc (Nat.le_refl _) _);have HBX:=ab (show W.heap[w.heap.size]? =some (.cells #[.int .i64 x.tm, .slice a n cap] 24 (0,0)) by rw[hW]; exact heap_alloc_new w _);have HV:=ab (show aT S W (.slice a n cap) x.files from aT.below HX.out HBW.out)
 clear hW;have k1:=ai (k:=1) HBX.out;simp only[List.getElem?_toArray,bV]at k1;go_wp2_with fail
 go_loopw [3,4] (fun s i wr=> ∃k:Nat,k<=n/\k<=20/\i= .int .i64 k/\s= .int .i64 ((tP ((x.files.take k).map fun f=>f.parts.length):Nat):Int)/\wr=W) (fun _ i _=>20-(intOf i).toNat)
 case atStart=>exact⟨0,Nat.zero_le _,by omega,rfl,rfl,rfl⟩
 case round=>
  obtain⟨k,hk,hk2,rfl,rfl,rfl⟩:=hrel;obtain⟨m,hm2⟩: ∃m,m=tP ((x.files.take k).map fun f=>f.parts.length):=⟨_,rfl⟩;have HM:=ab hm2;have hmb:m<=k*1125899906842624:=by
   rw[hm2];refine Nat.le_trans (Fi (B:=1125899906842624) (fun y hy=> ?_)) ?_
   ·obtain⟨f,hf,rfl⟩:=List.mem_map.1 hy;exact HWT.out f (List.take_subset _ _ hf)
   ·rw[List.length_map];exact Nat.mul_le_mul_right _ (List.length_take_le _ _)
  rw[<-hm2];clear hm2
  by_cases hlt:k<n
  ·by_cases h20:k<20
   ·obtain⟨f,hf⟩: ∃f,x.files[k]? =some f:=⟨_,List.getElem?_eq_getElem (show k<x.files.length by rw[<-HN.out]; exact hlt)⟩;obtain⟨b,o,pa,pc,rfl,-,-,-,-,hcl⟩:=cQ HV.out (Below.refl _ _) hf;have q6:=hcl 6 (by omega);simp only[bM,bV]at q6;have hpl:=HWT.out f (List.mem_of_getElem? hf);have HF:=ab hf;obtain⟨p,hp⟩: ∃p,p=f.parts.length:=⟨_,rfl⟩;rw[<-hp]at q6 hpl
    have HP:=ab hp;clear hf hcl hp;have hadd:IntKind.i64.wrap ((m:Int)+(p:Int))=((m+p:Nat):Int):=by rw[IntKind.wrap_i64]; omega
    go_wp2_with fail
    go_roundw
    case rel=>
     refine⟨k+1,by omega,by omega,rfl, ?_,trivial⟩;rw[aX HF.out,List.map_append,List.map_singleton,Bi,<-HM.out,<-HP.out]
     first | rfl | (rw[hadd])
    case measure=>simp only[intOf,Int.toNat_natCast]; omega
   ·have hk20:k=20:=by omega
    subst hk20;have HR:=ab (show jn x=false by
     unfold jn;rw[show decide (x.files.length<=16)=false by rw[decide_eq_false_iff_not,<-HN.out]; omega]; rfl)
    have hn16: ¬(n:Int)<=16:=by omega
    go_wp2_with fail;go_ret;exact⟨az (by rw[HR.out]),HBW.out⟩
  ·have hkn:k=n:=by omega
   subst hkn;have htk:x.files.take k=x.files.take 20:=by rw[List.take_of_length_le (by rw[<-HN.out]; exact Nat.le_refl _),List.take_of_length_le (by rw[<-HN.out]; exact hk2)]
   have HR:=ab (show jn x=(decide (k<=16) && decide (m<=60)) by
    unfold jn xT;rw[<-HN.out,<-htk,<-HM.out])
   by_cases h16:k<=16
   ·have h16':(k:Int)<=16:=by omega
    go_wp2_with fail;go_ret;exact⟨az (by rw[HR.out]; simp[h16]; omega),HBW.out⟩
   ·have h16': ¬(k:Int)<=16:=by omega
    go_wp2_with fail;go_ret;exact⟨az (by rw[HR.out]; simp[h16]),HBW.out⟩
def ie (w:World) (v:Value) (L:List (List UInt8)):Prop:= ∃ys:List Value,aS (fun _=>True) w 1 v L.length ys/\ ∀(k:Nat) y pl,ys[k]? =some y->L[k]? =some pl->bi (fun _=>True) w y pl
theorem ie.below {w w':World} {v:Value} {L:List (List UInt8)} (h:ie w v L) (hb:Below w.heap.size w w'):ie w' v L:=by
 obtain⟨ys,h1,h2⟩:=h;exact⟨ys,aS.below h1 (by omega) hb,fun k y pl hy hp=>aS.below (h2 k y pl hy hp) (by omega) hb⟩
theorem xE {B:Nat} {v:Value} {L:List (List UInt8)} {w:World} (h:cZ B v L w):ie w v L:=by
 obtain⟨ys,h1,h2,h3⟩:=h;have hl:ys.length=L.length:=by rw[<-h1,List.length_map]
 refine⟨ys.map Prod.fst, ?_,fun k y pl hy hp=> ?_⟩
 ·rw[<-hl];exact(bp h2).weak (fun _ _=>trivial)
 ·rw[List.getElem?_map,Option.map_eq_some_iff]at hy;obtain⟨z,hz,rfl⟩:=hy;rw[<-h1,List.getElem?_map,hz]at hp
  cases hp
  exact(bp (h3 z (List.mem_of_getElem? hz))).weak (fun _ _=>trivial)
theorem BP {w:World} {a:Option Addr} {n cap:Nat} {L:List (List UInt8)} (h:ie w (.slice a n cap) L) {k:Nat} {pl:List UInt8} (hk:L[k]? =some pl):
  ∃b o ya yc,a=some ⟨b,o,none⟩/\w.cell? ⟨b,o+k,none⟩=some (.slice ya pl.length yc)/\bi (fun _=>True) w (.slice ya pl.length yc) pl:=by
 obtain⟨ys,⟨hl,a',cap',hv,_,_,h0⟩,h2⟩:=h
 cases hv
 have hlt:=(List.getElem?_eq_some_iff.1 hk).1
 rcases h0 with h0 | ⟨b,o,rfl,_,hc⟩
 ·omega
 ·obtain⟨y,hy⟩: ∃y,ys[k]? =some y:=⟨_,List.getElem?_eq_getElem (show k<ys.length by omega)⟩;have h3:=h2 k y pl hy hk;obtain⟨_,ya,yc,rfl,_,_,_⟩:=id h3;exact⟨b,o,ya,yc,rfl,hc k _ hy,h3⟩
theorem xO (v u:Value) (L M:List (List UInt8)) (w:World) (hv:ie w v L) (hu:ie w u M):
  Calls Tryz.prog 32 #[v,u] w fun e w'=>e= .returned (.bool (decide (L=M)))/\Below w.heap.size w w':=by
 obtain⟨_,⟨_,a,cap,rfl,hc,hm,_⟩,_⟩:=id hv;obtain⟨_,⟨_,a2,cap2,rfl,hc2,hm2,_⟩,_⟩:=id hu;unfold maxLen at hm hm2;have HV:=ab hv;have HU:=ab hu;clear hv hu
 by_cases hl:L.length=M.length
 ·have HL:=ab hl;have hl2:M.length=L.length:=hl.symm;rw[hl2]at HU hc2 ⊢;clear hl hl2
  go_enter Tryz.func32,Tryz.ntmps32
  go_wp2_with fail
  go_loopw [5] (fun i wr=> ∃k:Nat,k<=L.length/\i= .int .i64 k/\L.take k=M.take k/\Below w.heap.size w wr) (fun i _=>L.length-(intOf i).toNat)
  case atStart=>exact⟨0,Nat.zero_le _,rfl,by simp,Below.refl _ _⟩
  case round=>
   obtain⟨k,hk,rfl,hn,hb⟩:=hrel;have HN:=ab hn;have HB:=ab hb;clear hn hb
   by_cases hlt:k<L.length
   ·obtain⟨r,hr⟩: ∃r,L[k]? =some r:=⟨L[k],by simp[hlt]⟩;obtain⟨x,hx⟩: ∃x,M[k]? =some x:=⟨M[k]'(by have:=HL.out; omega),by simp⟩;have HR:=ab hr;have HX:=ab hx;obtain⟨W,hW⟩: ∃W:World,W=wr.drew:=⟨_,rfl⟩;have HBW:=ab (show Below w.heap.size w W by rw[hW]; exact HB.out.drew);obtain⟨b,o,ya,yc,rfl,q0,hy⟩:=BP (HV.out.below HBW.out) hr;obtain⟨b2,o2,za,zc,rfl,p0,hy2⟩:=BP (by have:=HU.out.below HBW.out; rw[HL.out]at this; exact this) hx
    have hc1:=bw (bs:=r) hy;have hc2:=bw (bs:=x) hy2;clear hr hx hy hy2
    by_cases hm:r=x
    ·have HT:=ab (show L.take (k+1)=M.take (k+1) by rw[aX HR.out,aX HX.out,HN.out,hm]);subst hm;go_wp2_with fail;refine aA [some 11] (by kernel_rfl) (by kernel_rfl) (by kernel_rfl) ?_;simp only[bz,List.take_succ_cons,List.take_zero];rw[<-hW];clear hW
     repeat (first | (refine aD rfl ?_; simp only[Act.put,aH,aI,aJ]) | (refine aM rfl (fun K hK=> ?_); go_simp; refine hK _ ?_; clear hK K))
     refine aL ?_;go_wp2_with fail
     all_goals exact⟨⟨k+1,by omega,rfl,HT.out,HBW.out⟩,by simp only[intOf,Int.toNat_natCast]; omega⟩
    ·have HT:=ab (show decide (L=M)=false by
      rw[decide_eq_false_iff_not];intro e;have h1:=HR.out;rw[e,HX.out]at h1;exact hm (Option.some.inj h1).symm)
     have hm4:(r == x)=false:=by simpa using hm
     have hm3: ¬(⟨r.toArray⟩:ByteArray).toList=(⟨x.toArray⟩:ByteArray).toList:=fun h=>hm (by rw[bD,bD,lY,lY]at h; exact h)
     go_wp2_with fail;refine aA [some 11] (by kernel_rfl) (by kernel_rfl) (by kernel_rfl) ?_;simp only[bz,List.take_succ_cons,List.take_zero];rw[<-hW];clear hW
     repeat (first | (refine aD rfl ?_; simp only[Act.put,aH,aI,aJ]) | (refine aM rfl (fun K hK=> ?_); go_simp; refine hK _ ?_; clear hK K))
     refine aL ?_;go_wp2_with fail;go_ret;exact⟨az HT.out.symm,HBW.out⟩
   ·obtain rfl:k=L.length:=by omega
    have HT:=ab (show decide (L=M)=true by
     have:=HN.out;rw[List.take_of_length_le (Nat.le_refl _),List.take_of_length_le (by rw[HL.out]; exact Nat.le_refl _)]at this;simp[this])
    go_wp2_with fail;go_ret;exact⟨az HT.out.symm,HB.out⟩
 ·have HT:=ab (show decide (L=M)=false by rw[decide_eq_false_iff_not]; intro e; exact hl (by rw[e]));have e1:((L.length:Int) != (M.length:Int))=true:=by simp; omega
  clear hl
  go_enter Tryz.func32,Tryz.ntmps32
  go_wp2_with fail;go_ret;exact⟨az HT.out.symm,Below.refl _ _⟩
end Go.Proofs.YtnjkpcalgoefhaaGreatDoor
namespace Go.Proofs.YtnjkpcalgoefhaaGreatDoor
open Go.RowKit
theorem tA {p:bm} (h:cW p=true):(dr p).length<=42:=by
 obtain⟨h1,h2,h3⟩:=fO.1 h;have:=bT (n:=p.size.toNat) (by omega);unfold dr;rw[List.length_append,<-ay];omega
theorem lh : ∀ {l:List bm},(∀p∈l,cW p=true)->(l.flatMap dr).length<=42*l.length
 | [],_=>by simp
 | p::l,h=>by
  rw[List.flatMap_cons,List.length_append,List.length_cons];have h1:=tA (h p (by simp));have h2:=lh (l:=l) fun q hq=>h q (by simp[hq])
  omega
theorem tu {f:aw} (h:wC f) (hp:f.parts.length<=1048576):(cK f).length<=1094+42*f.parts.length:=by
 have h1:=lh h.parts;have k1:=bT (n:=f.path.size) (by have:=h.path; omega);have k2:=bT (n:=f.kind.toNat) (by have:=h.kind; omega);have k3:=bT (n:=f.mode.toNat) (by have:=h.mode; omega);have k4:=bT (n:=f.time.toNat) (by have:=h.time; omega);have k5:=bT (n:=f.size.toNat) (by have:=h.size; omega);have k6:=bT (n:=f.link.size) (by have:=h.link; omega)
 have k7:=bT (n:=f.parts.length) (by omega);have hl:=h.link;have hq:=h.path;unfold cK;simp only[List.length_append,<-ay];omega
theorem lg : ∀ {l:List aw},(∀f∈l,wC f)->(∀f∈l,f.parts.length<=1048576)->(l.flatMap cK).length<=1094*l.length+42*(l.flatMap aw.parts).length
 | [],_,_=>by simp
 | f::l,h,hp=>by
  rw[List.flatMap_cons,List.flatMap_cons,List.length_append,List.length_append,List.length_cons];have h1:=tu (h f (by simp)) (hp f (by simp));have h2:=lg (l:=l) (fun q hq=>h q (by simp[hq])) (fun q hq=>hp q (by simp[hq]));omega
theorem uC {x:cA} (h: ∀f∈x.files,wC f) (hp: ∀f∈x.files,f.parts.length<=1048576) (hn:x.files.length<=16) (ht:(x.files.flatMap aw.parts).length<=60) (h0:x.tm<9223372036854775808):(cr x).length<=32768:=by
 have h1:=lg h hp;have k1:=bT (n:=x.tm.toNat) (by omega);have k2:=bT (n:=x.files.length) (by omega);unfold cr;simp only[List.length_append];omega
theorem py : ∀(l:List Nat) (a:Nat),l.foldl (· + ·) a=a+l.sum
 | [],a=>by simp
 | x::l,a=>by rw[List.foldl_cons,py l,List.sum_cons]; omega
theorem Ba {x:cA} (h:jn x=true):(x.files.flatMap aw.parts).length<=60:=by
 unfold jn xT at h;simp only[Bool.and_eq_true,decide_eq_true_eq]at h;rw[List.take_of_length_le (by omega)]at h;unfold tP at h;rw[py,Nat.zero_add]at h;rw[List.length_flatMap];exact h.2
theorem qI {f:aw} (h: ∀p∈f.parts,cW p=true):33*f.parts.length<=(cK f).length:=by
 have h1:=jb h;unfold cK;simp only[List.length_append];omega
theorem jY : ∀ {l:List aw},(∀f∈l,∀p∈f.parts,cW p=true)->33*(l.flatMap aw.parts).length<=(l.flatMap cK).length
 | [],_=>by simp
 | f::l,h=>by
  rw[List.flatMap_cons,List.flatMap_cons,List.length_append,List.length_append];have h1:=qI (h f (by simp));have h2:=jY (l:=l) (fun q hq=>h q (by simp[hq]));omega
theorem ws {f:aw} (h:cJ f=true): ∀p∈f.parts,cW p=true:=by
 unfold cJ at h
 split at h
 ·simp only[Bool.and_eq_true]at h;exact List.all_eq_true.1 h.1
 ·simp only[Bool.and_eq_true,decide_eq_true_eq]at h;rw[h.2]; simp
structure Fv (x : cA) : Prop where
 tm:0<=x.tm
 num:x.files.length<=4096
 tot:(x.files.flatMap aw.parts).length<=8000
 each: ∀f∈x.files,f.parts.length<=8000
theorem zM {x:cA} (h:cR x=true) (hl:(cr x).length<=32768):Fv x:=by
 obtain⟨h0,h1,h2⟩:=gC h;have h3:=jY (l:=x.files) fun f hf=>ws (h2 f hf).2
 unfold cr at hl;simp only[List.length_append]at hl;refine⟨h0,h1,by omega,fun f hf=> ?_⟩;have h4:f.parts.length<=(x.files.flatMap aw.parts).length:=by
  obtain⟨s,t,e⟩:=List.append_of_mem hf;rw[e,List.flatMap_append,List.flatMap_cons,List.length_append,List.length_append];omega
 omega
open Go Go.RowKit Go.Maps
theorem Tryz.appParts22 :cY Tryz.prog 40 85 2 24:=cY.mk' (z:= .agg #[.string ⟨#[]⟩, .int .i64 0]) Tryz.underlying40 (by kernel_rfl) rfl (by decide) (by decide)
theorem GK {w:World} {b:Nat} {a0 a1 a2 a3 a4 a5 a6 x0 x1 x2 x3 x4 x5 x6:Value} {t:TypeId} (h:w.heap[b]? =some (.cells #[a0,a1,a2,a3,a4,a5,a6] t (0,0))):(((((((w.setCell ⟨b,0,none⟩ x0).setCell ⟨b,1,none⟩ x1).setCell ⟨b,2,none⟩ x2).setCell ⟨b,3,none⟩ x3).setCell ⟨b,4,none⟩ x4).setCell ⟨b,5,none⟩ x5).setCell ⟨b,6,none⟩ x6).heap[b]? =some (.cells #[x0,x1,x2,x3,x4,x5,x6] t (0,0)):=by
 have h7:=(heap_setCell_same _ b 6 _ _ x6 (heap_setCell_same _ b 5 _ _ x5 (heap_setCell_same _ b 4 _ _ x4 (heap_setCell_same _ b 3 _ _ x3 (heap_setCell_same _ b 2 _ _ x2 (heap_setCell_same _ b 1 _ _ x1 (heap_setCell_same _ b 0 _ _ x0 h)))))))
 simpa using h7
theorem zL {b k:Nat} {w:World} {x0 x1 x2 x3 x4 x5 x6:Value} (hk:k≠b):(((((((w.setCell ⟨b,0,none⟩ x0).setCell ⟨b,1,none⟩ x1).setCell ⟨b,2,none⟩ x2).setCell ⟨b,3,none⟩ x3).setCell ⟨b,4,none⟩ x4).setCell ⟨b,5,none⟩ x5).setCell ⟨b,6,none⟩ x6).heap[k]? =w.heap[k]? :=
 (Below.heap_setCell _ _ _ _ hk).trans ((Below.heap_setCell _ _ _ _ hk).trans ((Below.heap_setCell _ _ _ _ hk).trans ((Below.heap_setCell _ _ _ _ hk).trans ((Below.heap_setCell _ _ _ _ hk).trans ((Below.heap_setCell _ _ _ _ hk).trans (Below.heap_setCell _ _ _ _ hk))))))
theorem wM {B b:Nat} {a w:World} {x0 x1 x2 x3 x4 x5 x6:Value} (h:Below B a w) (hb:B<=b):Below B a (((((((w.setCell ⟨b,0,none⟩ x0).setCell ⟨b,1,none⟩ x1).setCell ⟨b,2,none⟩ x2).setCell ⟨b,3,none⟩ x3).setCell ⟨b,4,none⟩ x4).setCell ⟨b,5,none⟩ x5).setCell ⟨b,6,none⟩ x6):=
 (Below.setCell (Below.setCell (Below.setCell (Below.setCell (Below.setCell (Below.setCell (Below.setCell h hb _) hb _) hb _) hb _) hb _) hb _) hb _)
theorem vA (l:List bm) (p:bm):bg (l++[p])=bg l++mD p:=by simp[bg]
structure GG (w W2 wr : World) (b : Nat) (f : aw) (v : Value) (k : Nat) : Prop where
 below:Below b W2 wr
 box:wr.heap[b]? =some (.cells (bM v f).toArray 42 (0,0))
 own:wr.ownsRow w.heap.size 85 2 v k (bg (f.parts.take k))
theorem xf (S:Nat->Prop) (f:aw) (pv:Value) (w:World) (hp:aP S w pv f.parts) (hn2:f.parts.length<=1048576):Calls Tryz.prog 17 #[dU pv f] w fun e w'=> ∃pv2,e= .returned (dU pv2 f)/\w'.ownsRow w.heap.size 85 2 pv2 f.parts.length (bg f.parts)/\Below w.heap.size w w':=by
 obtain⟨a,cap,rfl,hc,hm,-⟩:=aY.shape hp dD.len;have HP:=ab hp;clear hp;obtain⟨n,hn⟩: ∃n,n=f.parts.length:=⟨_,rfl⟩;rw[<-hn]at HP hn2 ⊢;have HN:=ab hn;clear hn hc hm;unfold dU
 go_enter Tryz.func17,Tryz.ntmps17
 go_upto_region 2 with fail
 obtain⟨W2,hW2⟩: ∃W2,W2=((w.alloc (.cells #[.string f.path, .int .i64 f.kind, .int .i64 f.mode, .int .i64 f.time, .int .i64 f.size, .string f.link, .slice a n cap] 27)).alloc (.cells #[.string ⟨#[]⟩, .int .i64 0, .int .i64 0, .int .i64 0, .int .i64 0, .string ⟨#[]⟩, .slice none 0 0] 42)).alloc (.cells #[.string f.path, .int .i64 f.kind, .int .i64 f.mode, .int .i64 f.time, .int .i64 f.size, .string f.link, .slice none 0 0] 42):=⟨_,rfl⟩
 rw[<-hW2];have hzw:W2.heap.size=w.heap.size+3:=by rw[hW2]; simp
 have HBW:=ab (show Below w.heap.size w W2 by rw[hW2]; exact(((Below.refl _ _).alloc (Nat.le_refl _) _).alloc (by simp) _).alloc (by simp; omega) _);have HX:=ab (show W2.heap[w.heap.size]? =some (.cells #[.string f.path, .int .i64 f.kind, .int .i64 f.mode, .int .i64 f.time, .int .i64 f.size, .string f.link, .slice a n cap] 27 (0,0)) by
  rw[hW2,heap_alloc_old _ _ (by simp; omega),heap_alloc_old _ _ (by simp)]; exact heap_alloc_new w _)
 have HR:=ab (show W2.heap[w.heap.size+1]? =some (.cells #[.string ⟨#[]⟩, .int .i64 0, .int .i64 0, .int .i64 0, .int .i64 0, .string ⟨#[]⟩, .slice none 0 0] 42 (0,0)) by
  rw[hW2,heap_alloc_old _ _ (by simp)];have h:=heap_alloc_new (w.alloc (.cells #[.string f.path, .int .i64 f.kind, .int .i64 f.mode, .int .i64 f.time, .int .i64 f.size, .string f.link, .slice a n cap] 27)) (.cells #[.string ⟨#[]⟩, .int .i64 0, .int .i64 0, .int .i64 0, .int .i64 0, .string ⟨#[]⟩, .slice none 0 0] 42);rw[show(w.alloc (.cells #[.string f.path, .int .i64 f.kind, .int .i64 f.mode, .int .i64 f.time, .int .i64 f.size, .string f.link, .slice a n cap] 27)).heap.size=w.heap.size+1 by simp]at h; exact h)
 have HY:=ab (show W2.heap[w.heap.size+1+1]? =some (.cells (bM (.slice none 0 0) f).toArray 42 (0,0)) by
  rw[hW2];have h:=heap_alloc_new ((w.alloc (.cells #[.string f.path, .int .i64 f.kind, .int .i64 f.mode, .int .i64 f.time, .int .i64 f.size, .string f.link, .slice a n cap] 27)).alloc (.cells #[.string ⟨#[]⟩, .int .i64 0, .int .i64 0, .int .i64 0, .int .i64 0, .string ⟨#[]⟩, .slice none 0 0] 42)) (.cells #[.string f.path, .int .i64 f.kind, .int .i64 f.mode, .int .i64 f.time, .int .i64 f.size, .string f.link, .slice none 0 0] 42)
  rw[show((w.alloc (.cells #[.string f.path, .int .i64 f.kind, .int .i64 f.mode, .int .i64 f.time, .int .i64 f.size, .string f.link, .slice a n cap] 27)).alloc (.cells #[.string ⟨#[]⟩, .int .i64 0, .int .i64 0, .int .i64 0, .int .i64 0, .string ⟨#[]⟩, .slice none 0 0] 42)).heap.size=w.heap.size+1+1 by simp]at h; exact h)
 have HP2:=ab (HP.out.below HBW.out);have hzl:=hzw;clear hW2 hzw;go_wp2_with fail
 go_loopw [4] (fun i wr=> ∃(k:Nat) (v:Value),k<=n/\i= .int .i64 k/\GG w W2 wr (w.heap.size+1+1) f v k) (fun i _=>n-(intOf i).toNat)
 case atStart=>exact⟨0, .slice none 0 0,Nat.zero_le _,rfl,⟨Below.refl _ _,HY.out,World.ownsRow_nil _ _ _ _⟩⟩
 case round=>
  obtain⟨k,v,hk,rfl,hfo⟩:=hrel;have HFO:=ab hfo;have p6:=(hfo.below.cell (p:=⟨w.heap.size,6,none⟩) (by show w.heap.size<w.heap.size+1+1; omega)).trans (ai (k:=6) HX.out);have hzr:=hfo.below.size;simp only[List.getElem?_toArray,bV]at p6;clear hfo
  by_cases hlt:k<n
  ·obtain⟨p,hpk⟩: ∃p,f.parts[k]? =some p:=⟨_,List.getElem?_eq_getElem (show k<f.parts.length by rw[<-HN.out]; exact hlt)⟩;obtain⟨va,vc,rfl,-,-⟩:=au HFO.out.own
   go_upto_region 5 with fail
   obtain⟨W5,hW5⟩: ∃W5:World,W5=wr.drew:=⟨_,rfl⟩;have HB5:=ab (show Below wr.heap.size wr W5 by rw[hW5]; exact(Below.refl _ _).drew);have HBr:=ab (show Below w.heap.size w wr from HBW.out.trans (HFO.out.below.mono (by omega)));obtain⟨pb,po,hpa,-,hpb,hpok,q0,q1⟩:=dz HP.out (HBr.out.trans (HB5.out.mono HBr.out.size)) hpk;subst hpa;have hb2:w.heap.size+1+1<wr.heap.size:=lt_of_block HFO.out.box
   have k6:=(HB5.out.cell (p:=⟨w.heap.size+1+1,6,none⟩) hb2).trans (ai (k:=6) HFO.out.box);have p6':=(HB5.out.cell (p:=⟨w.heap.size,6,none⟩) (by show w.heap.size<wr.heap.size; omega)).trans p6;have e6:(bM (.slice va k vc) f).toArray[6]? =some (.slice va k vc):=rfl;rw[e6]at k6;have S5:=ab (And.intro k6 (And.intro p6' (And.intro q0 q1)));have HO5:=ab (aV HFO.out.own HB5.out)
   have HY5:=ab ((HB5.out.block _ hb2).trans HFO.out.box);have hz5:=HB5.out.size;have HPK:=ab hpk;clear e6 k6 p6 p6' q0 q1 hpk;refine cL (fun w'=>w'.cell? ⟨w.heap.size+1+1,6,none⟩=some (.slice va k vc)/\w'.cell? ⟨w.heap.size,6,none⟩=some (.slice (some ⟨pb,po,none⟩) n cap)/\w'.cell? ⟨pb,po+k*2,none⟩=some (.string p.sum)/\w'.cell? ⟨pb,po+k*2+1,none⟩=some (.int .i64 p.size)) (by kernel_rfl) (by kernel_rfl) ?_
   simp only[List.dropLast_cons_cons,List.dropLast_singleton,List.length_cons,List.length_nil,Nat.reduceAdd,Nat.reduceSub];rw[<-hW5];clear hW5;refine ag 0 rfl (by kernel_rfl) (by kernel_rfl) (by kernel_rfl) (fun _ _ _ h=>h) rfl S5.out (by rintro w' ⟨hw1,hw2,hw3,hw4⟩; go_simp; rfl) ?_;simp only[Act.put,aH,aI,aJ];refine ag 1 rfl (by kernel_rfl) (by kernel_rfl) (by kernel_rfl) (fun _ _ _ h=>h) rfl S5.out (by rintro w' ⟨hw1,hw2,hw3,hw4⟩; go_simp; rfl) ?_
   simp only[Act.put,aH,aI,aJ];refine ag 2 rfl (by kernel_rfl) (by kernel_rfl) (by kernel_rfl) (fun _ _ _ h=>h) rfl S5.out (by rintro w' ⟨hw1,hw2,hw3,hw4⟩; go_simp; rfl) ?_;simp only[Act.put,aH,aI,aJ];refine ag 3 rfl (by kernel_rfl) (by kernel_rfl) (by kernel_rfl) (fun _ _ _ h=>h) rfl S5.out (by rintro w' ⟨hw1,hw2,hw3,hw4⟩; go_simp; rfl) ?_;simp only[Act.put,aH,aI,aJ]
   refine ag 4 rfl (by kernel_rfl) (by kernel_rfl) (by kernel_rfl) (fun _ _ _ h=>h) rfl S5.out (by rintro w' ⟨hw1,hw2,hw3,hw4⟩; go_simp; rfl) ?_;simp only[Act.put,aH,aI,aJ];refine ag 5 rfl (by kernel_rfl) (by kernel_rfl) (by kernel_rfl) (fun _ _ _ h=>h) rfl S5.out (by rintro w' ⟨hw1,hw2,hw3,hw4⟩; go_simp; rfl) ?_;simp only[Act.put,aH,aI,aJ];refine ag 6 rfl (by kernel_rfl) (by kernel_rfl) (by kernel_rfl) (fun _ _ _ h=>h) rfl S5.out (by rintro w' ⟨hw1,hw2,hw3,hw4⟩; go_simp; rfl) ?_
   simp only[Act.put,aH,aI,aJ];refine aC 7 rfl (by kernel_rfl) rfl (fun K hK=> ?_);go_wp2_with fail;have hal:=(Below.refl W5.heap.size W5).alloc (Nat.le_refl _) (.cells #[.string p.sum, .int .i64 p.size] 85);refine⟨⟨(hal.cell (p:=⟨w.heap.size+1+1,6,none⟩) (by show w.heap.size+1+1<W5.heap.size; omega)).trans S5.out.1,(hal.cell (p:=⟨w.heap.size,6,none⟩) (by show w.heap.size<W5.heap.size; omega)).trans S5.out.2.1,(hal.cell (p:=⟨pb,po+k*2,none⟩) (by show pb<W5.heap.size; omega)).trans S5.out.2.2.1,(hal.cell (p:=⟨pb,po+k*2+1,none⟩) (by show pb<W5.heap.size; omega)).trans S5.out.2.2.2⟩, ?_⟩
   refine aC 8 rfl (by kernel_rfl) rfl (fun K hK=> ?_);go_wp2_with (at_builtin; go_must (refine bK Tryz.appParts22 rfl _ _ rfl w.heap.size (.slice va k vc) k (bg (f.parts.take k)) rfl W5 [.string p.sum, .int .i64 p.size] _ rfl rfl (by simp[Value.oneCell']) HO5.out (by omega) (by omega) ?_); intro vp wc hown3 hg3 _ hpl3; obtain⟨ea,ec,rfl,-,-⟩:=au hown3);have HX5:=ab ((HB5.out.block _ (by omega)).trans ((HFO.out.below.block w.heap.size (by omega)).trans HX.out))
   have HR5:=ab ((HB5.out.block _ (by omega)).trans ((HFO.out.below.block (w.heap.size+1) (by omega)).trans HR.out));have n0:(Value.slice va k vc).ownBlock≠some w.heap.size:=fun e1=>by
    obtain⟨cs2,hc2⟩:=aK HO5.out e1;exact absurd (aQ HX5.out hc2) (by decide)
   have n1:(Value.slice va k vc).ownBlock≠some (w.heap.size+1):=fun e1=>by
    obtain⟨cs2,hc2⟩:=aK HO5.out e1;exact absurd (aQ HR5.out hc2) (by decide)
   have n2:(Value.slice va k vc).ownBlock≠some (w.heap.size+1+1):=fun e1=>by
    obtain⟨cs2,hc2⟩:=aK HO5.out e1;exact absurd (aQ HY5.out hc2) (by decide)
   have n3:(Value.slice va k vc).ownBlock≠some pb:=fun e1=>by
    have:=(HO5.out.lt pb e1).1;omega
   have wcell: ∀i j,i<W5.heap.size->(Value.slice va k vc).ownBlock≠some i->wc.cell? ⟨i,j,none⟩=W5.cell? ⟨i,j,none⟩:=fun i j hi hne=>World.cell?_of_block (hg3.block i hi (fun e1=>hne e1.symm))
   have HYc:=ab ((hg3.block _ (lt_of_block HY5.out) (fun e1=>n2 e1.symm)).trans HY5.out);have hzc:=hg3.size;have HBc:=ab (show Below (w.heap.size+1+1) W2 wc from(HFO.out.below.trans (HB5.out.mono (by omega))).grown hg3 (by omega) (fun i e1=>by
    have h1:=(HO5.out.lt i e1).1;have h2:i≠w.heap.size:=fun e2=>n0 (e2▸e1)
    have h3:i≠w.heap.size+1:=fun e2=>n1 (e2▸e1)
    omega))
   have HOc:=ab (show wc.ownsRow w.heap.size 85 2 (.slice ea (k+1) ec) (k+1) (bg (f.parts.take (k+1))) by
    rw[aX HPK.out,vA]; exact hown3)
   have SC:=ab (show wc.cell? ⟨w.heap.size+1+1,6,none⟩=some (.slice va k vc)/\wc.cell? ⟨w.heap.size,6,none⟩=some (.slice (some ⟨pb,po,none⟩) n cap)/\wc.cell? ⟨pb,po+k*2,none⟩=some (.string p.sum)/\wc.cell? ⟨pb,po+k*2+1,none⟩=some (.int .i64 p.size)from
    ⟨(wcell _ _ (by omega) n2).trans S5.out.1,(wcell _ _ (by omega) n0).trans S5.out.2.1,(wcell _ _ (by omega) n3).trans S5.out.2.2.1,(wcell _ _ (by omega) n3).trans S5.out.2.2.2⟩)
   have k6:=SC.out.1;have f6:wc.frozen? ⟨w.heap.size+1+1,6,none⟩=false:=aO (k:=6) HYc.out;clear hown3 hg3 hpl3 n0 n1 n2 n3 wcell hal;refine⟨SC.out, ?_⟩;refine ag 9 rfl (by kernel_rfl) (by kernel_rfl) (by kernel_rfl) (fun _ _ _ h=>h) rfl SC.out (by rintro w' ⟨hw1,hw2,hw3,hw4⟩; go_simp; rfl) ?_;simp only[Act.put,aH,aI,aJ];refine bu (by kernel_rfl) ?_;refine dd rfl rfl (fun K hK=> ?_)
   go_wp2_with fail
   go_roundw
   case rel=>
    refine⟨k+1, .slice ea (k+1) ec,by omega,rfl,⟨HBc.out.setCell (by show w.heap.size+1+1<=w.heap.size+1+1; omega) _, ?_,bA HOc.out (fun i hi hv=> ?_)⟩⟩
    ·rw[heap_setCell_same _ _ _ _ _ _ HYc.out]; rfl
    ·refine heap_setCell_other _ _ _ _ (fun e1=> ?_);obtain⟨cs2,hc2⟩:=aK HOc.out hv;rw[show i=w.heap.size+1+1 from e1]at hc2;exact absurd (aQ HYc.out hc2) (by decide)
   case measure=>simp only[intOf,Int.toNat_natCast]; omega
  ·have hkn:k=n:=by omega
   subst hkn;obtain⟨va,vc,rfl,-,-⟩:=au HFO.out.own;have HYr:=ab HFO.out.box;have HRr:=ab ((HFO.out.below.block (w.heap.size+1) (by omega)).trans HR.out);have y0:=ai (k:=0) HYr.out;have y1:=ai (k:=1) HYr.out;have y2:=ai (k:=2) HYr.out;have y3:=ai (k:=3) HYr.out;have y4:=ai (k:=4) HYr.out;have y5:=ai (k:=5) HYr.out;have y6:=ai (k:=6) HYr.out
   simp only[bM,List.getElem?_toArray,bV]at y0 y1 y2 y3 y4 y5 y6;have r0:=ai (k:=0) HRr.out;have r1:=ai (k:=1) HRr.out;have r2:=ai (k:=2) HRr.out;have r3:=ai (k:=3) HRr.out;have r4:=ai (k:=4) HRr.out;have r5:=ai (k:=5) HRr.out;have r6:=ai (k:=6) HRr.out;simp only[List.getElem?_toArray,bV]at r0 r1 r2 r3 r4 r5 r6;have f0:wr.frozen? ⟨w.heap.size+1,0,none⟩=false:=aO (k:=0) HRr.out
   have f1:wr.frozen? ⟨w.heap.size+1,1,none⟩=false:=aO (k:=1) HRr.out;have f2:wr.frozen? ⟨w.heap.size+1,2,none⟩=false:=aO (k:=2) HRr.out;have f3:wr.frozen? ⟨w.heap.size+1,3,none⟩=false:=aO (k:=3) HRr.out;have f4:wr.frozen? ⟨w.heap.size+1,4,none⟩=false:=aO (k:=4) HRr.out;have f5:wr.frozen? ⟨w.heap.size+1,5,none⟩=false:=aO (k:=5) HRr.out
   have f6:wr.frozen? ⟨w.heap.size+1,6,none⟩=false:=aO (k:=6) HRr.out;go_wp2_with fail;have hn1:(Value.slice va k vc).ownBlock≠some (w.heap.size+1):=fun e1=>by
    obtain⟨cs2,hc2⟩:=aK HFO.out.own e1;exact absurd (aQ HRr.out hc2) (by decide)
   have HFIN:=ab (bA HFO.out.own (fun i _ hv=>zL (b:=w.heap.size+1) (x0:= .string f.path) (x1:= .int .i64 f.kind) (x2:= .int .i64 f.mode) (x3:= .int .i64 f.time) (x4:= .int .i64 f.size) (x5:= .string f.link) (x6:= .slice va k vc) (fun e1=>hn1 (e1▸hv))));have HBF:=ab (HBW.out.trans (HFO.out.below.mono (show w.heap.size<=w.heap.size+1+1 by omega)));have htk:f.parts.take k=f.parts:=List.take_of_length_le (by rw[<-HN.out]; exact Nat.le_refl _)
   rw[htk]at HFIN;refine bodyPost_ret (results_cell_row rfl _ _ (w.heap.size+1) _ _ _ _ rfl (GK HRr.out) Tryz.underlying42 rfl (by kernel_rfl)) rfl ?_;exact⟨_,rfl,HFIN.out,wM HBF.out (by omega)⟩
structure cg (w : World) (base : Nat) (fv : Value) (fs : List aw) : Prop where
 row: ∃zs:List jN,zs.map Prod.snd=fs/\w.ownsRow base 42 7 fv zs.length (cP zs)/\ ∀z∈zs,w.ownsRow base 85 2 z.1 z.2.parts.length (bg z.2.parts)/\dj z.2/\ ∀p∈z.2.parts,dk p
theorem cg.nil (w:World) (base:Nat):cg w base (.slice none 0 0) []:=⟨[],rfl,World.ownsRow_nil _ _ _ _,by simp⟩
theorem cg.at {w:World} {base:Nat} {fv:Value} {fs:List aw} (h:cg w base fv fs):aT (fun k=>base<=k) w fv fs:=by
 obtain⟨zs,rfl,h2,h3⟩:=h.row;refine⟨cP zs, ?_,jZ fun z hz=>⟨?_,(h3 z hz).2.1⟩⟩
 ·rw[List.length_map];exact(bp h2).weak fun k hk=>hk.1
 ·exact⟨_,(bp (h3 z hz).1).weak fun k hk=>hk.1,gh (h3 z hz).2.2⟩
theorem cg.same {w w':World} {base:Nat} {fv:Value} {fs:List aw} (h:cg w base fv fs) (hs: ∀k cs t,k<w.heap.size->base<=k->w.heap[k]? =some (.cells cs t (0,0))->((t=42/\fv.ownBlock=some k)\/t=85)->w'.heap[k]? =w.heap[k]?):cg w' base fv fs:=by
 obtain⟨zs,h1,h2,h3⟩:=h.row;refine⟨zs,h1,bA h2 (fun k hk hv=> ?_),fun z hz=>⟨bA (h3 z hz).1 (fun k hk hv=> ?_),(h3 z hz).2⟩⟩
 ·obtain⟨cs,hc⟩:=aK h2 hv;exact hs k cs _ hk (h2.lt k hv).1 hc (.inl ⟨rfl,hv⟩)
 ·obtain⟨cs,hc⟩:=aK (h3 z hz).1 hv;exact hs k cs _ hk ((h3 z hz).1.lt k hv).1 hc (.inr rfl)
theorem cg.below {w w':World} {base:Nat} {fv:Value} {fs:List aw} (h:cg w base fv fs) (hb:Below w.heap.size w w'):cg w' base fv fs:=h.same fun k _ _ hk _ _ _=>hb.block k hk
theorem cg.le {w:World} {base B:Nat} {fv:Value} {fs:List aw} (h:cg w base fv fs) (hb:B<=base):cg w B fv fs:=by
 obtain⟨zs,h1,h2,h3⟩:=h.row;exact⟨zs,h1,ci h2 hb,fun z hz=>⟨ci (h3 z hz).1 hb,(h3 z hz).2⟩⟩
theorem Tryz.appFiles22 :cY Tryz.prog 34 42 7 88:=cY.mk' (z:=mP) Tryz.underlying34 (by kernel_rfl) rfl (by decide) (by decide)
theorem Dy {w:World} (o p q:Obj):Below w.heap.size w (((w.alloc o).alloc p).alloc q)/\(((w.alloc o).alloc p).alloc q).heap.size=w.heap.size+3/\(((w.alloc o).alloc p).alloc q).heap[w.heap.size]? =some o/\(((w.alloc o).alloc p).alloc q).heap[w.heap.size+1]? =some p/\(((w.alloc o).alloc p).alloc q).heap[w.heap.size+1+1]? =some q:=by
 have e1:(w.alloc o).heap.size=w.heap.size+1:=by simp
 have e2:((w.alloc o).alloc p).heap.size=w.heap.size+1+1:=by simp
 refine⟨(((Below.refl _ _).alloc (Nat.le_refl _) _).alloc (by omega) _).alloc (by omega) _,by simp, ?_, ?_, ?_⟩
 ·rw[heap_alloc_old _ _ (by omega),heap_alloc_old _ _ (by omega)]; exact heap_alloc_new w _
 ·rw[heap_alloc_old _ _ (by omega),<-e1]; exact heap_alloc_new _ _
 ·rw[<-e2]; exact heap_alloc_new _ _
theorem Gy {w:World} {b:Nat} {a0 a1 x0 x1:Value} {t:TypeId} (h:w.heap[b]? =some (.cells #[a0,a1] t (0,0))):((w.setCell ⟨b,0,none⟩ x0).setCell ⟨b,1,none⟩ x1).heap[b]? =some (.cells #[x0,x1] t (0,0)):=by
 have h2:=heap_setCell_same _ b 1 _ _ x1 (heap_setCell_same _ b 0 _ _ x0 h)
 simpa using h2
structure GH (w W2 wr : World) (b : Nat) (x : cA) (v : Value) (k : Nat) : Prop where
 below:Below b W2 wr
 box:wr.heap[b]? =some (.cells #[.int .i64 x.tm,v] 36 (0,0))
 own:cg wr w.heap.size v (x.files.take k)
theorem fZ (S:Nat->Prop) (x:cA) (fv:Value) (w:World) (hx:aT S w fv x.files) (hlen:x.files.length<=1048576) (hpl: ∀f∈x.files,f.parts.length<=1048576) (hpo: ∀f∈x.files,∀p∈f.parts,dk p):Calls Tryz.prog 14 #[dQ fv x.tm] w fun e w'=> ∃fv2,e= .returned (dQ fv2 x.tm)/\cg w' w.heap.size fv2 x.files/\Below w.heap.size w w':=by
 obtain⟨a,cap,rfl,hc,hm,-⟩:=aY.shape hx dT.len;have HX0:=ab hx;have HPL:=ab hpl;have HPO:=ab hpo;clear hx hpl hpo;obtain⟨n,hn⟩: ∃n,n=x.files.length:=⟨_,rfl⟩;rw[<-hn]at HX0 hlen ⊢;have HN:=ab hn;clear hn hc hm;unfold dQ
 go_enter Tryz.func14,Tryz.ntmps14
 go_upto_region 2 with fail
 obtain⟨W2,hW2⟩: ∃W2,W2=((w.alloc (.cells #[.int .i64 x.tm, .slice a n cap] 24)).alloc (.cells #[.int .i64 0, .slice none 0 0] 36)).alloc (.cells #[.int .i64 x.tm, .slice none 0 0] 36):=⟨_,rfl⟩;rw[<-hW2];obtain⟨hb,hzl,hX,hR,hY⟩:=Dy (w:=w) (.cells #[.int .i64 x.tm, .slice a n cap] 24) (.cells #[.int .i64 0, .slice none 0 0] 36) (.cells #[.int .i64 x.tm, .slice none 0 0] 36)
 rw[<-hW2]at hb hzl hX hR hY;have HBW:=ab hb;have HX:=ab hX;have HR:=ab hR;have HY:=ab hY;clear hW2 hb hX hR hY;go_wp2_with fail
 go_loopw [4] (fun i wr=> ∃(k:Nat) (v:Value),k<=n/\i= .int .i64 k/\GH w W2 wr (w.heap.size+1+1) x v k) (fun i _=>n-(intOf i).toNat)
 case atStart=>exact⟨0, .slice none 0 0,Nat.zero_le _,rfl,⟨Below.refl _ _,HY.out,cg.nil _ _⟩⟩
 case round=>
  obtain⟨k,v,hk,rfl,hfo⟩:=hrel;have HFO:=ab hfo;have p1:=(hfo.below.cell (p:=⟨w.heap.size,1,none⟩) (by show w.heap.size<w.heap.size+1+1; omega)).trans (ai (k:=1) HX.out);have hzr:=hfo.below.size;simp only[List.getElem?_toArray,bV]at p1;clear hfo
  by_cases hlt:k<n
  ·obtain⟨f,hfk⟩: ∃f,x.files[k]? =some f:=⟨_,List.getElem?_eq_getElem (show k<x.files.length by rw[<-HN.out]; exact hlt)⟩;obtain⟨zs,hzs,hzo,hzp⟩:=HFO.out.own.row;have hzl2:zs.length=k:=by
    have h1:=congrArg List.length hzs;rw[List.length_map,List.length_take,<-HN.out]at h1; omega
   have HZS:=ab hzs;have HZP:=ab hzp;rw[hzl2]at hzo;obtain⟨va,vc,rfl,-,-⟩:=au hzo;have HZO:=ab hzo;clear hzs hzp hzo
   go_upto_region 5 with fail
   obtain⟨W5,hW5⟩: ∃W5:World,W5=wr.drew:=⟨_,rfl⟩;have HB5:=ab (show Below wr.heap.size wr W5 by rw[hW5]; exact(Below.refl _ _).drew);have HBr:=ab (show Below w.heap.size w wr from HBW.out.trans (HFO.out.below.mono (by omega)));have HB05:=ab (HBr.out.trans (HB5.out.mono HBr.out.size));obtain⟨pb,po,pa,pc,hpa,hfok,hpp,hpb,-,hcl⟩:=cQ HX0.out HB05.out hfk;subst hpa
   have HPP:=ab hpp;have hb2:w.heap.size+1+1<wr.heap.size:=lt_of_block HFO.out.box;have k1:=(HB5.out.cell (p:=⟨w.heap.size+1+1,1,none⟩) hb2).trans (ai (k:=1) HFO.out.box);have p1':=(HB5.out.cell (p:=⟨w.heap.size,1,none⟩) (by show w.heap.size<wr.heap.size; omega)).trans p1;simp only[List.getElem?_toArray,bV]at k1;have S5:=ab (And.intro k1 (And.intro p1' hcl))
   have HO5:=ab (aV HZO.out HB5.out);have HY5:=ab ((HB5.out.block _ hb2).trans HFO.out.box);have hz5:=HB5.out.size;have HFK:=ab hfk;have HOK:=ab hfok;clear k1 p1 p1' hcl hfk hfok hpp;refine cL (fun w'=>w'.cell? ⟨w.heap.size+1+1,1,none⟩=some (.slice va k vc)/\w'.cell? ⟨w.heap.size,1,none⟩=some (.slice (some ⟨pb,po,none⟩) n cap)/\ ∀j,j<7->w'.cell? ⟨pb,po+k*7+j,none⟩=(bM (.slice pa f.parts.length pc) f)[j]?) (by kernel_rfl) (by kernel_rfl) ?_
   simp only[List.dropLast_cons_cons,List.dropLast_singleton,List.length_cons,List.length_nil,Nat.reduceAdd,Nat.reduceSub];rw[<-hW5];clear hW5;refine ag 0 rfl (by kernel_rfl) (by kernel_rfl) (by kernel_rfl) (fun _ _ _ h=>h) rfl S5.out (by rintro w' ⟨hw1,hw2,hw3⟩; go_simp; rfl) ?_;simp only[Act.put,aH,aI,aJ];refine ag 1 rfl (by kernel_rfl) (by kernel_rfl) (by kernel_rfl) (fun _ _ _ h=>h) rfl S5.out (by rintro w' ⟨hw1,hw2,hw3⟩; go_simp; rfl) ?_
   simp only[Act.put,aH,aI,aJ];refine ag 2 rfl (by kernel_rfl) (by kernel_rfl) (by kernel_rfl) (fun _ _ _ h=>h) rfl S5.out (by rintro w' ⟨hw1,hw2,hw3⟩; go_simp; rfl) ?_;simp only[Act.put,aH,aI,aJ];refine ag 3 rfl (by kernel_rfl) (by kernel_rfl) (by kernel_rfl) (fun _ _ _ h=>h) rfl S5.out (by rintro w' ⟨hw1,hw2,hw3⟩; go_simp; rfl) ?_;simp only[Act.put,aH,aI,aJ]
   refine ag 4 rfl (by kernel_rfl) (by kernel_rfl) (by kernel_rfl) (fun _ _ _ h=>h) rfl S5.out (by rintro w' ⟨hw1,hw2,hw3⟩; go_simp; rfl) ?_;simp only[Act.put,aH,aI,aJ];refine ag 5 rfl (by kernel_rfl) (by kernel_rfl) (by kernel_rfl) (fun _ _ _ h=>h) rfl S5.out (by rintro w' ⟨hw1,hw2,hw3⟩; go_simp; rfl) ?_;simp only[Act.put,aH,aI,aJ];refine ag 6 rfl (by kernel_rfl) (by kernel_rfl) (by kernel_rfl) (fun _ _ _ h=>h) rfl S5.out (by rintro w' ⟨hw1,hw2,hw3⟩; have o0:=hw3 0 (by omega); have o1:=hw3 1 (by omega); have o2:=hw3 2 (by omega); have o3:=hw3 3 (by omega); have o4:=hw3 4 (by omega); have o5:=hw3 5 (by omega); have o6:=hw3 6 (by omega); simp only[bM,bV,Nat.add_zero]at o0 o1 o2 o3 o4 o5 o6; clear hw3; go_simp; rfl) ?_
   simp only[Act.put,aH,aI,aJ];refine aC 7 rfl (by kernel_rfl) rfl (fun K hK=> ?_);go_wp2_with (refine(xf _ f (.slice pa f.parts.length pc) _ (HPP.out) (HPL.out f (List.mem_of_getElem? HFK.out))).mono ?_; rintro e w6 ⟨pv2,rfl,ho6,hb6⟩; obtain⟨qa,qc,rfl,-,-⟩:=au ho6; unfold dU; have HO6:=ab ho6; have HB6:=ab hb6; clear ho6 hb6);have hb6:=HB6.out;have hz6:=hb6.size
   have hb3:w.heap.size+1+1<W5.heap.size:=by omega
   have S6:=ab (show w6.cell? ⟨w.heap.size+1+1,1,none⟩=some (.slice va k vc)/\w6.cell? ⟨w.heap.size,1,none⟩=some (.slice (some ⟨pb,po,none⟩) n cap)/\ ∀j,j<7->w6.cell? ⟨pb,po+k*7+j,none⟩=(bM (.slice pa f.parts.length pc) f)[j]? from
    ⟨(hb6.cell (p:=⟨w.heap.size+1+1,1,none⟩) hb3).trans S5.out.1,(hb6.cell (p:=⟨w.heap.size,1,none⟩) (by show w.heap.size<W5.heap.size; omega)).trans S5.out.2.1,fun j hj=>(hb6.cell (p:=⟨pb,po+k*7+j,none⟩) (by show pb<W5.heap.size; omega)).trans (S5.out.2.2 j hj)⟩)
   clear hb6;refine⟨S6.out, ?_⟩;refine aC 8 rfl (by kernel_rfl) rfl (fun K hK=> ?_);go_wp2_with fail;have hal:=(Below.refl w6.heap.size w6).alloc (Nat.le_refl _) (.cells #[.string f.path, .int .i64 f.kind, .int .i64 f.mode, .int .i64 f.time, .int .i64 f.size, .string f.link, .slice qa f.parts.length qc] 42);refine⟨⟨(hal.cell (p:=⟨w.heap.size+1+1,1,none⟩) (by show w.heap.size+1+1<w6.heap.size; omega)).trans S6.out.1,(hal.cell (p:=⟨w.heap.size,1,none⟩) (by show w.heap.size<w6.heap.size; omega)).trans S6.out.2.1,fun j hj=>(hal.cell (p:=⟨pb,po+k*7+j,none⟩) (by show pb<w6.heap.size; omega)).trans (S6.out.2.2 j hj)⟩, ?_⟩
   refine aC 9 rfl (by kernel_rfl) rfl (fun K hK=> ?_);have HZ6:=ab (aV HO5.out HB6.out);go_wp2_with (at_builtin; go_must (refine bK Tryz.appFiles22 rfl _ _ rfl w.heap.size (.slice va k vc) k (cP zs) rfl w6 [.string f.path, .int .i64 f.kind, .int .i64 f.mode, .int .i64 f.time, .int .i64 f.size, .string f.link, .slice qa f.parts.length qc] _ rfl rfl (gB (f:=f)) HZ6.out (by omega) (by omega) ?_); intro vp wc hown3 hg3 _ hpl3; obtain⟨ea,ec,rfl,-,-⟩:=au hown3)
   have HX6:=ab ((HB6.out.block _ (by omega)).trans ((HB5.out.block _ (by omega)).trans ((HFO.out.below.block w.heap.size (by omega)).trans HX.out)));have HR6:=ab ((HB6.out.block _ (by omega)).trans ((HB5.out.block _ (by omega)).trans ((HFO.out.below.block (w.heap.size+1) (by omega)).trans HR.out)));have HY6:=ab ((HB6.out.block _ hb3).trans HY5.out);have n0:(Value.slice va k vc).ownBlock≠some w.heap.size:=fun e1=>by
    obtain⟨cs2,hc2⟩:=aK HZ6.out e1;exact absurd (aQ HX6.out hc2) (by decide)
   have n1:(Value.slice va k vc).ownBlock≠some (w.heap.size+1):=fun e1=>by
    obtain⟨cs2,hc2⟩:=aK HZ6.out e1;exact absurd (aQ HR6.out hc2) (by decide)
   have n2:(Value.slice va k vc).ownBlock≠some (w.heap.size+1+1):=fun e1=>by
    obtain⟨cs2,hc2⟩:=aK HZ6.out e1;exact absurd (aQ HY6.out hc2) (by decide)
   have n3:(Value.slice va k vc).ownBlock≠some pb:=fun e1=>by
    have:=(HZ6.out.lt pb e1).1;omega
   have wcell: ∀i j,i<w6.heap.size->(Value.slice va k vc).ownBlock≠some i->wc.cell? ⟨i,j,none⟩=w6.cell? ⟨i,j,none⟩:=fun i j hi hne=>World.cell?_of_block (hg3.block i hi (fun e1=>hne e1.symm))
   have HYc:=ab ((hg3.block _ (lt_of_block HY6.out) (fun e1=>n2 e1.symm)).trans HY6.out);have hzc:=hg3.size;have HBc:=ab (show Below (w.heap.size+1+1) W2 wc from((HFO.out.below.trans (HB5.out.mono (by omega))).trans (HB6.out.mono (by omega))).grown hg3 (by omega) (fun i e1=>by
    have h1:=(HZ6.out.lt i e1).1;have h2:i≠w.heap.size:=fun e2=>n0 (e2▸e1)
    have h3:i≠w.heap.size+1:=fun e2=>n1 (e2▸e1)
    omega))
   have keep: ∀(u:Value) (m:Nat) (cs:List Value),w6.ownsRow w.heap.size 85 2 u m cs->wc.ownsRow w.heap.size 85 2 u m cs:=fun u m cs hu=>bA hu (fun i hi hv=>hg3.block i hi (fun e1=>by
    obtain⟨cs2,hc2⟩:=aK hu hv;obtain⟨cs3,hc3⟩:=aK HZ6.out e1.symm;exact absurd (aQ hc2 hc3) (by decide)))
   have HOc:=ab (show cg wc w.heap.size (.slice ea (k+1) ec) (x.files.take (k+1))from by
    refine⟨zs++[(.slice qa f.parts.length qc,f)], ?_, ?_, ?_⟩
    ·rw[aX HFK.out,List.map_append,HZS.out]; rfl
    ·rw[List.length_append,List.length_singleton,hzl2,ka]; exact hown3
    ·intro z hz
     rcases List.mem_append.1 hz with hz | hz
     ·obtain⟨h1,h2⟩:=HZP.out z hz;exact⟨keep _ _ _ (aV (aV h1 HB5.out) HB6.out),h2⟩
     ·obtain rfl:=List.mem_singleton.1 hz;exact⟨keep _ _ _ (ci HO6.out (by omega)),HOK.out,HPO.out f (List.mem_of_getElem? HFK.out)⟩)
   have SC:=ab (show wc.cell? ⟨w.heap.size+1+1,1,none⟩=some (.slice va k vc)/\wc.cell? ⟨w.heap.size,1,none⟩=some (.slice (some ⟨pb,po,none⟩) n cap)/\ ∀j,j<7->wc.cell? ⟨pb,po+k*7+j,none⟩=(bM (.slice pa f.parts.length pc) f)[j]? from
    ⟨(wcell _ _ (by omega) n2).trans S6.out.1,(wcell _ _ (by omega) n0).trans S6.out.2.1,fun j hj=>(wcell _ _ (by omega) n3).trans (S6.out.2.2 j hj)⟩)
   have k1:=SC.out.1;have f1:wc.frozen? ⟨w.heap.size+1+1,1,none⟩=false:=aO (k:=1) HYc.out;clear hown3 hg3 hpl3 n0 n1 n2 n3 wcell hal keep;refine⟨SC.out, ?_⟩;refine ag 10 rfl (by kernel_rfl) (by kernel_rfl) (by kernel_rfl) (fun _ _ _ h=>h) rfl SC.out (by rintro w' ⟨hw1,hw2,hw3⟩; go_simp; rfl) ?_;simp only[Act.put,aH,aI,aJ];refine bu (by kernel_rfl) ?_;refine dd rfl rfl (fun K hK=> ?_)
   go_wp2_with fail
   go_roundw
   case rel=>
    refine⟨k+1, .slice ea (k+1) ec,by omega,rfl,⟨HBc.out.setCell (by show w.heap.size+1+1<=w.heap.size+1+1; omega) _, ?_,HOc.out.same (fun i cs t hi hB hc ht=> ?_)⟩⟩
    ·rw[heap_setCell_same _ _ _ _ _ _ HYc.out]; rfl
    ·refine heap_setCell_other _ _ _ _ (fun e1=> ?_);rw[show i=w.heap.size+1+1 from e1]at hc;have h1:=aQ HYc.out hc
     rcases ht with ht | ht
     ·rw[ht.1]at h1; exact absurd h1 (by decide)
     ·rw[ht]at h1; exact absurd h1 (by decide)
   case measure=>simp only[intOf,Int.toNat_natCast]; omega
  ·have hkn:k=n:=by omega
   subst hkn;obtain⟨va,vc,hv⟩: ∃va vc,v= .slice va k vc:=by
    obtain⟨zs,hzs,hz,-⟩:=HFO.out.own.row;obtain⟨va,vc,rfl,-,-⟩:=au hz;have h1:=congrArg List.length hzs;rw[List.length_map,List.length_take,<-HN.out,Nat.min_self]at h1;rw[h1];exact⟨va,vc,rfl⟩
   subst hv;have HYr:=ab HFO.out.box;have HRr:=ab ((HFO.out.below.block (w.heap.size+1) (by omega)).trans HR.out);have y0:=ai (k:=0) HYr.out;have y1:=ai (k:=1) HYr.out;simp only[List.getElem?_toArray,bV]at y0 y1;have r0:=ai (k:=0) HRr.out;have r1:=ai (k:=1) HRr.out;simp only[List.getElem?_toArray,bV]at r0 r1;have f0:wr.frozen? ⟨w.heap.size+1,0,none⟩=false:=aO (k:=0) HRr.out
   have f1:wr.frozen? ⟨w.heap.size+1,1,none⟩=false:=aO (k:=1) HRr.out;go_wp2_with fail;have HFIN:=ab (show cg ((wr.setCell ⟨w.heap.size+1,0,none⟩ (.int .i64 x.tm)).setCell ⟨w.heap.size+1,1,none⟩ (.slice va k vc)) w.heap.size (.slice va k vc) (x.files.take k)from HFO.out.own.same (fun i cs t hi hB hc ht=>by
    have hne:i≠w.heap.size+1:=fun e1=>by
     rw[e1]at hc;have h1:=aQ HRr.out hc
     rcases ht with ht | ht
     ·rw[ht.1]at h1; exact absurd h1 (by decide)
     ·rw[ht]at h1; exact absurd h1 (by decide)
    exact(Below.heap_setCell _ _ _ _ hne).trans (Below.heap_setCell _ _ _ _ hne)))
   have HBF:=ab (HBW.out.trans (HFO.out.below.mono (show w.heap.size<=w.heap.size+1+1 by omega)));have htk:x.files.take k=x.files:=List.take_of_length_le (by rw[<-HN.out]; exact Nat.le_refl _);rw[htk]at HFIN;refine bodyPost_ret (results_cell_row rfl _ _ (w.heap.size+1) _ _ _ _ rfl (Gy HRr.out) Tryz.underlying36 rfl (by kernel_rfl)) rfl ?_;exact⟨_,rfl,HFIN.out,(HBF.out.setCell (by show w.heap.size<=w.heap.size+1; omega) _).setCell (by show w.heap.size<=w.heap.size+1; omega) _⟩
end Go.Proofs.YtnjkpcalgoefhaaGreatDoor
namespace Go.Proofs.YtnjkpcalgoefhaaGreatDoor
open Go.RowKit Go.Maps
def eh :List bG->ByteArray->Nat->Int
 | [],_,_=> -1
 | e::L,p,i=>if e.path=p then(i:Int)else eh L p (i+1)
theorem uM {L:List bG} {p:ByteArray} {k:Nat} {e:bG} (h:L[k]? =some e):eh (L.drop k) p k=if e.path=p then(k:Int)else eh (L.drop (k+1)) p (k+1):=by
 obtain⟨hk,he⟩:=List.getElem?_eq_some_iff.1 h;rw[List.drop_eq_getElem_cons hk,eh,he]
theorem nK {p:ByteArray} : ∀(L:List bG) (i:Nat),(ew L p=none/\eh L p i= -1)\/ ∃j e,ew L p=some e/\L[j]? =some e/\eh L p i=((i+j:Nat):Int)
 | [],i=> .inl ⟨rfl,rfl⟩
 | e::L,i=>by
  by_cases h:e.path=p
  ·right
   refine⟨0,e, ?_,rfl, ?_⟩
   ·unfold ew; rw[List.find?_cons_of_pos (by simp[h])]
   ·rw[eh,if_pos h]; simp
  ·have hf:ew (e::L) p=ew L p:=by unfold ew; rw[List.find?_cons_of_neg (by simp[h])]
   rw[eh,if_neg h,hf]
   rcases nK L (i+1)with h1 | ⟨j,f,h1,h2,h3⟩
   ·exact .inl h1
   ·exact .inr ⟨j+1,f,h1,by simpa using h2,by rw[h3]; congr 1; omega⟩
theorem xF (S:Nat->Prop) (L:List bG) (v:Value) (p:ByteArray) (w:World) (hv:cl S w v L):
  Calls Tryz.prog 104 #[v, .string p] w fun e w'=>e= .returned (.int .i64 (eh L p 0))/\Below w.heap.size w w':=by
 have HV:=ab hv;obtain⟨a,cap,rfl,hc,hm,-⟩:=aY.shape hv lB.len;obtain⟨n,hn⟩: ∃n,n=L.length:=⟨_,rfl⟩;have HN:=ab hn;rw[<-hn]at HV hc ⊢;unfold maxLen at hm;clear hv hn
 go_enter Tryz.func104,Tryz.ntmps104
 go_wp2_with fail
 go_loopw [5,9] (fun _ i wr=> ∃k:Nat,k<=n/\i= .int .i64 k/\eh L p 0=eh (L.drop k) p k/\Below w.heap.size w wr) (fun _ i _=>n-(intOf i).toNat)
 case atStart=>exact⟨0,Nat.zero_le _,rfl,rfl,Below.refl _ _⟩
 case round=>
  obtain⟨k,hk,rfl,hfi,hbr⟩:=hrel;have HFI:=ab hfi;have HBR:=ab hbr
  by_cases hlt:k<n
  ·obtain⟨e,he⟩: ∃e,L[k]? =some e:=⟨L[k]'(by rw[<-HN.out]; exact hlt),by simp⟩;obtain⟨b,o,dv,rfl,-,hb,hd,-,-,q0,q1,q2,q3,q4,q5⟩:=jd (HV.out.below hbr) he;obtain⟨_,ad,cd,rfl,hcd,hmd,-⟩:=hd;have HAT:=ab (uM (p:=p) he);clear he hfi hbr
   by_cases hp:e.path=p
   ·have e1:(e.path.toList == p.toList)=true:=by rw[hp]; simp
    have HR:=ab (show eh L p 0=(k:Int) by rw[HFI.out,HAT.out,if_pos hp]);clear hp;go_wp2_with fail;go_ret;exact⟨bC HR.out.symm,ak HBR.out ((Below.refl _ _).alloc (Nat.le_refl _) _)⟩
   ·have e1:(e.path.toList == p.toList)=false:=by
     rw[beq_eq_false_iff_ne]; intro h; exact hp (iY (by rw[<-bD,<-bD]; exact h))
    have HR:=ab (show eh L p 0=eh (L.drop (k+1)) p (k+1) by rw[HFI.out,HAT.out,if_neg hp]);clear hp;go_wp2_with fail
    go_roundw
    case rel=>exact⟨k+1,by omega,by go_num,HR.out,ak HBR.out ((Below.refl _ _).alloc (Nat.le_refl _) _)⟩
    case measure=>simp[intOf]; omega
  ·have HR:=ab (show eh L p 0= -1 by rw[HFI.out,List.drop_of_length_le (by rw[<-HN.out]; omega)]; rfl);clear hfi hbr;go_wp2_with fail;go_ret;exact⟨bC HR.out.symm,HBR.out⟩
end Go.Proofs.YtnjkpcalgoefhaaGreatDoor
namespace Go.Proofs.YtnjkpcalgoefhaaGreatDoor
open Go.RowKit
theorem EQ (l:List UInt8):(tL l).length<=4*l.length:=by
 have h1:=eL l;have: ∀rs:List Int,(rs.flatMap Lib.encodeRune).length<=4*rs.length:=by
  intro rs
  induction rs with
  | nil=>simp
  | cons r rs ih=>rw[List.flatMap_cons,List.length_append,List.length_cons]; have:=pk r; omega
 have h2:=this (bt l);unfold tL; omega
theorem uw (s:ByteArray) (pos:Nat):Lib.decodeL ((bl s).drop pos)=Utf8.decode s pos:=Lib.decodeL_drop s pos
theorem Eh {s:ByteArray} {pos:Nat} (h:pos<s.size):(bl s).drop pos≠[]:=by
 intro e; have:=List.drop_eq_nil_iff.1 e; rw[<-ay]at this; omega
theorem Bm {s o:ByteArray} {pos:Nat} (hp:pos<s.size) (h:bl o++tL ((bl s).drop pos)=tL (bl s)):
  bl (o++Utf8.encode ((Utf8.decode s pos).1:Int))++tL ((bl s).drop (pos+(Utf8.decode s pos).2))=tL (bl s):=by
 rw[kD,<-h,vL _ (Eh hp),uw,List.drop_drop,<-wY,yB,List.append_assoc]
theorem xG (s:ByteArray) (w:World) (hs:s.size<=16777216):
  Calls Tryz.prog 185 #[.string s] w fun e w'=>e= .returned (.bool (Lib.validD (bl s)))/\Below w.heap.size w w':=by
 go_enter Tryz.func185,Tryz.ntmps185
 go_wp2
 go_loopw [3] (fun v wr=> ∃(pos:Nat) (o:ByteArray),v= .string o/\wr=w.iter s pos/\o.size<=67108864/\bl o++tL ((bl s).drop pos)=tL (bl s)) (fun _ wr=>s.size-wr.iterPos w.heap.size)
 case atStart=>exact⟨0,⟨#[]⟩,rfl,rfl,by simp[ByteArray.size],by simp[bl]⟩
 case round=>
  obtain⟨pos,o,rfl,rfl,ho,hrel2⟩:=hrel;have HR:=ab hrel2;clear hrel2
  by_cases hp:pos<s.size
  ·have hnx: ∀ty,(Instr.next (.pointer (some ⟨w.heap.size,0,none⟩)) true ty).run Tryz.prog (w.iter s pos)=_:=fun ty=>run_next_any w s pos ty hp
   obtain⟨r,hr⟩: ∃r,r=(Utf8.decode s pos).1:=⟨_,rfl⟩;obtain⟨E,hE⟩: ∃E,E=Utf8.encode (r:Int):=⟨_,rfl⟩;have hcv: ∀w',(convert 21 9 (.int .i32 (r:Int))).run Tryz.prog w'= .ok (.string E) w':=fun w'=>by rw[hE]; exact run_convert_int_string w' _ _ .i32 _ (by rw[Tryz.underlying21]; rfl) Tryz.underlying9
   have hE4:E.size<=4:=by rw[hE]; exact encode_size_le _
   simp only[<-hr]at hnx;have HE:=ab hE;have HRR:=ab hr;clear hE hr
   go_wp2
   go_roundw
   case rel=>
    have hn:bl (o++E)++tL ((bl s).drop (pos+(Utf8.decode s pos).2))=tL (bl s):=by rw[HE.out,HRR.out]; exact Bm hp HR.out
    refine⟨pos+(Utf8.decode s pos).2,o++E,rfl,rfl, ?_,hn⟩;have h1:=congrArg List.length hn;have h2:=EQ (bl s);rw[List.length_append,<-ay]at h1;rw[<-ay]at h2;omega
   case measure=>
    rw[World.iterPos_iter,World.iterPos_iter];have:=Lib.width_pos s pos;omega
  ·have hnx: ∀ty,(Instr.next (.pointer (some ⟨w.heap.size,0,none⟩)) true ty).run Tryz.prog (w.iter s pos)=_:=fun ty=>run_next_end w s pos ty hp
   go_wp2
   go_ret;refine⟨az ?_,(Below.refl _ _).alloc (Nat.le_refl _) _⟩;have h1:bl o=tL (bl s):=by
    rw[<-HR.out,List.drop_eq_nil_of_le (by rw[<-ay]; omega),tM,List.append_nil]
   rw[bD,bD,h1];exact Ap (bl s)
theorem vi {s:ByteArray} {j:Nat} (hj:j<s.size) (h:(s[j].toNat:Int)<32):kM (bl s)=false:=by
 refine vj hj ?_;rw[lI s j hj,<-eO s j hj]; omega
theorem vI (s:ByteArray) (w:World) (hs:s.size<=16777216):
  Calls Tryz.prog 163 #[.string s] w fun e w'=>e= .returned (.bool (lx (bl s)))/\Below w.heap.size w w':=by
 go_enter Tryz.func163,Tryz.ntmps163
 go_wp2
 go_loop [3] (fun i=> ∃k:Nat,k<=s.size/\i= .int .i64 k/\ ∀j,j<k->j<s.size->32<=(s.get! j).toNat) (fun i=>s.size-(intOf i).toNat)
 case atStart=>exact⟨0,Nat.zero_le _,rfl,fun j hj=>by omega⟩
 case round=>
  obtain⟨k,hk,rfl,hlow⟩:=hrel;have HL:=ab hlow;clear hlow
  by_cases hp:k<s.size
  ·go_wp2
   ·have hlt:(s[k].toNat:Int)<32:=by assumption
    go_ret;exact⟨az (by simp[lx,vi hp hlt]),Below.refl _ _⟩
   ·have hge:(32:Int)<=(s[k].toNat:Int):=by assumption
    go_round
    case rel=>
     refine⟨k+1,by omega,by go_num,fun j hj hjs=> ?_⟩
     rcases Nat.lt_or_ge j k with h | h
     ·exact HL.out j h hjs
     ·obtain rfl:j=k:=by omega
      rw[lI s j hp,<-eO s j hp]; omega
    case measure=>simp[intOf]<;> omega
  ·go_wp2_with (go_at_call 185; refine(xG s _ hs).mono ?_; rintro e w' ⟨rfl,hb⟩);go_ret;refine⟨az ?_,hb⟩;simp only[lx,yO (fun j hj=>HL.out j (by omega) hj),Bool.true_and]
def Bu (c:UInt8) (s:ByteArray) (w:World) (e:Ending) (w':World):Prop:=
 ∃v xs,e= .returned v/\xs.map bl=aF c (bl s)/\dH (w.heap.size<= ·) w' v xs/\Below w.heap.size w w'
theorem uB {s:ByteArray} {c:UInt8} {ys:List ByteArray} {f k:Nat} (hk:k<s.size) (hf:f<=k) (h:aF c (bl s)=ys.map bl++aF c ((bl s).drop f)) (hn: ∀j,f<=j->j<k->(s.get! j)≠c) (hc:s[k]=c):
  aF c (bl s)=(ys++[s.extract f k]).map bl++aF c ((bl s).drop (k+1)):=by
 have hk2:k<(bl s).length:=by rw[<-ay]; exact hk
 have e:(bl s).drop f=bl (s.extract f k)++c::(bl s).drop (k+1):=by
  rw[iX,<-hc,eO s k hk,List.getElem_cons_drop,List.drop_take];have h2:=List.take_append_drop (k-f) ((bl s).drop f);rw[List.drop_drop,show f+(k-f)=k by omega]at h2;exact h2.symm
 have hm:c∉bl (s.extract f k):=by
  intro hm;obtain⟨j,hj,ej⟩:=List.getElem_of_mem hm;simp only[iX]at hj ej;rw[List.length_drop,List.length_take]at hj;rw[List.getElem_drop,List.getElem_take]at ej;exact hn (f+j) (by omega) (by omega) (by rw[lI s _ (by omega)]; exact ej)
 rw[h,e,fT _ _ _ hm]; simp
theorem uA {s:ByteArray} {c:UInt8} {ys:List ByteArray} {f:Nat} (hf:f<=s.size) (h:aF c (bl s)=ys.map bl++aF c ((bl s).drop f)) (hn: ∀j,f<=j->j<s.size->(s.get! j)≠c):
  aF c (bl s)=(ys++[s.extract f s.size]).map bl:=by
 have e:(bl s).drop f=bl (s.extract f s.size):=by rw[iX,ay,List.take_length]
 have hm:c∉(bl s).drop f:=by
  intro hm;obtain⟨j,hj,ej⟩:=List.getElem_of_mem hm;rw[List.length_drop,<-ay]at hj;rw[List.getElem_drop]at ej;exact hn (f+j) (by omega) (by omega) (by rw[lI s _ (by omega)]; exact ej)
 rw[h,et _ _ hm,e]; simp
theorem jl (s:ByteArray) (w:World) (hs:s.size<=16777216):Calls Tryz.prog 105 #[.string s] w (Bu 47 s w):=by
 go_enter Tryz.func105,Tryz.ntmps105
 go_wp2_with fail
 go_loopw [3,4,5] (fun v fr i wr=> ∃(k f:Nat) (ys:List ByteArray),k<=s.size+1/\f<=k/\ys.length<=k/\i= .int .i64 k/\fr= .int .i64 f/\wr.ownsRow w.heap.size 9 1 v ys.length (ys.map Value.string)/\Below w.heap.size w wr/\
   (k<=s.size->aF 47 (bl s)=ys.map bl++aF 47 ((bl s).drop f)/\ ∀j,f<=j->j<k->(s.get! j)≠47)/\(k=s.size+1->aF 47 (bl s)=ys.map bl)) (fun _ _ i _=>s.size+1-(intOf i).toNat)
 case atStart=>exact⟨0,0,[],Nat.zero_le _,Nat.le_refl _,Nat.le_refl _,rfl,rfl,World.ownsRow_nil _ _ _ _,Below.refl _ _,fun _=>⟨by simp,fun j _ hj=>by omega⟩,fun h=>by omega⟩
 case round=>
  obtain⟨k,f,ys,hk,hf,hy,rfl,rfl,hown,hb,hr1,hr2⟩:=hrel;have HO:=ab hown;have HB:=ab hb;have HR1:=ab hr1;have HR2:=ab hr2;have hsz:w.heap.size<=wr.heap.size:=hb.size;clear hown hb hr1 hr2
  by_cases hle:k<=s.size
  ·by_cases hlt:k<s.size
   ·have e1:((k:Int) == (s.size:Int))=false:=by rw[beq_eq_false_iff_ne]; omega
    by_cases hc:s[k]=47
    ·have e2:((s[k].toNat:Int) == (47:UInt8).toNat)=true:=by rw[hc]; rfl
     have e2':((s[k].toNat:Int) == 47)=true:=e2;have HCC:=ab hc;clear hc e2;go_wp2_with (at_builtin; go_must (refine dB Tryz.appStrings rfl _ _ rfl w.heap.size u3 ys.length (ys.map Value.string) rfl wr [.string (s.extract f k)] _ rfl rfl (by simp; rfl) HO.out (by omega) hsz ?_); intro v' w1 hown1 hgrow1 _);have HO1:=ab hown1;have HG1:=ab hgrow1;clear hown1 hgrow1;go_wp2_with fail
     go_roundw
     case rel=>
      refine⟨k+1,k+1,ys++[s.extract f k],by omega,Nat.le_refl _,by simp; omega,by go_num,by go_num, ?_,aZ HB.out HO.out HG1.out (Nat.le_refl _) hsz,fun _=>⟨uB hlt hf (HR1.out hle).1 (HR1.out hle).2 HCC.out,fun j h1 h2=>by omega⟩,fun h=>by omega⟩;have:=HO1.out; simpa using this
     case measure=>simp[intOf]<;> omega
    ·have e2':((s[k].toNat:Int) == 47)=false:=by
      rw[beq_eq_false_iff_ne]; intro e; apply hc; apply UInt8.toNat_inj.1; have:s[k].toNat=47:=by omega
      rw[this]; rfl
     have HCC:=ab hc;clear hc;go_wp2_with fail
     go_roundw
     case rel=>
      refine⟨k+1,f,ys,by omega,by omega,by omega,by go_num,rfl,HO.out,HB.out,fun _=>⟨(HR1.out hle).1,fun j h1 h2=> ?_⟩,fun h=>by omega⟩
      rcases Nat.lt_or_ge j k with h | h
      ·exact(HR1.out hle).2 j h1 h
      ·obtain rfl:j=k:=by omega
       rw[lI s j hlt,<-eO s j hlt]; exact HCC.out
     case measure=>simp[intOf]<;> omega
   ·obtain rfl:k=s.size:=by omega
    have e1:((s.size:Int) == (s.size:Int))=true:=by simp
    go_wp2_with (at_builtin; go_must (refine dB Tryz.appStrings rfl _ _ rfl w.heap.size u3 ys.length (ys.map Value.string) rfl wr [.string (s.extract f s.size)] _ rfl rfl (by simp; rfl) HO.out (by omega) hsz ?_); intro v' w1 hown1 hgrow1 _);have HO1:=ab hown1;have HG1:=ab hgrow1;clear hown1 hgrow1;go_wp2_with fail
    go_roundw
    case rel=>
     refine⟨s.size+1,s.size+1,ys++[s.extract f s.size],by omega,Nat.le_refl _,by simp; omega,by go_num,by go_num, ?_,aZ HB.out HO.out HG1.out (Nat.le_refl _) hsz,fun h=>by omega,fun _=>uA hf (HR1.out hle).1 (HR1.out hle).2⟩;have:=HO1.out; simpa using this
    case measure=>simp[intOf]<;> omega
  ·obtain⟨a,cap,rfl,hn,hm⟩:=au HO.out;go_wp2_with fail;go_ret;exact⟨_,ys,rfl,(HR2.out (by omega)).symm,(bp HO.out).weak (fun k hk=>hk.1),HB.out⟩
theorem qp {xs:List ByteArray} {k:Nat} {x:ByteArray} (hx:xs[k]? =some x):dp ((xs.take (k+1)).map bl)=if k=0 then bl x else dp ((xs.take k).map bl)++[47]++bl x:=by
 have hk:=(List.getElem?_eq_some_iff.1 hx).1;have e:(xs.take (k+1)).map bl=(xs.take k).map bl++[bl x]:=by rw[List.take_add_one,hx]; simp
 rw[e,nW]
 by_cases h:k=0
 ·subst h; simp
 ·have h2:(xs.take k).map bl≠[]:=by
   intro e; have:=congrArg List.length e; simp only[List.length_map,List.length_take,List.length_nil]at this; omega
  rw[if_neg h,if_neg h2]
theorem qx (xs:List ByteArray) (m:Nat) (h: ∀x∈xs,x.size<=m) (k:Nat):(dp ((xs.take k).map bl)).length<=xs.length*(m+1):=by
 have h1:=yf ((xs.take k).map bl) m (fun p hp=>by
  obtain⟨y,hy,rfl⟩:=List.mem_map.1 hp;have:=h y (List.mem_of_mem_take hy);rw[<-ay]; exact this)
 have h2:((xs.take k).map bl).length<=xs.length:=by simp; omega
 exact Nat.le_trans h1 (Nat.mul_le_mul_right _ h2)
theorem vJ (xs:List ByteArray) (S:Nat->Prop) (v:Value) (w:World) (hv:dH S w v xs) (hn:xs.length<=65536) (hsz: ∀x∈xs,x.size<=65536):
  Calls Tryz.prog 106 #[v] w fun e w'=>e= .returned (.string ⟨(dp (xs.map bl)).toArray⟩)/\w=w':=by
 obtain⟨a,cap,rfl,hc,hcm,hcell⟩:=hv.shape;have HC:=ab hcell;have HS:=ab hsz;clear hv hcell hsz;unfold maxLen at hcm
 go_enter Tryz.func106,Tryz.ntmps106
 go_wp2_with fail
 go_loop [3,8] (fun o i=> ∃(k:Nat) (t:ByteArray),k<=xs.length/\i= .int .i64 k/\o= .string t/\bl t=dp ((xs.take k).map bl)) (fun _ i=>xs.length-(intOf i).toNat)
 case atStart=>exact⟨0,⟨#[]⟩,Nat.zero_le _,rfl,rfl,by simp[bl,dp,Lib.join_nil]⟩
 case round=>
  obtain⟨k,t,hk,rfl,rfl,ht⟩:=hrel;have hts:t.size<=4295032832:=by
   rw[ay,ht];have:=qx xs 65536 HS.out k;have h2:xs.length*(65536+1)<=65536*(65536+1):=Nat.mul_le_mul_right _ hn;omega
  have HT:=ab ht;clear ht
  by_cases hlt:k<xs.length
  ·obtain⟨x,hx⟩: ∃x,xs[k]? =some x:=⟨xs[k],by simp[hlt]⟩;obtain⟨b,o,rfl,_,hcl⟩:=HC.out k x hx;have hxs:=HS.out x (List.mem_of_getElem? hx);have HX:=ab hx;clear hx
   by_cases h0:k=0
   ·have e0:decide ((0:Int)<(k:Int))=false:=by simp[h0]
    have hle: ¬(0:Int)<(k:Int):=by omega
    have H0:=ab h0;clear h0;go_wp2_with fail
    go_round
    case rel=>
     refine⟨k+1,t++x,by omega,by go_num,rfl, ?_⟩;rw[qp HX.out,if_pos H0.out,kD,HT.out,H0.out]; simp[dp,Lib.join_nil]
    case measure=>simp[intOf]; omega
   ·have h1:(0:Int)<(k:Int):=by omega
    have h1':0<k:=by omega
    have H0:=ab h0;clear h0;go_wp2_with fail
    go_round
    case rel=>
     refine⟨k+1,(t++⟨#[47]⟩)++x,by omega,by go_num,rfl, ?_⟩;rw[qp HX.out,if_neg H0.out,kD,kD,HT.out]; rfl
    case measure=>simp[intOf]; omega
  ·go_wp2_with fail;go_ret;refine⟨?_,rfl⟩;have:dp (xs.map bl)=bl t:=by rw[HT.out,List.take_of_length_le (by omega)]
   rw[this,lr]; rfl
theorem yD {xs:List ByteArray} {s:ByteArray} (hx:xs.map bl=aF 47 (bl s)):((xs.length:Int) == 1)= !(bl s).contains 47:=by
 rw[<-um,<-hx,List.length_map,Bool.eq_iff_iff,beq_iff_eq,beq_iff_eq]; omega
theorem jC (s:ByteArray) (w:World) (hs:s.size<=16777216):
  Calls Tryz.prog 132 #[.string s] w fun e w'=>e= .returned (.bool (fu (bl s)))/\Below w.heap.size w w':=by
 go_enter Tryz.func132,Tryz.ntmps132
 go_wp2_with (first
  | (go_at_call 163; refine(vI s _ hs).mono ?_; rintro e w1 ⟨rfl,hb1⟩)
  | (go_at_call 105; refine(jl s _ hs).mono ?_; rintro e w2 ⟨v2,xs2,rfl,hx2,hv2,hb2⟩; obtain⟨a2,c2,rfl,-,-,-⟩:=hv2.shape; have HX2:=ab hx2; clear hx2 hv2))
 all_goals (go_ret; refine⟨az ?_,by first | exact Below.refl _ _ | exact ak hb1 hb2 | exact hb1⟩)
 all_goals (rw[Bool.eq_iff_iff]; simp only[bD]at *)
 all_goals (first | (have hq:=yD HX2.out; simp_all [fu,ay]; done) | (simp_all [fu,ay]; done) | (simp_all [fu,ay]; omega) | (have hq:=yD HX2.out; simp_all [fu,ay]; intro _; omega))
theorem vK (s:ByteArray) (w:World) (hs:s.size<=16777216):
  Calls Tryz.prog 103 #[.string s] w fun e w'=>e= .returned (.bool (bJ (bl s)))/\Below w.heap.size w w':=by
 go_enter Tryz.func103,Tryz.ntmps103
 go_wp2_with fail;refine(jl s w hs).mono ?_;rintro e w1 ⟨v,xs,rfl,hx,hv,hb1⟩;obtain⟨a,cap,rfl,hc,hcm,hcell⟩:=hv.shape;have hxl:xs.length<=16777217:=by
  have h1:(aF 47 (bl s)).length=xs.length:=by rw[<-hx]; simp
  have h2:=dY 47 (bl s);rw[<-ay]at h2;omega
 have HX:=ab hx;have HC:=ab hcell;have HB1:=ab hb1;clear hx hcell hb1 hv;unfold maxLen at hcm;go_wp2_with fail
 go_loopw [10] (fun i wr=> ∃k:Nat,k<=xs.length/\i= .int .i64 k/\Below w1.heap.size w1 wr/\ ∀(j:Nat) x,j<k->xs[j]? =some x->fu (bl x)=true) (fun i _=>xs.length-(intOf i).toNat)
 case atStart=>exact⟨0,Nat.zero_le _,rfl,Below.refl _ _,fun j x hj=>by omega⟩
 case round=>
  obtain⟨k,hk,rfl,hb,hall⟩:=hrel;have HA:=ab hall;have HB:=ab hb;clear hall hb
  by_cases hlt:k<xs.length
  ·obtain⟨x,hx⟩: ∃x,xs[k]? =some x:=⟨xs[k],by simp[hlt]⟩;obtain⟨b,o,rfl,_,hcl⟩:=HC.out k x hx;have hcell:wr.cell? ⟨b,o+k,none⟩=some (.string x):=(HB.out.cell (p:=⟨b,o+k,none⟩) (aE hcl)).trans hcl;have HK:=ab hx;have hxs:x.size<=16777216:=by have:=kQ HX.out hx; omega
   clear hx hcl
   cases hc:fu (bl x)
   ·have HCc:=ab hc;clear hc;go_wp2_with (go_at_call 132; refine(jC x wr hxs).mono ?_; rintro e w' ⟨rfl,hb2⟩; rw[HCc.out]);go_ret;exact⟨az (sE HX.out HK.out HCc.out).symm,ak (ak HB1.out HB.out) hb2⟩
   ·have HCc:=ab hc;clear hc;go_wp2_with (go_at_call 132; refine(jC x wr hxs).mono ?_; rintro e w' ⟨rfl,hb2⟩; rw[HCc.out])
    go_roundw
    case rel=>
     refine⟨k+1,by omega,by go_num,ak HB.out hb2,fun j x' hj hx'=> ?_⟩
     rcases Nat.lt_or_ge j k with h | h
     ·exact HA.out j x' h hx'
     ·obtain rfl:j=k:=by omega
      have:=HK.out.symm.trans hx'
      cases this
      exact HCc.out
    case measure=>simp[intOf]; omega
  ·go_wp2_with fail
   all_goals (go_ret; refine⟨az ?_,ak HB1.out HB.out⟩)
   all_goals (
    have ha:(aF 47 (bl s)).all fu=true:=by
     rw[<-HX.out,List.all_map,List.all_eq_true];intro x hm;obtain⟨j,hj,rfl⟩:=List.getElem_of_mem hm;exact HA.out j _ (by omega) (by simp)
    have hl:(aF 47 (bl s)).length=xs.length:=by rw[<-HX.out]; simp
    rw[bJ,ha,hl,Bool.and_true,<-ay,Bool.eq_iff_iff]
    simp_all<;> omega)
open Go.RowKit Go.Maps
theorem xY {S:Nat->Prop} {w:World} {a:Option Addr} {n c:Nat} {xs:List ByteArray} (h:dH S w (.slice a n c) xs):dH S w (.slice a (n-1) c) xs.dropLast:=by
 obtain⟨hl,a',cap,he,hn,hm,h0⟩:=h;simp only[Value.slice.injEq]at he;obtain⟨rfl,rfl,rfl⟩:=he;refine⟨by simp,a,c,by rw[List.length_dropLast],by rw[List.length_dropLast]; omega,hm, ?_⟩
 rcases h0 with h0 | ⟨b,o,ha,hb,hc⟩
 ·left; rw[List.length_dropLast]; omega
 ·right
  refine⟨b,o,ha,hb,fun j u hj=>hc j u ?_⟩;rw[List.getElem?_map,List.getElem?_dropLast]at hj;rw[List.getElem?_map]
  split at hj
  ·exact hj
  ·simp at hj
theorem pV (s:ByteArray) (w:World) (hs:s.size<=65000):
  Calls Tryz.prog 69 #[.string s] w fun e w'=>e= .returned (.string ⟨(bb (bl s)).toArray⟩)/\Below w.heap.size w w':=by
 go_enter Tryz.func69,Tryz.ntmps69
 go_wp2_with (go_at_call 105; refine(jl s _ (by omega)).mono ?_; rintro e w1 ⟨v,xs,rfl,hx,hv,hb⟩; have HX:=ab hx; have HB:=ab hb; obtain⟨a,c,rfl,hc,hm,-⟩:=hv.shape; have HV:=ab hv; have hn1:1<=xs.length:=(by rw[<-List.length_map (f:=bl),hx]; exact lP 47 _); have hn2:xs.length<=65001:=(by rw[<-List.length_map (f:=bl),hx]; have:=dY 47 (bl s); rw[<-ay]at this; omega); clear hx hv hb; unfold maxLen at hm)
 refine(vJ xs.dropLast _ _ w1 (xY HV.out) (by rw[List.length_dropLast]; omega) (fun x hx=> ?_)).mono ?_
 ·have h1:bl x∈aF 47 (bl s):=by rw[<-HX.out]; exact List.mem_map.2 ⟨x,List.dropLast_subset _ hx,rfl⟩
  have h2:=gz 47 (bl s) _ h1;rw[<-ay,<-ay]at h2;omega
 ·rintro e w2 ⟨rfl,rfl⟩;go_wp2_with fail;go_ret;refine⟨?_,HB.out⟩;unfold bb;rw[<-HX.out,<-List.map_dropLast]
  rfl
theorem ni (S:Nat->Prop) (L:List bG) (v:Value) (p:ByteArray) (x:Int) (w:World) (hv:cl S w v L) (hx:eh L p 0=x):
  Calls Tryz.prog 104 #[v, .string p] w fun e w'=>e= .returned (.int .i64 x)/\Below w.heap.size w w':=by
 rw[<-hx]; exact xF S L v p w hv
theorem oy (L:List bG) (p:ByteArray):gx L (bl p)=if bl p=[]then 0 else match ew L p with
 | none=>4
 | some e=>if e.kind=2 then 0 else 13:=by
 unfold gx;rw[lr]
 cases ew L p<;> rfl
theorem An (S:Nat->Prop) (L:List bG) (v:Value) (p:ByteArray) (w:World) (hv:cl S w v L):
  Calls Tryz.prog 68 #[v, .string p] w fun e w'=>e= .returned (.int .i64 (gx L (bl p)))/\Below w.heap.size w w':=by
 have HV:=ab hv
 by_cases h0:bl p=[]
 ·have e1:p.toList.isEmpty=true:=by rw[il,decide_eq_true h0]
  have HR:=ab (show gx L (bl p)=0 by rw[oy,if_pos h0]);clear h0 hv
  go_enter Tryz.func68,Tryz.ntmps68
  go_wp2_with fail;go_ret;exact⟨bC HR.out.symm,Below.refl _ _⟩
 ·have e1:p.toList.isEmpty=false:=by rw[il,decide_eq_false h0]
  rcases nK (p:=p) L 0 with⟨h1,h2⟩ | ⟨j,f,h1,h2,h3⟩
  ·have HR:=ab (show gx L (bl p)=4 by rw[oy,if_neg h0,h1]);have HI:=ab h2;clear h0 h1 h2 hv
   go_enter Tryz.func68,Tryz.ntmps68
   go_wp2_with (go_at_call 104; refine(ni S L v p (-1) _ HV.out HI.out).mono ?_; rintro e w1 ⟨rfl,hb1⟩; have HB1:=ab hb1; clear hb1);go_ret;exact⟨bC HR.out.symm,HB1.out⟩
  ·have HI:=ab (show eh L p 0=(j:Int) by rw[h3]; simp);obtain⟨a,cap,rfl,hc,hm,-⟩:=aY.shape hv lB.len;have hjl:j<L.length:=(List.getElem?_eq_some_iff.1 h2).1;obtain⟨n,hn⟩: ∃n,n=L.length:=⟨_,rfl⟩;rw[<-hn]at HV hc hjl ⊢;obtain⟨b,o,dv,rfl,-,hb,-,-,-,q0,q1,q2,q3,q4,q5⟩:=jd HV.out h2;unfold maxLen at hm
   by_cases hk:f.kind=2
   ·have HR:=ab (show gx L (bl p)=0 by rw[oy,if_neg h0,h1]; simp only[if_pos hk]);have e2:(f.kind != 2)=false:=by simp[hk]
    clear h0 h1 h2 h3 hv hk hn q0 q2 q3 q4 q5
    go_enter Tryz.func68,Tryz.ntmps68
    go_wp2_with (go_at_call 104; refine(ni S L _ p j _ HV.out HI.out).mono ?_; rintro e w1 ⟨rfl,hb1⟩; have q9:=(hb1.cell (aE q1)).trans q1; have HB1:=ab hb1; clear hb1);go_ret;exact⟨bC HR.out.symm,HB1.out⟩
   ·have HR:=ab (show gx L (bl p)=13 by rw[oy,if_neg h0,h1]; simp only[if_neg hk]);have e2:(f.kind != 2)=true:=by simp[hk]
    clear h0 h1 h2 h3 hv hk hn q0 q2 q3 q4 q5
    go_enter Tryz.func68,Tryz.ntmps68
    go_wp2_with (go_at_call 104; refine(ni S L _ p j _ HV.out HI.out).mono ?_; rintro e w1 ⟨rfl,hb1⟩; have q9:=(hb1.cell (aE q1)).trans q1; have HB1:=ab hb1; clear hb1);go_ret;exact⟨bC HR.out.symm,HB1.out⟩
theorem cG (s:ByteArray) (b:Bool) (w:World) (hs:s.size<=16777216) (h:bJ (bl s)=b):Calls Tryz.prog 103 #[.string s] w fun e w'=>e= .returned (.bool b)/\Below w.heap.size w w':=by
 rw[<-h]; exact vK s w hs
theorem pH {l:List UInt8} :l.contains 0=false<-> ∀k:Nat,∀b,l[k]? =some b->b≠0:=by
 rw[Bool.eq_false_iff,ne_eq,List.contains_iff_mem,List.mem_iff_getElem?]
 constructor
 ·intro h k b hb e; subst e; exact h ⟨k,hb⟩
 ·rintro h ⟨k,hk⟩; exact h k 0 hk rfl
theorem wn {en:bG} (h:(en.kind=1\/en.kind=2\/en.kind=3)/\en.data.length<=1048576/\(en.kind=1\/en.data.length=0)) (hz:(bl en.link).contains 0=false):ez en=((decide (en.kind=3) == decide (en.link.size≠0)) && decide (en.link.size<=512)):=by
 obtain⟨h1,h2,h3⟩:=h;unfold ez jp;rw[hz,<-ay]
 rcases h1 with h1 | h1 | h1
 ·rw[if_pos h1,decide_eq_true h2,h1]
  by_cases hs:en.link.size=0
  ·simp[hs]
  ·simp[hs]
 ·have h4:en.data.length=0:=h3.resolve_left (by omega);rw[if_neg (by omega),if_pos h1,decide_eq_true h4,h1]
  by_cases hs:en.link.size=0
  ·simp[hs]
  ·simp[hs]
 ·have h4:en.data.length=0:=h3.resolve_left (by omega);rw[if_neg (by omega),if_neg (by omega),if_pos h1,decide_eq_true h4,h1]
  by_cases hs:en.link.size=0
  ·simp[hs]
  ·rw[decide_eq_true (by omega:1<=en.link.size)];simp[hs]
theorem tK (S:Nat->Prop) (en:bG) (v:Value) (w:World) (hd:cN S w v en.data) (hok:jL en) (hps:en.path.size<=16777216):Calls Tryz.prog 67 #[pq v en] w fun e w'=>e= .returned (.bool (cC en))/\Below w.heap.size w w':=by
 obtain⟨a,cap,rfl,hc,hm⟩:=hd.slice;unfold maxLen at hm;have HPS:=ab hps;have hlk:=hok.lnk;unfold maxLen at hlk;clear hok;unfold pq
 cases hv:bJ (bl en.path)
 ·have HV:=ab hv;have HF:=ab (show cC en=false by unfold cC; rw[hv]; rfl);clear hv
  go_enter Tryz.func67,Tryz.ntmps67
  go_wp2_with fail;obtain⟨W,hW⟩: ∃W,W=w.alloc (.cells #[.string en.path, .int .i64 en.kind, .int .i64 en.mode, .int .i64 en.time, .slice a en.data.length cap, .string en.link] 30):=⟨_,rfl⟩;rw[<-hW];have HBW:=ab (show Below w.heap.size w W by rw[hW]; exact(Below.refl _ _).alloc (Nat.le_refl _) _);have HBX:=ab (show W.heap[w.heap.size]? =some (.cells #[.string en.path, .int .i64 en.kind, .int .i64 en.mode, .int .i64 en.time, .slice a en.data.length cap, .string en.link] 30 (0,0)) by rw[hW]; exact ey w _)
  clear hW;refine(cG en.path false _ HPS.out HV.out).mono ?_;rintro e w1 ⟨rfl,hb1⟩;have HB1:=ab (ak HBW.out hb1);clear hb1;go_wp2_with fail;go_ret;exact⟨az (by rw[HF.out]),HB1.out⟩
 have HV:=ab hv
 by_cases h1:en.mode<0
 ·have e1:decide (en.mode<0)=true:=by simp[h1]
  have HF:=ab (show cC en=false by unfold cC iB; rw[decide_eq_false (by omega: ¬0<=en.mode)]; simp);clear hv
  go_enter Tryz.func67,Tryz.ntmps67
  go_wp2_with fail;obtain⟨W,hW⟩: ∃W,W=w.alloc (.cells #[.string en.path, .int .i64 en.kind, .int .i64 en.mode, .int .i64 en.time, .slice a en.data.length cap, .string en.link] 30):=⟨_,rfl⟩;rw[<-hW];have HBW:=ab (show Below w.heap.size w W by rw[hW]; exact(Below.refl _ _).alloc (Nat.le_refl _) _);have HBX:=ab (show W.heap[w.heap.size]? =some (.cells #[.string en.path, .int .i64 en.kind, .int .i64 en.mode, .int .i64 en.time, .slice a en.data.length cap, .string en.link] 30 (0,0)) by rw[hW]; exact ey w _)
  clear hW;refine(cG en.path true _ HPS.out HV.out).mono ?_;rintro e w1 ⟨rfl,hb1⟩;have HB1:=ab (ak HBW.out hb1);have HX1:=ab ((hb1.block w.heap.size (fp HBX.out)).trans HBX.out);clear hb1;have c0:=al (k:=0) HX1.out;have c1:=al (k:=1) HX1.out;have c2:=al (k:=2) HX1.out;have c3:=al (k:=3) HX1.out;have c4:=al (k:=4) HX1.out;have c5:=al (k:=5) HX1.out
  simp only[eE]at c0 c1 c2 c3 c4 c5;go_wp2_with fail;go_ret;exact⟨az (by rw[HF.out]),HB1.out⟩
 have e1:decide (en.mode<0)=false:=by simp[h1]
 by_cases h2:511<en.mode
 ·have e2:decide (511<en.mode)=true:=by simp[h2]
  have HF:=ab (show cC en=false by unfold cC iB; rw[decide_eq_false (by omega: ¬en.mode<=511)]; simp);clear hv
  go_enter Tryz.func67,Tryz.ntmps67
  go_wp2_with fail;obtain⟨W,hW⟩: ∃W,W=w.alloc (.cells #[.string en.path, .int .i64 en.kind, .int .i64 en.mode, .int .i64 en.time, .slice a en.data.length cap, .string en.link] 30):=⟨_,rfl⟩;rw[<-hW];have HBW:=ab (show Below w.heap.size w W by rw[hW]; exact(Below.refl _ _).alloc (Nat.le_refl _) _);have HBX:=ab (show W.heap[w.heap.size]? =some (.cells #[.string en.path, .int .i64 en.kind, .int .i64 en.mode, .int .i64 en.time, .slice a en.data.length cap, .string en.link] 30 (0,0)) by rw[hW]; exact ey w _)
  clear hW;refine(cG en.path true _ HPS.out HV.out).mono ?_;rintro e w1 ⟨rfl,hb1⟩;have HB1:=ab (ak HBW.out hb1);have HX1:=ab ((hb1.block w.heap.size (fp HBX.out)).trans HBX.out);clear hb1;have c0:=al (k:=0) HX1.out;have c1:=al (k:=1) HX1.out;have c2:=al (k:=2) HX1.out;have c3:=al (k:=3) HX1.out;have c4:=al (k:=4) HX1.out;have c5:=al (k:=5) HX1.out
  simp only[eE]at c0 c1 c2 c3 c4 c5;go_wp2_with fail;go_ret;exact⟨az (by rw[HF.out]),HB1.out⟩
 have e2:decide (511<en.mode)=false:=by simp[h2]
 by_cases h3:en.time<0
 ·have e3:decide (en.time<0)=true:=by simp[h3]
  have HF:=ab (show cC en=false by unfold cC iB; rw[decide_eq_false (by omega: ¬0<=en.time)]; simp);clear hv
  go_enter Tryz.func67,Tryz.ntmps67
  go_wp2_with fail;obtain⟨W,hW⟩: ∃W,W=w.alloc (.cells #[.string en.path, .int .i64 en.kind, .int .i64 en.mode, .int .i64 en.time, .slice a en.data.length cap, .string en.link] 30):=⟨_,rfl⟩;rw[<-hW];have HBW:=ab (show Below w.heap.size w W by rw[hW]; exact(Below.refl _ _).alloc (Nat.le_refl _) _);have HBX:=ab (show W.heap[w.heap.size]? =some (.cells #[.string en.path, .int .i64 en.kind, .int .i64 en.mode, .int .i64 en.time, .slice a en.data.length cap, .string en.link] 30 (0,0)) by rw[hW]; exact ey w _)
  clear hW;refine(cG en.path true _ HPS.out HV.out).mono ?_;rintro e w1 ⟨rfl,hb1⟩;have HB1:=ab (ak HBW.out hb1);have HX1:=ab ((hb1.block w.heap.size (fp HBX.out)).trans HBX.out);clear hb1;have c0:=al (k:=0) HX1.out;have c1:=al (k:=1) HX1.out;have c2:=al (k:=2) HX1.out;have c3:=al (k:=3) HX1.out;have c4:=al (k:=4) HX1.out;have c5:=al (k:=5) HX1.out
  simp only[eE]at c0 c1 c2 c3 c4 c5;go_wp2_with fail;go_ret;exact⟨az (by rw[HF.out]),HB1.out⟩
 have e3:decide (en.time<0)=false:=by simp[h3]
 by_cases h4:en.kind<1
 ·have e4:decide (en.kind<1)=true:=by simp[h4]
  have HF:=ab (show cC en=false by unfold cC ez; rw[if_neg (by omega),if_neg (by omega),if_neg (by omega)]; simp);clear hv
  go_enter Tryz.func67,Tryz.ntmps67
  go_wp2_with fail;obtain⟨W,hW⟩: ∃W,W=w.alloc (.cells #[.string en.path, .int .i64 en.kind, .int .i64 en.mode, .int .i64 en.time, .slice a en.data.length cap, .string en.link] 30):=⟨_,rfl⟩;rw[<-hW];have HBW:=ab (show Below w.heap.size w W by rw[hW]; exact(Below.refl _ _).alloc (Nat.le_refl _) _);have HBX:=ab (show W.heap[w.heap.size]? =some (.cells #[.string en.path, .int .i64 en.kind, .int .i64 en.mode, .int .i64 en.time, .slice a en.data.length cap, .string en.link] 30 (0,0)) by rw[hW]; exact ey w _)
  clear hW;refine(cG en.path true _ HPS.out HV.out).mono ?_;rintro e w1 ⟨rfl,hb1⟩;have HB1:=ab (ak HBW.out hb1);have HX1:=ab ((hb1.block w.heap.size (fp HBX.out)).trans HBX.out);clear hb1;have c0:=al (k:=0) HX1.out;have c1:=al (k:=1) HX1.out;have c2:=al (k:=2) HX1.out;have c3:=al (k:=3) HX1.out;have c4:=al (k:=4) HX1.out;have c5:=al (k:=5) HX1.out
  simp only[eE]at c0 c1 c2 c3 c4 c5;go_wp2_with fail;go_ret;exact⟨az (by rw[HF.out]),HB1.out⟩
 have e4:decide (en.kind<1)=false:=by simp[h4]
 by_cases h5:3<en.kind
 ·have e5:decide (3<en.kind)=true:=by simp[h5]
  have HF:=ab (show cC en=false by unfold cC ez; rw[if_neg (by omega),if_neg (by omega),if_neg (by omega)]; simp);clear hv
  go_enter Tryz.func67,Tryz.ntmps67
  go_wp2_with fail;obtain⟨W,hW⟩: ∃W,W=w.alloc (.cells #[.string en.path, .int .i64 en.kind, .int .i64 en.mode, .int .i64 en.time, .slice a en.data.length cap, .string en.link] 30):=⟨_,rfl⟩;rw[<-hW];have HBW:=ab (show Below w.heap.size w W by rw[hW]; exact(Below.refl _ _).alloc (Nat.le_refl _) _);have HBX:=ab (show W.heap[w.heap.size]? =some (.cells #[.string en.path, .int .i64 en.kind, .int .i64 en.mode, .int .i64 en.time, .slice a en.data.length cap, .string en.link] 30 (0,0)) by rw[hW]; exact ey w _)
  clear hW;refine(cG en.path true _ HPS.out HV.out).mono ?_;rintro e w1 ⟨rfl,hb1⟩;have HB1:=ab (ak HBW.out hb1);have HX1:=ab ((hb1.block w.heap.size (fp HBX.out)).trans HBX.out);clear hb1;have c0:=al (k:=0) HX1.out;have c1:=al (k:=1) HX1.out;have c2:=al (k:=2) HX1.out;have c3:=al (k:=3) HX1.out;have c4:=al (k:=4) HX1.out;have c5:=al (k:=5) HX1.out
  simp only[eE]at c0 c1 c2 c3 c4 c5;go_wp2_with fail;go_ret;exact⟨az (by rw[HF.out]),HB1.out⟩
 have e5:decide (3<en.kind)=false:=by simp[h5]
 have HHD:=ab (show cC en=ez en by
  unfold cC iB;rw[hv,decide_eq_true (by omega:0<=en.mode),decide_eq_true (by omega:en.mode<=511),decide_eq_true (by omega:0<=en.time)]; simp)
 by_cases h6:en.kind≠1/\0<en.data.length
 ·have e6:(en.kind != 1)=true:=by simp[h6.1]
  have e7:decide (0<en.data.length)=true:=by simp[h6.2]
  have e8:0<en.data.length:=h6.2;have HF:=ab (show cC en=false by
   rw[HHD.out]; unfold ez; rw[if_neg h6.1,decide_eq_false (by omega: ¬en.data.length=0)]; simp)
  clear hv h6
  go_enter Tryz.func67,Tryz.ntmps67
  go_wp2_with fail;obtain⟨W,hW⟩: ∃W,W=w.alloc (.cells #[.string en.path, .int .i64 en.kind, .int .i64 en.mode, .int .i64 en.time, .slice a en.data.length cap, .string en.link] 30):=⟨_,rfl⟩;rw[<-hW];have HBW:=ab (show Below w.heap.size w W by rw[hW]; exact(Below.refl _ _).alloc (Nat.le_refl _) _);have HBX:=ab (show W.heap[w.heap.size]? =some (.cells #[.string en.path, .int .i64 en.kind, .int .i64 en.mode, .int .i64 en.time, .slice a en.data.length cap, .string en.link] 30 (0,0)) by rw[hW]; exact ey w _)
  clear hW;refine(cG en.path true _ HPS.out HV.out).mono ?_;rintro e w1 ⟨rfl,hb1⟩;have HB1:=ab (ak HBW.out hb1);have HX1:=ab ((hb1.block w.heap.size (fp HBX.out)).trans HBX.out);clear hb1;have c0:=al (k:=0) HX1.out;have c1:=al (k:=1) HX1.out;have c2:=al (k:=2) HX1.out;have c3:=al (k:=3) HX1.out;have c4:=al (k:=4) HX1.out;have c5:=al (k:=5) HX1.out
  simp only[eE]at c0 c1 c2 c3 c4 c5;go_wp2_with fail;go_ret;exact⟨az (by rw[HF.out]),HB1.out⟩
 by_cases h7:1048576<en.data.length
 ·have hk1:en.kind=1:=by
   by_cases hk:en.kind=1
   ·exact hk
   ·exact absurd ⟨hk,by omega⟩ h6
  have e6:(en.kind != 1)=false:=by simp[hk1]
  have e7:decide (1048576<en.data.length)=true:=by simp[h7]
  have HF:=ab (show cC en=false by
   rw[HHD.out]; unfold ez; rw[if_pos hk1,decide_eq_false (by omega: ¬en.data.length<=1048576)]; simp)
  clear hv h6 hk1
  go_enter Tryz.func67,Tryz.ntmps67
  go_wp2_with fail;obtain⟨W,hW⟩: ∃W,W=w.alloc (.cells #[.string en.path, .int .i64 en.kind, .int .i64 en.mode, .int .i64 en.time, .slice a en.data.length cap, .string en.link] 30):=⟨_,rfl⟩;rw[<-hW];have HBW:=ab (show Below w.heap.size w W by rw[hW]; exact(Below.refl _ _).alloc (Nat.le_refl _) _);have HBX:=ab (show W.heap[w.heap.size]? =some (.cells #[.string en.path, .int .i64 en.kind, .int .i64 en.mode, .int .i64 en.time, .slice a en.data.length cap, .string en.link] 30 (0,0)) by rw[hW]; exact ey w _)
  clear hW;refine(cG en.path true _ HPS.out HV.out).mono ?_;rintro e w1 ⟨rfl,hb1⟩;have HB1:=ab (ak HBW.out hb1);have HX1:=ab ((hb1.block w.heap.size (fp HBX.out)).trans HBX.out);clear hb1;have c0:=al (k:=0) HX1.out;have c1:=al (k:=1) HX1.out;have c2:=al (k:=2) HX1.out;have c3:=al (k:=3) HX1.out;have c4:=al (k:=4) HX1.out;have c5:=al (k:=5) HX1.out
  simp only[eE]at c0 c1 c2 c3 c4 c5;go_wp2_with fail;go_ret;exact⟨az (by rw[HF.out]),HB1.out⟩
 have e7:decide (1048576<en.data.length)=false:=by simp; omega
 have HKD:=ab (show(en.kind=1\/en.kind=2\/en.kind=3)/\en.data.length<=1048576/\(en.kind=1\/en.data.length=0)from⟨by omega,by omega,by
  by_cases hk:en.kind=1
  ·exact .inl hk
  ·exact .inr (by rcases Nat.eq_zero_or_pos en.data.length with h | h; exact h; exact absurd ⟨hk,h⟩ h6)⟩)
 clear hv
 by_cases hk1:en.kind=1
 ·have e6:(en.kind != 1)=false:=by simp[hk1]
  clear h6 hk1
  go_enter Tryz.func67,Tryz.ntmps67
  go_wp2_with fail;obtain⟨W,hW⟩: ∃W,W=w.alloc (.cells #[.string en.path, .int .i64 en.kind, .int .i64 en.mode, .int .i64 en.time, .slice a en.data.length cap, .string en.link] 30):=⟨_,rfl⟩;rw[<-hW];have HBW:=ab (show Below w.heap.size w W by rw[hW]; exact(Below.refl _ _).alloc (Nat.le_refl _) _);have HBX:=ab (show W.heap[w.heap.size]? =some (.cells #[.string en.path, .int .i64 en.kind, .int .i64 en.mode, .int .i64 en.time, .slice a en.data.length cap, .string en.link] 30 (0,0)) by rw[hW]; exact ey w _)
  clear hW;refine(cG en.path true _ HPS.out HV.out).mono ?_;rintro e w1 ⟨rfl,hb1⟩;have HB1:=ab (ak HBW.out hb1);have HX1:=ab ((hb1.block w.heap.size (fp HBX.out)).trans HBX.out);clear hb1;have c0:=al (k:=0) HX1.out;have c1:=al (k:=1) HX1.out;have c2:=al (k:=2) HX1.out;have c3:=al (k:=3) HX1.out;have c4:=al (k:=4) HX1.out;have c5:=al (k:=5) HX1.out
  simp only[eE]at c0 c1 c2 c3 c4 c5;go_wp2_with fail
  go_loopw [3] (fun i wr=> ∃k:Nat,k<=en.link.size/\i= .int .i64 k/\(∀j b,j<k->(bl en.link)[j]? =some b->b≠0)/\Below w1.heap.size w1 wr) (fun i _=>en.link.size-(intOf i).toNat)
  case atStart=>exact⟨0,Nat.zero_le _,rfl,fun _ _ h=>absurd h (Nat.not_lt_zero _),Below.refl _ _⟩
  case round=>
   obtain⟨k,hk,rfl,hz,hbr⟩:=hrel;have HZ:=ab hz;have HBR:=ab hbr;have HXR:=ab ((hbr.block w.heap.size (fp HX1.out)).trans HX1.out);clear hz hbr c0 c1 c2 c3 c4 c5;have c0:=al (k:=0) HXR.out;have c1:=al (k:=1) HXR.out;have c2:=al (k:=2) HXR.out;have c3:=al (k:=3) HXR.out;have c4:=al (k:=4) HXR.out;have c5:=al (k:=5) HXR.out;simp only[eE]at c0 c1 c2 c3 c4 c5
   by_cases hlt:k<en.link.size
   ·have HBY:=ab (show(bl en.link)[k]? =some en.link[k] by rw[List.getElem?_eq_getElem (by rw[<-ay]; exact hlt)]; rfl)
    by_cases h0:(en.link[k]'hlt).toNat=0
    ·have HF:=ab (show cC en=false by
      rw[HHD.out];unfold ez;have hne: ¬en.link.size=0:=by omega
      have hct:(bl en.link).contains 0=true:=by
       have h9:en.link[k]'hlt=0:=UInt8.toNat_inj.1 h0;have:=HBY.out;rw[h9]at this;exact List.contains_iff_mem.2 (List.mem_of_getElem? this)
      rw[decide_eq_false hne];unfold jp;rw[hct]
      simp)
     go_wp2_with fail;go_ret;exact⟨az (by rw[HF.out]),ak HB1.out HBR.out⟩
    ·have HNZ:=ab h0;go_wp2_with fail
     go_roundw
     case rel=>
      refine⟨k+1,by omega,by go_num,fun j b hj hb e=> ?_,HBR.out⟩
      by_cases hjk:j=k
      ·subst hjk;rw[HBY.out]at hb;have:=Option.some.inj hb;subst this;exact HNZ.out (by rw[e]; rfl)
      ·exact HZ.out j b (by omega) hb e
     case measure=>simp[intOf]; omega
   ·have hk2:k=en.link.size:=by omega
    have HNO:=ab (show(bl en.link).contains 0=false from pH.2 (fun j b hj e=>by
     have h1:=(List.getElem?_eq_some_iff.1 hj).1;exact HZ.out j b (by rw[hk2,ay]; exact h1) hj e))
    have HVK:=ab (wn HKD.out HNO.out);have HEM:=ab (show en.link.toList.isEmpty= !decide (en.link.size≠0) by rw[il]; by_cases h:en.link.size=0<;> simp[h,kT.1,<-kT]);obtain⟨b3,hb3⟩: ∃b,decide (en.kind=3)=b:=⟨_,rfl⟩;obtain⟨be,hbe⟩: ∃b,decide (en.link.size≠0)=b:=⟨_,rfl⟩;obtain⟨b5,hb5⟩: ∃b,decide (en.link.size<=512)=b:=⟨_,rfl⟩
    have f3:(en.kind == 3)=b3:=by rw[<-hb3]; rfl
    have fe:=HEM.out;rw[hbe]at fe;have HRS:=ab (show cC en=((b3 == be) && b5) by rw[HHD.out,HVK.out,hb3,hbe,hb5]);have HB5:=ab hb5;clear hbe hlt hk hb3 hb5
    cases b3<;> cases be<;> simp only[Bool.not_true,Bool.not_false]at fe<;> (go_wp2_with fail)<;> (go_ret)<;> exact⟨az (by rw[HRS.out,<-HB5.out]; simp[show(((en.link.size:Nat):Int)<=512<->en.link.size<=512)from by omega]),ak HB1.out HBR.out⟩
 ·have e6:(en.kind != 1)=true:=by simp[hk1]
  have e8:decide (0<en.data.length)=false:=by rw[decide_eq_false_iff_not]; exact fun h=>h6 ⟨hk1,h⟩
  clear h6 hk1
  go_enter Tryz.func67,Tryz.ntmps67
  go_wp2_with fail;obtain⟨W,hW⟩: ∃W,W=w.alloc (.cells #[.string en.path, .int .i64 en.kind, .int .i64 en.mode, .int .i64 en.time, .slice a en.data.length cap, .string en.link] 30):=⟨_,rfl⟩;rw[<-hW];have HBW:=ab (show Below w.heap.size w W by rw[hW]; exact(Below.refl _ _).alloc (Nat.le_refl _) _);have HBX:=ab (show W.heap[w.heap.size]? =some (.cells #[.string en.path, .int .i64 en.kind, .int .i64 en.mode, .int .i64 en.time, .slice a en.data.length cap, .string en.link] 30 (0,0)) by rw[hW]; exact ey w _)
  clear hW;refine(cG en.path true _ HPS.out HV.out).mono ?_;rintro e w1 ⟨rfl,hb1⟩;have HB1:=ab (ak HBW.out hb1);have HX1:=ab ((hb1.block w.heap.size (fp HBX.out)).trans HBX.out);clear hb1;have c0:=al (k:=0) HX1.out;have c1:=al (k:=1) HX1.out;have c2:=al (k:=2) HX1.out;have c3:=al (k:=3) HX1.out;have c4:=al (k:=4) HX1.out;have c5:=al (k:=5) HX1.out
  simp only[eE]at c0 c1 c2 c3 c4 c5;go_wp2_with fail
  go_loopw [3] (fun i wr=> ∃k:Nat,k<=en.link.size/\i= .int .i64 k/\(∀j b,j<k->(bl en.link)[j]? =some b->b≠0)/\Below w1.heap.size w1 wr) (fun i _=>en.link.size-(intOf i).toNat)
  case atStart=>exact⟨0,Nat.zero_le _,rfl,fun _ _ h=>absurd h (Nat.not_lt_zero _),Below.refl _ _⟩
  case round=>
   obtain⟨k,hk,rfl,hz,hbr⟩:=hrel;have HZ:=ab hz;have HBR:=ab hbr;have HXR:=ab ((hbr.block w.heap.size (fp HX1.out)).trans HX1.out);clear hz hbr c0 c1 c2 c3 c4 c5;have c0:=al (k:=0) HXR.out;have c1:=al (k:=1) HXR.out;have c2:=al (k:=2) HXR.out;have c3:=al (k:=3) HXR.out;have c4:=al (k:=4) HXR.out;have c5:=al (k:=5) HXR.out;simp only[eE]at c0 c1 c2 c3 c4 c5
   by_cases hlt:k<en.link.size
   ·have HBY:=ab (show(bl en.link)[k]? =some en.link[k] by rw[List.getElem?_eq_getElem (by rw[<-ay]; exact hlt)]; rfl)
    by_cases h0:(en.link[k]'hlt).toNat=0
    ·have HF:=ab (show cC en=false by
      rw[HHD.out];unfold ez;have hne: ¬en.link.size=0:=by omega
      have hct:(bl en.link).contains 0=true:=by
       have h9:en.link[k]'hlt=0:=UInt8.toNat_inj.1 h0;have:=HBY.out;rw[h9]at this;exact List.contains_iff_mem.2 (List.mem_of_getElem? this)
      rw[decide_eq_false hne];unfold jp;rw[hct]
      simp)
     go_wp2_with fail;go_ret;exact⟨az (by rw[HF.out]),ak HB1.out HBR.out⟩
    ·have HNZ:=ab h0;go_wp2_with fail
     go_roundw
     case rel=>
      refine⟨k+1,by omega,by go_num,fun j b hj hb e=> ?_,HBR.out⟩
      by_cases hjk:j=k
      ·subst hjk;rw[HBY.out]at hb;have:=Option.some.inj hb;subst this;exact HNZ.out (by rw[e]; rfl)
      ·exact HZ.out j b (by omega) hb e
     case measure=>simp[intOf]; omega
   ·have hk2:k=en.link.size:=by omega
    have HNO:=ab (show(bl en.link).contains 0=false from pH.2 (fun j b hj e=>by
     have h1:=(List.getElem?_eq_some_iff.1 hj).1;exact HZ.out j b (by rw[hk2,ay]; exact h1) hj e))
    have HVK:=ab (wn HKD.out HNO.out);have HEM:=ab (show en.link.toList.isEmpty= !decide (en.link.size≠0) by rw[il]; by_cases h:en.link.size=0<;> simp[h,kT.1,<-kT]);obtain⟨b3,hb3⟩: ∃b,decide (en.kind=3)=b:=⟨_,rfl⟩;obtain⟨be,hbe⟩: ∃b,decide (en.link.size≠0)=b:=⟨_,rfl⟩;obtain⟨b5,hb5⟩: ∃b,decide (en.link.size<=512)=b:=⟨_,rfl⟩
    have f3:(en.kind == 3)=b3:=by rw[<-hb3]; rfl
    have fe:=HEM.out;rw[hbe]at fe;have HRS:=ab (show cC en=((b3 == be) && b5) by rw[HHD.out,HVK.out,hb3,hbe,hb5]);have HB5:=ab hb5;clear hbe hlt hk hb3 hb5
    cases b3<;> cases be<;> simp only[Bool.not_true,Bool.not_false]at fe<;> (go_wp2_with fail)<;> (go_ret)<;> exact⟨az (by rw[HRS.out,<-HB5.out]; simp[show(((en.link.size:Nat):Int)<=512<->en.link.size<=512)from by omega]),ak HB1.out HBR.out⟩
end Go.Proofs.YtnjkpcalgoefhaaGreatDoor
namespace Go.Proofs.YtnjkpcalgoefhaaGreatDoor
open Go.RowKit
theorem gV (c:Int) (w:World) (h0:0<=c) (h1:c<=255):Calls Tryz.prog 81 #[.int .u8 c] w fun e w'=>e= .returned (.int .i64 (gu c))/\w=w':=by
 by_cases h:c=47
 ·subst h
  go_enter Tryz.func81,Tryz.ntmps81
  go_wp2
  go_ret;exact⟨rfl,rfl⟩
 ·have hr:gu c=c:=if_neg h;have HR:=ab hr;clear hr;have h2:(c == 47)=false:=by simpa using h
  go_enter Tryz.func81,Tryz.ntmps81
  go_wp2
  go_ret;exact⟨bC HR.out.symm,rfl⟩
theorem qW (a b:ByteArray) (w:World) (ha:a.size<=65536):
  Calls Tryz.prog 45 #[.string a, .string b] w fun e w'=>e= .returned (.int .i64 (cz (bl a) (bl b)))/\Below w.heap.size w w':=by
 go_enter Tryz.func45,Tryz.ntmps45
 go_wp2_with fail
 go_loopw [5] (fun i wr=> ∃k:Nat,k<=a.size/\k<=b.size/\i= .int .i64 k/\Below w.heap.size w wr/\cz (bl a) (bl b)=cz ((bl a).drop k) ((bl b).drop k)) (fun i _=>a.size-(intOf i).toNat)
 case atStart=>exact⟨0,Nat.zero_le _,Nat.zero_le _,rfl,Below.refl _ _,rfl⟩
 case round=>
  obtain⟨k,hk1,hk2,rfl,hbw,hc⟩:=hrel;have HC:=ab hc;have HB:=ab hbw;clear hc hbw
  by_cases hla:k<a.size
  ·by_cases hlb:k<b.size
   ·have i1:(k:Int)<(a.size:Int):=by omega
    have i2:(k:Int)<(b.size:Int):=by omega
    have hla':k<(bl a).length:=by rw[<-ay]; exact hla
    have hlb':k<(bl b).length:=by rw[<-ay]; exact hlb
    have hr1:=(a[k]).toNat_lt;have hr2:=(b[k]).toNat_lt;have hxa:dA (bl a)[k]=gu (a[k].toNat:Int):=by rw[mE]; exact congrArg dA (eO a k hla).symm
    have hyb:dA (bl b)[k]=gu (b[k].toNat:Int):=by rw[mE]; exact congrArg dA (eO b k hlb).symm
    have HXA:=ab hxa;have HYB:=ab hyb;clear hxa hyb
    rcases Int.lt_trichotomy (gu (a[k].toNat:Int)) (gu (b[k].toNat:Int))with hxy | hxy | hxy
    ·have HXY:=ab hxy;go_wp2_with fail
     go_quiet ((go_at_call 81; refine eF (gV _ _ (by omega) (by omega))))
     go_wp2_with fail;go_ret;refine⟨bC ?_,cu HB.out _⟩;have hne:(bl a)[k]≠(bl b)[k]:=by intro e; have:=HXY.out; rw[<-HXA.out,<-HYB.out,e]at this; omega
     rw[HC.out,oX hla' hlb' hne,HXA.out,HYB.out,Lib.compareInt,if_pos HXY.out]
    ·have e1: ¬gu (a[k].toNat:Int)<gu (b[k].toNat:Int):=by omega
     have e2: ¬gu (b[k].toNat:Int)<gu (a[k].toNat:Int):=by omega
     have HXY:=ab hxy;clear hxy;go_wp2_with fail
     go_quiet ((go_at_call 81; refine eF (gV _ _ (by omega) (by omega))))
     go_wp2_with fail;have hW: ∃W,W=wr.drewN nq/\Below w.heap.size w W:=⟨_,rfl,cu HB.out nq⟩;obtain⟨W,hWe,hWb⟩:=hW;rw[<-hWe];have HB2:=ab hWb;clear hWe hWb HB
     go_quiet ((go_at_call 81; refine eF (gV _ _ (by omega) (by omega))))
     go_wp2_with fail
     go_roundw
     case rel=>
      refine⟨k+1,by omega,by omega,by go_num,cu HB2.out _, ?_⟩;rw[HC.out];exact ul hla' hlb' (gF (HXA.out.trans (HXY.out.trans HYB.out.symm)))
     case measure=>simp[intOf]; omega
    ·have e1: ¬gu (a[k].toNat:Int)<gu (b[k].toNat:Int):=by omega
     have HXY:=ab hxy;go_wp2_with fail
     go_quiet ((go_at_call 81; refine eF (gV _ _ (by omega) (by omega))))
     go_wp2_with fail;have hW: ∃W,W=wr.drewN nq/\Below w.heap.size w W:=⟨_,rfl,cu HB.out nq⟩;obtain⟨W,hWe,hWb⟩:=hW;rw[<-hWe];have HB2:=ab hWb;clear hWe hWb HB
     go_quiet ((go_at_call 81; refine eF (gV _ _ (by omega) (by omega))))
     go_wp2_with fail;go_ret;refine⟨bC ?_,cu HB2.out _⟩;have hne:(bl a)[k]≠(bl b)[k]:=by intro e; have:=HXY.out; rw[<-HXA.out,<-HYB.out,e]at this; omega
     rw[HC.out,oX hla' hlb' hne,HXA.out,HYB.out,Lib.compareInt,if_neg (by have:=HXY.out; omega),if_pos HXY.out]
   ·obtain rfl:k=b.size:=by omega
    have i2:decide ((b.size:Int)<(b.size:Int))=false:=by simp
    have i3:(b.size:Int)<(a.size:Int):=by omega
    go_wp2_with fail;go_ret;refine⟨bC ?_,HB.out⟩;rw[HC.out,ow (by rw[<-ay]; omega) (by rw[<-ay]; exact Nat.le_refl _) (.inr (by rw[<-ay])),<-ay,<-ay,Lib.compareInt,if_neg (by omega),if_pos (by omega)]
  ·obtain rfl:k=a.size:=by omega
   rcases Nat.lt_or_ge a.size b.size with hlb | hlb
   ·have i3:(a.size:Int)<(b.size:Int):=by omega
    go_wp2_with fail;go_ret;refine⟨bC ?_,HB.out⟩;rw[HC.out,ow (by rw[<-ay]; exact Nat.le_refl _) (by rw[<-ay]; omega) (.inl (by rw[<-ay])),<-ay,<-ay,Lib.compareInt,if_pos (by omega)]
   ·obtain heq:a.size=b.size:=by omega
    have HEQ:=ab heq;have i3: ¬(a.size:Int)<(b.size:Int):=by omega
    have i4: ¬(b.size:Int)<(a.size:Int):=by omega
    clear heq;go_wp2_with fail;go_ret;refine⟨bC ?_,HB.out⟩;rw[HC.out,ow (by rw[<-ay]; exact Nat.le_refl _) (by rw[<-ay]; omega) (.inl (by rw[<-ay])),<-ay,<-ay,Lib.compareInt,if_neg (by omega),if_neg (by omega)]
open Go.RowKit Go.Maps
theorem bB.take {α:Type} {R:List Value->α->Prop} {sz:Nat} (hs: ∀c x,R c x->c.length=sz): ∀ {xs:List α} {cells:List Value} (k:Nat),bB R cells xs->k<=xs.length->bB R (cells.take (k*sz)) (xs.take k)
 | _,_,0,_,_=>by simp[bB]
 | [],_,k+1,_,h=>by simp at h
 | x::xs,cells,k+1,⟨c,rest,hc,hx,hr⟩,h=>by
  subst hc;have hl:=hs c x hx;refine⟨c,rest.take (k*sz), ?_,hx,bB.take hs k hr (by simpa using h)⟩;rw[List.take_append,hl,List.take_of_length_le (by rw[hl,Nat.succ_mul]; omega),Nat.succ_mul]
  congr 2; omega
theorem aY.takeN {α:Type} {S:Nat->Prop} {w:World} {sz:Nat} {R:List Value->α->Prop} {a:Option Addr} {n cap:Nat} {xs:List α} (hs: ∀c x,R c x->c.length=sz) (h:aY S w sz R (.slice a n cap) xs) {k:Nat} (hk:k<=xs.length):aY S w sz R (.slice a k cap) (xs.take k):=by
 obtain⟨cells,⟨hl,a',cap',hv,hn,hm,h0⟩,hr⟩:=h
 cases hv
 have hlt:(xs.take k).length=k:=by rw[List.length_take]; omega
 refine⟨cells.take (k*sz),⟨?_,a,cap,by rw[hlt],by omega,hm, ?_⟩,bB.take hs k hr hk⟩
 ·rw[List.length_take,hl,hlt];exact Nat.min_eq_left (Nat.mul_le_mul_right _ hk)
 ·rcases h0 with h0 | ⟨b,o,ha,hb,hc⟩
  ·exact .inl (by omega)
  ·refine .inr ⟨b,o,ha,hb,fun j u hj=>hc j u ?_⟩;rw[List.getElem?_take]at hj
   split at hj
   ·exact hj
   ·cases hj
theorem iq (S:Nat->Prop) (en:bG) (v:Value) (b:Bool) (w:World) (hd:cN S w v en.data) (hok:jL en) (hps:en.path.size<=16777216) (h:cC en=b):Calls Tryz.prog 67 #[pq v en] w fun e w'=>e= .returned (.bool b)/\Below w.heap.size w w':=by
 rw[<-h]; exact tK S en v w hd hok hps
theorem nR (a b:ByteArray) (o:Int) (w:World) (ha:a.size<=65536) (h:cz (bl a) (bl b)=o):Calls Tryz.prog 45 #[.string a, .string b] w fun e w'=>e= .returned (.int .i64 o)/\Below w.heap.size w w':=by
 rw[<-h]; exact qW a b w ha
theorem nS (s q:ByteArray) (w:World) (hs:s.size<=65000) (hq:q=⟨(bb (bl s)).toArray⟩):Calls Tryz.prog 69 #[.string s] w fun e w'=>e= .returned (.string q)/\Below w.heap.size w w':=by
 rw[hq]; exact pV s w hs
theorem vH (S:Nat->Prop) (L:List bG) (v:Value) (p:ByteArray) (x:Int) (w:World) (hv:cl S w v L) (hx:gx L (bl p)=x):Calls Tryz.prog 68 #[v, .string p] w fun e w'=>e= .returned (.int .i64 x)/\Below w.heap.size w w':=by
 rw[<-hx]; exact An S L v p w hv
theorem sI {e:bG} (h:cC e=true):e.path.size<=65000:=by
 have:=qz (cB h);rw[ay]; omega
theorem vG (S:Nat->Prop) (L:List bG) (v:Value) (w:World) (hv:cl S w v L) (hps: ∀e∈L,e.path.size<=16777216):Calls Tryz.prog 35 #[v] w fun e w'=>e= .returned (.int .i64 (cD L))/\Below w.heap.size w w':=by
 have HV:=ab hv;obtain⟨a,cap,rfl,hc,hm,-⟩:=aY.shape hv lB.len;unfold maxLen at hm;obtain⟨n,hn⟩: ∃n,n=L.length:=⟨_,rfl⟩;have HN:=ab hn;rw[<-hn]at hc HV ⊢;clear hv
 by_cases hbig:4096<n
 ·have hbi:(4096:Int)<(n:Int):=by omega
  have HC:=ab (ru (by rw[<-hn]; exact hbig));clear hbig hn
  go_enter Tryz.func35,Tryz.ntmps35
  go_wp2_with fail;go_ret;exact⟨bC (by rw[HC.out]),Below.refl _ _⟩
 ·have hbi:(n:Int)<=(4096:Int):=by omega
  have HL4:=ab (show L.length<=4096 by omega);have HPS:=ab hps;clear hbig hn hps
  go_enter Tryz.func35,Tryz.ntmps35
  go_wp2_with fail
  go_loopw [11] (fun i wr=> ∃k:Nat,k<=n/\i= .int .i64 k/\Tr (L.take k)/\Below w.heap.size w wr) (fun i _=>n-(intOf i).toNat)
  case atStart=>exact⟨0,Nat.zero_le _,rfl,⟨List.Pairwise.nil,by simp,by simp⟩,Below.refl _ _⟩
  case round=>
   obtain⟨k,hk,rfl,htr,hbr⟩:=hrel;have HTR:=ab htr;have HBR:=ab hbr;clear htr hbr
   by_cases hlt:k<n
   ·obtain⟨e,he⟩: ∃e,L[k]? =some e:=⟨L[k]'(by rw[<-HN.out]; exact hlt),by simp⟩;obtain⟨b,o,dv,rfl,-,hb,hd,hok,-,q0,q1,q2,q3,q4,q5⟩:=jd (HV.out.below HBR.out) he;have HAT:=ab he;have HD:=ab hd;have HOK:=ab hok;have HPZ:=ab (HPS.out e (List.mem_of_getElem? he));obtain⟨a1,cap1,rfl,hd1,hd2⟩:=hd.slice;unfold maxLen at hd2;have hkc:k<=cap:=by omega
    have HKN:=ab (show k<=L.length by rw[<-HN.out]; omega);clear he hd hok
    cases hve:cC e
    ·have HVE:=ab hve;have HCA:=ab (show bY (L.take k) e=1 by unfold bY; rw[hve]; rfl);clear hve;go_wp2_with fail;refine aA [some 1,none,some 13,none,some 3] (by kernel_rfl) (by kernel_rfl) (by kernel_rfl) ?_;simp only[bz,List.take_succ_cons,List.take_zero,List.drop_succ_cons,List.drop_zero];obtain⟨W,hW⟩: ∃W:World,W=(wr.alloc (.cells #[.string e.path, .int .i64 e.kind, .int .i64 e.mode, .int .i64 e.time, .slice a1 e.data.length cap1, .string e.link] 30)).drew:=⟨_,rfl⟩
     rw[<-hW];have HWL:=ab (show Below wr.heap.size wr W by rw[hW]; exact((Below.refl _ _).alloc (Nat.le_refl _) _).drew);have HX:=ab (show W.heap[wr.heap.size]? =some (.cells #[.string e.path, .int .i64 e.kind, .int .i64 e.mode, .int .i64 e.time, .slice a1 e.data.length cap1, .string e.link] 30 (0,0)) by rw[hW]; exact ey wr _);have HBW:=ab (ak HBR.out HWL.out);clear hW;have c0:=al (k:=0) HX.out
     have c1:=al (k:=1) HX.out;have c2:=al (k:=2) HX.out;have c3:=al (k:=3) HX.out;have c4:=al (k:=4) HX.out;have c5:=al (k:=5) HX.out;simp only[eE]at c0 c1 c2 c3 c4 c5
     repeat (first | (refine aD rfl ?_; simp only[Act.put,aH,aI,aJ]) | (refine aM rfl (fun K hK=> ?_); go_simp; refine hK _ ?_; clear hK K))
     refine aL ?_;refine bE rfl (fun K hK=> ?_);go_wp2_with (go_at_call 67; refine(iq S e (.slice a1 e.data.length cap1) false _ (HD.out.below HWL.out) HOK.out HPZ.out HVE.out).mono ?_; rintro e7 w7 ⟨rfl,hb7⟩; have HL7:=ab (HWL.out.trans (hb7.mono HWL.out.size)); have HX7:=ab ((hb7.block wr.heap.size (fp HX.out)).trans HX.out); clear hb7 c0 c1 c2 c3 c4 c5)
     repeat (first | (refine aD rfl ?_; simp only[Act.put,aH,aI,aJ]) | (refine aM rfl (fun K hK=> ?_); go_simp; refine hK _ ?_; clear hK K))
     refine aL ?_;refine iH rfl ?_;simp only[Act.put,aH,aI,aJ]
     repeat (first | (refine aD rfl ?_; simp only[Act.put,aH,aI,aJ]) | (refine aM rfl (fun K hK=> ?_); go_simp; refine hK _ ?_; clear hK K))
     refine aL ?_;have HB9:=ab (ak HBR.out HL7.out);go_wp2_with fail;go_ret;exact⟨bC (by rw[dC HL4.out HTR.out HAT.out (x:=1) HCA.out (by decide)]),HB9.out⟩
    ·have HVE:=ab hve;have HPP:=ab (show e.path.size<=65000 from sI hve);obtain⟨q,hq⟩: ∃q:ByteArray,q=⟨(bb (bl e.path)).toArray⟩:=⟨_,rfl⟩;have HBQ:=ab (show bl q=bb (bl e.path) by rw[hq]; exact lY _);have HQ:=ab hq;clear hve hq
     rcases Nat.eq_zero_or_pos k with hk0 | hk0
     ·have e9:decide (0<k)=false:=by simp; omega
      have e8:(k:Int)<=0:=by omega
      have HCV:=ab (show(cC e && gJ (L.take k) e)=true by rw[hk0,HVE.out]; rfl);clear hk0;obtain⟨x,hx⟩: ∃x,gx (L.take k) (bl q)=x:=⟨_,rfl⟩;have HDX:=ab hx;have HCA:=ab (show bY (L.take k) e=x by unfold bY; rw[if_pos HCV.out,<-HBQ.out,hx]);clear hx;go_wp2_with fail;refine aA [some 1,none,some 13,none,some 3] (by kernel_rfl) (by kernel_rfl) (by kernel_rfl) ?_
      simp only[bz,List.take_succ_cons,List.take_zero,List.drop_succ_cons,List.drop_zero];obtain⟨W,hW⟩: ∃W:World,W=(wr.alloc (.cells #[.string e.path, .int .i64 e.kind, .int .i64 e.mode, .int .i64 e.time, .slice a1 e.data.length cap1, .string e.link] 30)).drew:=⟨_,rfl⟩;rw[<-hW];have HWL:=ab (show Below wr.heap.size wr W by rw[hW]; exact((Below.refl _ _).alloc (Nat.le_refl _) _).drew)
      have HX:=ab (show W.heap[wr.heap.size]? =some (.cells #[.string e.path, .int .i64 e.kind, .int .i64 e.mode, .int .i64 e.time, .slice a1 e.data.length cap1, .string e.link] 30 (0,0)) by rw[hW]; exact ey wr _);have HBW:=ab (ak HBR.out HWL.out);clear hW;have c0:=al (k:=0) HX.out;have c1:=al (k:=1) HX.out;have c2:=al (k:=2) HX.out;have c3:=al (k:=3) HX.out
      have c4:=al (k:=4) HX.out;have c5:=al (k:=5) HX.out;simp only[eE]at c0 c1 c2 c3 c4 c5
      repeat (first | (refine aD rfl ?_; simp only[Act.put,aH,aI,aJ]) | (refine aM rfl (fun K hK=> ?_); go_simp; refine hK _ ?_; clear hK K))
      refine aL ?_;refine bE rfl (fun K hK=> ?_);go_wp2_with (go_at_call 67; refine(iq S e (.slice a1 e.data.length cap1) true _ (HD.out.below HWL.out) HOK.out HPZ.out HVE.out).mono ?_; rintro e7 w7 ⟨rfl,hb7⟩; have HL7:=ab (HWL.out.trans (hb7.mono HWL.out.size)); have HX7:=ab ((hb7.block wr.heap.size (fp HX.out)).trans HX.out); clear hb7 c0 c1 c2 c3 c4 c5)
      repeat (first | (refine aD rfl ?_; simp only[Act.put,aH,aI,aJ]) | (refine aM rfl (fun K hK=> ?_); go_simp; refine hK _ ?_; clear hK K))
      refine aL ?_;refine iH rfl ?_;simp only[Act.put,aH,aI,aJ]
      repeat (first | (refine aD rfl ?_; simp only[Act.put,aH,aI,aJ]) | (refine aM rfl (fun K hK=> ?_); go_simp; refine hK _ ?_; clear hK K))
      refine aL ?_;go_wp2_with fail;refine cX (fun w'=>w'.cell? ⟨wr.heap.size,0,none⟩=some (.string e.path)) (by kernel_rfl) ?_;obtain⟨V,hV⟩: ∃V:World,V=(w7).drew:=⟨_,rfl⟩;rw[<-hV];have HLV:=ab (show Below wr.heap.size wr V by rw[hV]; exact HL7.out.trans ((Below.refl (w7).heap.size (w7)).drew.mono HL7.out.size));have HXV:=ab (show V.heap[wr.heap.size]? =some (.cells #[.string e.path, .int .i64 e.kind, .int .i64 e.mode, .int .i64 e.time, .slice a1 e.data.length cap1, .string e.link] 30 (0,0)) by rw[hV]; exact HX7.out)
      clear hV;have hS1:=al (k:=0) HXV.out;simp only[List.getElem?_toArray,List.getElem?_cons_zero]at hS1;refine ag 0 rfl (by kernel_rfl) (by kernel_rfl) (by kernel_rfl) (fun _ _ _ h=>h) rfl hS1 (by intro w' hw1; go_simp; rfl) ?_;simp only[Act.put,aH,aI,aJ];refine ag 1 rfl (by kernel_rfl) (by kernel_rfl) (by kernel_rfl) (fun _ _ _ h=>h) rfl hS1 (by intro w' hw1; go_simp; rfl) ?_
      simp only[Act.put,aH,aI,aJ];refine ag 2 rfl (by kernel_rfl) (by kernel_rfl) (by kernel_rfl) (fun _ _ _ h=>h) rfl hS1 (by intro w' hw1; go_simp; rfl) ?_;simp only[Act.put,aH,aI,aJ];refine ag 3 rfl (by kernel_rfl) (by kernel_rfl) (by kernel_rfl) (fun _ _ _ h=>h) rfl hS1 (by intro w' hw1; go_simp; rfl) ?_;simp only[Act.put,aH,aI,aJ];refine ag 4 rfl (by kernel_rfl) (by kernel_rfl) (by kernel_rfl) (fun _ _ _ h=>h) rfl hS1 (by intro w' hw1; go_simp; rfl) ?_
      simp only[Act.put,aH,aI,aJ];refine aC 5 rfl (by kernel_rfl) rfl (fun K hK=> ?_);go_wp2_with (go_at_call 69; refine(nS e.path q _ HPP.out HQ.out).mono ?_; rintro e9 w9 ⟨rfl,hb9⟩);have HL9:=ab (HLV.out.trans (hb9.mono HLV.out.size));have hS2:=(hb9.cell (aE hS1)).trans hS1;clear hb9;refine⟨hS2, ?_⟩;refine aC 6 rfl (by kernel_rfl) rfl (fun K hK=> ?_);have HTK:=ab (show cl S w9 (.slice (some ⟨b,o,none⟩) (k) cap) (L.take (k))from aY.takeN lB.len (HV.out.below (ak HBR.out HL9.out)) HKN.out)
      go_wp2_with (go_at_call 68; refine(vH S (L.take (k)) (.slice (some ⟨b,o,none⟩) (k) cap) q x _ HTK.out HDX.out).mono ?_; rintro ea wa ⟨rfl,hba⟩);have HLA:=ab (HL9.out.trans (hba.mono HL9.out.size));have hS1:=(hba.cell (aE hS2)).trans hS2;clear hba;refine⟨hS1, ?_⟩;refine ag 7 rfl (by kernel_rfl) (by kernel_rfl) (by kernel_rfl) (fun _ _ _ h=>h) rfl hS1 (by intro w' hw1; go_simp; rfl) ?_
      simp only[Act.put,aH,aI,aJ];refine bu (by kernel_rfl) ?_;have HBA:=ab (ak HBR.out HLA.out);clear hS1 hS2
      by_cases h0:x=0
      ·subst h0;have HTN:=ab (fF HTR.out HAT.out HCA.out);go_wp2_with fail
       go_roundw
       case rel=>exact⟨k+1,by omega,by go_num,HTN.out,HBA.out⟩
       case measure=>simp[intOf]; omega
      ·have e1:(x != 0)=true:=by simp[h0]
       have HX0:=ab h0;clear h0;go_wp2_with fail;go_ret;exact⟨bC (by rw[dC HL4.out HTR.out HAT.out (x:=x) HCA.out HX0.out]),HBA.out⟩
     ·obtain⟨j,rfl⟩: ∃j,k=j+1:=⟨k-1,by omega⟩;obtain⟨f,hf⟩: ∃f,L[j]? =some f:=⟨L[j]'(by rw[<-HN.out]; omega),by simp⟩;obtain⟨b',o',dv',he',-,-,-,hokf,-,p0,-⟩:=jd (HV.out.below HBR.out) hf;simp only[Option.some.injEq,Addr.mk.injEq,and_true]at he';obtain⟨rfl,rfl⟩:=he';have HPF:=ab (show f.path.size<=65536 from Nat.le_trans (sI (HTR.out.val f (List.mem_of_getElem? (i:=j) (by rw[List.getElem?_take,if_pos (Nat.lt_succ_self j)]; exact hf)))) (by omega))
      obtain⟨c,hc⟩: ∃c,cz (bl f.path) (bl e.path)=c:=⟨_,rfl⟩;have HC:=ab hc;have e9:decide (0<j+1)=true:=by simp
      have hjn:j<n:=by omega
      have hjn2:(j:Int)<(n:Int):=by omega
      have hjn3:decide (j<n)=true:=by simp; omega
      have hjc:0<=(j:Int)+1/\(j:Int)+1<=(cap:Int):=by omega
      have hwj:IntKind.i64.wrap (j:Int)=j:=by rw[IntKind.wrap_i64]; omega
      have HAF:=ab (show gJ (L.take (j+1)) e=decide (c<0) by rw[ua hf,hc]);clear hf hokf hc hk0
      by_cases hneg:c<0
      ·have HCV:=ab (show(cC e && gJ (L.take (j+1)) e)=true by rw[HVE.out,HAF.out,decide_eq_true hneg]; rfl);have e8:decide (0<=c)=false:=by simp; omega
       obtain⟨x,hx⟩: ∃x,gx (L.take (j+1)) (bl q)=x:=⟨_,rfl⟩;have HDX:=ab hx;have HCA:=ab (show bY (L.take (j+1)) e=x by unfold bY; rw[if_pos HCV.out,<-HBQ.out,hx]);clear hx;go_wp2_with fail;refine aA [some 1,none,some 13,none,some 3] (by kernel_rfl) (by kernel_rfl) (by kernel_rfl) ?_;simp only[bz,List.take_succ_cons,List.take_zero,List.drop_succ_cons,List.drop_zero]
       obtain⟨W,hW⟩: ∃W:World,W=(wr.alloc (.cells #[.string e.path, .int .i64 e.kind, .int .i64 e.mode, .int .i64 e.time, .slice a1 e.data.length cap1, .string e.link] 30)).drew:=⟨_,rfl⟩;rw[<-hW];have HWL:=ab (show Below wr.heap.size wr W by rw[hW]; exact((Below.refl _ _).alloc (Nat.le_refl _) _).drew);have HX:=ab (show W.heap[wr.heap.size]? =some (.cells #[.string e.path, .int .i64 e.kind, .int .i64 e.mode, .int .i64 e.time, .slice a1 e.data.length cap1, .string e.link] 30 (0,0)) by rw[hW]; exact ey wr _)
       have HBW:=ab (ak HBR.out HWL.out);clear hW;have c0:=al (k:=0) HX.out;have c1:=al (k:=1) HX.out;have c2:=al (k:=2) HX.out;have c3:=al (k:=3) HX.out;have c4:=al (k:=4) HX.out;have c5:=al (k:=5) HX.out;simp only[eE]at c0 c1 c2 c3 c4 c5
       repeat (first | (refine aD rfl ?_; simp only[Act.put,aH,aI,aJ]) | (refine aM rfl (fun K hK=> ?_); go_simp; refine hK _ ?_; clear hK K))
       refine aL ?_;refine bE rfl (fun K hK=> ?_);go_wp2_with (go_at_call 67; refine(iq S e (.slice a1 e.data.length cap1) true _ (HD.out.below HWL.out) HOK.out HPZ.out HVE.out).mono ?_; rintro e7 w7 ⟨rfl,hb7⟩; have HL7:=ab (HWL.out.trans (hb7.mono HWL.out.size)); have HX7:=ab ((hb7.block wr.heap.size (fp HX.out)).trans HX.out); clear hb7 c0 c1 c2 c3 c4 c5);have c0:=al (k:=0) HX7.out
       have c1:=al (k:=1) HX7.out;have c2:=al (k:=2) HX7.out;have c3:=al (k:=3) HX7.out;have c4:=al (k:=4) HX7.out;have c5:=al (k:=5) HX7.out;simp only[eE]at c0 c1 c2 c3 c4 c5;have y0:=(HL7.out.cell (aE p0)).trans p0
       repeat (first | (refine aD rfl ?_; simp only[Act.put,aH,aI,aJ]) | (refine aM rfl (fun K hK=> ?_); go_simp; refine hK _ ?_; clear hK K))
       refine aL ?_;refine bE rfl (fun K hK=> ?_);go_wp2_with (go_at_call 45; refine(nR f.path e.path c _ HPF.out HC.out).mono ?_; rintro e8' w8 ⟨rfl,hb8⟩; have HL8:=ab (HL7.out.trans (hb8.mono HL7.out.size)); have HX8:=ab ((hb8.block wr.heap.size (fp HX7.out)).trans HX7.out); clear hb8 c0 c1 c2 c3 c4 c5 y0)
       repeat (first | (refine aD rfl ?_; simp only[Act.put,aH,aI,aJ]) | (refine aM rfl (fun K hK=> ?_); go_simp; refine hK _ ?_; clear hK K))
       refine aL ?_;go_wp2_with fail;refine cX (fun w'=>w'.cell? ⟨wr.heap.size,0,none⟩=some (.string e.path)) (by kernel_rfl) ?_;obtain⟨V,hV⟩: ∃V:World,V=(w8).drew:=⟨_,rfl⟩;rw[<-hV];have HLV:=ab (show Below wr.heap.size wr V by rw[hV]; exact HL8.out.trans ((Below.refl (w8).heap.size (w8)).drew.mono HL8.out.size));have HXV:=ab (show V.heap[wr.heap.size]? =some (.cells #[.string e.path, .int .i64 e.kind, .int .i64 e.mode, .int .i64 e.time, .slice a1 e.data.length cap1, .string e.link] 30 (0,0)) by rw[hV]; exact HX8.out)
       clear hV;have hS1:=al (k:=0) HXV.out;simp only[List.getElem?_toArray,List.getElem?_cons_zero]at hS1;refine ag 0 rfl (by kernel_rfl) (by kernel_rfl) (by kernel_rfl) (fun _ _ _ h=>h) rfl hS1 (by intro w' hw1; go_simp; rfl) ?_;simp only[Act.put,aH,aI,aJ];refine ag 1 rfl (by kernel_rfl) (by kernel_rfl) (by kernel_rfl) (fun _ _ _ h=>h) rfl hS1 (by intro w' hw1; go_simp; rfl) ?_
       simp only[Act.put,aH,aI,aJ];refine ag 2 rfl (by kernel_rfl) (by kernel_rfl) (by kernel_rfl) (fun _ _ _ h=>h) rfl hS1 (by intro w' hw1; go_simp; rfl) ?_;simp only[Act.put,aH,aI,aJ];refine ag 3 rfl (by kernel_rfl) (by kernel_rfl) (by kernel_rfl) (fun _ _ _ h=>h) rfl hS1 (by intro w' hw1; go_simp; rfl) ?_;simp only[Act.put,aH,aI,aJ];refine ag 4 rfl (by kernel_rfl) (by kernel_rfl) (by kernel_rfl) (fun _ _ _ h=>h) rfl hS1 (by intro w' hw1; go_simp; rfl) ?_
       simp only[Act.put,aH,aI,aJ];refine aC 5 rfl (by kernel_rfl) rfl (fun K hK=> ?_);go_wp2_with (go_at_call 69; refine(nS e.path q _ HPP.out HQ.out).mono ?_; rintro e9 w9 ⟨rfl,hb9⟩);have HL9:=ab (HLV.out.trans (hb9.mono HLV.out.size));have hS2:=(hb9.cell (aE hS1)).trans hS1;clear hb9;refine⟨hS2, ?_⟩;refine aC 6 rfl (by kernel_rfl) rfl (fun K hK=> ?_);have HTK:=ab (show cl S w9 (.slice (some ⟨b,o,none⟩) (j+1) cap) (L.take (j+1))from aY.takeN lB.len (HV.out.below (ak HBR.out HL9.out)) HKN.out)
       go_wp2_with (go_at_call 68; refine(vH S (L.take (j+1)) (.slice (some ⟨b,o,none⟩) (j+1) cap) q x _ HTK.out HDX.out).mono ?_; rintro ea wa ⟨rfl,hba⟩);have HLA:=ab (HL9.out.trans (hba.mono HL9.out.size));have hS1:=(hba.cell (aE hS2)).trans hS2;clear hba;refine⟨hS1, ?_⟩;refine ag 7 rfl (by kernel_rfl) (by kernel_rfl) (by kernel_rfl) (fun _ _ _ h=>h) rfl hS1 (by intro w' hw1; go_simp; rfl) ?_
       simp only[Act.put,aH,aI,aJ];refine bu (by kernel_rfl) ?_;have HBA:=ab (ak HBR.out HLA.out);clear hS1 hS2
       by_cases h0:x=0
       ·subst h0;have HTN:=ab (fF HTR.out HAT.out HCA.out);go_wp2_with fail
        go_roundw
        case rel=>exact⟨j+1+1,by omega,by go_num,HTN.out,HBA.out⟩
        case measure=>simp[intOf]; omega
       ·have e1:(x != 0)=true:=by simp[h0]
        have HX0:=ab h0;clear h0;go_wp2_with fail;go_ret;exact⟨bC (by rw[dC HL4.out HTR.out HAT.out (x:=x) HCA.out HX0.out]),HBA.out⟩
      ·have HCA:=ab (show bY (L.take (j+1)) e=1 by unfold bY; rw[HAF.out,decide_eq_false hneg]; simp);have e8:decide (0<=c)=true:=by simp; omega
       have e7:0<=c:=by omega
       go_wp2_with fail;refine aA [some 1,none,some 13,none,some 3] (by kernel_rfl) (by kernel_rfl) (by kernel_rfl) ?_;simp only[bz,List.take_succ_cons,List.take_zero,List.drop_succ_cons,List.drop_zero];obtain⟨W,hW⟩: ∃W:World,W=(wr.alloc (.cells #[.string e.path, .int .i64 e.kind, .int .i64 e.mode, .int .i64 e.time, .slice a1 e.data.length cap1, .string e.link] 30)).drew:=⟨_,rfl⟩
       rw[<-hW];have HWL:=ab (show Below wr.heap.size wr W by rw[hW]; exact((Below.refl _ _).alloc (Nat.le_refl _) _).drew);have HX:=ab (show W.heap[wr.heap.size]? =some (.cells #[.string e.path, .int .i64 e.kind, .int .i64 e.mode, .int .i64 e.time, .slice a1 e.data.length cap1, .string e.link] 30 (0,0)) by rw[hW]; exact ey wr _);have HBW:=ab (ak HBR.out HWL.out);clear hW
       have c0:=al (k:=0) HX.out;have c1:=al (k:=1) HX.out;have c2:=al (k:=2) HX.out;have c3:=al (k:=3) HX.out;have c4:=al (k:=4) HX.out;have c5:=al (k:=5) HX.out;simp only[eE]at c0 c1 c2 c3 c4 c5
       repeat (first | (refine aD rfl ?_; simp only[Act.put,aH,aI,aJ]) | (refine aM rfl (fun K hK=> ?_); go_simp; refine hK _ ?_; clear hK K))
       refine aL ?_;refine bE rfl (fun K hK=> ?_);go_wp2_with (go_at_call 67; refine(iq S e (.slice a1 e.data.length cap1) true _ (HD.out.below HWL.out) HOK.out HPZ.out HVE.out).mono ?_; rintro e7 w7 ⟨rfl,hb7⟩; have HL7:=ab (HWL.out.trans (hb7.mono HWL.out.size)); have HX7:=ab ((hb7.block wr.heap.size (fp HX.out)).trans HX.out); clear hb7 c0 c1 c2 c3 c4 c5);have c0:=al (k:=0) HX7.out
       have c1:=al (k:=1) HX7.out;have c2:=al (k:=2) HX7.out;have c3:=al (k:=3) HX7.out;have c4:=al (k:=4) HX7.out;have c5:=al (k:=5) HX7.out;simp only[eE]at c0 c1 c2 c3 c4 c5;have y0:=(HL7.out.cell (aE p0)).trans p0
       repeat (first | (refine aD rfl ?_; simp only[Act.put,aH,aI,aJ]) | (refine aM rfl (fun K hK=> ?_); go_simp; refine hK _ ?_; clear hK K))
       refine aL ?_;refine bE rfl (fun K hK=> ?_);go_wp2_with (go_at_call 45; refine(nR f.path e.path c _ HPF.out HC.out).mono ?_; rintro e8' w8 ⟨rfl,hb8⟩; have HL8:=ab (HL7.out.trans (hb8.mono HL7.out.size)); clear hb8 c0 c1 c2 c3 c4 c5 y0)
       repeat (first | (refine aD rfl ?_; simp only[Act.put,aH,aI,aJ]) | (refine aM rfl (fun K hK=> ?_); go_simp; refine hK _ ?_; clear hK K))
       refine aL ?_;have HB9:=ab (ak HBR.out HL8.out);go_wp2_with fail;go_ret;exact⟨bC (by rw[dC HL4.out HTR.out HAT.out (x:=1) HCA.out (by decide)]),HB9.out⟩
   ·have hk2:k=n:=by omega
    subst hk2;go_wp2_with fail;go_ret;exact⟨bC (by rw[oO HL4.out (by rw[<-HN.out]; exact HTR.out)]),HBR.out⟩
open Go Go.RowKit Go.Maps
def yU (f:aw):Bool:=f.parts.all cW && (decide (f.size=jo f.parts) && decide (jo f.parts<=1048576)) && (decide (f.kind=1) || decide (f.parts=[]))
theorem vF (f:aw):cJ f=yU f:=by
 unfold yU cJ
 by_cases hk:f.kind=1
 ·rw[if_pos hk]; simp[hk]
 ·rw[if_neg hk]
  cases f.parts with
  | nil=>simp[hk,jo]; rfl
  | cons p l=>simp[hk]
theorem Ao (S:Nat->Prop) (L:List bG) (v:Value) (x:Int) (w:World) (hv:cl S w v L) (hps: ∀e∈L,e.path.size<=16777216) (h:cD L=x):Calls Tryz.prog 35 #[v] w fun e w'=>e= .returned (.int .i64 x)/\Below w.heap.size w w':=by
 rw[<-h]; exact vG S L v w hv hps
theorem Fq (x:cA) (hall:x.files.all cJ=true):cR x=(decide (0<=x.tm) && decide (cD (x.files.map fH)=0)):=by
 rw[de,hall]
 by_cases hc:cD (x.files.map fH)=0
 ·have h1:x.files.length<=4096:=by
   unfold cD at hc
   split at hc
   ·simp at hc
   ·rename_i h; rw[List.length_map]at h; omega
  simp[hc,h1]
 ·simp[hc]
theorem xN (S:Nat->Prop) (x:cA) (fv:Value) (w:World) (hx:aT S w fv x.files) (hps: ∀f∈x.files,f.path.size<=16777216) (hlen:x.files.length<=1048576) (hpl: ∀f∈x.files,f.parts.length<=1048576):Calls Tryz.prog 13 #[dQ fv x.tm] w fun e w'=>e= .returned (.bool (cR x))/\Below w.heap.size w w':=by
 obtain⟨a,cap,rfl,hc,hm,-⟩:=aY.shape hx dT.len;unfold maxLen at hm;have HX0:=ab hx;have HPS:=ab hps;have HPL:=ab hpl;clear hx hps hpl;obtain⟨n,hn⟩: ∃n,n=x.files.length:=⟨_,rfl⟩;rw[<-hn]at hc HX0 hlen ⊢;have HN:=ab hn;clear hn;unfold dQ
 go_enter Tryz.func13,Tryz.ntmps13
 go_upto_region 1 with fail
 obtain⟨W,hW⟩: ∃W,W=w.alloc (.cells #[.int .i64 x.tm, .slice a n cap] 36):=⟨_,rfl⟩;rw[<-hW];have HBW:=ab (show Below w.heap.size w W by rw[hW]; exact(Below.refl _ _).alloc (Nat.le_refl _) _);have HBX:=ab (show W.heap[w.heap.size]? =some (.cells #[.int .i64 x.tm, .slice a n cap] 36 (0,0)) by rw[hW]; exact heap_alloc_new w _);have HSZ:=ab (show W.heap.size=w.heap.size+1 by rw[hW]; simp)
 clear hW;have HMO:=ab (World.ownsRow_made (base:=W.heap.size) (e:=30) (size:=6) W #[] 0 (Nat.le_refl _) (by unfold maxLen; omega) rfl);have HBM:=ab (show Below W.heap.size W (W.alloc (.cells #[] 30))from(Below.refl _ _).alloc (Nat.le_refl _) _);have HV:=ab (show aT S W (.slice a n cap) x.files from aT.below HX0.out HBW.out);go_wp2_with fail
 go_loopw [3,4] (fun v i wr=> ∃k:Nat,k<=n/\i= .int .i64 k/\(x.files.take k).all cJ=true/\wr.ownsRow W.heap.size 30 6 v k (lj ((x.files.take k).map oK))/\Below W.heap.size W wr) (fun _ i _=>n-(intOf i).toNat)
 case atStart=>exact⟨0,Nat.zero_le _,rfl,rfl,HMO.out,HBM.out⟩
 case round=>
  obtain⟨k,hk,rfl,hal,hown,hb⟩:=hrel;have HB:=ab hb;have HA:=ab hal;have HOWN:=ab hown;obtain⟨av,cv,hsv,hvn,hvm⟩:=au hown;subst hsv;unfold maxLen at hvm;have HZR:=ab hb.size;have HBXr:=ab ((hb.block w.heap.size (by have:=HSZ.out; omega)).trans HBX.out);have x0:=ai (k:=0) HBXr.out;have x1:=ai (k:=1) HBXr.out;simp only[eE]at x0 x1;clear hb hal hown
  by_cases hlt:k<n
  ·obtain⟨f,hf⟩: ∃f,x.files[k]? =some f:=⟨_,List.getElem?_eq_getElem (show k<x.files.length by rw[<-HN.out]; exact hlt)⟩;obtain⟨b,o,pa,pc,rfl,hok,hpa,hblt,-,hcl⟩:=cQ HV.out (Below.refl _ _) hf;have hcl: ∀j,j<7->wr.cell? ⟨b,o+k*7+j,none⟩=(bM (.slice pa f.parts.length pc) f)[j]? :=fun j hj=>(HB.out.cell (p:=⟨b,o+k*7+j,none⟩) hblt).trans (hcl j hj)
   have q0:=hcl 0 (by omega);have q1:=hcl 1 (by omega);have q2:=hcl 2 (by omega);have q3:=hcl 3 (by omega);have q4:=hcl 4 (by omega);have q5:=hcl 5 (by omega);have q6:=hcl 6 (by omega);simp only[bM,bV,Nat.add_zero]at q0 q1 q2 q3 q4 q5 q6;have HFK:=ab hf;have hplm:=HPL.out f (List.mem_of_getElem? hf);obtain⟨m,hmm⟩: ∃m,m=f.parts.length:=⟨_,rfl⟩;obtain⟨-,hmc,hpm⟩:=sk hpa
   unfold maxLen at hpm;rw[<-hmm]at q6 hpa hmc hplm;have HPA:=ab hpa;have HM:=ab hmm;clear hf hpa hcl hok hmm;obtain⟨W3,hW3⟩: ∃W3,W3=wr.alloc (.cells #[.string f.path, .int .i64 f.kind, .int .i64 f.mode, .int .i64 f.time, .int .i64 f.size, .string f.link, .slice pa m pc] 42):=⟨_,rfl⟩;have HB3:=ab (show Below wr.heap.size wr W3 by rw[hW3]; exact(Below.refl _ _).alloc (Nat.le_refl _) _)
   have HX3:=ab (show W3.heap[wr.heap.size]? =some (.cells #[.string f.path, .int .i64 f.kind, .int .i64 f.mode, .int .i64 f.time, .int .i64 f.size, .string f.link, .slice pa m pc] 42 (0,0)) by rw[hW3]; exact heap_alloc_new wr _);have HZ3:=ab (show W3.heap.size=wr.heap.size+1 by rw[hW3]; simp)
   go_upto_region 6 with fail
   rw[<-hW3];clear hW3;have d0:=ai (k:=0) HX3.out;have d1:=ai (k:=1) HX3.out;have d2:=ai (k:=2) HX3.out;have d3:=ai (k:=3) HX3.out;have d5:=ai (k:=5) HX3.out;simp only[List.getElem?_toArray,bV]at d0 d1 d2 d3 d5;have HAL:=ab ((Below.refl W3.heap.size W3).alloc (Nat.le_refl _) (.cells (jc (.slice none 0 0) (fH f)).toArray 30));have HOA:=ab (aV (aV HOWN.out HB3.out) HAL.out)
   have HRL:=ab (fS (n:=1) (sz:=6) (cells:=jc (.slice none 0 0) (fH f)) (heap_alloc_new W3 (.cells (jc (.slice none 0 0) (fH f)).toArray 30)) rfl (by decide));have HZ:=ab (show W.heap.size<=(W3.alloc (.cells (jc (.slice none 0 0) (fH f)).toArray 30)).heap.size by have:=HZR.out; have:=HZ3.out; simp; omega);go_wp2_with (at_builtin; go_must (refine bI Tryz.appEnts rfl _ _ rfl W.heap.size (.slice av k cv) k (lj ((x.files.take k).map oK)) rfl HOA.out _ 1 (jc (.slice none 0 0) (fH f)) rfl HRL.out uH (by omega) HZ.out ?_); intro v9 w9 hown9 hg9; obtain⟨a9,c9,rfl,-,-⟩:=au hown9; have HO9:=ab hown9; have HG9:=ab hg9; clear hown9 hg9)
   have HX9:=ab ((HG9.out.block wr.heap.size (by have:=HZ3.out; simp; omega) (fun e1=>by
    have:=(HOWN.out.lt _ e1.symm).2
    omega)).trans ((heap_alloc_old _ _ (by have:=HZ3.out; omega)).trans HX3.out))
   have HB9:=ab (show Below W.heap.size W w9 from aZ ((ak HB.out HB3.out).trans (HAL.out.mono (by have:=HZR.out; have:=HZ3.out; omega))) HOA.out HG9.out (Nat.le_refl _) HZ.out);have HLT9:=ab (lt_of_block HX9.out);clear x0 x1 q0 q1 q2 q3 q4 q5 q6 d0 d1 d2 d3 d5
   go_loopw [6,7] (fun t i wq=> ∃j:Nat,j<=m/\i= .int .i64 j/\t= .int .i64 (jo (f.parts.take j))/\(f.parts.take j).all cW=true/\Below w9.heap.size w9 wq) (fun _ i _=>m-(intOf i).toNat)
   case atStart=>exact⟨0,Nat.zero_le _,rfl,rfl,rfl,Below.refl _ _⟩
   case round=>
    obtain⟨j,hj,rfl,rfl,hal,hb⟩:=hrel;have HBQ:=ab hb;have HAP:=ab hal;have HXq:=ab ((hb.block _ HLT9.out).trans HX9.out);have d1:=ai (k:=1) HXq.out;have d4:=ai (k:=4) HXq.out;have d6:=ai (k:=6) HXq.out;simp only[List.getElem?_toArray,bV]at d1 d4 d6;have HBE:=ab (HBW.out.trans ((ak HB9.out HBQ.out).mono (by have:=HSZ.out; omega)));clear hb hal
    by_cases hjm:j<m
    ·obtain⟨p,hp⟩: ∃p,f.parts[j]? =some p:=⟨_,List.getElem?_eq_getElem (show j<f.parts.length by rw[<-HM.out]; exact hjm)⟩;obtain⟨b2,o2,rfl,-,-,hpok,q0,q1⟩:=dz HPA.out (ak HB9.out HBQ.out) hp;have HP:=ab hp;have hsum:=hpok.sm;unfold maxLen at hsum;clear hp hpok
     by_cases hv:cW p=true
     case neg=>
      have HVN:=ab (show cJ f=false by
       rw[vF]; unfold yU;rw[iV HP.out (by simpa using hv)]; rfl)
      have hv2:p.sum.size=32->1<=p.size-> ¬p.size<=32768:=fun h1 h2 h3=>hv (by unfold cW; simp[h1,h2,h3])
      have HV2:=ab hv2;clear hv hv2
      by_cases h1:p.sum.size=32
      case neg=>
       have h1': ¬(p.sum.size:Int)=32:=by omega
       have HBAD:=ab (show cR x=false by rw[de,iV HFK.out HVN.out]; simp);go_wp2_with fail;go_ret;exact⟨az (by rw[HBAD.out]),HBE.out⟩
      by_cases h2:p.size<1
      case pos=>
       have HBAD:=ab (show cR x=false by rw[de,iV HFK.out HVN.out]; simp);go_wp2_with fail;go_ret;exact⟨az (by rw[HBAD.out]),HBE.out⟩
      have h3:32768<p.size:=by have:=HV2.out h1 (by omega); omega
      have HBAD:=ab (show cR x=false by rw[de,iV HFK.out HVN.out]; simp);go_wp2_with fail;go_ret;exact⟨az (by rw[HBAD.out]),HBE.out⟩
     obtain⟨h1,h2,h3⟩:=(show p.sum.size=32/\1<=p.size/\p.size<=32768 by unfold cW at hv; simpa [and_assoc]using hv);have HVP:=ab hv;have hn2: ¬p.size<1:=by omega
     have hn3: ¬32768<p.size:=by omega
     clear hv;go_wp2_with fail
     go_roundw
     case rel=>
      refine⟨j+1,by omega,rfl, ?_,jP HAP.out HP.out HVP.out,HBQ.out⟩;rw[aX HP.out,sF]
     case measure=>simp only[intOf,Int.toNat_natCast]; omega
    ·have htk:f.parts.take j=f.parts:=List.take_of_length_le (by rw[<-HM.out]; omega);have hall:f.parts.all cW=true:=by rw[<-htk]; exact HAP.out
     rw[htk];have HALL:=ab hall;obtain⟨t,ht⟩: ∃t,t=jo f.parts:=⟨_,rfl⟩;rw[<-ht];have HT:=ab ht;clear hall htk ht;have HRS:=ab (show cJ f=((decide (f.size=t) && decide (t<=1048576)) && (decide (f.kind=1) || decide (f.parts=[]))) by
      rw[vF]; unfold yU; rw[HALL.out,<-HT.out]; rfl)
     by_cases h1:f.size=t
     case neg=>
      have HVN:=ab (show cJ f=false by rw[HRS.out]; simp[h1]);have HBAD:=ab (show cR x=false by rw[de,iV HFK.out HVN.out]; simp);go_wp2_with fail;go_ret;exact⟨az (by rw[HBAD.out]),HBE.out⟩
     by_cases h2:1048576<t
     case pos=>
      have HVN:=ab (show cJ f=false by rw[HRS.out,show decide (t<=1048576)=false by simp; omega]; simp);have HBAD:=ab (show cR x=false by rw[de,iV HFK.out HVN.out]; simp);go_wp2_with fail;go_ret;exact⟨az (by rw[HBAD.out]),HBE.out⟩
     by_cases h3:f.kind=1
     case pos=>
      have HVY:=ab (show cJ f=true by rw[HRS.out]; simp[h1,h3]; omega);go_wp2_with fail
      go_roundw
      case rel=>
       refine⟨k+1,by omega,rfl,jP HA.out HFK.out HVY.out, ?_,ak HB9.out HBQ.out⟩;rw[aX HFK.out,List.map_append,List.map_singleton,lG];exact aV HO9.out HBQ.out
      case measure=>simp only[intOf,Int.toNat_natCast]; omega
     by_cases h4:m=0
     case neg=>
      have HVN:=ab (show cJ f=false by
       rw[HRS.out];have:f.parts≠[]:=fun e=>h4 (by rw[HM.out,e]; rfl)
       simp[h3,this])
      have h5:0<m:=by omega
      have HBAD:=ab (show cR x=false by rw[de,iV HFK.out HVN.out]; simp);go_wp2_with fail;go_ret;exact⟨az (by rw[HBAD.out]),HBE.out⟩
     have h5:f.parts=[]:=List.eq_nil_of_length_eq_zero (by rw[<-HM.out]; exact h4);have HVY:=ab (show cJ f=true by rw[HRS.out]; simp[h1,h5]; omega);have h6: ¬0<m:=by omega
     clear h5;go_wp2_with fail
     go_roundw
     case rel=>
      refine⟨k+1,by omega,rfl,jP HA.out HFK.out HVY.out, ?_,ak HB9.out HBQ.out⟩;rw[aX HFK.out,List.map_append,List.map_singleton,lG];exact aV HO9.out HBQ.out
     case measure=>simp only[intOf,Int.toNat_natCast]; omega
  ·have hkn:k=n:=by omega
   subst hkn;have htk:x.files.take k=x.files:=List.take_of_length_le (by rw[<-HN.out]; exact Nat.le_refl _);have HALL:=ab (show x.files.all cJ=true by rw[<-htk]; exact HA.out);rw[htk]at HOWN;clear htk;have HEA:=ab (show cl (fun i=>W.heap.size<=i/\(Value.slice av k cv).ownBlock=some i) wr (.slice av k cv) (x.files.map fH) by
    have h1:=bp HOWN.out;have h2:=pt (S:=fun i=>W.heap.size<=i/\(Value.slice av k cv).ownBlock=some i) (w:=wr) (ys:=x.files.map oK) (fun y hy=>by
     obtain⟨f,hf,rfl⟩:=List.mem_map.1 hy;exact⟨cN.nil _ _,Cm (ke HV.out f hf)⟩)
    rw[ub]at h2;have h3:(x.files.map fH).length=k:=by rw[List.length_map,HN.out]
    exact⟨_,by rw[h3]; exact h1,h2⟩)
   have HPE:=ab (show ∀e∈x.files.map fH,e.path.size<=16777216 from fun e he=>by
    obtain⟨f,hf,rfl⟩:=List.mem_map.1 he;exact HPS.out f hf)
   obtain⟨z,hz⟩: ∃z,cD (x.files.map fH)=z:=⟨_,rfl⟩;have HZ:=ab hz;have HEB:=ab (show Below w.heap.size w wr from HBW.out.trans (HB.out.mono (by have:=HSZ.out; omega)));have HR:=ab (show cR x=(decide (0<=x.tm) && decide (z=0)) by rw[Fq x HALL.out,hz]);clear hz
   by_cases ht:0<=x.tm
   case neg=>
    have HF:=ab (show cR x=false by rw[HR.out,decide_eq_false ht]; rfl);have ht2:x.tm<0:=by omega
    go_wp2_with fail;go_ret;exact⟨az (by rw[HF.out]),HEB.out⟩
   have HF:=ab (show cR x=decide (z=0) by rw[HR.out,decide_eq_true ht]; rfl);go_wp2_with (go_at_call 35; refine(Ao _ _ _ z _ HEA.out HPE.out HZ.out).mono ?_; rintro e w1 ⟨rfl,hb1⟩; have HB2:=ab (ak HEB.out hb1); clear hb1);go_ret;exact⟨az (by rw[HF.out]; rfl),HB2.out⟩
theorem Aa (n:Int) (w:World):Calls Tryz.prog 55 #[.int .i64 n] w fun e w'=>e= .returned (rvV (jH n))/\Below w.heap.size w w':=by
 have hw:=wrap_u64 n;obtain⟨m,hm⟩: ∃m:Nat,m=(n%18446744073709551616).toNat:=⟨_,rfl⟩;have hnv:jH n=⟨1,m,0,false,⟨#[]⟩,0⟩:=by rw[hm]; rfl
 rw[<-hm]at hw;have HN:=ab hnv;clear hm hnv
 go_enter Tryz.func55,Tryz.ntmps55
 go_wp2_with fail;exact bodyPost_ret (v:= .agg #[.int .i64 1, .int .u64 (m:Int), .int .i64 0, .bool false, .string ⟨#[]⟩, .int .i64 0]) (by simp[results,Tryz.results55,go_sem]) rfl ⟨by rw[HN.out]; rfl,(Below.refl _ _).alloc (Nat.le_refl _) _⟩
theorem rB (n:Nat) (w:World):Calls Tryz.prog 56 #[.int .i64 (n:Int)] w fun e w'=>e= .returned (rvV (eR n))/\Below w.heap.size w w':=by
 go_enter Tryz.func56,Tryz.ntmps56
 go_wp2_with fail;exact bodyPost_ret (v:= .agg #[.int .i64 7, .int .u64 0, .int .i64 (n:Int), .bool false, .string ⟨#[]⟩, .int .i64 0]) (by simp[results,Tryz.results56,go_sem]) rfl ⟨rfl,(Below.refl _ _).alloc (Nat.le_refl _) _⟩
theorem sH (s:ByteArray) (w:World):Calls Tryz.prog 57 #[.string s] w fun e w'=>e= .returned (rvV (ku s))/\Below w.heap.size w w':=by
 go_enter Tryz.func57,Tryz.ntmps57
 go_wp2_with fail;exact bodyPost_ret (v:= .agg #[.int .i64 5, .int .u64 0, .int .i64 0, .bool false, .string s, .int .i64 0]) (by simp[results,Tryz.results57,go_sem]) rfl ⟨rfl,(Below.refl _ _).alloc (Nat.le_refl _) _⟩
def cy (p:bm):List eB:=[yd p.sum,jH p.size]
def du (f:aw):List eB:=[ku f.path,jH f.kind,jH f.mode,jH f.time,jH f.size,ku f.link,eR f.parts.length]
def eI (f:aw):List eB:=du f++f.parts.flatMap cy
def gy (x:cA):List eB:=[jH x.tm,eR x.files.length]++x.files.flatMap eI
theorem gP : ∀ {l r:List eB} {a b:List UInt8},bR l= .ok a->bR r= .ok b->bR (l++r)= .ok (a++b)
 | [],r,a,b,h1,h2=>by
  simp only[bR,Except.ok.injEq]at h1;subst h1
  simpa using h2
 | y::l,r,a,b,h1,h2=>by
  rw[bR]at h1
  cases hy:fd y with
  | error e=>rw[hy]at h1; simp at h1
  | ok c=>
   rw[hy]at h1;simp only at h1
   cases hl:bR l with
   | error e=>rw[hl]at h1; simp at h1
   | ok d=>
    rw[hl]at h1;simp only[Except.ok.injEq]at h1;subst h1;rw[List.cons_append,bR,hy,gP hl h2];simp
theorem kG {n:Int} (h:0<=n) (h2:n<18446744073709551616):fd (jH n)= .ok (aB n.toNat):=by
 have e:n%18446744073709551616=n:=Int.emod_eq_of_lt h h2
 show(if(1:Int)=1 then Except.ok (aB (n%18446744073709551616).toNat)else _)=_
 rw[if_pos rfl,e]
theorem uF (s:ByteArray):fd (ku s)= .ok (aB s.size++bl s):=by
 unfold fd ku;simp
theorem Ej {s:ByteArray} (h:s.size=32):fd (yd s)= .ok (bl s):=by
 unfold fd yd;simp[h]
theorem rI (n:Nat):fd (eR n)= .ok (aB n):=by
 unfold fd eR;simp
theorem cH {x:eB} {l:List eB} {a b:List UInt8} (h:fd x= .ok a) (h2:bR l= .ok b):bR (x::l)= .ok (a++b):=by
 rw[bR,h]; simp only; rw[h2]
theorem Ci {p:bm} (h:cW p=true):bR (cy p)= .ok (dr p):=by
 obtain⟨h1,h2,h3⟩:=fO.1 h;have:=cH (Ej h1) (cH (kG (show 0<=p.size by omega) (by omega)) (show bR []= .ok []from rfl));rw[List.append_nil]at this;exact this
theorem rK : ∀ {l:List bm},(∀p∈l,cW p=true)->bR (l.flatMap cy)= .ok (l.flatMap dr)
 | [],_=>rfl
 | p::l,h=>by
  rw[List.flatMap_cons,List.flatMap_cons];exact gP (Ci (h p (by simp))) (rK fun q hq=>h q (by simp[hq]))
theorem Ch {f:aw} (h:wC f):bR (eI f)= .ok (cK f):=by
 have h1:=gP (cH (uF f.path) (cH (kG h.kind.1 (by have:=h.kind.2; omega)) (cH (kG h.mode.1 (by have:=h.mode.2; omega)) (cH (kG h.time.1 (by have:=h.time.2; omega)) (cH (kG h.size.1 (by have:=h.size.2; omega)) (cH (uF f.link) (cH (rI f.parts.length) (show bR []= .ok []from rfl)))))))) (rK h.parts)
 have e:cK f=(aB f.path.size++bl f.path++(aB f.kind.toNat++(aB f.mode.toNat++(aB f.time.toNat++(aB f.size.toNat++(aB f.link.size++bl f.link++(aB f.parts.length++[])))))))++f.parts.flatMap dr:=by
  unfold cK;simp only[List.append_assoc,List.append_nil]
 rw[e];exact h1
theorem rJ : ∀ {l:List aw},(∀f∈l,wC f)->bR (l.flatMap eI)= .ok (l.flatMap cK)
 | [],_=>rfl
 | f::l,h=>by
  rw[List.flatMap_cons,List.flatMap_cons];exact gP (Ch (h f (by simp))) (rJ fun g hg=>h g (by simp[hg]))
theorem Ei {x:cA} (h0:0<=x.tm) (h1:x.tm<9223372036854775808) (h: ∀f∈x.files,wC f):bR (gy x)= .ok (cr x):=by
 have h2:=gP (cH (kG h0 (by omega)) (cH (rI x.files.length) (show bR []= .ok []from rfl))) (rJ h);have e:cr x=(aB x.tm.toNat++(aB x.files.length++[]))++x.files.flatMap cK:=by
  unfold cr;simp only[List.append_assoc,List.append_nil]
 rw[e];exact h2
def jD (x:cA) (k:Nat):List eB:=[jH x.tm,eR x.files.length]++(x.files.take k).flatMap eI
theorem wv : ∀(l:List aw),(l.flatMap eI).length=7*l.length+2*(l.flatMap aw.parts).length
 | []=>rfl
 | f::l=>by
  have h1:=wv l;have h2: ∀(ps:List bm),(ps.flatMap cy).length=2*ps.length:=by
   intro ps
   induction ps with
   | nil=>rfl
   | cons p ps ih=>rw[List.flatMap_cons,List.length_append,ih,List.length_cons]; simp[cy]; omega
  rw[List.flatMap_cons,List.length_append,h1,List.flatMap_cons,List.length_append,List.length_cons];unfold eI du;rw[List.length_append,h2];simp only[List.length_cons,List.length_nil];omega
theorem sK (x:cA) (k:Nat):(jD x k).length<=2+7*x.files.length+2*(x.files.flatMap aw.parts).length:=by
 have h1:=wv (x.files.take k);have h2:(x.files.take k).length<=x.files.length:=List.length_take_le' _ _;have h3:x.files.flatMap aw.parts=(x.files.take k).flatMap aw.parts++(x.files.drop k).flatMap aw.parts:=by rw[<-List.flatMap_append,List.take_append_drop]
 unfold jD;rw[List.length_append,h1,h3,List.length_append];simp only[List.length_cons,List.length_nil];omega
theorem qA {x:cA} {k:Nat} {f:aw} (h:x.files[k]? =some f):jD x (k+1)=jD x k++eI f:=by
 unfold jD;rw[aX h,List.flatMap_append,<-List.append_assoc];simp
theorem CT (ps:List bm):(ps.flatMap cy).length=2*ps.length:=by
 induction ps with
 | nil=>rfl
 | cons p ps ih=>rw[List.flatMap_cons,List.length_append,ih,List.length_cons]; simp[cy]; omega
theorem qV {x:cA} {f:aw} (h:f∈x.files):f.parts.length<=(x.files.flatMap aw.parts).length:=by
 obtain⟨l,r,e⟩:=List.append_of_mem h;rw[e,List.flatMap_append,List.flatMap_cons];simp only[List.length_append];omega
theorem xn {x:cA} (h: ∀f∈x.files,wC f) (hn:x.files.length<=1000000) (hp:(x.files.flatMap aw.parts).length<=8000): ∀y∈gy x,tY y:=by
 intro y hy;unfold gy at hy
 rcases List.mem_append.1 hy with hy | hy
 ·simp only[List.mem_cons,List.not_mem_nil,or_false]at hy
  rcases hy with rfl | rfl
  ·exact kP _
  ·exact rE hn
 ·obtain⟨f,hf,hy⟩:=List.mem_flatMap.1 hy;have hfo:=h f hf;have h1:=hfo.path;have h2:=hfo.link;unfold eI at hy
  rcases List.mem_append.1 hy with hy | hy
  ·simp only[du,List.mem_cons,List.not_mem_nil,or_false]at hy
   rcases hy with rfl | rfl | rfl | rfl | rfl | rfl | rfl
   ·exact wj (by omega)
   ·exact kP _
   ·exact kP _
   ·exact kP _
   ·exact kP _
   ·exact wj (by omega)
   ·exact rE (by have:=qV hf; omega)
  ·obtain⟨p,hpm,hy⟩:=List.mem_flatMap.1 hy;simp only[cy,List.mem_cons,List.not_mem_nil,or_false]at hy
   rcases hy with rfl | rfl
   ·exact Fj (by have:=(fO.1 (hfo.parts p hpm)).1; omega)
   ·exact kP _
structure yq (W wr : World) (v : Value) (l : List eB) : Prop where
 row:wr.ownsRow W.heap.size 118 6 v l.length (l.flatMap qe)
 below:Below W.heap.size W wr
theorem yq.next {W wr w':World} {v:Value} {l:List eB} (h:yq W wr v l) (hb:Below wr.heap.size wr w'):yq W w' v l:=⟨aV h.row hb,ak h.below hb⟩
theorem yq.app {W wr w':World} {v v':Value} {l r:List eB} (h:yq W wr v l) (ho:w'.ownsRow W.heap.size 118 6 v' (l.length+r.length) (l.flatMap qe++r.flatMap qe)) (hg:wr.grownBy w' v.ownBlock):yq W w' v' (l++r):=
 ⟨by rw[List.length_append,List.flatMap_append]; exact ho,aZ h.below h.row hg (Nat.le_refl _) h.below.size⟩
theorem kO (n:Int) (w:World):Calls Tryz.prog 55 #[.int .i64 n] w fun e w'=> ∃m:Nat,jH n=⟨1,m,0,false,⟨#[]⟩,0⟩/\e= .returned (.agg #[.int .i64 1, .int .u64 (m:Int), .int .i64 0, .bool false, .string ⟨#[]⟩, .int .i64 0])/\Below w.heap.size w w':=
 (Aa n w).mono fun _ _ ⟨h1,h2⟩=>⟨_,rfl,h1,h2⟩
def lU (b:Nat) (f:aw) (v:Value) (w:World):Prop:=w.heap[b]? =some (.cells #[.string f.path, .int .i64 f.kind, .int .i64 f.mode, .int .i64 f.time, .int .i64 f.size, .string f.link,v] 42 (0,0))/\w.cell? ⟨b,0,none⟩=some (.string f.path)/\w.cell? ⟨b,1,none⟩=some (.int .i64 f.kind)/\w.cell? ⟨b,2,none⟩=some (.int .i64 f.mode)/\w.cell? ⟨b,3,none⟩=some (.int .i64 f.time)/\w.cell? ⟨b,4,none⟩=some (.int .i64 f.size)/\w.cell? ⟨b,5,none⟩=some (.string f.link)/\w.cell? ⟨b,6,none⟩=some v
theorem lU.of {b:Nat} {f:aw} {v:Value} {w:World} (h:w.heap[b]? =some (.cells #[.string f.path, .int .i64 f.kind, .int .i64 f.mode, .int .i64 f.time, .int .i64 f.size, .string f.link,v] 42 (0,0))):lU b f v w:=
 ⟨h,ai (k:=0) h,ai (k:=1) h,ai (k:=2) h,ai (k:=3) h,ai (k:=4) h,ai (k:=5) h,ai (k:=6) h⟩
theorem lU.below {b:Nat} {f:aw} {v:Value} {w w':World} (h:lU b f v w) (hb:Below w.heap.size w w'):lU b f v w':=lU.of ((hb.block _ (lt_of_block h.1)).trans h.1)
theorem lU.app {b base n:Nat} {f:aw} {v lv:Value} {w w':World} {cs:List Value} (h:lU b f v w) (ho:w.ownsRow base 118 6 lv n cs) (hg:w.grownBy w' lv.ownBlock):lU b f v w':=
 lU.of ((hg.block b (lt_of_block h.1) (fun e=>by
  obtain⟨cs2,hc⟩:=aK ho e.symm;exact absurd (aQ h.1 hc) (by decide))).trans h.1)
theorem vN (S:Nat->Prop) (x:cA) (fv:Value) (w:World) (hx:aT S w fv x.files) (hnf:x.files.length<=4096) (hnp:(x.files.flatMap aw.parts).length<=8000) (hok: ∀f∈x.files,wC f) (h0:0<=x.tm) (h1:x.tm<9223372036854775808) (hl:(cr x).length<=1048576):
  Calls Tryz.prog 27 #[dQ fv x.tm] w fun e w'=> ∃v,e= .returned v/\bi (w.heap.size<= ·) w' v (cr x)/\Below w.heap.size w w':=by
 obtain⟨a,cap,rfl,hc,hm,-⟩:=aY.shape hx dT.len;have HX0:=ab hx;have HOK:=ab hok;have HNP:=ab hnp;have HENC:=ab (show tz (gy x)= .ok (cr x) by unfold tz; rw[Ei h0 h1 hok]; simp only; rw[if_neg (by omega)]);obtain⟨n,hn⟩: ∃n,n=x.files.length:=⟨_,rfl⟩;rw[<-hn]at HX0 hnf ⊢;have HN:=ab hn;clear hx hok hnp h0 h1 hl hn hc hm;unfold dQ
 go_enter Tryz.func27,Tryz.ntmps27
 go_upto_region 1 with fail
 obtain⟨W,hW⟩: ∃W,W=w.alloc (.cells #[.int .i64 x.tm, .slice a n cap] 36):=⟨_,rfl⟩;rw[<-hW];have HBW:=ab (show Below w.heap.size w W by rw[hW]; exact(Below.refl _ _).alloc (Nat.le_refl _) _);have HX:=ab (show W.heap[w.heap.size]? =some (.cells #[.int .i64 x.tm, .slice a n cap] 36 (0,0)) by rw[hW]; exact heap_alloc_new w _);have HSZ:=ab (show W.heap.size=w.heap.size+1 by rw[hW]; simp)
 clear hW;have HV:=ab (HX0.out.below HBW.out);have HCL:=ab (show ∀u:World,Below W.heap.size W u->u.cell? ⟨w.heap.size,0,none⟩=some (.int .i64 x.tm)/\u.cell? ⟨w.heap.size,1,none⟩=some (.slice a n cap)from fun u hu=>⟨(hu.cell (p:=⟨w.heap.size,0,none⟩) (lt_of_block HX.out)).trans (ai (k:=0) HX.out),(hu.cell (p:=⟨w.heap.size,1,none⟩) (lt_of_block HX.out)).trans (ai (k:=1) HX.out)⟩)
 refine cL (fun u=>u.cell? ⟨w.heap.size,0,none⟩=some (.int .i64 x.tm)/\u.cell? ⟨w.heap.size,1,none⟩=some (.slice a n cap)) (by kernel_rfl) (by kernel_rfl) ?_;simp only[List.dropLast_cons_cons,List.dropLast_singleton,List.length_cons,List.length_nil,Nat.reduceAdd,Nat.reduceSub];obtain⟨U,hU⟩: ∃V:World,V=W.drew:=⟨_,rfl⟩;rw[<-hU];have HBU:=ab (show Below W.heap.size W U by rw[hU]; exact(Below.refl _ _).drew)
 clear hU;have SU:=ab (HCL.out U HBU.out);refine ag 0 rfl (by kernel_rfl) (by kernel_rfl) (by kernel_rfl) (fun _ _ _ h=>h) rfl SU.out (by rintro w' ⟨_,_⟩; go_simp; rfl) ?_;simp only[Act.put,aH,aI,aJ];refine ag 1 rfl (by kernel_rfl) (by kernel_rfl) (by kernel_rfl) (fun _ _ _ h=>h) rfl SU.out (by rintro w' ⟨_,_⟩; go_simp; rfl) ?_;simp only[Act.put,aH,aI,aJ];refine ag 3 rfl (by kernel_rfl) (by kernel_rfl) (by kernel_rfl) (fun _ _ _ h=>h) rfl SU.out (by rintro w' ⟨_,_⟩; go_simp; rfl) ?_
 simp only[Act.put,aH,aI,aJ];refine ag 4 rfl (by kernel_rfl) (by kernel_rfl) (by kernel_rfl) (fun _ _ _ h=>h) rfl SU.out (by rintro w' ⟨_,_⟩; go_simp; rfl) ?_;simp only[Act.put,aH,aI,aJ];refine ag 5 rfl (by kernel_rfl) (by kernel_rfl) (by kernel_rfl) (fun _ _ _ h=>h) rfl SU.out (by rintro w' ⟨_,_⟩; go_simp; rfl) ?_;simp only[Act.put,aH,aI,aJ];refine aC 2 rfl (by kernel_rfl) rfl (fun K hK=> ?_)
 go_wp2_with (go_at_call 55; refine(kO _ _).mono ?_; rintro e w1 ⟨m1,hm1,rfl,hb1⟩);have HB1:=ab (ak HBU.out hb1);clear hb1;have S1:=ab (HCL.out w1 HB1.out);refine⟨S1.out, ?_⟩;refine aC 6 rfl (by kernel_rfl) rfl (fun K hK=> ?_);go_wp2_with (go_at_call 56; refine(rB n _).mono ?_; rintro e w2 ⟨rfl,hb2⟩; unfold rvV eR);have HB2:=ab (ak HB1.out hb2)
 clear hb2;have S2:=ab (HCL.out w2 HB2.out);refine⟨S2.out, ?_⟩;have HM1:=ab hm1;clear hm1;refine aC 7 rfl (by kernel_rfl) rfl (fun K hK=> ?_);go_wp2_with fail;obtain⟨W2,hW2⟩: ∃u:World,u=w2.alloc (.cells #[.int .i64 1, .int .u64 (m1:Int), .int .i64 0, .bool false, .string ⟨#[]⟩, .int .i64 0, .int .i64 7, .int .u64 0, .int .i64 (n:Int), .bool false, .string ⟨#[]⟩, .int .i64 0] 118):=⟨_,rfl⟩
 rw[<-hW2];have HI0:=ab (show yq W W2 (.slice (some ⟨w2.heap.size,0,none⟩) 2 2) (jD x 0)from by
  have e1:jD x 0=[jH x.tm,eR n]:=by unfold jD; rw[HN.out]; rfl
  rw[e1,hW2];refine⟨?_,HB2.out.alloc HB2.out.size _⟩;have e2:[jH x.tm,eR n].flatMap qe=[.int .i64 1, .int .u64 (m1:Int), .int .i64 0, .bool false, .string ⟨#[]⟩, .int .i64 0, .int .i64 7, .int .u64 0, .int .i64 (n:Int), .bool false, .string ⟨#[]⟩, .int .i64 0]:=by rw[HM1.out]; rfl
  rw[e2];exact World.ownsRow_lit (base:=W.heap.size) w2 #[.int .i64 1, .int .u64 (m1:Int), .int .i64 0, .bool false, .string ⟨#[]⟩, .int .i64 0, .int .i64 7, .int .u64 0, .int .i64 (n:Int), .bool false, .string ⟨#[]⟩, .int .i64 0] 2 HB2.out.size (by unfold maxLen; omega) rfl)
 have S3:=ab (HCL.out W2 HI0.out.below);clear hW2;refine⟨S3.out, ?_⟩;refine bu (by kernel_rfl) ?_;refine dd rfl rfl (fun K hK=> ?_);go_wp2_with fail
 go_loopw [3,4] (fun v i wr=> ∃k:Nat,k<=n/\i= .int .i64 k/\yq W wr v (jD x k)) (fun _ i _=>n-(intOf i).toNat)
 case atStart=>exact⟨0,Nat.zero_le _,rfl,HI0.out⟩
 case round=>
  obtain⟨k,hk,rfl,hi⟩:=hrel;obtain⟨va,vc,hvs,-,-⟩:=au hi.row;subst hvs;obtain⟨L,hL⟩: ∃L,L=jD x k:=⟨_,rfl⟩;obtain⟨ln,hln⟩: ∃m,m=L.length:=⟨_,rfl⟩;rw[<-hL,<-hln]at hi ⊢;have HI:=ab hi;have HL:=ab hL;have HLN:=ab hln;obtain⟨W0,hW0⟩: ∃x:World,x=wr:=⟨_,rfl⟩;subst hW0;obtain⟨x0,x1⟩:=HCL.out W0 hi.below;have hl5:ln<=100000:=by
   have h2:=sK x k;have h3:=HNP.out;have h4:=HN.out;rw[hln,hL]; omega
  clear hi hL hln
  by_cases hlt:k<n
  ·obtain⟨f,hf⟩: ∃f,x.files[k]? =some f:=⟨_,List.getElem?_eq_getElem (show k<x.files.length by rw[<-HN.out]; exact hlt)⟩;obtain⟨b1,o1,pa,pc,rfl,-,hpa,hblt,-,hcl⟩:=cQ HV.out (Below.refl _ _) hf;have hcl: ∀j,j<7->W0.cell? ⟨b1,o1+k*7+j,none⟩=(bM (.slice pa f.parts.length pc) f)[j]? :=fun j hj=>(HI.out.below.cell (p:=⟨b1,o1+k*7+j,none⟩) hblt).trans (hcl j hj)
   have q0:=hcl 0 (by omega);have q1:=hcl 1 (by omega);have q2:=hcl 2 (by omega);have q3:=hcl 3 (by omega);have q4:=hcl 4 (by omega);have q5:=hcl 5 (by omega);have q6:=hcl 6 (by omega);simp only[bM,bV,Nat.add_zero]at q0 q1 q2 q3 q4 q5 q6;have HF:=ab hf;have HPA:=ab hpa;obtain⟨pn,hpn⟩: ∃n,n=f.parts.length:=⟨_,rfl⟩;rw[<-hpn]at q6 HPA;have HPN:=ab hpn;have hpn8:pn<=100000:=by
    have h1:=congrArg List.length (qA hf);have h2:=sK x (k+1);have h3:=HNP.out;have h4:=HN.out;rw[List.length_append]at h1;unfold eI at h1;rw[List.length_append,CT]at h1;omega
   have HKS:=ab (qA hf);clear hf hpa hcl hpn
   go_upto_region 6 with fail
   obtain⟨W1,hW1⟩: ∃u:World,u=W0.alloc (.cells #[.string f.path, .int .i64 f.kind, .int .i64 f.mode, .int .i64 f.time, .int .i64 f.size, .string f.link, .slice pa pn pc] 42):=⟨_,rfl⟩;rw[<-hW1];have hbw:Below W0.heap.size W0 W1:=by rw[hW1]; exact(Below.refl _ _).alloc (Nat.le_refl _) _
   have HX1:=ab (show W1.heap[W0.heap.size]? =some (.cells #[.string f.path, .int .i64 f.kind, .int .i64 f.mode, .int .i64 f.time, .int .i64 f.size, .string f.link, .slice pa pn pc] 42 (0,0)) by rw[hW1]; exact heap_alloc_new W0 _);have HI1:=ab (HI.out.next hbw);obtain⟨bX,hbX⟩: ∃k,k=W0.heap.size:=⟨_,rfl⟩;rw[<-hbX]at HX1;rw[<-hbX];clear hW1 hbw hbX q0 q1 q2 q3 q4 q5 q6 x0 x1;refine cL (lU bX f (.slice pa pn pc)) (by kernel_rfl) (by kernel_rfl) ?_
   simp only[List.dropLast_cons_cons,List.dropLast_singleton,List.length_cons,List.length_nil,Nat.reduceAdd,Nat.reduceSub];obtain⟨V0,hV0⟩: ∃V:World,V=W1.drew:=⟨_,rfl⟩;rw[<-hV0];have hb:Below W1.heap.size W1 V0:=by rw[hV0]; exact(Below.refl _ _).drew
   have IV0:=ab (HI1.out.next hb);have SV0:=ab ((lU.of HX1.out).below hb);clear hV0 hb;refine ag 0 rfl (by kernel_rfl) (by kernel_rfl) (by kernel_rfl) (fun _ _ _ h=>h) rfl SV0.out (by rintro w' ⟨_,_,_,_,_,_,_,_⟩; go_simp; rfl) ?_;simp only[Act.put,aH,aI,aJ];refine ag 1 rfl (by kernel_rfl) (by kernel_rfl) (by kernel_rfl) (fun _ _ _ h=>h) rfl SV0.out (by rintro w' ⟨_,_,_,_,_,_,_,_⟩; go_simp; rfl) ?_
   simp only[Act.put,aH,aI,aJ];refine ag 2 rfl (by kernel_rfl) (by kernel_rfl) (by kernel_rfl) (fun _ _ _ h=>h) rfl SV0.out (by rintro w' ⟨_,_,_,_,_,_,_,_⟩; go_simp; rfl) ?_;simp only[Act.put,aH,aI,aJ];refine ag 4 rfl (by kernel_rfl) (by kernel_rfl) (by kernel_rfl) (fun _ _ _ h=>h) rfl SV0.out (by rintro w' ⟨_,_,_,_,_,_,_,_⟩; go_simp; rfl) ?_;simp only[Act.put,aH,aI,aJ]
   refine ag 5 rfl (by kernel_rfl) (by kernel_rfl) (by kernel_rfl) (fun _ _ _ h=>h) rfl SV0.out (by rintro w' ⟨_,_,_,_,_,_,_,_⟩; go_simp; rfl) ?_;simp only[Act.put,aH,aI,aJ];refine ag 7 rfl (by kernel_rfl) (by kernel_rfl) (by kernel_rfl) (fun _ _ _ h=>h) rfl SV0.out (by rintro w' ⟨_,_,_,_,_,_,_,_⟩; go_simp; rfl) ?_;simp only[Act.put,aH,aI,aJ];refine ag 8 rfl (by kernel_rfl) (by kernel_rfl) (by kernel_rfl) (fun _ _ _ h=>h) rfl SV0.out (by rintro w' ⟨_,_,_,_,_,_,_,_⟩; go_simp; rfl) ?_
   simp only[Act.put,aH,aI,aJ];refine ag 10 rfl (by kernel_rfl) (by kernel_rfl) (by kernel_rfl) (fun _ _ _ h=>h) rfl SV0.out (by rintro w' ⟨_,_,_,_,_,_,_,_⟩; go_simp; rfl) ?_;simp only[Act.put,aH,aI,aJ];refine ag 11 rfl (by kernel_rfl) (by kernel_rfl) (by kernel_rfl) (fun _ _ _ h=>h) rfl SV0.out (by rintro w' ⟨_,_,_,_,_,_,_,_⟩; go_simp; rfl) ?_;simp only[Act.put,aH,aI,aJ]
   refine ag 13 rfl (by kernel_rfl) (by kernel_rfl) (by kernel_rfl) (fun _ _ _ h=>h) rfl SV0.out (by rintro w' ⟨_,_,_,_,_,_,_,_⟩; go_simp; rfl) ?_;simp only[Act.put,aH,aI,aJ];refine ag 14 rfl (by kernel_rfl) (by kernel_rfl) (by kernel_rfl) (fun _ _ _ h=>h) rfl SV0.out (by rintro w' ⟨_,_,_,_,_,_,_,_⟩; go_simp; rfl) ?_;simp only[Act.put,aH,aI,aJ];refine ag 16 rfl (by kernel_rfl) (by kernel_rfl) (by kernel_rfl) (fun _ _ _ h=>h) rfl SV0.out (by rintro w' ⟨_,_,_,_,_,_,_,_⟩; go_simp; rfl) ?_
   simp only[Act.put,aH,aI,aJ];refine ag 17 rfl (by kernel_rfl) (by kernel_rfl) (by kernel_rfl) (fun _ _ _ h=>h) rfl SV0.out (by rintro w' ⟨_,_,_,_,_,_,_,_⟩; go_simp; rfl) ?_;simp only[Act.put,aH,aI,aJ];refine ag 19 rfl (by kernel_rfl) (by kernel_rfl) (by kernel_rfl) (fun _ _ _ h=>h) rfl SV0.out (by rintro w' ⟨_,_,_,_,_,_,_,_⟩; go_simp; rfl) ?_;simp only[Act.put,aH,aI,aJ]
   refine ag 20 rfl (by kernel_rfl) (by kernel_rfl) (by kernel_rfl) (fun _ _ _ h=>h) rfl SV0.out (by rintro w' ⟨_,_,_,_,_,_,_,_⟩; go_simp; rfl) ?_;simp only[Act.put,aH,aI,aJ];refine ag 21 rfl (by kernel_rfl) (by kernel_rfl) (by kernel_rfl) (fun _ _ _ h=>h) rfl SV0.out (by rintro w' ⟨_,_,_,_,_,_,_,_⟩; go_simp; rfl) ?_;simp only[Act.put,aH,aI,aJ];refine aC 3 rfl (by kernel_rfl) rfl (fun K hK=> ?_)
   go_wp2_with (go_at_call 57; refine(sH (f.path) _).mono ?_; rintro e V1 ⟨rfl,hb⟩; unfold rvV ku);have IV1:=ab (IV0.out.next hb);have SV1:=ab (SV0.out.below hb);clear hb;refine⟨SV1.out, ?_⟩;refine aC 6 rfl (by kernel_rfl) rfl (fun K hK=> ?_);go_wp2_with (go_at_call 55; refine(kO (f.kind) _).mono ?_; rintro e V2 ⟨m1',hm,rfl,hb⟩);have IV2:=ab (IV1.out.next hb);have SV2:=ab (SV1.out.below hb)
   have M1:=ab hm;clear hb hm;refine⟨SV2.out, ?_⟩;refine aC 9 rfl (by kernel_rfl) rfl (fun K hK=> ?_);go_wp2_with (go_at_call 55; refine(kO (f.mode) _).mono ?_; rintro e V3 ⟨m2',hm,rfl,hb⟩);have IV3:=ab (IV2.out.next hb);have SV3:=ab (SV2.out.below hb);have M2:=ab hm;clear hb hm;refine⟨SV3.out, ?_⟩;refine aC 12 rfl (by kernel_rfl) rfl (fun K hK=> ?_);go_wp2_with (go_at_call 55; refine(kO (f.time) _).mono ?_; rintro e V4 ⟨m3',hm,rfl,hb⟩)
   have IV4:=ab (IV3.out.next hb);have SV4:=ab (SV3.out.below hb);have M3:=ab hm;clear hb hm;refine⟨SV4.out, ?_⟩;refine aC 15 rfl (by kernel_rfl) rfl (fun K hK=> ?_);go_wp2_with (go_at_call 55; refine(kO (f.size) _).mono ?_; rintro e V5 ⟨m4',hm,rfl,hb⟩);have IV5:=ab (IV4.out.next hb);have SV5:=ab (SV4.out.below hb);have M4:=ab hm;clear hb hm;refine⟨SV5.out, ?_⟩;refine aC 18 rfl (by kernel_rfl) rfl (fun K hK=> ?_)
   go_wp2_with (go_at_call 57; refine(sH (f.link) _).mono ?_; rintro e V6 ⟨rfl,hb⟩; unfold rvV ku);have IV6:=ab (IV5.out.next hb);have SV6:=ab (SV5.out.below hb);clear hb;refine⟨SV6.out, ?_⟩;refine aC 22 rfl (by kernel_rfl) rfl (fun K hK=> ?_);go_wp2_with (go_at_call 56; refine(rB pn _).mono ?_; rintro e V7 ⟨rfl,hb⟩; unfold rvV eR);have IV7:=ab (IV6.out.next hb)
   have SV7:=ab (SV6.out.below hb);clear hb;refine⟨SV7.out, ?_⟩;have HLV:=ab (show(du f).flatMap qe=[.int .i64 5, .int .u64 0, .int .i64 0, .bool false, .string f.path, .int .i64 0, .int .i64 1, .int .u64 (m1':Int), .int .i64 0, .bool false, .string ⟨#[]⟩, .int .i64 0, .int .i64 1, .int .u64 (m2':Int), .int .i64 0, .bool false, .string ⟨#[]⟩, .int .i64 0, .int .i64 1, .int .u64 (m3':Int), .int .i64 0, .bool false, .string ⟨#[]⟩, .int .i64 0, .int .i64 1, .int .u64 (m4':Int), .int .i64 0, .bool false, .string ⟨#[]⟩, .int .i64 0, .int .i64 5, .int .u64 0, .int .i64 0, .bool false, .string f.link, .int .i64 0, .int .i64 7, .int .u64 0, .int .i64 (pn:Int), .bool false, .string ⟨#[]⟩, .int .i64 0] by
    unfold du;rw[M1.out,M2.out,M3.out,M4.out,<-HPN.out]; rfl)
   refine aC 23 rfl (by kernel_rfl) rfl (fun K hK=> ?_);go_wp2_with fail;obtain⟨V8,hV8⟩: ∃u:World,u=V7.alloc (.cells #[.int .i64 5, .int .u64 0, .int .i64 0, .bool false, .string f.path, .int .i64 0, .int .i64 1, .int .u64 (m1':Int), .int .i64 0, .bool false, .string ⟨#[]⟩, .int .i64 0, .int .i64 1, .int .u64 (m2':Int), .int .i64 0, .bool false, .string ⟨#[]⟩, .int .i64 0, .int .i64 1, .int .u64 (m3':Int), .int .i64 0, .bool false, .string ⟨#[]⟩, .int .i64 0, .int .i64 1, .int .u64 (m4':Int), .int .i64 0, .bool false, .string ⟨#[]⟩, .int .i64 0, .int .i64 5, .int .u64 0, .int .i64 0, .bool false, .string f.link, .int .i64 0, .int .i64 7, .int .u64 0, .int .i64 (pn:Int), .bool false, .string ⟨#[]⟩, .int .i64 0] 118):=⟨_,rfl⟩
   rw[<-hV8];have hb:Below V7.heap.size V7 V8:=by rw[hV8]; exact(Below.refl _ _).alloc (Nat.le_refl _) _
   have IV8:=ab (IV7.out.next hb);have SV8:=ab (SV7.out.below hb);have HRL:=ab (show aS (fun i=>i=V7.heap.size) V8 6 (.slice (some ⟨V7.heap.size,0,none⟩) 7 7) 7 ((du f).flatMap qe) by
    rw[HLV.out];exact fS (n:=7) (sz:=6) (by rw[hV8]; exact heap_alloc_new V7 _) rfl (by decide))
   clear hV8 hb HLV;refine⟨SV8.out, ?_⟩;refine aC 24 rfl (by kernel_rfl) rfl (fun K hK=> ?_);have HOA:=ab (show V8.ownsRow W.heap.size 118 6 (.slice va ln vc) ln (L.flatMap qe)from by have h1:=IV8.out.row; rw[<-HLN.out]at h1; exact h1);go_wp2_with (at_builtin; go_must (refine bI Tryz.appVals rfl _ _ rfl W.heap.size (.slice va ln vc) ln (L.flatMap qe) rfl HOA.out _ 7 ((du f).flatMap qe) rfl HRL.out yX (by omega) IV8.out.below.size ?_); intro v9 w9 hown9 hg9)
   have IV9:=ab (show yq W w9 v9 (L++du f)from IV8.out.app (by rw[<-HLN.out]; exact hown9) hg9);have SV9:=ab (SV8.out.app HOA.out hg9);clear hown9 hg9;refine⟨SV9.out, ?_⟩;refine bu (by kernel_rfl) ?_;refine dd rfl rfl (fun K hK=> ?_);go_wp2_with fail;obtain⟨va9,vc9,hv9,-,-⟩:=au IV9.out.row;subst hv9;obtain⟨l9,hl9⟩: ∃m,m=(L++du f).length:=⟨_,rfl⟩
   rw[<-hl9]at IV9 ⊢;clear hl9;have HI9:=ab (show yq W w9 (.slice va9 l9 vc9) (L++du f++(f.parts.take 0).flatMap cy) by rw[List.take_zero,List.flatMap_nil,List.append_nil]; exact IV9.out);have HPW:=ab HPA.out
   go_loopw [3,6] (fun v i wq=> ∃j:Nat,j<=pn/\i= .int .i64 j/\yq W wq v (L++du f++(f.parts.take j).flatMap cy)/\lU bX f (.slice pa pn pc) wq) (fun _ i _=>pn-(intOf i).toNat)
   case atStart=>exact⟨0,Nat.zero_le _,rfl,HI9.out,SV9.out⟩
   case round=>
    obtain⟨j,hj,rfl,hi,hs⟩:=hrel;obtain⟨vb,vd,hvs,-,-⟩:=au hi.row;subst hvs;obtain⟨L2,hL2⟩: ∃l,l=L++du f++(f.parts.take j).flatMap cy:=⟨_,rfl⟩;obtain⟨l2,hl2⟩: ∃m,m=L2.length:=⟨_,rfl⟩;rw[<-hL2,<-hl2]at hi ⊢;have HJ:=ab hi;have SJ:=ab hs;have HL2:=ab hL2;have HLL:=ab hl2;obtain⟨W3,hW3⟩: ∃x:World,x=wr:=⟨_,rfl⟩;subst hW3
    have d6:=hs.2.2.2.2.2.2.2;clear hi hs hL2 hl2
    by_cases hlj:j<pn
    ·obtain⟨p,hp⟩: ∃p,f.parts[j]? =some p:=⟨_,List.getElem?_eq_getElem (show j<f.parts.length by rw[<-HPN.out]; exact hlj)⟩;obtain⟨b2,o2,rfl,-,-,-,q0,q1⟩:=dz HPA.out HJ.out.below hp;have HP:=ab hp;have hjn:(j:Int)<(pn:Int):=by omega
     have hl2b:l2<=400000:=by
      have h1:(f.parts.take j).length<=j:=List.length_take_le _ _;have h2:=HLN.out;rw[HLL.out,HL2.out,List.length_append,List.length_append,CT,<-h2];have h3:(du f).length=7:=rfl;omega
     clear hp
     go_upto_region 10 with fail
     refine cL (fun u=>lU bX f (.slice (some ⟨b2,o2,none⟩) pn pc) u/\u.cell? ⟨b2,o2+j*2,none⟩=some (.string p.sum)/\u.cell? ⟨b2,o2+j*2+1,none⟩=some (.int .i64 p.size)) (by kernel_rfl) (by kernel_rfl) ?_;simp only[List.dropLast_cons_cons,List.dropLast_singleton,List.length_cons,List.length_nil,Nat.reduceAdd,Nat.reduceSub];obtain⟨U,hU⟩: ∃V:World,V=W3.drew:=⟨_,rfl⟩
     rw[<-hU];have hb:Below W3.heap.size W3 U:=by rw[hU]; exact(Below.refl _ _).drew
     have IU:=ab (HJ.out.next hb);have SU:=ab (And.intro (SJ.out.below hb) (And.intro ((hb.cell (aE q0)).trans q0) ((hb.cell (aE q1)).trans q1)));clear hU hb q0 q1 d6;refine ag 0 rfl (by kernel_rfl) (by kernel_rfl) (by kernel_rfl) (fun _ _ _ h=>h) rfl SU.out (by rintro w' ⟨⟨_,_,_,_,_,_,_,_⟩,_,_⟩; go_simp; rfl) ?_;simp only[Act.put,aH,aI,aJ];refine ag 1 rfl (by kernel_rfl) (by kernel_rfl) (by kernel_rfl) (fun _ _ _ h=>h) rfl SU.out (by rintro w' ⟨⟨_,_,_,_,_,_,_,_⟩,_,_⟩; go_simp; rfl) ?_
     simp only[Act.put,aH,aI,aJ];refine ag 2 rfl (by kernel_rfl) (by kernel_rfl) (by kernel_rfl) (fun _ _ _ h=>h) rfl SU.out (by rintro w' ⟨⟨_,_,_,_,_,_,_,_⟩,_,_⟩; go_simp; rfl) ?_;simp only[Act.put,aH,aI,aJ];refine ag 3 rfl (by kernel_rfl) (by kernel_rfl) (by kernel_rfl) (fun _ _ _ h=>h) rfl SU.out (by rintro w' ⟨⟨_,_,_,_,_,_,_,_⟩,_,_⟩; go_simp; rfl) ?_
     simp only[Act.put,aH,aI,aJ];refine ag 4 rfl (by kernel_rfl) (by kernel_rfl) (by kernel_rfl) (fun _ _ _ h=>h) rfl SU.out (by rintro w' ⟨⟨_,_,_,_,_,_,_,_⟩,_,_⟩; go_simp; rfl) ?_;simp only[Act.put,aH,aI,aJ];refine ag 5 rfl (by kernel_rfl) (by kernel_rfl) (by kernel_rfl) (fun _ _ _ h=>h) rfl SU.out (by rintro w' ⟨⟨_,_,_,_,_,_,_,_⟩,_,_⟩; go_simp; rfl) ?_
     simp only[Act.put,aH,aI,aJ];refine ag 6 rfl (by kernel_rfl) (by kernel_rfl) (by kernel_rfl) (fun _ _ _ h=>h) rfl SU.out (by rintro w' ⟨⟨_,_,_,_,_,_,_,_⟩,_,_⟩; go_simp; rfl) ?_;simp only[Act.put,aH,aI,aJ];refine ag 7 rfl (by kernel_rfl) (by kernel_rfl) (by kernel_rfl) (fun _ _ _ h=>h) rfl SU.out (by rintro w' ⟨⟨_,_,_,_,_,_,_,_⟩,_,_⟩; go_simp; rfl) ?_
     simp only[Act.put,aH,aI,aJ];refine ag 8 rfl (by kernel_rfl) (by kernel_rfl) (by kernel_rfl) (fun _ _ _ h=>h) rfl SU.out (by rintro w' ⟨⟨_,_,_,_,_,_,_,_⟩,_,_⟩; go_simp; rfl) ?_;simp only[Act.put,aH,aI,aJ];refine ag 9 rfl (by kernel_rfl) (by kernel_rfl) (by kernel_rfl) (fun _ _ _ h=>h) rfl SU.out (by rintro w' ⟨⟨_,_,_,_,_,_,_,_⟩,_,_⟩; go_simp; rfl) ?_
     simp only[Act.put,aH,aI,aJ];refine ag 10 rfl (by kernel_rfl) (by kernel_rfl) (by kernel_rfl) (fun _ _ _ h=>h) rfl SU.out (by rintro w' ⟨⟨_,_,_,_,_,_,_,_⟩,_,_⟩; go_simp; rfl) ?_;simp only[Act.put,aH,aI,aJ];refine ag 11 rfl (by kernel_rfl) (by kernel_rfl) (by kernel_rfl) (fun _ _ _ h=>h) rfl SU.out (by rintro w' ⟨⟨_,_,_,_,_,_,_,_⟩,_,_⟩; go_simp; rfl) ?_
     simp only[Act.put,aH,aI,aJ];refine ag 12 rfl (by kernel_rfl) (by kernel_rfl) (by kernel_rfl) (fun _ _ _ h=>h) rfl SU.out (by rintro w' ⟨⟨_,_,_,_,_,_,_,_⟩,_,_⟩; go_simp; rfl) ?_;simp only[Act.put,aH,aI,aJ];refine ag 13 rfl (by kernel_rfl) (by kernel_rfl) (by kernel_rfl) (fun _ _ _ h=>h) rfl SU.out (by rintro w' ⟨⟨_,_,_,_,_,_,_,_⟩,_,_⟩; go_simp; rfl) ?_
     simp only[Act.put,aH,aI,aJ];refine aC 14 rfl (by kernel_rfl) rfl (fun K hK=> ?_);go_wp2_with (go_at_call 55; refine(kO p.size _).mono ?_; rintro e U1 ⟨mp,hm,rfl,hb⟩);have IU1:=ab (IU.out.next hb);have SU1:=ab (And.intro (SU.out.1.below hb) (And.intro ((hb.cell (aE SU.out.2.1)).trans SU.out.2.1) ((hb.cell (aE SU.out.2.2)).trans SU.out.2.2)));have HMP:=ab hm
     clear hb hm;refine⟨SU1.out, ?_⟩;have HLV:=ab (show(cy p).flatMap qe=[.int .i64 6, .int .u64 0, .int .i64 0, .bool false, .string p.sum, .int .i64 0, .int .i64 1, .int .u64 (mp:Int), .int .i64 0, .bool false, .string ⟨#[]⟩, .int .i64 0] by unfold cy; rw[HMP.out]; rfl);refine aC 15 rfl (by kernel_rfl) rfl (fun K hK=> ?_);go_wp2_with fail;obtain⟨U2,hU2⟩: ∃u:World,u=U1.alloc (.cells #[.int .i64 6, .int .u64 0, .int .i64 0, .bool false, .string p.sum, .int .i64 0, .int .i64 1, .int .u64 (mp:Int), .int .i64 0, .bool false, .string ⟨#[]⟩, .int .i64 0] 118):=⟨_,rfl⟩
     rw[<-hU2];have hb:Below U1.heap.size U1 U2:=by rw[hU2]; exact(Below.refl _ _).alloc (Nat.le_refl _) _
     have IU2:=ab (IU1.out.next hb);have SU2:=ab (And.intro (SU1.out.1.below hb) (And.intro ((hb.cell (aE SU1.out.2.1)).trans SU1.out.2.1) ((hb.cell (aE SU1.out.2.2)).trans SU1.out.2.2)));have HRL2:=ab (show aS (fun i=>i=U1.heap.size) U2 6 (.slice (some ⟨U1.heap.size,0,none⟩) 2 2) 2 ((cy p).flatMap qe) by
      rw[HLV.out];exact fS (n:=2) (sz:=6) (by rw[hU2]; exact heap_alloc_new U1 _) rfl (by decide))
     clear hU2 hb HLV;refine⟨SU2.out, ?_⟩;refine aC 16 rfl (by kernel_rfl) rfl (fun K hK=> ?_);have HOB:=ab (show U2.ownsRow W.heap.size 118 6 (.slice vb l2 vd) l2 (L2.flatMap qe)from by have h1:=IU2.out.row; rw[<-HLL.out]at h1; exact h1);go_wp2_with (at_builtin; go_must (refine bI Tryz.appVals rfl _ _ rfl W.heap.size (.slice vb l2 vd) l2 (L2.flatMap qe) rfl HOB.out _ 2 ((cy p).flatMap qe) rfl HRL2.out yX (by omega) IU2.out.below.size ?_); intro vz wz hownz hgz)
     have IZ:=ab (show yq W wz vz (L2++cy p)from IU2.out.app (by rw[<-HLL.out]; exact hownz) hgz);have SZ:=ab (SU2.out.1.app HOB.out hgz);obtain⟨_,_,he2,-,-,-,z0,z1⟩:=dz HPA.out IZ.out.below HP.out;simp only[Option.some.injEq,Addr.mk.injEq,and_true]at he2;obtain⟨rfl,rfl⟩:=he2;clear hownz hgz;refine⟨⟨SZ.out,z0,z1⟩, ?_⟩;clear z0 z1;refine bu (by kernel_rfl) ?_
     obtain⟨vy,vw,hvz,-,-⟩:=au IZ.out.row;subst hvz;obtain⟨lz,hlz⟩: ∃m,m=(L2++cy p).length:=⟨_,rfl⟩;rw[<-hlz]at IZ ⊢;clear hlz;refine dd rfl rfl (fun K hK=> ?_);go_wp2_with fail;have HREL:=ab (show yq W wz _ (L++du f++(f.parts.take (j+1)).flatMap cy) by
      rw[aX HP.out,List.flatMap_append,<-List.append_assoc,<-HL2.out];have e1:[p].flatMap cy=cy p:=by simp
      rw[e1]; exact IZ.out)
     go_roundw
     case rel=>exact⟨j+1,by omega,by go_num,HREL.out,SZ.out⟩
     case measure=>simp[intOf]; omega
    ·have hjp:j=pn:=by omega
     subst hjp;have HREL:=ab (show yq W W3 (.slice vb l2 vd) (jD x (k+1)) by
      rw[HKS.out,<-HL.out];have e1:L2=L++eI f:=by
       rw[HL2.out,List.take_of_length_le (by rw[<-HPN.out]; exact Nat.le_refl _),List.append_assoc]; rfl
      rw[<-e1]; exact HJ.out)
     go_wp2_with fail;exact⟨⟨k+1,by omega,by go_num,HREL.out⟩,by simp[intOf]; omega⟩
  ·have hkn:k=n:=by omega
   subst hkn;have HALL:=ab (show L=gy x by
    rw[HL.out]; unfold jD gy;rw[List.take_of_length_le (by rw[<-HN.out]; exact Nat.le_refl _)])
   have HRV:=ab (show BD (fun _=>True) W0 (.slice va ln vc) (gy x)from by
    have h1:=HI.out.row;rw[<-HALL.out];refine⟨L.flatMap qe,(bp h1).weak fun _ _=>trivial,yZ fun y hy=> ?_⟩;rw[HALL.out]at hy;exact xn HOK.out (by rw[<-HN.out]; omega) HNP.out y hy)
   have HLE:=ab (show(gy x).length<=1000000 by rw[<-HALL.out,<-HLN.out]; omega);have HB0:=ab HI.out.below;go_wp2_with fail;refine(wX _ _ (gy x) _ HRV.out HLE.out).mono ?_;intro e w5 hr;unfold Bv at hr;rw[HENC.out]at hr;obtain⟨hb5,v5,rfl,hby⟩:=hr;obtain⟨-,a5,c5,hv5,-⟩:=id hby
   subst hv5;have HBY:=ab hby
   have HB5:=ab hb5;clear hby hb5;go_wp2_with fail;go_ret;have h1:w.heap.size<=W0.heap.size:=by have:=HBW.out.size; have:=HB0.out.size; omega
   exact⟨_,rfl,aS.mono HBY.out (fun _ _ h=>Nat.le_trans h1 h) (by omega),HBW.out.trans ((ak HB0.out HB5.out).mono HBW.out.size)⟩
end Go.Proofs.YtnjkpcalgoefhaaGreatDoor
