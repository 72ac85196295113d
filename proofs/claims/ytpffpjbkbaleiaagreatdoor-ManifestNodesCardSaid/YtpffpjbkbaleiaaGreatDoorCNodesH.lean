/- Texts of this proof, one after the other: Same, SItem, LawIts, NodB, LawNod, Frame, Few, OpM. -/
import Derived.Test.YtpffpjbkbaleiaaGreatDoorCNodesG
set_option maxRecDepth 100000
set_option maxHeartbeats 8000000
namespace Go.Proofs.YtpffpjbkbaleiaaGreatDoor
open Go.RowKit
theorem sA (S T:Nat->Prop) (v u:Value) (rs ss:List aN) (w:World) (hv:aV S w v rs) (hu:aV T w u ss):
  Calls Tryz.prog 44 #[v,u] w fun e w'=>e= .returned (.bool (decide (rs=ss)))/\Below w.heap.size w w':=by
 obtain⟨a,cap,rfl,hc,hm,-⟩:=aJ.shape hv fE.len;obtain⟨a2,cap2,rfl,hc2,hm2,-⟩:=aJ.shape hu fE.len;unfold maxLen at hm hm2;have HV:=ab hv;have HU:=ab hu;clear hv hu
 by_cases hl:rs.length=ss.length
 ·have HL:=ab hl;have hl2:ss.length=rs.length:=hl.symm;rw[hl2]at HU hc2 ⊢;clear hl hl2
  go_enter Tryz.func44,Tryz.ntmps44
  go_wp2_with fail
  go_loopw [5] (fun i wr=> ∃k:Nat,k<=rs.length/\i= .int .i64 k/\rs.take k=ss.take k/\Below w.heap.size w wr) (fun i _=>rs.length-(intOf i).toNat)
  case atStart=>exact⟨0,Nat.zero_le _,rfl,by simp,Below.refl _ _⟩
  case round=>
   obtain⟨k,hk,rfl,hn,hb⟩:=hrel;have HN:=ab hn;have HB:=ab hb;clear hn hb
   by_cases hlt:k<rs.length
   ·obtain⟨r,hr⟩: ∃r,rs[k]? =some r:=⟨rs[k],by simp[hlt]⟩;obtain⟨x,hx⟩: ∃x,ss[k]? =some x:=⟨ss[k]'(by have:=HL.out; omega),by simp⟩;have HR:=ab hr;have HX:=ab hx;have heq:=An r x;obtain⟨W,hW⟩: ∃W:World,W=wr.drew:=⟨_,rfl⟩;have HBW:=ab (show Below w.heap.size w W by rw[hW]; exact HB.out.drew);obtain⟨b,o,rfl,hrok,q0,q1,q2⟩:=eS HV.out HBW.out hr
    obtain⟨b2,o2,rfl,hrok2,p0,p1,p2⟩:=eS (by have:=HU.out; rw[HL.out]at this; exact this) HBW.out hx;unfold bJ at heq;clear hr hrok hx hrok2
    by_cases hm:r=x
    ·have e1:decide (r=x)=true:=by simp[hm]
     rw[e1]at heq;have HT:=ab (show rs.take (k+1)=ss.take (k+1) by rw[br HR.out,br HX.out,HN.out,hm]);clear e1 hm;go_wp2_with fail;refine aw [some 9] (by kernel_rfl) (by kernel_rfl) (by kernel_rfl) ?_;simp only[bi,List.take_succ_cons,List.take_zero];rw[<-hW];clear hW
     repeat (first | (refine aG rfl ?_; simp only[Act.put,aB,aC,aD]) | (refine aL rfl (fun K hK=> ?_); go_simp; refine hK _ ?_; clear hK K))
     refine aK ?_;go_wp2_with fail
     go_roundw
     case rel=>exact⟨k+1,by omega,by go_num,HT.out,HBW.out⟩
     case measure=>simp[intOf]; omega
    ·have e1:decide (r=x)=false:=by simp[hm]
     rw[e1]at heq;have HT:=ab (show decide (rs=ss)=false by
      rw[decide_eq_false_iff_not];intro e;have h1:=HR.out;rw[e,HX.out]at h1;exact hm (Option.some.inj h1).symm)
     clear e1 hm;go_wp2_with fail;refine aw [some 9] (by kernel_rfl) (by kernel_rfl) (by kernel_rfl) ?_;simp only[bi,List.take_succ_cons,List.take_zero];rw[<-hW];clear hW
     repeat (first | (refine aG rfl ?_; simp only[Act.put,aB,aC,aD]) | (refine aL rfl (fun K hK=> ?_); go_simp; refine hK _ ?_; clear hK K))
     refine aK ?_;go_wp2_with fail;go_ret;exact⟨am HT.out.symm,HBW.out⟩
   ·obtain rfl:k=rs.length:=by omega
    have HT:=ab (show decide (rs=ss)=true by
     have:=HN.out;rw[List.take_of_length_le (Nat.le_refl _),List.take_of_length_le (by rw[HL.out]; exact Nat.le_refl _)]at this;simp[this])
    go_wp2_with fail;go_ret;exact⟨am HT.out.symm,HB.out⟩
 ·have HT:=ab (show decide (rs=ss)=false by rw[decide_eq_false_iff_not]; intro e; exact hl (by rw[e]));have e1:((rs.length:Int) != (ss.length:Int))=true:=by simp; omega
  clear hl
  go_enter Tryz.func44,Tryz.ntmps44
  go_wp2_with fail;go_ret;exact⟨am HT.out.symm,Below.refl _ _⟩
end Go.Proofs.YtpffpjbkbaleiaaGreatDoor
namespace Go.Proofs.YtpffpjbkbaleiaaGreatDoor
open Go.RowKit
theorem uy (S T:Nat->Prop) (v u:Value) (rs ss:List aN) (b:Bool) (w:World) (hv:aV S w v rs) (hu:aV T w u ss) (h:decide (rs=ss)=b):
  Calls Tryz.prog 44 #[v,u] w fun e w'=>e= .returned (.bool b)/\Below w.heap.size w w':=by
 rw[<-h]; exact sA S T v u rs ss w hv hu
theorem sy (S T:Nat->Prop) (x y:aE) (cv cu:Value) (w:World) (hv:aV S w cv x.chunks) (hu:aV T w cu y.chunks):
  Calls Tryz.prog 30 #[eZ cv x,eZ cu y] w fun e w'=>e= .returned (.bool (decide (x=y)))/\Below w.heap.size w w':=by
 obtain⟨a,cap,rfl,-,-,-⟩:=aJ.shape hv fE.len;obtain⟨a2,cap2,rfl,-,-,-⟩:=aJ.shape hu fE.len;have HV:=ab hv;have HU:=ab hu;clear hv hu;unfold eZ;have HN:=ab (show ∀x y:ByteArray,x.toList=y.toList->x=y from fun x y h=>eM (by rw[<-ci,<-ci]; exact h));obtain⟨b,hcb⟩: ∃b,b=decide (x.chunks=y.chunks):=⟨_,rfl⟩;have HCB:=ab hcb
 clear hcb
 go_enter Tryz.func30,Tryz.ntmps30
 go_wp2_with fail
 ·have y0:x.name=y.name:=HN.out _ _ (by assumption);have y1:x.kind=y.kind:=by assumption
  have y2:x.mode=y.mode:=by assumption
  have y3:x.time=y.time:=by assumption
  have y4:x.size=y.size:=by assumption
  have y5:x.link=y.link:=HN.out _ _ (by assumption);have y6:x.node.name=y.node.name:=HN.out _ _ (by assumption);have y7:x.node.gen=y.node.gen:=by assumption
  have y8:x.node.size=y.node.size:=by assumption
  have HF:=ab (show decide (x=y)=b by
   rw[HCB.out];have y9:x.node=y.node:=by
    cases hxn:x.node
    cases hyn:y.node
    rw[hxn,hyn]at y6 y7 y8;simp only at y6 y7 y8;rw[y6,y7,y8]
   cases x
   cases y
   simp only at y0 y1 y2 y3 y4 y5 y9;simp[y0,y1,y2,y3,y4,y5,y9])
  clear y0 y1 y2 y3 y4 y5 y6 y7 y8;have HB:=ab (((Below.refl w.heap.size w).alloc (Nat.le_refl _) (.cells #[.string x.name, .int .i64 y.kind, .int .i64 y.mode, .int .i64 y.time, .int .i64 y.size, .string x.link, .slice a x.chunks.length cap, .string x.node.name, .int .i64 y.node.gen, .int .i64 y.node.size] 28)).alloc (by simp) (.cells #[.string y.name, .int .i64 y.kind, .int .i64 y.mode, .int .i64 y.time, .int .i64 y.size, .string y.link, .slice a2 y.chunks.length cap2, .string y.node.name, .int .i64 y.node.gen, .int .i64 y.node.size] 28))
  refine(uy _ _ _ _ x.chunks y.chunks b _ (aJ.below HV.out (by omega) HB.out (fun _ _ _ h=>h)) (aJ.below HU.out (by omega) HB.out (fun _ _ _ h=>h)) HCB.out.symm).mono ?_;rintro e w1 ⟨rfl,hb1⟩;have HB1:=ab (ah HB.out hb1);clear hb1;go_wp2_with fail;go_ret;exact⟨am HF.out.symm,HB1.out⟩
 all_goals (
  go_ret;refine⟨am ?_,((Below.refl _ _).alloc (Nat.le_refl _) _).alloc (by simp) _⟩
  symm
  rw[decide_eq_false_iff_not];rintro rfl;exact absurd rfl (by assumption))
theorem ux (S T:Nat->Prop) (x y:aE) (cv cu:Value) (b:Bool) (w:World) (hv:aV S w cv x.chunks) (hu:aV T w cu y.chunks) (h:decide (x=y)=b):
  Calls Tryz.prog 30 #[eZ cv x,eZ cu y] w fun e w'=>e= .returned (.bool b)/\Below w.heap.size w w':=by
 rw[<-h]; exact sy S T x y cv cu w hv hu
theorem pX (S T:Nat->Prop) (v u:Value) (rs ss:List aE) (w:World) (hv:aM S w v rs) (hu:aM T w u ss):
  Calls Tryz.prog 19 #[v,u] w fun e w'=>e= .returned (.bool (decide (rs=ss)))/\Below w.heap.size w w':=by
 obtain⟨a,cap,rfl,hc,hm,-⟩:=aJ.shape hv cM.len;obtain⟨a2,cap2,rfl,hc2,hm2,-⟩:=aJ.shape hu cM.len;unfold maxLen at hm hm2;have HV:=ab hv;have HU:=ab hu;clear hv hu
 by_cases hl:rs.length=ss.length
 ·have HL:=ab hl;have hl2:ss.length=rs.length:=hl.symm;rw[hl2]at HU hc2 ⊢;clear hl hl2
  go_enter Tryz.func19,Tryz.ntmps19
  go_wp2_with fail
  go_loopw [5] (fun i wr=> ∃k:Nat,k<=rs.length/\i= .int .i64 k/\rs.take k=ss.take k/\Below w.heap.size w wr) (fun i _=>rs.length-(intOf i).toNat)
  case atStart=>exact⟨0,Nat.zero_le _,rfl,by simp,Below.refl _ _⟩
  case round=>
   obtain⟨k,hk,rfl,hn,hb⟩:=hrel;have HN:=ab hn;have HB:=ab hb;clear hn hb
   by_cases hlt:k<rs.length
   ·obtain⟨r,hr⟩: ∃r,rs[k]? =some r:=⟨rs[k],by simp[hlt]⟩;obtain⟨x,hx⟩: ∃x,ss[k]? =some x:=⟨ss[k]'(by have:=HL.out; omega),by simp⟩;have HR:=ab hr;have HX:=ab hx;obtain⟨W,hW⟩: ∃W:World,W=wr.drew:=⟨_,rfl⟩;have HBW:=ab (show Below w.heap.size w W by rw[hW]; exact HB.out.drew);obtain⟨b,o,ca,cc,rfl,hok,hrf,hbl,-,hcl⟩:=cW HV.out HBW.out hr;obtain⟨b2,o2,ca2,cc2,rfl,hok2,hrf2,hbl2,-,hcl2⟩:=cW (by have:=HU.out; rw[HL.out]at this; exact this) HBW.out hx
    have HRF:=ab hrf;have HRF2:=ab hrf2;have q0:=hcl 0 (by omega);have q1:=hcl 1 (by omega);have q2:=hcl 2 (by omega);have q3:=hcl 3 (by omega);have q4:=hcl 4 (by omega);have q5:=hcl 5 (by omega);have q6:=hcl 6 (by omega);have q7:=hcl 7 (by omega);have q8:=hcl 8 (by omega);have q9:=hcl 9 (by omega);simp only[cN,vr,Nat.add_zero]at q0 q1 q2 q3 q4 q5 q6 q7 q8 q9;have p0:=hcl2 0 (by omega)
    have p1:=hcl2 1 (by omega);have p2:=hcl2 2 (by omega);have p3:=hcl2 3 (by omega);have p4:=hcl2 4 (by omega);have p5:=hcl2 5 (by omega);have p6:=hcl2 6 (by omega);have p7:=hcl2 7 (by omega);have p8:=hcl2 8 (by omega);have p9:=hcl2 9 (by omega);simp only[cN,vr,Nat.add_zero]at p0 p1 p2 p3 p4 p5 p6 p7 p8 p9;clear hr hx hok hok2 hrf hrf2 hcl hcl2;obtain⟨bq,hbq⟩: ∃bq,bq=decide (r=x):=⟨_,rfl⟩
    have HBQ:=ab hbq;clear hbq;go_wp2_with fail;refine aw [some 8,none,some 1] (by kernel_rfl) (by kernel_rfl) (by kernel_rfl) ?_;simp only[bi,List.take_succ_cons,List.take_zero,List.drop_succ_cons,List.drop_zero];rw[<-hW];clear hW
    repeat (first | (refine aG rfl ?_; simp only[Act.put,aB,aC,aD]) | (refine aL rfl (fun K hK=> ?_); go_simp; refine hK _ ?_; clear hK K))
    refine aK ?_;refine bA rfl (fun K hK=> ?_);go_wp2_with (go_at_call 30; refine(ux S T r x (.slice ca r.chunks.length cc) (.slice ca2 x.chunks.length cc2) bq _ HRF.out HRF2.out HBQ.out.symm).mono ?_; rintro e w1 ⟨rfl,hb1⟩);have HB1:=ab (ah HBW.out hb1);clear hb1
    repeat (first | (refine aG rfl ?_; simp only[Act.put,aB,aC,aD]) | (refine aL rfl (fun K hK=> ?_); go_simp; refine hK _ ?_; clear hK K))
    refine aK ?_
    cases bq
    ·have HT:=ab (show decide (rs=ss)=false by
      rw[decide_eq_false_iff_not];intro e;have h1:=HR.out;rw[e,HX.out]at h1;exact(decide_eq_false_iff_not.1 HBQ.out.symm) (Option.some.inj h1).symm)
     go_wp2_with fail;go_ret;exact⟨am HT.out.symm,HB1.out⟩
    ·have HT:=ab (show rs.take (k+1)=ss.take (k+1) by rw[br HR.out,br HX.out,HN.out,of_decide_eq_true HBQ.out.symm]);go_wp2_with fail
     go_roundw
     case rel=>exact⟨k+1,by omega,by go_num,HT.out,HB1.out⟩
     case measure=>simp[intOf]; omega
   ·obtain rfl:k=rs.length:=by omega
    have HT:=ab (show decide (rs=ss)=true by
     have:=HN.out;rw[List.take_of_length_le (Nat.le_refl _),List.take_of_length_le (by rw[HL.out]; exact Nat.le_refl _)]at this;simp[this])
    go_wp2_with fail;go_ret;exact⟨am HT.out.symm,HB.out⟩
 ·have HT:=ab (show decide (rs=ss)=false by rw[decide_eq_false_iff_not]; intro e; exact hl (by rw[e]));have e1:((rs.length:Int) != (ss.length:Int))=true:=by simp; omega
  clear hl
  go_enter Tryz.func19,Tryz.ntmps19
  go_wp2_with fail;go_ret;exact⟨am HT.out.symm,Below.refl _ _⟩
end Go.Proofs.YtpffpjbkbaleiaaGreatDoor
namespace Go.Proofs.YtpffpjbkbaleiaaGreatDoor
open Go.RowKit
theorem vC (S:Nat->Prop) (data:List UInt8) (v:Value) (l:List aE) (w:World) (hv:aF S w v data) (he:fN w) (h:cG data=some l):Calls Tryz.prog 18 #[v] w fun e w'=> ∃a c,e= .returned (.tuple #[.slice a l.length c, .int .i64 0])/\aM (w.heap.size<= ·) w' (.slice a l.length c) l/\l.length<=c/\c<=maxLen/\Below w.heap.size w w':=by
 refine(lG S data v w hv he).mono ?_;rintro e w' ⟨hb,hr⟩;rw[h]at hr;obtain⟨u,rfl,hu⟩:=hr;obtain⟨a,c,rfl,hc,hm,-⟩:=aJ.shape hu cM.len;exact⟨a,c,rfl,hu,hc,hm,hb⟩
theorem CI (S:Nat->Prop) (l:List aE) (v:Value) (w:World) (hv:aM S w v l) (he:fN w) (hvn:cb l=true) (hsm:(bu l).length<=32768) (htm: ∀it∈l,it.time<9223372036854775808):
  Calls Tryz.prog 15 #[v] w fun e w'=> ∃a c,e= .returned (.tuple #[.slice a (bu l).length c, .int .i64 0])/\aF (w.heap.size<= ·) w' (.slice a (bu l).length c) (bu l)/\(bu l).length<=c/\c<=maxLen/\Below w.heap.size w w':=by
 refine(jz S l v w hv he (by omega) htm).mono ?_;rintro e w' ⟨hb,hr⟩;rw[if_pos hvn,if_pos hsm]at hr;obtain⟨u,rfl,hu⟩:=hr;have hby:aF (w.heap.size<= ·) w' u (bu l):=(ba hu).weak (fun _ hk=>hk.1);obtain⟨_,a,c,rfl,hc,hm,-⟩:=id hby
 exact⟨a,c,rfl,hby,hc,hm,hb⟩
end Go.Proofs.YtpffpjbkbaleiaaGreatDoor
namespace Go.Proofs.YtpffpjbkbaleiaaGreatDoor
theorem nS : ∀ {l m:List dl} {a b:List UInt8},bB l= .ok a->bB m= .ok b->bB (l++m)= .ok (a++b)
 | [],m,a,b,h1,h2=>by
  simp only[bB,Except.ok.injEq]at h1;subst h1
  simpa using h2
 | y::l,m,a,b,h1,h2=>by
  rw[bB]at h1
  cases hy:eI y with
  | error e=>rw[hy]at h1; simp at h1
  | ok c=>
   rw[hy]at h1;simp only at h1
   cases hk:bB l with
   | error e=>rw[hk]at h1; simp at h1
   | ok d=>
    rw[hk]at h1;simp only[Except.ok.injEq]at h1;subst h1;simp only[List.cons_append,bB,hy,nS hk h2,List.append_assoc]
theorem cC {x:dl} {l:List dl} {a b:List UInt8} (h1:eI x= .ok a) (h2:bB l= .ok b):bB (x::l)= .ok (a++b):=by
 simp only[bB,h1,h2]
theorem js {α:Type} {f:α->List dl} {g:α->List UInt8} : ∀ {l:List α},(∀x∈l,bB (f x)= .ok (g x))->bB (l.flatMap f)= .ok (l.flatMap g)
 | [],_=>rfl
 | x::l,h=>by
  rw[List.flatMap_cons,List.flatMap_cons];exact nS (h x (by simp)) (js (fun y hy=>h y (by simp[hy])))
theorem jr {n:Int} (h0:0<=n) (h1:n<18446744073709551616):eI (cH n)= .ok (au n.toNat):=by
 unfold eI cH;rw[if_pos rfl,show n%18446744073709551616=n by omega]
theorem qz (s:ByteArray):eI (gA s)= .ok (au s.size++bl s):=by simp[eI,gA]
theorem Ak {s:ByteArray} (h:s.size=32):eI (wj s)= .ok (bl s):=by simp[eI,wj,h]
theorem nR (n:Nat):eI (dB n)= .ok (au n):=by
 have h: ¬((n:Int)<0):=by omega
 have e:eI (dB n)=if(n:Int)<0 then .error 1 else .ok (au (n:Int).toNat):=rfl
 rw[e,if_neg h,Int.toNat_natCast]
theorem nT {r:aN} (h:dT r=true):bB (bm r)= .ok (bQ r):=by
 obtain⟨h1,h2,h3,h4,h5⟩:=eV.1 h;have:=cC (Ak h1) (cC (jr h2 (by omega)) (cC (jr h4 (by omega)) (show bB []= .ok []from rfl)))
 simpa [bm,bQ]using this
theorem tr {it:aE} (hv:cr it=true) (ht:it.time<9223372036854775808):bB (bN it)= .ok (bU it):=by
 have hv':=hv;unfold cr at hv';rw[Bool.and_eq_true]at hv';have hh:=jw.1 hv'.1;have hk:=iq hv'.2;have htail:bB (if it.kind=1 then dB it.chunks.length::it.chunks.flatMap bm else if it.kind=2 then bm it.node else [gA it.link])= .ok (eD it):=by
  unfold eD
  rcases hk with hk | hk | hk
  ·rw[if_pos hk,if_pos hk];exact cC (nR _) (js (fun r hr=>nT ((fd hk hv'.2).2.2.1 r hr).1))
  ·rw[if_neg (by omega),if_pos hk,if_neg (by omega),if_pos hk];exact nT (jk hk hv'.2).2.2.2
  ·rw[if_neg (by omega),if_neg (by omega),if_neg (by omega),if_neg (by omega)];have:=cC (qz it.link) (show bB []= .ok []from rfl)
   simpa using this
 have:=cC (qz it.name) (cC (jr (n:=it.kind) (by omega) (by omega)) (cC (jr (n:=it.mode) hh.md0 (by have:=hh.md1; omega)) (cC (jr (n:=it.time) hh.tm0 (by omega)) htail)));unfold bN bU
 simpa using this
theorem AK {l:List aE} (hv:cb l=true) (ht: ∀it∈l,it.time<9223372036854775808) (hs:(bu l).length<=1048576):oI l=bu l:=by
 have h:bB (cz l)= .ok (bu l):=by
  unfold cz bu;exact cC (nR _) (js (fun it hit=>tr ((gg hv).2 it hit) (ht it hit)))
 unfold oI pI;rw[h];simp only;rw[if_neg (by omega)]
end Go.Proofs.YtpffpjbkbaleiaaGreatDoor
namespace Go.Proofs.YtpffpjbkbaleiaaGreatDoor
open Go.RowKit
theorem nV {r:aN} (h:dT r=true):(bQ r).length<=54:=by
 obtain⟨h1,_⟩:=eV.1 h;unfold bQ;rw[List.length_append,List.length_append,<-ay,h1];have:=aX r.gen.toNat
 have:=aX r.size.toNat
 omega
theorem nW : ∀ {l:List aN},(∀r∈l,dT r=true)->(l.flatMap bQ).length<=54*l.length
 | [],_=>by simp
 | r::l,h=>by
  have h1:=nV (h r (by simp));have h2:=nW (l:=l) (fun x hx=>h x (by simp[hx]));rw[List.flatMap_cons,List.length_append,List.length_cons];omega
theorem oH :bC.name.size=0:=rfl
theorem mL {it:aE} (hv:cr it=true):zJ it/\bP it=true:=by
 unfold cr at hv;rw[Bool.and_eq_true]at hv;exact⟨jw.1 hv.1,hv.2⟩
theorem vA {it:aE} (hv:cr it=true):ng it:=by
 obtain⟨hh,hb⟩:=mL hv;have hn:=jn hh.val hh.nos;rw[<-ay]at hn;have he:(⟨#[]⟩:ByteArray).size=0:=rfl
 rcases iq hb with hk | hk | hk
 ·obtain⟨h1,h2,h3,-,-⟩:=fd hk hb;exact⟨by omega,by rw[h1,he]; omega,by rw[h2,oH]; omega,fun c hc=>by have:=(eV.1 (h3 c hc).1).1; omega⟩
 ·obtain⟨h1,-,h3,h4⟩:=jk hk hb;exact⟨by omega,by rw[h1,he]; omega,by have:=(eV.1 h4).1; omega,fun c hc=>by rw[h3]at hc; cases hc⟩
 ·obtain⟨-,h2,h3,h4,h5,-⟩:=jR hk hb;exact⟨by omega,by omega,by rw[h3,oH]; omega,fun c hc=>by rw[h2]at hc; cases hc⟩
theorem CA {it:aE} (hv:cr it=true) (hc:it.chunks.length<=20):(bU it).length<=2000:=by
 obtain⟨hh,hb⟩:=mL hv;have hn:=jn hh.val hh.nos;have ht:(eD it).length<=1200:=by
  unfold eD
  rcases iq hb with hk | hk | hk
  ·rw[if_pos hk,List.length_append];have:=nW (l:=it.chunks) (fun r hr=>((fd hk hb).2.2.1 r hr).1);have:=aX it.chunks.length;omega
  ·rw[if_neg (by omega),if_pos hk];have:=nV (jk hk hb).2.2.2;omega
  ·rw[if_neg (by omega),if_neg (by omega),List.length_append,<-ay];have:=(jR hk hb).2.2.2.2.1;have:=aX it.link.size;omega
 unfold bU;simp only[List.length_append];have:=aX it.name.size;have:=aX it.kind.toNat
 have:=aX it.mode.toNat
 have:=aX it.time.toNat
 omega
theorem tO : ∀ {l:List aE},(∀it∈l,cr it=true/\it.chunks.length<=20)->(l.flatMap bU).length<=2000*l.length
 | [],_=>by simp
 | x::l,h=>by
  have h1:=CA (h x (by simp)).1 (h x (by simp)).2;have h2:=tO (l:=l) (fun y hy=>h y (by simp[hy]));rw[List.flatMap_cons,List.length_append,List.length_cons];omega
theorem xg {l:List aE} (hv:cb l=true) (hl:l.length<=20) (hc: ∀it∈l,it.chunks.length<=20):(bu l).length<=50000:=by
 have h:=tO (l:=l) (fun it hit=>⟨(gg hv).2 it hit,hc it hit⟩);have:=aX l.length;unfold bu;rw[List.length_append];omega
theorem yf {it:aE} (hc:it.chunks.length<=20):(bN it).length<=100:=by
 have hf:(it.chunks.flatMap bm).length=3*it.chunks.length:=by
  induction it.chunks with
  | nil=>rfl
  | cons r l ih=>rw[List.flatMap_cons,List.length_append,ih,List.length_cons]; simp[bm]; omega
 unfold bN;rw[List.length_append]
 split
 ·simp[hf]; omega
 ·split<;> simp[bm]
theorem ud {l:List aE} (hl:l.length<=20) (hc: ∀it∈l,it.chunks.length<=20):(cz l).length<=10000:=by
 have: ∀ {l:List aE},(∀it∈l,it.chunks.length<=20)->(l.flatMap bN).length<=100*l.length:=by
  intro l
  induction l with
  | nil=>intro _; simp
  | cons x l ih=>
   intro h;have h1:=yf (h x (by simp));have h2:=ih (fun y hy=>h y (by simp[hy]));rw[List.flatMap_cons,List.length_append,List.length_cons];omega
 have h:=this hc;unfold cz;rw[List.length_cons];omega
theorem AN (S:Nat->Prop) (l:List aE) (v:Value) (w:World) (hv:aM S w v l) (henv:fN w) (hval:cb l=false):Calls Tryz.prog 15 #[v] w fun e w'=>e= .returned (.tuple #[.slice none 0 0, .int .i64 1])/\Below w.heap.size w w':=by
 obtain⟨a,cap,rfl,hc,hm,-⟩:=aJ.shape hv cM.len;unfold maxLen at hm;have HV:=ab hv;have HE:=ab henv;have HVN:=ab hval;clear hv henv hval
 go_enter Tryz.func15,Tryz.ntmps15
 go_wp2_with fail;refine(eW S l _ false w HV.out HE.out HVN.out).mono ?_;rintro e w1 ⟨rfl,hb1⟩;have HB1:=ab hb1;clear hb1;go_wp2_with fail
 go_ret2
 exact⟨rfl,HB1.out⟩
theorem AO (S:Nat->Prop) (l:List aE) (v:Value) (w:World) (hv:aM S w v l) (he:fN w) (hvn:cb l=true) (hsm:32768<(bu l).length) (hb:(bu l).length<=50000) (htm: ∀it∈l,it.time<9223372036854775808):
  Calls Tryz.prog 15 #[v] w fun e w'=>e= .returned (.tuple #[.slice none 0 0, .int .i64 2])/\Below w.heap.size w w':=by
 refine(jz S l v w hv he (by omega) htm).mono ?_;rintro e w' ⟨hb,hr⟩;rw[if_pos hvn,if_neg (by omega)]at hr;exact⟨hr,hb⟩
theorem lF (S:Nat->Prop) (l:List aE) (v:Value) (b:Bool) (w:World) (hv:aM S w v l) (h:cb l=b):Calls Tryz.prog 16 #[v] w fun e w'=>e= .returned (.bool b)/\Below w.heap.size w w':=by
 rw[<-h]; exact Ar vy S l v w hv
theorem qS (S:Nat->Prop) (v:Value) (l:List aE) (w:World) (hv:aM S w v l) (hvn:cb l=true) (hl:l.length<=20) (hc: ∀it∈l,it.chunks.length<=20) (ht: ∀it∈l,it.time<9223372036854775808):
  Calls Tryz.prog 17 #[v] w fun e w'=> ∃a c,e= .returned (.slice a (bu l).length c)/\aF (w.heap.size<= ·) w' (.slice a (bu l).length c) (bu l)/\(bu l).length<=c/\c<=maxLen/\Below w.heap.size w w':=by
 refine(vL S v l w hv (fun it hit=>vA ((gg hvn).2 it hit)) (by have:=ud hl hc; omega) (by omega)).mono ?_;rintro e w' ⟨u,rfl,hu,hb⟩;rw[AK hvn ht (by have:=xg hvn hl hc; omega)]at hu;obtain⟨_,a,c,rfl,hc1,hm,-⟩:=id hu;exact⟨a,c,rfl,hu,hc1,hm,hb⟩
theorem AJ (v:Value) (l:List aE) (w:World) (he:kq w) (hv:aM (fun _=>True) w v l) (ht: ∀it∈l,it.time<9223372036854775808):
  Calls Tryz.prog 3 #[v] w fun e w'=>e= .returned (.bool true)/\Below w.heap.size w w':=by
 obtain⟨a,cap,rfl,hcp,hm,-⟩:=aJ.shape hv cM.len;unfold maxLen at hm;have HE:=ab he;have HV:=ab hv;have HT:=ab ht;clear he hv ht
 by_cases hbig:20<l.length
 ·go_enter Tryz.func3,Tryz.ntmps3
  go_wp2_with fail;refine(mf _ HE.out).mono ?_;rintro e w1 ⟨rfl,hb1⟩;go_wp2_with fail;go_ret;exact⟨rfl,hb1⟩
 ·go_enter Tryz.func3,Tryz.ntmps3
  go_wp2_with fail;refine(mf _ HE.out).mono ?_;rintro e w1 ⟨rfl,hb1⟩;have HB1:=ab hb1;have HV1:=ab (aM.below HV.out hb1);clear hb1;go_wp2_with fail
  go_loopw [3] (fun i wr=> ∃k:Nat,k<=l.length/\i= .int .i64 k/\(∀it∈l.take k,it.chunks.length<=20)/\wr=w1) (fun i _=>l.length-(intOf i).toNat)
  case atStart=>exact⟨0,Nat.zero_le _,rfl,by simp,rfl⟩
  case round=>
   obtain⟨k,hk,rfl,hcs,rfl⟩:=hrel;have HCS:=ab hcs;clear hcs
   by_cases hlt:k<l.length
   ·obtain⟨it,hr⟩: ∃it,l[k]? =some it:=⟨l[k],by simp[hlt]⟩;obtain⟨b,o,ca,cc,rfl,hok,hrf,hbl,-,hcl⟩:=cW HV1.out (Below.refl _ _) hr;obtain⟨_,_,e6,hcc,hcm,-⟩:=aJ.shape hrf fE.len
    cases e6
    unfold maxLen at hcm;have q6:=hcl 6 (by omega);simp only[cN,vr]at q6;have HR:=ab hr;clear hr hok hrf hcl
    by_cases h20:20<it.chunks.length
    ·go_wp2_with fail;go_ret;exact⟨rfl,HB1.out⟩
    ·have HCX:=ab (show ∀x∈l.take (k+1),x.chunks.length<=20 by
      rw[br HR.out];intro x hx
      rcases List.mem_append.1 hx with hx | hx
      ·exact HCS.out x hx
      ·obtain rfl:=List.mem_singleton.1 hx
       omega)
     go_wp2_with fail
     go_roundw
     case rel=>exact⟨k+1,by omega,by go_num,HCX.out,trivial⟩
     case measure=>simp[intOf]; omega
   ·obtain rfl:k=l.length:=by omega
    have HCA:=ab (show ∀it∈l,it.chunks.length<=20 by have:=HCS.out; rwa [List.take_of_length_le (Nat.le_refl _)]at this);have h20:l.length<=20:=by omega
    go_wp2_with fail;have hen:=(HE.out.below HB1.out).env
    cases hvn:cb l
    ·have HVN:=ab hvn;clear hvn;refine(AN _ l _ _ HV1.out hen HVN.out).mono ?_;rintro e w2 ⟨rfl,hb2⟩;have HB2:=ab (ah HB1.out hb2);have HV2:=ab (aM.below HV1.out hb2);clear hb2;go_wp2_with fail;refine(lF _ l _ false _ HV2.out HVN.out).mono ?_;rintro e w3 ⟨rfl,hb3⟩;have HB3:=ab (ah HB2.out hb3);clear hb3;go_wp2_with fail;go_ret;exact⟨rfl,HB3.out⟩
    ·have HVN:=ab hvn;have HLE:=ab (xg hvn h20 HCA.out);clear hvn
     by_cases hsm:(bu l).length<=32768
     ·refine(CI _ l _ _ HV1.out hen HVN.out hsm HT.out).mono ?_;rintro e w2 ⟨na,nc,rfl,hn2,hnc,hnm,hb2⟩;obtain⟨m,hm'⟩: ∃m,m=(bu l).length:=⟨_,rfl⟩;have HM:=ab hm';have HB2:=ab (ah HB1.out hb2);have HV2:=ab (aM.below HV1.out hb2);have HN2:=ab hn2;rw[<-hm']at hsm hnc ⊢;unfold maxLen at hnm;clear hb2 hn2 hm';go_wp2_with fail;refine(lF _ l _ true _ HV2.out HVN.out).mono ?_
      rintro e w3 ⟨rfl,hb3⟩;have HB3:=ab (ah HB2.out hb3);have HV3:=ab (aM.below HV2.out hb3);have HN3:=ab (aO.below HN2.out (by omega) hb3);clear hb3;go_wp2_with fail;refine(qS _ _ l _ HV3.out HVN.out h20 HCA.out HT.out).mono ?_;rintro e w4 ⟨ma,mc,rfl,hm4,hmc,hmm,hb4⟩;have HB4:=ab (ah HB3.out hb4);have HV4:=ab (aM.below HV3.out hb4);have HN4:=ab (aO.below HN3.out (by omega) hb4)
      have HM4:=ab hm4;rw[<-HM.out]at hmc ⊢;unfold maxLen at hmm;clear hb4 hm4;go_wp2_with fail;have hits:=vC _ (bu l) (.slice na m nc) l w4 (by rw[HM.out]; exact HN4.out) (HE.out.below HB4.out).env (AP HVN.out HT.out (by rw[<-HM.out]; exact hsm));refine hits.mono ?_;rintro e w5 ⟨ia,ic,rfl,hi5,hic,him,hb5⟩;have HB5:=ab (ah HB4.out hb5);have HV5:=ab (aM.below HV4.out hb5)
      have hcv:=gk (aO.below HN4.out (by omega) hb5);have hcn:=gk (aO.below HM4.out (by omega) hb5);rw[<-HM.out]at hcv hcn;have HI5:=ab hi5;unfold maxLen at him;clear hb5 hi5 hits;go_wp2_with fail;refine(pX _ _ _ _ l l _ HI5.out HV5.out).mono ?_;rintro e w6 ⟨rfl,hb6⟩;rw[show decide (l=l)=true from decide_eq_true rfl];have HB6:=ab (ah HB5.out hb6)
      clear hb6;go_wp2_with fail;go_ret;exact⟨rfl,HB6.out⟩
     ·refine(AO _ l _ _ HV1.out hen HVN.out (by omega) HLE.out HT.out).mono ?_;rintro e w2 ⟨rfl,hb2⟩;have HB2:=ab (ah HB1.out hb2);have HV2:=ab (aM.below HV1.out hb2);clear hb2;go_wp2_with fail;refine(lF _ l _ true _ HV2.out HVN.out).mono ?_;rintro e w3 ⟨rfl,hb3⟩;have HB3:=ab (ah HB2.out hb3);have HV3:=ab (aM.below HV2.out hb3);clear hb3;go_wp2_with fail
      refine(qS _ _ l _ HV3.out HVN.out h20 HCA.out HT.out).mono ?_;rintro e w4 ⟨ma,mc,rfl,hm4,hmc,hmm,hb4⟩;obtain⟨m,hm'⟩: ∃m,m=(bu l).length:=⟨_,rfl⟩;have HB4:=ab (ah HB3.out hb4);rw[<-hm']at hsm hmc ⊢;unfold maxLen at hmm;clear hb4 hm4 hm';go_wp2_with fail;go_ret;exact⟨rfl,HB4.out⟩
end Go.Proofs.YtpffpjbkbaleiaaGreatDoor
namespace Go.Proofs.YtpffpjbkbaleiaaGreatDoor
open Go.ChangeShapes Go.WideShapes Go.ChangeAt Go.RowKit Go.Lib Go.Shelf
open Go.ChangeMaps (open_string shut_string)
section
variable {H : Type} {enc : TypeId × Value → H}
theorem DE {a:Assume} {C:Checked} {os:Os} {f:FuncId} {fn:Func} {s:ChangeSpec} {conds:List PathCond} {apart fresh handsOn again:Bool} {X:World->Array Value->Prop}
  (hX: ∀(w w':World) (args:Array Value),w.heap=w'.heap->X w args->X w' args)
  (own:ownKnob C.prog.godebug=none) (started:os.Started) (noInit:C.prog.inits.idxOf? f=none) (hfn:C.prog.funcs[f]? =some fn)
  (witness: ∃(w:World) (tape:Tape) (i:Input),w.os=os/\(w.forCall tape i).Shaped C.prog/\i.vars=[]/\Input.okWide C.prog (w.forCall tape i) .any w.heap.size f i/\
   ((s.pre enc C.prog fn conds apart (w.forCall tape i).memory i.args/\X (w.forCall tape i).memory i.args)/\sizedMet enc C.prog fn (OpenSpec.ofChange s) apart (w.forCall tape i).memory i.args)/\a.holds C.prog (lone (Frame.enter C.prog f i.args .normal) [] (w.forCall tape i)))
  (contract: ∀(W:World) (base:Nat) (args:Array Value) (ds gs:List (DataW H)) (before:List MemPlace),
   (∀(j:Nat) t v,fn.params[j]? =some t->args[j]? =some v->Value.okWide C.prog W .any base t v)->
   DataW.Whole enc C.prog fn.params.toList s.vars apart W args.toList ds gs before->
   (DataW.weightsEach C.prog (fn.params.toList++s.plain.varTypes C.prog) (ds++gs)).all (· <=reachBytes)=true->X W args->W.ShapedOpen C.prog->
   Calls C.prog f args W fun e W'=> ∃v,e= .returned v/\s.post enc C.prog fn apart fresh handsOn again W args v W'):
  ReturnsInHanded a C os f .any (fun w args=>(s.pre enc C.prog fn conds apart w args/\X w args)/\sizedMet enc C.prog fn (OpenSpec.ofChange s) apart w args) (s.post enc C.prog fn apart fresh handsOn again):=by
 refine returnsInHanded_of_calls own started noInit witness ?_;intro w tape i _ hsh _ hok hpre hholds;obtain⟨_,_,_,fn',hfn',_,_,_,_,hval⟩:=hok;have e:fn'=fn:=Option.some.inj (hfn'.symm.trans hfn);subst e;obtain⟨⟨⟨ds,gs,before,hw,hc⟩,hx⟩,hz⟩:=hpre;have hw':=DataW.Whole.of_heap (w':=w.forCall tape i) (by rfl) hw;refine(contract (w.forCall tape i) w.heap.size i.args ds gs before hval hw' (hz.weights hw) (hX _ _ _ (by rfl) hx) hsh).mono fun e W' ⟨v,he,hp⟩=> ?_
 subst he;exact ChangeSpec.post_blind hp
end
def tS :List (String×DataW Unit):=[("math/bits.deBruijn64tab",Rows.laid_math_bits_deBruijn64tab),("kinkeep/sha256.initial",Rows.laid_kinkeep_sha256_initial),("kinkeep/sha256.constants",Rows.laid_kinkeep_sha256_constants),("kinkeep/hmac.pads",Rows.laid_kinkeep_hmac_pads),("unicode/utf8.acceptRanges",Rows.laid_unicode_utf8_acceptRanges),("unicode/utf8.first",Rows.laid_unicode_utf8_first)]
theorem own :ownKnob Tryz.prog.godebug=none:=by kernel_rfl
theorem xD :(Rows.laid_unicode_utf8_acceptRanges:DataW Unit)=acceptData:=by kernel_rfl
theorem xL :(Rows.laid_math_bits_deBruijn64tab:DataW Unit)=tabData .u8 (Lib.deBruijn64tab.map fun(n:Nat)=>(n:Int)):=by kernel_rfl
theorem vt :(Rows.laid_kinkeep_sha256_initial:DataW Unit)=tabData .u32 (lT.list.map fun(n:Nat)=>(n:Int)):=by kernel_rfl
theorem rM :(Rows.laid_kinkeep_sha256_constants:DataW Unit)=tabData .u32 (kc.map fun(n:Nat)=>(n:Int)):=by kernel_rfl
theorem CO :(Rows.laid_kinkeep_hmac_pads:DataW Unit)=tabData .u8 [54,92]:=by kernel_rfl
theorem kf {P:Program} {w:World} {n:String} {k:IntKind} {zs:List Int} {g:Nat} {t e:TypeId} {N:Nat} (hg:P.globalNamed n=some g) (hty:(P.globals[g]?).map (·.type)=some t)
  (ht:P.underlying t=some (.array N e)) (he:P.underlying e=some (.int k)) (hce:P.cellsOf e=1) (hct:P.cellsOf t=N) (h:VarReads P w n (tabData k zs)) (j:Nat):w.cell? ⟨g,j,none⟩=(zs.map fun z=>Value.int k z)[j]? :=by
 obtain⟨g',t',cs,fuel,p,hg',hty',hvar,hd⟩:=h;obtain rfl:=Option.some.inj (hg.symm.trans hg');obtain rfl:=Option.some.inj (hty.symm.trans hty');rw[World.var?_cell hg hvar j,<-Array.getElem?_toList,cells_of_tab ht he hce hct hd]
theorem nj {w:World} {b k:Nat} {v:Value} (h:w.cell? ⟨b,k,none⟩=some v):b<w.heap.size:=by
 by_cases hb:b<w.heap.size
 ·exact hb
 ·exfalso
  have:w.heap[b]? =none:=Array.getElem?_eq_none (by omega);simp[World.cell?,this]at h
theorem DD {W:World} (hL:laidMetH Tryz.prog tS W) (hsh:W.ShapedOpen Tryz.prog):kq W:=by
 rw[MakeChecks.laidMetH_plain _ _ _ (by kernel_rfl)]at hL;have h1:=Lib.laidMet.reads hL (.head _);have h2:=Lib.laidMet.reads hL (.tail _ (.head _));have h3:=Lib.laidMet.reads hL (.tail _ (.tail _ (.head _)));have h4:=Lib.laidMet.reads hL (.tail _ (.tail _ (.tail _ (.head _))));have h5:=Lib.laidMet.reads hL (.tail _ (.tail _ (.tail _ (.tail _ (.head _)))));have h6:=Lib.laidMet.reads hL (.tail _ (.tail _ (.tail _ (.tail _ (.tail _ (.head _))))))
 rw[xL]at h1;rw[vt]at h2;rw[rM]at h3;rw[CO]at h4;rw[xD]at h5;have c1:=kf (g:=6) (t:=213) (e:=5) (N:=64) (by kernel_rfl) (by kernel_rfl) (by kernel_rfl) (by kernel_rfl) (by kernel_rfl) (by kernel_rfl) h1;have c2:=kf (g:=2) (t:=216) (e:=215) (N:=8) (by kernel_rfl) (by kernel_rfl) (by kernel_rfl) (by kernel_rfl) (by kernel_rfl) (by kernel_rfl) h2
 have c3:=kf (g:=5) (t:=252) (e:=215) (N:=64) (by kernel_rfl) (by kernel_rfl) (by kernel_rfl) (by kernel_rfl) (by kernel_rfl) (by kernel_rfl) h3;have c4:=kf (g:=0) (t:=221) (e:=5) (N:=2) (by kernel_rfl) (by kernel_rfl) (by kernel_rfl) (by kernel_rfl) (by kernel_rfl) (by kernel_rfl) h4;have hp0:W.cell? ⟨0,0,none⟩=some (.int .u8 54):=c4 0;have hp1:W.cell? ⟨0,1,none⟩=some (.int .u8 92):=c4 1
 have hI:gT W:=fun j x hj=>by
  rw[c2 j];simp[hj,fB]
 have hK:fa W:=fun j x hj=>by
  rw[c3 j];simp[hj,fB]
 have hD:TabAt 6 Lib.deBruijn64tab W:=fun j hj=>by
  rw[c1 j];simp[hj]
 have hi0:=hI 0 0x6a09e667 rfl;have hk0:=hK 0 0x428a2f98 rfl;have hd0:=hD 0 (by decide);refine⟨⟨?_, ?_⟩,⟨hI,hK,⟨hp0,hp1⟩,nj hi0,nj hk0,nj hp0⟩,⟨hD,nj hd0⟩⟩
 ·exact cell_of_shapedOpen_int (zero:= #[.int .i64 0]) (t:=3) hsh (of_decide_eq_true (by kernel_rfl)) (by kernel_rfl) rfl (by kernel_rfl) (by kernel_rfl) Tryz.underlying3
 ·exact utf8Tabs_of_readsT (U8Types.of196 Tryz.laysValid) ⟨by kernel_rfl,by kernel_rfl,by kernel_rfl,by kernel_rfl,by kernel_rfl,by kernel_rfl,by kernel_rfl⟩ (Pinned.utf8First_eq▸h6) h5
end Go.Proofs.YtpffpjbkbaleiaaGreatDoor
namespace Go.Proofs.YtpffpjbkbaleiaaGreatDoor
open Go Go.RowKit Go.Maps Go.MapKept
theorem bt.len {S:Nat->Prop} {w:World} : ∀ {m:List (Value×Value)} {cs:List (ByteArray×List UInt8)},bt S w m cs->m.length=cs.length
 | [],[],_=>rfl
 | [],_::_,h=>False.elim h
 | _::_,[],h=>False.elim h
 | (_,_)::_,(_,_)::_,h=>by simp[bt.len h.2.2]
theorem bt.vals {S:Nat->Prop} {w:World} : ∀ {m:List (Value×Value)} {cs:List (ByteArray×List UInt8)},bt S w m cs-> ∀p∈m,∃n bs,p.1= .string n/\aF S w p.2 bs
 | [],[],_,_,hp=>by simp at hp
 | [],_::_,h,_,_=>False.elim h
 | _::_,[],h,_,_=>False.elim h
 | (k,v)::m,(n,bs)::cs,h,p,hp=>by
  rcases List.mem_cons.1 hp with rfl | hp
  ·exact⟨n,bs,h.1,h.2.1⟩
  ·exact bt.vals h.2.2 p hp
end Go.Proofs.YtpffpjbkbaleiaaGreatDoor
namespace Go.Proofs.YtpffpjbkbaleiaaGreatDoor
open Go.ChangeShapes Go.WideShapes Go.ChangeAt Go.RowKit Go.Lib Go.Shelf
section
variable {H : Type} {enc : TypeId × Value → H} {P : Program} {W : World} {base : Nat}
theorem Cj (a:Addr) (i j:Nat):(a.add i).add j=a.add (i+j):=by
 unfold Addr.add
 by_cases hi:i=0
 ·simp[hi]
 ·by_cases hj:j=0
  ·simp[hi,hj]
  ·simp[hi,hj]; omega
theorem uA {α:Type} {R:List Value->α->Prop} {t e:TypeId} {sz:Nat} {spare:Nat->Bool} {held:Bool} {fuel:Nat} {cs0:List Value} {y0:DataW H×List MemPlace} (ht:P.underlying t=some (.slice e)) (hc:P.cellsOf e=sz) (hpos:0<sz)
  (hR: ∀n cs y,DataW.trod enc P W base spare held n e cs=some y-> ∃x,R cs x) (hs: ∀c x,R c x->c.length=sz)
  (hf:DataW.trod enc P W base spare held fuel t cs0=some y0): ∃v,cs0=[v]/\ ∃xs:List α,aJ (fun _=>True) W sz R v xs:=by
 rcases DataW.trod_slice ht hf with⟨hcs,_⟩ | ⟨a,len0,cap0,elems,rest,n,_,hcs,_,hb,hl,hm,hlen,hel,_,_⟩
 ·exact⟨_,hcs,[],aJ.nil⟩
 ·refine⟨_,hcs, ?_⟩;rw[hc]at hel;have each: ∀i,i<len0-> ∃cs x,R cs x/\cs.length=sz/\ ∀j,j<sz->W.cell? (a.add (i*sz+j))=cs[j]? :=by
   intro i hi;have h1:=hel i hi;rw[List.getElem?_eq_getElem (by omega),Option.bind_eq_some_iff]at h1;obtain⟨cs,hcs,hy⟩:=h1;obtain⟨x,hx⟩:=hR n cs _ hy;refine⟨cs,x,hx,hs cs x hx,fun j hj=> ?_⟩;have h3:=World.cells?_some hcs;rw[<-Cj];exact h3.2.2 j hj
  have main: ∀m,m<=len0-> ∃(cells:List Value) (xs:List α),xs.length=m/\cells.length=m*sz/\bM R cells xs/\ ∀(j:Nat) u,cells[j]? =some u->W.cell? (a.add j)=some u:=by
   intro m
   induction m with
   | zero=>intro _; exact⟨[],[],rfl,by simp,rfl,fun j u hj=>by simp at hj⟩
   | succ m ih=>
    intro hm;obtain⟨cells,xs,h1,h2,h3,h4⟩:=ih (by omega);obtain⟨cs,x,hx,hcl,hcc⟩:=each m (by omega);refine⟨cells++cs,xs++[x],by simp[h1],by rw[List.length_append,h2,hcl,Nat.add_mul]; omega,bM.snoc h3 hx,fun j u hj=> ?_⟩
    rcases Nat.lt_or_ge j cells.length with hj2 | hj2
    ·rw[List.getElem?_append_left hj2]at hj; exact h4 j u hj
    ·rw[List.getElem?_append_right hj2]at hj;have hlt:=(List.getElem?_eq_some_iff.1 hj).1;have:=hcc (j-cells.length) (by omega);rw[h2,show m*sz+(j-m*sz)=j by omega]at this;rw[this,<-h2]; exact hj
  obtain⟨cells,xs,h1,h2,h3,h4⟩:=main len0 (Nat.le_refl _);subst h1;refine⟨xs,cells,⟨h2,some a,cap0,rfl,hl,hm, ?_⟩,h3⟩
  rcases Nat.eq_zero_or_pos xs.length with h0 | h0
  ·exact .inl h0
  ·right
   have hpl:0<cells.length:=by rw[h2]; exact Nat.mul_pos h0 hpos
   have hc0:=h4 0 cells[0] (by simp[hpl]);have hsp:a.spot=none:=by simpa [Addr.add]using World.cell?_spot hc0
   obtain⟨b,o,sp⟩:=a;simp only at hsp;subst hsp;refine⟨b,o,rfl,trivial,fun j u hj=> ?_⟩;have:=h4 j u hj;rw[ni]at this; exact this
theorem AW {α:Type} {R:List Value->α->Prop} {t e:TypeId} {sz b0:Nat} {spare:Nat->Bool} {held:Bool} {v:Value} {d:DataW H} {ps:List MemPlace} (ht:P.underlying t=some (.slice e)) (hc:P.cellsOf e=sz) (hpos:0<sz)
  (hR: ∀n cs y,DataW.trod enc P W base spare held n e cs=some y-> ∃x,R cs x) (hs: ∀c x,R c x->c.length=sz)
  (hval:Value.okWide P W .any b0 t v) (h:DataW.Trod enc P W base spare held t v d ps): ∃xs:List α,aJ (fun _=>True) W sz R v xs:=by
 obtain⟨a0,len0,cap0,rfl⟩:=okWide_slice ht hval;obtain⟨fuel,hf⟩:=h;obtain⟨v,h1,h2⟩:=uA ht hc hpos hR hs hf;simp[Value.cells]at h1;subst h1;exact h2
end
section
variable {H : Type} {enc : TypeId × Value → H} {W : World} {base b0 : Nat} {spare : Nat → Bool} {held : Bool} {v : Value} {d : DataW H} {ps : List MemPlace}
theorem cF {P:Program} {t:TypeId} {fs:Array Field} {fuel:Nat} {cs:List Value} {x:DataW H×List MemPlace} (ht:P.underlying t=some (.struct fs)) (h:DataW.trod enc P W base spare held fuel t cs=some x) (i:Nat) {f:Field} (hf:fs[i]? =some f):
  ∃n y,DataW.trod enc P W base spare held n f.type ((cs.drop f.offset).take (P.cellsOf f.type))=some y:=by
 obtain⟨xs,n,_,_,_,hlen,hF⟩:=DataW.trod_struct ht h;have hi:i<xs.length:=by rw[hlen]; exact(Array.getElem?_eq_some_iff.1 hf).1
 exact⟨n,xs[i],by rw[hF i f hf]; simp[hi]⟩
theorem pj {P:Program} {t:TypeId} {fs:Array Field} {fuel:Nat} {cs:List Value} {x:DataW H×List MemPlace} (ht:P.underlying t=some (.struct fs)) (h:DataW.trod enc P W base spare held fuel t cs=some x):cs.length=P.cellsOf t:=by
 obtain⟨xs,n,_,_,hl,_,_⟩:=DataW.trod_struct ht h;exact hl
theorem sY :Tryz.prog.cellsOf 9=1:=by kernel_rfl
theorem sX :Tryz.prog.cellsOf 3=1:=by kernel_rfl
theorem xP :Tryz.prog.cellsOf 24=1:=by kernel_rfl
theorem qm :Tryz.prog.cellsOf 28=10:=by kernel_rfl
theorem Ed {α:Type} {cs:List α} (h:cs.length=3): ∃c0 c1 c2,cs=[c0,c1,c2]:=by
 match cs,h with
 | [c0,c1,c2],_=>exact⟨c0,c1,c2,rfl⟩
theorem DK {α:Type} {cs:List α} (h:cs.length=10): ∃c0 c1 c2 c3 c4 c5 c6 c7 c8 c9,cs=[c0,c1,c2,c3,c4,c5,c6,c7,c8,c9]:=by
 match cs,h with
 | [c0,c1,c2,c3,c4,c5,c6,c7,c8,c9],_=>exact⟨c0,c1,c2,c3,c4,c5,c6,c7,c8,c9,rfl⟩
theorem uq {n:Nat} {cs:List Value} {y:DataW H×List MemPlace} (h:DataW.trod enc Tryz.prog W base spare held n 26 cs=some y): ∃r,fE cs r:=by
 have hl:=pj Tryz.underlying26 h;rw[jl]at hl;obtain⟨c0,c1,c2,rfl⟩:=Ed hl;obtain⟨n0,y0,h0⟩:=cF Tryz.underlying26 h 0 rfl;obtain⟨n1,y1,h1⟩:=cF Tryz.underlying26 h 1 rfl;obtain⟨n2,y2,h2⟩:=cF Tryz.underlying26 h 2 rfl;simp only[List.getElem_toArray,List.getElem_cons_zero,List.getElem_cons_succ,sY,sX]at h0 h1 h2;obtain⟨s,e0,_,hs⟩:=DataW.trod_string Tryz.underlying9 h0
 obtain⟨g,e1,_,hg⟩:=DataW.trod_int Tryz.underlying3 h1;obtain⟨z,e2,_,hz⟩:=DataW.trod_int Tryz.underlying3 h2;simp at e0 e1 e2;subst e0 e1 e2;exact⟨⟨s,g,z⟩,rfl,⟨hs,hg,hz⟩⟩
theorem yK {n:Nat} {cs:List Value} {y:DataW H×List MemPlace} (h:DataW.trod enc Tryz.prog W base spare held n 24 cs=some y): ∃v,cs=[v]/\ ∃rs,aV (fun _=>True) W v rs:=
 uA (R:=fE) Tryz.underlying24 jl (by omega) (fun n cs y hy=>uq hy) fE.len h
theorem yJ {n:Nat} {cs:List Value} {y:DataW H×List MemPlace} (h:DataW.trod enc Tryz.prog W base spare held n 28 cs=some y): ∃e,cM (fun _=>True) W cs e/\e.time<9223372036854775808:=by
 have hl:=pj Tryz.underlying28 h;rw[qm]at hl;obtain⟨c0,c1,c2,c3,c4,c5,c6,c7,c8,c9,rfl⟩:=DK hl;obtain⟨n0,y0,h0⟩:=cF Tryz.underlying28 h 0 rfl;obtain⟨n1,y1,h1⟩:=cF Tryz.underlying28 h 1 rfl;obtain⟨n2,y2,h2⟩:=cF Tryz.underlying28 h 2 rfl;obtain⟨n3,y3,h3⟩:=cF Tryz.underlying28 h 3 rfl;obtain⟨n4,y4,h4⟩:=cF Tryz.underlying28 h 4 rfl
 obtain⟨n5,y5,h5⟩:=cF Tryz.underlying28 h 5 rfl;obtain⟨n6,y6,h6⟩:=cF Tryz.underlying28 h 6 rfl;obtain⟨n7,y7,h7⟩:=cF Tryz.underlying28 h 7 rfl;simp only[List.getElem_toArray,List.getElem_cons_zero,List.getElem_cons_succ,sY,sX,xP,jl]at h0 h1 h2 h3 h4 h5 h6 h7;obtain⟨a0,e0,_,g0⟩:=DataW.trod_string Tryz.underlying9 h0;obtain⟨a1,e1,_,g1⟩:=DataW.trod_int Tryz.underlying3 h1
 obtain⟨a2,e2,_,g2⟩:=DataW.trod_int Tryz.underlying3 h2;obtain⟨a3,e3,_,g3⟩:=DataW.trod_int Tryz.underlying3 h3;obtain⟨a4,e4,_,g4⟩:=DataW.trod_int Tryz.underlying3 h4;obtain⟨a5,e5,_,g5⟩:=DataW.trod_string Tryz.underlying9 h5;obtain⟨a6,e6,rs,g6⟩:=yK h6;obtain⟨r,e7,g7⟩:=uq h7;simp[dH]at e0 e1 e2 e3 e4 e5 e6 e7;obtain⟨e7,e8,e9⟩:=e7;subst e0 e1 e2 e3 e4 e5 e6 e7 e8 e9
 have ht:a3<9223372036854775808:=by
  simp only[Lit.wf,Bool.and_eq_true,decide_eq_true_eq]at g3;have:=g3.2;have e:IntKind.i64.max=9223372036854775807:=by decide
  omega
 exact⟨⟨a0,a1,a2,a3,a4,a5,rs,r⟩,⟨_,rfl,g6,⟨g0,g5,g7⟩⟩,ht⟩
def Dn (w:World) (c:List Value) (it:aE):Prop:=cM (fun _=>True) w c it/\it.time<9223372036854775808
theorem oy {w:World} : ∀ {l:List aE} {cells:List Value},bM (Dn w) cells l->bM (cM (fun _=>True) w) cells l/\ ∀it∈l,it.time<9223372036854775808
 | [],cells,h=>⟨h,fun it hit=>by cases hit⟩
 | x::l,cells,h=>by
  obtain⟨c,rest,rfl,hc,hr⟩:=h;obtain⟨h1,h2⟩:=oy hr;refine⟨⟨c,rest,rfl,hc.1,h1⟩,fun it hit=> ?_⟩
  rcases List.mem_cons.1 hit with rfl | hit
  ·exact hc.2
  ·exact h2 it hit
theorem vN (hval:Value.okWide Tryz.prog W .any b0 22 v) (h:DataW.Trod enc Tryz.prog W base spare held 22 v d ps): ∃l,aM (fun _=>True) W v l/\ ∀it∈l,it.time<9223372036854775808:=by
 obtain⟨l,cells,h1,h2⟩:= @AW H enc Tryz.prog W base aE (Dn W) 22 28 10 b0 spare held v d ps Tryz.underlying22 qm (by omega) (fun n cs y hy=>yJ hy) (fun c x hc=>cM.len c x hc.1) hval h;obtain⟨h3,h4⟩:=oy h2;exact⟨l,⟨cells,h1,h3⟩,h4⟩
end
end Go.Proofs.YtpffpjbkbaleiaaGreatDoor
