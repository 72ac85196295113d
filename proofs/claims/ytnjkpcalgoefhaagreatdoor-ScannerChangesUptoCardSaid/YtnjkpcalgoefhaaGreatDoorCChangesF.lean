/- Texts of this proof, one after the other: RfE, RfF, RcT, RfG, RefK, RefL, RefM, ScnA, ScnX. -/
import Derived.Test.YtnjkpcalgoefhaaGreatDoorCChangesE
set_option maxRecDepth 100000
set_option maxHeartbeats 8000000
namespace Go.Proofs.YtnjkpcalgoefhaaGreatDoor
open Go.RowKit Go.Maps
theorem lA (S:Nat->Prop) (L:List bv) (v:Value) (p:ByteArray) (x:Int) (w:World) (hv:bS S w v L) (hx:dO L p 0=x):
  Calls Tryz.prog 104 #[v, .string p] w fun e w'=>e= .returned (.int .i64 x)/\Below w.heap.size w w':=by
 rw[<-hx]; exact uk S L v p w hv
theorem mD (L:List bv) (p:ByteArray):fP L (bl p)=if bl p=[]then 0 else match eb L p with
 | none=>4
 | some e=>if e.kind=2 then 0 else 13:=by
 unfold fP;rw[nE]
 cases eb L p<;> rfl
theorem wG (S:Nat->Prop) (L:List bv) (v:Value) (p:ByteArray) (w:World) (hv:bS S w v L):
  Calls Tryz.prog 68 #[v, .string p] w fun e w'=>e= .returned (.int .i64 (fP L (bl p)))/\Below w.heap.size w w':=by
 have HV:=ab hv
 by_cases h0:bl p=[]
 ·have e1:p.toList.isEmpty=true:=by rw[gu,decide_eq_true h0]
  have HR:=ab (show fP L (bl p)=0 by rw[mD,if_pos h0]);clear h0 hv
  go_enter Tryz.func68,Tryz.ntmps68
  go_wp2_with fail;go_ret;exact⟨bo HR.out.symm,Below.refl _ _⟩
 ·have e1:p.toList.isEmpty=false:=by rw[gu,decide_eq_false h0]
  rcases lV (p:=p) L 0 with⟨h1,h2⟩ | ⟨j,f,h1,h2,h3⟩
  ·have HR:=ab (show fP L (bl p)=4 by rw[mD,if_neg h0,h1]);have HI:=ab h2;clear h0 h1 h2 hv
   go_enter Tryz.func68,Tryz.ntmps68
   go_wp2_with (go_at_call 104; refine(lA S L v p (-1) _ HV.out HI.out).mono ?_; rintro e w1 ⟨rfl,hb1⟩; have HB1:=ab hb1; clear hb1);go_ret;exact⟨bo HR.out.symm,HB1.out⟩
  ·have HI:=ab (show dO L p 0=(j:Int) by rw[h3]; simp);obtain⟨a,cap,rfl,hc,hm,-⟩:=aR.shape hv kg.len;have hjl:j<L.length:=(List.getElem?_eq_some_iff.1 h2).1;obtain⟨n,hn⟩: ∃n,n=L.length:=⟨_,rfl⟩;rw[<-hn]at HV hc hjl ⊢;obtain⟨b,o,dv,rfl,-,hb,-,-,-,q0,q1,q2,q3,q4,q5⟩:=ij HV.out h2;unfold maxLen at hm
   by_cases hk:f.kind=2
   ·have HR:=ab (show fP L (bl p)=0 by rw[mD,if_neg h0,h1]; simp only[if_pos hk]);have e2:(f.kind != 2)=false:=by simp[hk]
    clear h0 h1 h2 h3 hv hk hn q0 q2 q3 q4 q5
    go_enter Tryz.func68,Tryz.ntmps68
    go_wp2_with (go_at_call 104; refine(lA S L _ p j _ HV.out HI.out).mono ?_; rintro e w1 ⟨rfl,hb1⟩; have q9:=(hb1.cell (aG q1)).trans q1; have HB1:=ab hb1; clear hb1);go_ret;exact⟨bo HR.out.symm,HB1.out⟩
   ·have HR:=ab (show fP L (bl p)=13 by rw[mD,if_neg h0,h1]; simp only[if_neg hk]);have e2:(f.kind != 2)=true:=by simp[hk]
    clear h0 h1 h2 h3 hv hk hn q0 q2 q3 q4 q5
    go_enter Tryz.func68,Tryz.ntmps68
    go_wp2_with (go_at_call 104; refine(lA S L _ p j _ HV.out HI.out).mono ?_; rintro e w1 ⟨rfl,hb1⟩; have q9:=(hb1.cell (aG q1)).trans q1; have HB1:=ab hb1; clear hb1);go_ret;exact⟨bo HR.out.symm,HB1.out⟩
theorem bZ (s:ByteArray) (b:Bool) (w:World) (hs:s.size<=16777216) (h:bF (bl s)=b):Calls Tryz.prog 103 #[.string s] w fun e w'=>e= .returned (.bool b)/\Below w.heap.size w w':=by
 rw[<-h]; exact sG s w hs
theorem nF {l:List UInt8} :l.contains 0=false<-> ∀k:Nat,∀b,l[k]? =some b->b≠0:=by
 rw[Bool.eq_false_iff,ne_eq,List.contains_iff_mem,List.mem_iff_getElem?]
 constructor
 ·intro h k b hb e; subst e; exact h ⟨k,hb⟩
 ·rintro h ⟨k,hk⟩; exact h k 0 hk rfl
theorem sY {en:bv} (h:(en.kind=1\/en.kind=2\/en.kind=3)/\en.data.length<=1048576/\(en.kind=1\/en.data.length=0)) (hz:(bl en.link).contains 0=false):et en=((decide (en.kind=3) == decide (en.link.size≠0)) && decide (en.link.size<=512)):=by
 obtain⟨h1,h2,h3⟩:=h;unfold et js;rw[hz,<-aA]
 rcases h1 with h1 | h1 | h1
 ·rw[if_pos h1,decide_eq_true h2,h1]
  by_cases hs:en.link.size=0
  ·simp[hs]
  ·simp[hs]
 ·have h4:en.data.length=0:=h3.resolve_left (by omega);rw[if_neg (by omega),if_pos h1,decide_eq_true h4,h1]
  by_cases hs:en.link.size=0
  ·simp[hs]
  ·simp[hs]
 ·have h4:en.data.length=0:=h3.resolve_left (by omega);rw[if_neg (by omega),if_neg (by omega),if_pos h1,decide_eq_true h4,h1]
  by_cases hs:en.link.size=0
  ·simp[hs]
  ·rw[decide_eq_true (by omega:1<=en.link.size)];simp[hs]
theorem qC (S:Nat->Prop) (en:bv) (v:Value) (w:World) (hd:cy S w v en.data) (hok:iL en) (hps:en.path.size<=16777216):Calls Tryz.prog 67 #[np v en] w fun e w'=>e= .returned (.bool (cg en))/\Below w.heap.size w w':=by
 obtain⟨a,cap,rfl,hc,hm⟩:=hd.slice;unfold maxLen at hm;have HPS:=ab hps;have hlk:=hok.lnk;unfold maxLen at hlk;clear hok;unfold np
 cases hv:bF (bl en.path)
 ·have HV:=ab hv;have HF:=ab (show cg en=false by unfold cg; rw[hv]; rfl);clear hv
  go_enter Tryz.func67,Tryz.ntmps67
  go_wp2_with fail;obtain⟨W,hW⟩: ∃W,W=w.alloc (.cells #[.string en.path, .int .i64 en.kind, .int .i64 en.mode, .int .i64 en.time, .slice a en.data.length cap, .string en.link] 30):=⟨_,rfl⟩;rw[<-hW];have HBW:=ab (show Below w.heap.size w W by rw[hW]; exact(Below.refl _ _).alloc (Nat.le_refl _) _);have HBX:=ab (show W.heap[w.heap.size]? =some (.cells #[.string en.path, .int .i64 en.kind, .int .i64 en.mode, .int .i64 en.time, .slice a en.data.length cap, .string en.link] 30 (0,0)) by rw[hW]; exact dC w _)
  clear hW;refine(bZ en.path false _ HPS.out HV.out).mono ?_;rintro e w1 ⟨rfl,hb1⟩;have HB1:=ab (ag HBW.out hb1);clear hb1;go_wp2_with fail;go_ret;exact⟨aw (by rw[HF.out]),HB1.out⟩
 have HV:=ab hv
 by_cases h1:en.mode<0
 ·have e1:decide (en.mode<0)=true:=by simp[h1]
  have HF:=ab (show cg en=false by unfold cg ir; rw[decide_eq_false (by omega: ¬0<=en.mode)]; simp);clear hv
  go_enter Tryz.func67,Tryz.ntmps67
  go_wp2_with fail;obtain⟨W,hW⟩: ∃W,W=w.alloc (.cells #[.string en.path, .int .i64 en.kind, .int .i64 en.mode, .int .i64 en.time, .slice a en.data.length cap, .string en.link] 30):=⟨_,rfl⟩;rw[<-hW];have HBW:=ab (show Below w.heap.size w W by rw[hW]; exact(Below.refl _ _).alloc (Nat.le_refl _) _);have HBX:=ab (show W.heap[w.heap.size]? =some (.cells #[.string en.path, .int .i64 en.kind, .int .i64 en.mode, .int .i64 en.time, .slice a en.data.length cap, .string en.link] 30 (0,0)) by rw[hW]; exact dC w _)
  clear hW;refine(bZ en.path true _ HPS.out HV.out).mono ?_;rintro e w1 ⟨rfl,hb1⟩;have HB1:=ab (ag HBW.out hb1);have HX1:=ab ((hb1.block w.heap.size (ep HBX.out)).trans HBX.out);clear hb1;have c0:=aj (k:=0) HX1.out;have c1:=aj (k:=1) HX1.out;have c2:=aj (k:=2) HX1.out;have c3:=aj (k:=3) HX1.out;have c4:=aj (k:=4) HX1.out;have c5:=aj (k:=5) HX1.out
  simp only[gx]at c0 c1 c2 c3 c4 c5;go_wp2_with fail;go_ret;exact⟨aw (by rw[HF.out]),HB1.out⟩
 have e1:decide (en.mode<0)=false:=by simp[h1]
 by_cases h2:511<en.mode
 ·have e2:decide (511<en.mode)=true:=by simp[h2]
  have HF:=ab (show cg en=false by unfold cg ir; rw[decide_eq_false (by omega: ¬en.mode<=511)]; simp);clear hv
  go_enter Tryz.func67,Tryz.ntmps67
  go_wp2_with fail;obtain⟨W,hW⟩: ∃W,W=w.alloc (.cells #[.string en.path, .int .i64 en.kind, .int .i64 en.mode, .int .i64 en.time, .slice a en.data.length cap, .string en.link] 30):=⟨_,rfl⟩;rw[<-hW];have HBW:=ab (show Below w.heap.size w W by rw[hW]; exact(Below.refl _ _).alloc (Nat.le_refl _) _);have HBX:=ab (show W.heap[w.heap.size]? =some (.cells #[.string en.path, .int .i64 en.kind, .int .i64 en.mode, .int .i64 en.time, .slice a en.data.length cap, .string en.link] 30 (0,0)) by rw[hW]; exact dC w _)
  clear hW;refine(bZ en.path true _ HPS.out HV.out).mono ?_;rintro e w1 ⟨rfl,hb1⟩;have HB1:=ab (ag HBW.out hb1);have HX1:=ab ((hb1.block w.heap.size (ep HBX.out)).trans HBX.out);clear hb1;have c0:=aj (k:=0) HX1.out;have c1:=aj (k:=1) HX1.out;have c2:=aj (k:=2) HX1.out;have c3:=aj (k:=3) HX1.out;have c4:=aj (k:=4) HX1.out;have c5:=aj (k:=5) HX1.out
  simp only[gx]at c0 c1 c2 c3 c4 c5;go_wp2_with fail;go_ret;exact⟨aw (by rw[HF.out]),HB1.out⟩
 have e2:decide (511<en.mode)=false:=by simp[h2]
 by_cases h3:en.time<0
 ·have e3:decide (en.time<0)=true:=by simp[h3]
  have HF:=ab (show cg en=false by unfold cg ir; rw[decide_eq_false (by omega: ¬0<=en.time)]; simp);clear hv
  go_enter Tryz.func67,Tryz.ntmps67
  go_wp2_with fail;obtain⟨W,hW⟩: ∃W,W=w.alloc (.cells #[.string en.path, .int .i64 en.kind, .int .i64 en.mode, .int .i64 en.time, .slice a en.data.length cap, .string en.link] 30):=⟨_,rfl⟩;rw[<-hW];have HBW:=ab (show Below w.heap.size w W by rw[hW]; exact(Below.refl _ _).alloc (Nat.le_refl _) _);have HBX:=ab (show W.heap[w.heap.size]? =some (.cells #[.string en.path, .int .i64 en.kind, .int .i64 en.mode, .int .i64 en.time, .slice a en.data.length cap, .string en.link] 30 (0,0)) by rw[hW]; exact dC w _)
  clear hW;refine(bZ en.path true _ HPS.out HV.out).mono ?_;rintro e w1 ⟨rfl,hb1⟩;have HB1:=ab (ag HBW.out hb1);have HX1:=ab ((hb1.block w.heap.size (ep HBX.out)).trans HBX.out);clear hb1;have c0:=aj (k:=0) HX1.out;have c1:=aj (k:=1) HX1.out;have c2:=aj (k:=2) HX1.out;have c3:=aj (k:=3) HX1.out;have c4:=aj (k:=4) HX1.out;have c5:=aj (k:=5) HX1.out
  simp only[gx]at c0 c1 c2 c3 c4 c5;go_wp2_with fail;go_ret;exact⟨aw (by rw[HF.out]),HB1.out⟩
 have e3:decide (en.time<0)=false:=by simp[h3]
 by_cases h4:en.kind<1
 ·have e4:decide (en.kind<1)=true:=by simp[h4]
  have HF:=ab (show cg en=false by unfold cg et; rw[if_neg (by omega),if_neg (by omega),if_neg (by omega)]; simp);clear hv
  go_enter Tryz.func67,Tryz.ntmps67
  go_wp2_with fail;obtain⟨W,hW⟩: ∃W,W=w.alloc (.cells #[.string en.path, .int .i64 en.kind, .int .i64 en.mode, .int .i64 en.time, .slice a en.data.length cap, .string en.link] 30):=⟨_,rfl⟩;rw[<-hW];have HBW:=ab (show Below w.heap.size w W by rw[hW]; exact(Below.refl _ _).alloc (Nat.le_refl _) _);have HBX:=ab (show W.heap[w.heap.size]? =some (.cells #[.string en.path, .int .i64 en.kind, .int .i64 en.mode, .int .i64 en.time, .slice a en.data.length cap, .string en.link] 30 (0,0)) by rw[hW]; exact dC w _)
  clear hW;refine(bZ en.path true _ HPS.out HV.out).mono ?_;rintro e w1 ⟨rfl,hb1⟩;have HB1:=ab (ag HBW.out hb1);have HX1:=ab ((hb1.block w.heap.size (ep HBX.out)).trans HBX.out);clear hb1;have c0:=aj (k:=0) HX1.out;have c1:=aj (k:=1) HX1.out;have c2:=aj (k:=2) HX1.out;have c3:=aj (k:=3) HX1.out;have c4:=aj (k:=4) HX1.out;have c5:=aj (k:=5) HX1.out
  simp only[gx]at c0 c1 c2 c3 c4 c5;go_wp2_with fail;go_ret;exact⟨aw (by rw[HF.out]),HB1.out⟩
 have e4:decide (en.kind<1)=false:=by simp[h4]
 by_cases h5:3<en.kind
 ·have e5:decide (3<en.kind)=true:=by simp[h5]
  have HF:=ab (show cg en=false by unfold cg et; rw[if_neg (by omega),if_neg (by omega),if_neg (by omega)]; simp);clear hv
  go_enter Tryz.func67,Tryz.ntmps67
  go_wp2_with fail;obtain⟨W,hW⟩: ∃W,W=w.alloc (.cells #[.string en.path, .int .i64 en.kind, .int .i64 en.mode, .int .i64 en.time, .slice a en.data.length cap, .string en.link] 30):=⟨_,rfl⟩;rw[<-hW];have HBW:=ab (show Below w.heap.size w W by rw[hW]; exact(Below.refl _ _).alloc (Nat.le_refl _) _);have HBX:=ab (show W.heap[w.heap.size]? =some (.cells #[.string en.path, .int .i64 en.kind, .int .i64 en.mode, .int .i64 en.time, .slice a en.data.length cap, .string en.link] 30 (0,0)) by rw[hW]; exact dC w _)
  clear hW;refine(bZ en.path true _ HPS.out HV.out).mono ?_;rintro e w1 ⟨rfl,hb1⟩;have HB1:=ab (ag HBW.out hb1);have HX1:=ab ((hb1.block w.heap.size (ep HBX.out)).trans HBX.out);clear hb1;have c0:=aj (k:=0) HX1.out;have c1:=aj (k:=1) HX1.out;have c2:=aj (k:=2) HX1.out;have c3:=aj (k:=3) HX1.out;have c4:=aj (k:=4) HX1.out;have c5:=aj (k:=5) HX1.out
  simp only[gx]at c0 c1 c2 c3 c4 c5;go_wp2_with fail;go_ret;exact⟨aw (by rw[HF.out]),HB1.out⟩
 have e5:decide (3<en.kind)=false:=by simp[h5]
 have HHD:=ab (show cg en=et en by
  unfold cg ir;rw[hv,decide_eq_true (by omega:0<=en.mode),decide_eq_true (by omega:en.mode<=511),decide_eq_true (by omega:0<=en.time)]; simp)
 by_cases h6:en.kind≠1/\0<en.data.length
 ·have e6:(en.kind != 1)=true:=by simp[h6.1]
  have e7:decide (0<en.data.length)=true:=by simp[h6.2]
  have e8:0<en.data.length:=h6.2;have HF:=ab (show cg en=false by
   rw[HHD.out]; unfold et; rw[if_neg h6.1,decide_eq_false (by omega: ¬en.data.length=0)]; simp)
  clear hv h6
  go_enter Tryz.func67,Tryz.ntmps67
  go_wp2_with fail;obtain⟨W,hW⟩: ∃W,W=w.alloc (.cells #[.string en.path, .int .i64 en.kind, .int .i64 en.mode, .int .i64 en.time, .slice a en.data.length cap, .string en.link] 30):=⟨_,rfl⟩;rw[<-hW];have HBW:=ab (show Below w.heap.size w W by rw[hW]; exact(Below.refl _ _).alloc (Nat.le_refl _) _);have HBX:=ab (show W.heap[w.heap.size]? =some (.cells #[.string en.path, .int .i64 en.kind, .int .i64 en.mode, .int .i64 en.time, .slice a en.data.length cap, .string en.link] 30 (0,0)) by rw[hW]; exact dC w _)
  clear hW;refine(bZ en.path true _ HPS.out HV.out).mono ?_;rintro e w1 ⟨rfl,hb1⟩;have HB1:=ab (ag HBW.out hb1);have HX1:=ab ((hb1.block w.heap.size (ep HBX.out)).trans HBX.out);clear hb1;have c0:=aj (k:=0) HX1.out;have c1:=aj (k:=1) HX1.out;have c2:=aj (k:=2) HX1.out;have c3:=aj (k:=3) HX1.out;have c4:=aj (k:=4) HX1.out;have c5:=aj (k:=5) HX1.out
  simp only[gx]at c0 c1 c2 c3 c4 c5;go_wp2_with fail;go_ret;exact⟨aw (by rw[HF.out]),HB1.out⟩
 by_cases h7:1048576<en.data.length
 ·have hk1:en.kind=1:=by
   by_cases hk:en.kind=1
   ·exact hk
   ·exact absurd ⟨hk,by omega⟩ h6
  have e6:(en.kind != 1)=false:=by simp[hk1]
  have e7:decide (1048576<en.data.length)=true:=by simp[h7]
  have HF:=ab (show cg en=false by
   rw[HHD.out]; unfold et; rw[if_pos hk1,decide_eq_false (by omega: ¬en.data.length<=1048576)]; simp)
  clear hv h6 hk1
  go_enter Tryz.func67,Tryz.ntmps67
  go_wp2_with fail;obtain⟨W,hW⟩: ∃W,W=w.alloc (.cells #[.string en.path, .int .i64 en.kind, .int .i64 en.mode, .int .i64 en.time, .slice a en.data.length cap, .string en.link] 30):=⟨_,rfl⟩;rw[<-hW];have HBW:=ab (show Below w.heap.size w W by rw[hW]; exact(Below.refl _ _).alloc (Nat.le_refl _) _);have HBX:=ab (show W.heap[w.heap.size]? =some (.cells #[.string en.path, .int .i64 en.kind, .int .i64 en.mode, .int .i64 en.time, .slice a en.data.length cap, .string en.link] 30 (0,0)) by rw[hW]; exact dC w _)
  clear hW;refine(bZ en.path true _ HPS.out HV.out).mono ?_;rintro e w1 ⟨rfl,hb1⟩;have HB1:=ab (ag HBW.out hb1);have HX1:=ab ((hb1.block w.heap.size (ep HBX.out)).trans HBX.out);clear hb1;have c0:=aj (k:=0) HX1.out;have c1:=aj (k:=1) HX1.out;have c2:=aj (k:=2) HX1.out;have c3:=aj (k:=3) HX1.out;have c4:=aj (k:=4) HX1.out;have c5:=aj (k:=5) HX1.out
  simp only[gx]at c0 c1 c2 c3 c4 c5;go_wp2_with fail;go_ret;exact⟨aw (by rw[HF.out]),HB1.out⟩
 have e7:decide (1048576<en.data.length)=false:=by simp; omega
 have HKD:=ab (show(en.kind=1\/en.kind=2\/en.kind=3)/\en.data.length<=1048576/\(en.kind=1\/en.data.length=0)from⟨by omega,by omega,by
  by_cases hk:en.kind=1
  ·exact .inl hk
  ·exact .inr (by rcases Nat.eq_zero_or_pos en.data.length with h | h; exact h; exact absurd ⟨hk,h⟩ h6)⟩)
 clear hv
 by_cases hk1:en.kind=1
 ·have e6:(en.kind != 1)=false:=by simp[hk1]
  clear h6 hk1
  go_enter Tryz.func67,Tryz.ntmps67
  go_wp2_with fail;obtain⟨W,hW⟩: ∃W,W=w.alloc (.cells #[.string en.path, .int .i64 en.kind, .int .i64 en.mode, .int .i64 en.time, .slice a en.data.length cap, .string en.link] 30):=⟨_,rfl⟩;rw[<-hW];have HBW:=ab (show Below w.heap.size w W by rw[hW]; exact(Below.refl _ _).alloc (Nat.le_refl _) _);have HBX:=ab (show W.heap[w.heap.size]? =some (.cells #[.string en.path, .int .i64 en.kind, .int .i64 en.mode, .int .i64 en.time, .slice a en.data.length cap, .string en.link] 30 (0,0)) by rw[hW]; exact dC w _)
  clear hW;refine(bZ en.path true _ HPS.out HV.out).mono ?_;rintro e w1 ⟨rfl,hb1⟩;have HB1:=ab (ag HBW.out hb1);have HX1:=ab ((hb1.block w.heap.size (ep HBX.out)).trans HBX.out);clear hb1;have c0:=aj (k:=0) HX1.out;have c1:=aj (k:=1) HX1.out;have c2:=aj (k:=2) HX1.out;have c3:=aj (k:=3) HX1.out;have c4:=aj (k:=4) HX1.out;have c5:=aj (k:=5) HX1.out
  simp only[gx]at c0 c1 c2 c3 c4 c5;go_wp2_with fail
  go_loopw [3] (fun i wr=> ∃k:Nat,k<=en.link.size/\i= .int .i64 k/\(∀j b,j<k->(bl en.link)[j]? =some b->b≠0)/\Below w1.heap.size w1 wr) (fun i _=>en.link.size-(intOf i).toNat)
  case atStart=>exact⟨0,Nat.zero_le _,rfl,fun _ _ h=>absurd h (Nat.not_lt_zero _),Below.refl _ _⟩
  case round=>
   obtain⟨k,hk,rfl,hz,hbr⟩:=hrel;have HZ:=ab hz;have HBR:=ab hbr;have HXR:=ab ((hbr.block w.heap.size (ep HX1.out)).trans HX1.out);clear hz hbr c0 c1 c2 c3 c4 c5;have c0:=aj (k:=0) HXR.out;have c1:=aj (k:=1) HXR.out;have c2:=aj (k:=2) HXR.out;have c3:=aj (k:=3) HXR.out;have c4:=aj (k:=4) HXR.out;have c5:=aj (k:=5) HXR.out;simp only[gx]at c0 c1 c2 c3 c4 c5
   by_cases hlt:k<en.link.size
   ·have HBY:=ab (show(bl en.link)[k]? =some en.link[k] by rw[List.getElem?_eq_getElem (by rw[<-aA]; exact hlt)]; rfl)
    by_cases h0:(en.link[k]'hlt).toNat=0
    ·have HF:=ab (show cg en=false by
      rw[HHD.out];unfold et;have hne: ¬en.link.size=0:=by omega
      have hct:(bl en.link).contains 0=true:=by
       have h9:en.link[k]'hlt=0:=UInt8.toNat_inj.1 h0;have:=HBY.out;rw[h9]at this;exact List.contains_iff_mem.2 (List.mem_of_getElem? this)
      rw[decide_eq_false hne];unfold js;rw[hct]
      simp)
     go_wp2_with fail;go_ret;exact⟨aw (by rw[HF.out]),ag HB1.out HBR.out⟩
    ·have HNZ:=ab h0;go_wp2_with fail
     go_roundw
     case rel=>
      refine⟨k+1,by omega,by go_num,fun j b hj hb e=> ?_,HBR.out⟩
      by_cases hjk:j=k
      ·subst hjk;rw[HBY.out]at hb;have:=Option.some.inj hb;subst this;exact HNZ.out (by rw[e]; rfl)
      ·exact HZ.out j b (by omega) hb e
     case measure=>simp[intOf]; omega
   ·have hk2:k=en.link.size:=by omega
    have HNO:=ab (show(bl en.link).contains 0=false from nF.2 (fun j b hj e=>by
     have h1:=(List.getElem?_eq_some_iff.1 hj).1;exact HZ.out j b (by rw[hk2,aA]; exact h1) hj e))
    have HVK:=ab (sY HKD.out HNO.out);have HEM:=ab (show en.link.toList.isEmpty= !decide (en.link.size≠0) by rw[gu]; by_cases h:en.link.size=0<;> simp[h,jL.1,<-jL]);obtain⟨b3,hb3⟩: ∃b,decide (en.kind=3)=b:=⟨_,rfl⟩;obtain⟨be,hbe⟩: ∃b,decide (en.link.size≠0)=b:=⟨_,rfl⟩;obtain⟨b5,hb5⟩: ∃b,decide (en.link.size<=512)=b:=⟨_,rfl⟩
    have f3:(en.kind == 3)=b3:=by rw[<-hb3]; rfl
    have fe:=HEM.out;rw[hbe]at fe;have HRS:=ab (show cg en=((b3 == be) && b5) by rw[HHD.out,HVK.out,hb3,hbe,hb5]);have HB5:=ab hb5;clear hbe hlt hk hb3 hb5
    cases b3<;> cases be<;> simp only[Bool.not_true,Bool.not_false]at fe<;> (go_wp2_with fail)<;> (go_ret)<;> exact⟨aw (by rw[HRS.out,<-HB5.out]; simp[show(((en.link.size:Nat):Int)<=512<->en.link.size<=512)from by omega]),ag HB1.out HBR.out⟩
 ·have e6:(en.kind != 1)=true:=by simp[hk1]
  have e8:decide (0<en.data.length)=false:=by rw[decide_eq_false_iff_not]; exact fun h=>h6 ⟨hk1,h⟩
  clear h6 hk1
  go_enter Tryz.func67,Tryz.ntmps67
  go_wp2_with fail;obtain⟨W,hW⟩: ∃W,W=w.alloc (.cells #[.string en.path, .int .i64 en.kind, .int .i64 en.mode, .int .i64 en.time, .slice a en.data.length cap, .string en.link] 30):=⟨_,rfl⟩;rw[<-hW];have HBW:=ab (show Below w.heap.size w W by rw[hW]; exact(Below.refl _ _).alloc (Nat.le_refl _) _);have HBX:=ab (show W.heap[w.heap.size]? =some (.cells #[.string en.path, .int .i64 en.kind, .int .i64 en.mode, .int .i64 en.time, .slice a en.data.length cap, .string en.link] 30 (0,0)) by rw[hW]; exact dC w _)
  clear hW;refine(bZ en.path true _ HPS.out HV.out).mono ?_;rintro e w1 ⟨rfl,hb1⟩;have HB1:=ab (ag HBW.out hb1);have HX1:=ab ((hb1.block w.heap.size (ep HBX.out)).trans HBX.out);clear hb1;have c0:=aj (k:=0) HX1.out;have c1:=aj (k:=1) HX1.out;have c2:=aj (k:=2) HX1.out;have c3:=aj (k:=3) HX1.out;have c4:=aj (k:=4) HX1.out;have c5:=aj (k:=5) HX1.out
  simp only[gx]at c0 c1 c2 c3 c4 c5;go_wp2_with fail
  go_loopw [3] (fun i wr=> ∃k:Nat,k<=en.link.size/\i= .int .i64 k/\(∀j b,j<k->(bl en.link)[j]? =some b->b≠0)/\Below w1.heap.size w1 wr) (fun i _=>en.link.size-(intOf i).toNat)
  case atStart=>exact⟨0,Nat.zero_le _,rfl,fun _ _ h=>absurd h (Nat.not_lt_zero _),Below.refl _ _⟩
  case round=>
   obtain⟨k,hk,rfl,hz,hbr⟩:=hrel;have HZ:=ab hz;have HBR:=ab hbr;have HXR:=ab ((hbr.block w.heap.size (ep HX1.out)).trans HX1.out);clear hz hbr c0 c1 c2 c3 c4 c5;have c0:=aj (k:=0) HXR.out;have c1:=aj (k:=1) HXR.out;have c2:=aj (k:=2) HXR.out;have c3:=aj (k:=3) HXR.out;have c4:=aj (k:=4) HXR.out;have c5:=aj (k:=5) HXR.out;simp only[gx]at c0 c1 c2 c3 c4 c5
   by_cases hlt:k<en.link.size
   ·have HBY:=ab (show(bl en.link)[k]? =some en.link[k] by rw[List.getElem?_eq_getElem (by rw[<-aA]; exact hlt)]; rfl)
    by_cases h0:(en.link[k]'hlt).toNat=0
    ·have HF:=ab (show cg en=false by
      rw[HHD.out];unfold et;have hne: ¬en.link.size=0:=by omega
      have hct:(bl en.link).contains 0=true:=by
       have h9:en.link[k]'hlt=0:=UInt8.toNat_inj.1 h0;have:=HBY.out;rw[h9]at this;exact List.contains_iff_mem.2 (List.mem_of_getElem? this)
      rw[decide_eq_false hne];unfold js;rw[hct]
      simp)
     go_wp2_with fail;go_ret;exact⟨aw (by rw[HF.out]),ag HB1.out HBR.out⟩
    ·have HNZ:=ab h0;go_wp2_with fail
     go_roundw
     case rel=>
      refine⟨k+1,by omega,by go_num,fun j b hj hb e=> ?_,HBR.out⟩
      by_cases hjk:j=k
      ·subst hjk;rw[HBY.out]at hb;have:=Option.some.inj hb;subst this;exact HNZ.out (by rw[e]; rfl)
      ·exact HZ.out j b (by omega) hb e
     case measure=>simp[intOf]; omega
   ·have hk2:k=en.link.size:=by omega
    have HNO:=ab (show(bl en.link).contains 0=false from nF.2 (fun j b hj e=>by
     have h1:=(List.getElem?_eq_some_iff.1 hj).1;exact HZ.out j b (by rw[hk2,aA]; exact h1) hj e))
    have HVK:=ab (sY HKD.out HNO.out);have HEM:=ab (show en.link.toList.isEmpty= !decide (en.link.size≠0) by rw[gu]; by_cases h:en.link.size=0<;> simp[h,jL.1,<-jL]);obtain⟨b3,hb3⟩: ∃b,decide (en.kind=3)=b:=⟨_,rfl⟩;obtain⟨be,hbe⟩: ∃b,decide (en.link.size≠0)=b:=⟨_,rfl⟩;obtain⟨b5,hb5⟩: ∃b,decide (en.link.size<=512)=b:=⟨_,rfl⟩
    have f3:(en.kind == 3)=b3:=by rw[<-hb3]; rfl
    have fe:=HEM.out;rw[hbe]at fe;have HRS:=ab (show cg en=((b3 == be) && b5) by rw[HHD.out,HVK.out,hb3,hbe,hb5]);have HB5:=ab hb5;clear hbe hlt hk hb3 hb5
    cases b3<;> cases be<;> simp only[Bool.not_true,Bool.not_false]at fe<;> (go_wp2_with fail)<;> (go_ret)<;> exact⟨aw (by rw[HRS.out,<-HB5.out]; simp[show(((en.link.size:Nat):Int)<=512<->en.link.size<=512)from by omega]),ag HB1.out HBR.out⟩
end Go.Proofs.YtnjkpcalgoefhaaGreatDoor
namespace Go.Proofs.YtnjkpcalgoefhaaGreatDoor
open Go.RowKit
theorem gh (c:Int) (w:World) (h0:0<=c) (h1:c<=255):Calls Tryz.prog 81 #[.int .u8 c] w fun e w'=>e= .returned (.int .i64 (fM c))/\w=w':=by
 by_cases h:c=47
 ·subst h
  go_enter Tryz.func81,Tryz.ntmps81
  go_wp2
  go_ret;exact⟨rfl,rfl⟩
 ·have hr:fM c=c:=if_neg h;have HR:=ab hr;clear hr;have h2:(c == 47)=false:=by simpa using h
  go_enter Tryz.func81,Tryz.ntmps81
  go_wp2
  go_ret;exact⟨bo HR.out.symm,rfl⟩
theorem oK (a b:ByteArray) (w:World) (ha:a.size<=65536):
  Calls Tryz.prog 45 #[.string a, .string b] w fun e w'=>e= .returned (.int .i64 (bJ (bl a) (bl b)))/\Below w.heap.size w w':=by
 go_enter Tryz.func45,Tryz.ntmps45
 go_wp2_with fail
 go_loopw [5] (fun i wr=> ∃k:Nat,k<=a.size/\k<=b.size/\i= .int .i64 k/\Below w.heap.size w wr/\bJ (bl a) (bl b)=bJ ((bl a).drop k) ((bl b).drop k)) (fun i _=>a.size-(intOf i).toNat)
 case atStart=>exact⟨0,Nat.zero_le _,Nat.zero_le _,rfl,Below.refl _ _,rfl⟩
 case round=>
  obtain⟨k,hk1,hk2,rfl,hbw,hc⟩:=hrel;have HC:=ab hc;have HB:=ab hbw;clear hc hbw
  by_cases hla:k<a.size
  ·by_cases hlb:k<b.size
   ·have i1:(k:Int)<(a.size:Int):=by omega
    have i2:(k:Int)<(b.size:Int):=by omega
    have hla':k<(bl a).length:=by rw[<-aA]; exact hla
    have hlb':k<(bl b).length:=by rw[<-aA]; exact hlb
    have hr1:=(a[k]).toNat_lt;have hr2:=(b[k]).toNat_lt;have hxa:cY (bl a)[k]=fM (a[k].toNat:Int):=by rw[kY]; exact congrArg cY (eu a k hla).symm
    have hyb:cY (bl b)[k]=fM (b[k].toNat:Int):=by rw[kY]; exact congrArg cY (eu b k hlb).symm
    have HXA:=ab hxa;have HYB:=ab hyb;clear hxa hyb
    rcases Int.lt_trichotomy (fM (a[k].toNat:Int)) (fM (b[k].toNat:Int))with hxy | hxy | hxy
    ·have HXY:=ab hxy;go_wp2_with fail
     go_quiet ((go_at_call 81; refine ek (gh _ _ (by omega) (by omega))))
     go_wp2_with fail;go_ret;refine⟨bo ?_,cH HB.out _⟩;have hne:(bl a)[k]≠(bl b)[k]:=by intro e; have:=HXY.out; rw[<-HXA.out,<-HYB.out,e]at this; omega
     rw[HC.out,nd hla' hlb' hne,HXA.out,HYB.out,Lib.compareInt,if_pos HXY.out]
    ·have e1: ¬fM (a[k].toNat:Int)<fM (b[k].toNat:Int):=by omega
     have e2: ¬fM (b[k].toNat:Int)<fM (a[k].toNat:Int):=by omega
     have HXY:=ab hxy;clear hxy;go_wp2_with fail
     go_quiet ((go_at_call 81; refine ek (gh _ _ (by omega) (by omega))))
     go_wp2_with fail;have hW: ∃W,W=wr.drewN nq/\Below w.heap.size w W:=⟨_,rfl,cH HB.out nq⟩;obtain⟨W,hWe,hWb⟩:=hW;rw[<-hWe];have HB2:=ab hWb;clear hWe hWb HB
     go_quiet ((go_at_call 81; refine ek (gh _ _ (by omega) (by omega))))
     go_wp2_with fail
     go_roundw
     case rel=>
      refine⟨k+1,by omega,by omega,by go_num,cH HB2.out _, ?_⟩;rw[HC.out];exact qZ hla' hlb' (fU (HXA.out.trans (HXY.out.trans HYB.out.symm)))
     case measure=>simp[intOf]; omega
    ·have e1: ¬fM (a[k].toNat:Int)<fM (b[k].toNat:Int):=by omega
     have HXY:=ab hxy;go_wp2_with fail
     go_quiet ((go_at_call 81; refine ek (gh _ _ (by omega) (by omega))))
     go_wp2_with fail;have hW: ∃W,W=wr.drewN nq/\Below w.heap.size w W:=⟨_,rfl,cH HB.out nq⟩;obtain⟨W,hWe,hWb⟩:=hW;rw[<-hWe];have HB2:=ab hWb;clear hWe hWb HB
     go_quiet ((go_at_call 81; refine ek (gh _ _ (by omega) (by omega))))
     go_wp2_with fail;go_ret;refine⟨bo ?_,cH HB2.out _⟩;have hne:(bl a)[k]≠(bl b)[k]:=by intro e; have:=HXY.out; rw[<-HXA.out,<-HYB.out,e]at this; omega
     rw[HC.out,nd hla' hlb' hne,HXA.out,HYB.out,Lib.compareInt,if_neg (by have:=HXY.out; omega),if_pos HXY.out]
   ·obtain rfl:k=b.size:=by omega
    have i2:decide ((b.size:Int)<(b.size:Int))=false:=by simp
    have i3:(b.size:Int)<(a.size:Int):=by omega
    go_wp2_with fail;go_ret;refine⟨bo ?_,HB.out⟩;rw[HC.out,mB (by rw[<-aA]; omega) (by rw[<-aA]; exact Nat.le_refl _) (.inr (by rw[<-aA])),<-aA,<-aA,Lib.compareInt,if_neg (by omega),if_pos (by omega)]
  ·obtain rfl:k=a.size:=by omega
   rcases Nat.lt_or_ge a.size b.size with hlb | hlb
   ·have i3:(a.size:Int)<(b.size:Int):=by omega
    go_wp2_with fail;go_ret;refine⟨bo ?_,HB.out⟩;rw[HC.out,mB (by rw[<-aA]; exact Nat.le_refl _) (by rw[<-aA]; omega) (.inl (by rw[<-aA])),<-aA,<-aA,Lib.compareInt,if_pos (by omega)]
   ·obtain heq:a.size=b.size:=by omega
    have HEQ:=ab heq;have i3: ¬(a.size:Int)<(b.size:Int):=by omega
    have i4: ¬(b.size:Int)<(a.size:Int):=by omega
    clear heq;go_wp2_with fail;go_ret;refine⟨bo ?_,HB.out⟩;rw[HC.out,mB (by rw[<-aA]; exact Nat.le_refl _) (by rw[<-aA]; omega) (.inl (by rw[<-aA])),<-aA,<-aA,Lib.compareInt,if_neg (by omega),if_neg (by omega)]
open Go.RowKit Go.Maps
theorem bq.take {α:Type} {R:List Value->α->Prop} {sz:Nat} (hs: ∀c x,R c x->c.length=sz): ∀ {xs:List α} {cells:List Value} (k:Nat),bq R cells xs->k<=xs.length->bq R (cells.take (k*sz)) (xs.take k)
 | _,_,0,_,_=>by simp[bq]
 | [],_,k+1,_,h=>by simp at h
 | x::xs,cells,k+1,⟨c,rest,hc,hx,hr⟩,h=>by
  subst hc;have hl:=hs c x hx;refine⟨c,rest.take (k*sz), ?_,hx,bq.take hs k hr (by simpa using h)⟩;rw[List.take_append,hl,List.take_of_length_le (by rw[hl,Nat.succ_mul]; omega),Nat.succ_mul]
  congr 2; omega
theorem aR.takeN {α:Type} {S:Nat->Prop} {w:World} {sz:Nat} {R:List Value->α->Prop} {a:Option Addr} {n cap:Nat} {xs:List α} (hs: ∀c x,R c x->c.length=sz) (h:aR S w sz R (.slice a n cap) xs) {k:Nat} (hk:k<=xs.length):aR S w sz R (.slice a k cap) (xs.take k):=by
 obtain⟨cells,⟨hl,a',cap',hv,hn,hm,h0⟩,hr⟩:=h
 cases hv
 have hlt:(xs.take k).length=k:=by rw[List.length_take]; omega
 refine⟨cells.take (k*sz),⟨?_,a,cap,by rw[hlt],by omega,hm, ?_⟩,bq.take hs k hr hk⟩
 ·rw[List.length_take,hl,hlt];exact Nat.min_eq_left (Nat.mul_le_mul_right _ hk)
 ·rcases h0 with h0 | ⟨b,o,ha,hb,hc⟩
  ·exact .inl (by omega)
  ·refine .inr ⟨b,o,ha,hb,fun j u hj=>hc j u ?_⟩;rw[List.getElem?_take]at hj
   split at hj
   ·exact hj
   ·cases hj
theorem gz (S:Nat->Prop) (en:bv) (v:Value) (b:Bool) (w:World) (hd:cy S w v en.data) (hok:iL en) (hps:en.path.size<=16777216) (h:cg en=b):Calls Tryz.prog 67 #[np v en] w fun e w'=>e= .returned (.bool b)/\Below w.heap.size w w':=by
 rw[<-h]; exact qC S en v w hd hok hps
theorem fA (a b:ByteArray) (o:Int) (w:World) (ha:a.size<=65536) (h:bJ (bl a) (bl b)=o):Calls Tryz.prog 45 #[.string a, .string b] w fun e w'=>e= .returned (.int .i64 o)/\Below w.heap.size w w':=by
 rw[<-h]; exact oK a b w ha
theorem mf (s q:ByteArray) (w:World) (hs:s.size<=65000) (hq:q=⟨(aQ (bl s)).toArray⟩):Calls Tryz.prog 69 #[.string s] w fun e w'=>e= .returned (.string q)/\Below w.heap.size w w':=by
 rw[hq]; exact nS s w hs
theorem sD (S:Nat->Prop) (L:List bv) (v:Value) (p:ByteArray) (x:Int) (w:World) (hv:bS S w v L) (hx:fP L (bl p)=x):Calls Tryz.prog 68 #[v, .string p] w fun e w'=>e= .returned (.int .i64 x)/\Below w.heap.size w w':=by
 rw[<-hx]; exact wG S L v p w hv
theorem lL {e:bv} (h:cg e=true):e.path.size<=65000:=by
 have:=ow (bY h);rw[aA]; omega
theorem sC (S:Nat->Prop) (L:List bv) (v:Value) (w:World) (hv:bS S w v L) (hps: ∀e∈L,e.path.size<=16777216):Calls Tryz.prog 35 #[v] w fun e w'=>e= .returned (.int .i64 (bV L))/\Below w.heap.size w w':=by
 have HV:=ab hv;obtain⟨a,cap,rfl,hc,hm,-⟩:=aR.shape hv kg.len;unfold maxLen at hm;obtain⟨n,hn⟩: ∃n,n=L.length:=⟨_,rfl⟩;have HN:=ab hn;rw[<-hn]at hc HV ⊢;clear hv
 by_cases hbig:4096<n
 ·have hbi:(4096:Int)<(n:Int):=by omega
  have HC:=ab (oV (by rw[<-hn]; exact hbig));clear hbig hn
  go_enter Tryz.func35,Tryz.ntmps35
  go_wp2_with fail;go_ret;exact⟨bo (by rw[HC.out]),Below.refl _ _⟩
 ·have hbi:(n:Int)<=(4096:Int):=by omega
  have HL4:=ab (show L.length<=4096 by omega);have HPS:=ab hps;clear hbig hn hps
  go_enter Tryz.func35,Tryz.ntmps35
  go_wp2_with fail
  go_loopw [11] (fun i wr=> ∃k:Nat,k<=n/\i= .int .i64 k/\Tr (L.take k)/\Below w.heap.size w wr) (fun i _=>n-(intOf i).toNat)
  case atStart=>exact⟨0,Nat.zero_le _,rfl,⟨List.Pairwise.nil,by simp,by simp⟩,Below.refl _ _⟩
  case round=>
   obtain⟨k,hk,rfl,htr,hbr⟩:=hrel;have HTR:=ab htr;have HBR:=ab hbr;clear htr hbr
   by_cases hlt:k<n
   ·obtain⟨e,he⟩: ∃e,L[k]? =some e:=⟨L[k]'(by rw[<-HN.out]; exact hlt),by simp⟩;obtain⟨b,o,dv,rfl,-,hb,hd,hok,-,q0,q1,q2,q3,q4,q5⟩:=ij (HV.out.below HBR.out) he;have HAT:=ab he;have HD:=ab hd;have HOK:=ab hok;have HPZ:=ab (HPS.out e (List.mem_of_getElem? he));obtain⟨a1,cap1,rfl,hd1,hd2⟩:=hd.slice;unfold maxLen at hd2;have hkc:k<=cap:=by omega
    have HKN:=ab (show k<=L.length by rw[<-HN.out]; omega);clear he hd hok
    cases hve:cg e
    ·have HVE:=ab hve;have HCA:=ab (show bQ (L.take k) e=1 by unfold bQ; rw[hve]; rfl);clear hve;go_wp2_with fail;refine ax [some 1,none,some 13,none,some 3] (by kernel_rfl) (by kernel_rfl) (by kernel_rfl) ?_;simp only[bp,List.take_succ_cons,List.take_zero,List.drop_succ_cons,List.drop_zero];obtain⟨W,hW⟩: ∃W:World,W=(wr.alloc (.cells #[.string e.path, .int .i64 e.kind, .int .i64 e.mode, .int .i64 e.time, .slice a1 e.data.length cap1, .string e.link] 30)).drew:=⟨_,rfl⟩
     rw[<-hW];have HWL:=ab (show Below wr.heap.size wr W by rw[hW]; exact((Below.refl _ _).alloc (Nat.le_refl _) _).drew);have HX:=ab (show W.heap[wr.heap.size]? =some (.cells #[.string e.path, .int .i64 e.kind, .int .i64 e.mode, .int .i64 e.time, .slice a1 e.data.length cap1, .string e.link] 30 (0,0)) by rw[hW]; exact dC wr _);have HBW:=ab (ag HBR.out HWL.out);clear hW;have c0:=aj (k:=0) HX.out
     have c1:=aj (k:=1) HX.out;have c2:=aj (k:=2) HX.out;have c3:=aj (k:=3) HX.out;have c4:=aj (k:=4) HX.out;have c5:=aj (k:=5) HX.out;simp only[gx]at c0 c1 c2 c3 c4 c5
     repeat (first | (refine aB rfl ?_; simp only[Act.put,aC,aD,aE]) | (refine aI rfl (fun K hK=> ?_); go_simp; refine hK _ ?_; clear hK K))
     refine aH ?_;refine bt rfl (fun K hK=> ?_);go_wp2_with (go_at_call 67; refine(gz S e (.slice a1 e.data.length cap1) false _ (HD.out.below HWL.out) HOK.out HPZ.out HVE.out).mono ?_; rintro e7 w7 ⟨rfl,hb7⟩; have HL7:=ab (HWL.out.trans (hb7.mono HWL.out.size)); have HX7:=ab ((hb7.block wr.heap.size (ep HX.out)).trans HX.out); clear hb7 c0 c1 c2 c3 c4 c5)
     repeat (first | (refine aB rfl ?_; simp only[Act.put,aC,aD,aE]) | (refine aI rfl (fun K hK=> ?_); go_simp; refine hK _ ?_; clear hK K))
     refine aH ?_;refine gK rfl ?_;simp only[Act.put,aC,aD,aE]
     repeat (first | (refine aB rfl ?_; simp only[Act.put,aC,aD,aE]) | (refine aI rfl (fun K hK=> ?_); go_simp; refine hK _ ?_; clear hK K))
     refine aH ?_;have HB9:=ab (ag HBR.out HL7.out);go_wp2_with fail;go_ret;exact⟨bo (by rw[de HL4.out HTR.out HAT.out (x:=1) HCA.out (by decide)]),HB9.out⟩
    ·have HVE:=ab hve;have HPP:=ab (show e.path.size<=65000 from lL hve);obtain⟨q,hq⟩: ∃q:ByteArray,q=⟨(aQ (bl e.path)).toArray⟩:=⟨_,rfl⟩;have HBQ:=ab (show bl q=aQ (bl e.path) by rw[hq]; exact kI _);have HQ:=ab hq;clear hve hq
     rcases Nat.eq_zero_or_pos k with hk0 | hk0
     ·have e9:decide (0<k)=false:=by simp; omega
      have e8:(k:Int)<=0:=by omega
      have HCV:=ab (show(cg e && fX (L.take k) e)=true by rw[hk0,HVE.out]; rfl);clear hk0;obtain⟨x,hx⟩: ∃x,fP (L.take k) (bl q)=x:=⟨_,rfl⟩;have HDX:=ab hx;have HCA:=ab (show bQ (L.take k) e=x by unfold bQ; rw[if_pos HCV.out,<-HBQ.out,hx]);clear hx;go_wp2_with fail;refine ax [some 1,none,some 13,none,some 3] (by kernel_rfl) (by kernel_rfl) (by kernel_rfl) ?_
      simp only[bp,List.take_succ_cons,List.take_zero,List.drop_succ_cons,List.drop_zero];obtain⟨W,hW⟩: ∃W:World,W=(wr.alloc (.cells #[.string e.path, .int .i64 e.kind, .int .i64 e.mode, .int .i64 e.time, .slice a1 e.data.length cap1, .string e.link] 30)).drew:=⟨_,rfl⟩;rw[<-hW];have HWL:=ab (show Below wr.heap.size wr W by rw[hW]; exact((Below.refl _ _).alloc (Nat.le_refl _) _).drew)
      have HX:=ab (show W.heap[wr.heap.size]? =some (.cells #[.string e.path, .int .i64 e.kind, .int .i64 e.mode, .int .i64 e.time, .slice a1 e.data.length cap1, .string e.link] 30 (0,0)) by rw[hW]; exact dC wr _);have HBW:=ab (ag HBR.out HWL.out);clear hW;have c0:=aj (k:=0) HX.out;have c1:=aj (k:=1) HX.out;have c2:=aj (k:=2) HX.out;have c3:=aj (k:=3) HX.out
      have c4:=aj (k:=4) HX.out;have c5:=aj (k:=5) HX.out;simp only[gx]at c0 c1 c2 c3 c4 c5
      repeat (first | (refine aB rfl ?_; simp only[Act.put,aC,aD,aE]) | (refine aI rfl (fun K hK=> ?_); go_simp; refine hK _ ?_; clear hK K))
      refine aH ?_;refine bt rfl (fun K hK=> ?_);go_wp2_with (go_at_call 67; refine(gz S e (.slice a1 e.data.length cap1) true _ (HD.out.below HWL.out) HOK.out HPZ.out HVE.out).mono ?_; rintro e7 w7 ⟨rfl,hb7⟩; have HL7:=ab (HWL.out.trans (hb7.mono HWL.out.size)); have HX7:=ab ((hb7.block wr.heap.size (ep HX.out)).trans HX.out); clear hb7 c0 c1 c2 c3 c4 c5)
      repeat (first | (refine aB rfl ?_; simp only[Act.put,aC,aD,aE]) | (refine aI rfl (fun K hK=> ?_); go_simp; refine hK _ ?_; clear hK K))
      refine aH ?_;refine gK rfl ?_;simp only[Act.put,aC,aD,aE]
      repeat (first | (refine aB rfl ?_; simp only[Act.put,aC,aD,aE]) | (refine aI rfl (fun K hK=> ?_); go_simp; refine hK _ ?_; clear hK K))
      refine aH ?_;go_wp2_with fail;refine cu (fun w'=>w'.cell? ⟨wr.heap.size,0,none⟩=some (.string e.path)) (by kernel_rfl) ?_;obtain⟨V,hV⟩: ∃V:World,V=(w7).drew:=⟨_,rfl⟩;rw[<-hV];have HLV:=ab (show Below wr.heap.size wr V by rw[hV]; exact HL7.out.trans ((Below.refl (w7).heap.size (w7)).drew.mono HL7.out.size));have HXV:=ab (show V.heap[wr.heap.size]? =some (.cells #[.string e.path, .int .i64 e.kind, .int .i64 e.mode, .int .i64 e.time, .slice a1 e.data.length cap1, .string e.link] 30 (0,0)) by rw[hV]; exact HX7.out)
      clear hV;have hS1:=aj (k:=0) HXV.out;simp only[List.getElem?_toArray,List.getElem?_cons_zero]at hS1;refine af 0 rfl (by kernel_rfl) (by kernel_rfl) (by kernel_rfl) (fun _ _ _ h=>h) rfl hS1 (by intro w' hw1; go_simp; rfl) ?_;simp only[Act.put,aC,aD,aE];refine af 1 rfl (by kernel_rfl) (by kernel_rfl) (by kernel_rfl) (fun _ _ _ h=>h) rfl hS1 (by intro w' hw1; go_simp; rfl) ?_
      simp only[Act.put,aC,aD,aE];refine af 2 rfl (by kernel_rfl) (by kernel_rfl) (by kernel_rfl) (fun _ _ _ h=>h) rfl hS1 (by intro w' hw1; go_simp; rfl) ?_;simp only[Act.put,aC,aD,aE];refine af 3 rfl (by kernel_rfl) (by kernel_rfl) (by kernel_rfl) (fun _ _ _ h=>h) rfl hS1 (by intro w' hw1; go_simp; rfl) ?_;simp only[Act.put,aC,aD,aE];refine af 4 rfl (by kernel_rfl) (by kernel_rfl) (by kernel_rfl) (fun _ _ _ h=>h) rfl hS1 (by intro w' hw1; go_simp; rfl) ?_
      simp only[Act.put,aC,aD,aE];refine az 5 rfl (by kernel_rfl) rfl (fun K hK=> ?_);go_wp2_with (go_at_call 69; refine(mf e.path q _ HPP.out HQ.out).mono ?_; rintro e9 w9 ⟨rfl,hb9⟩);have HL9:=ab (HLV.out.trans (hb9.mono HLV.out.size));have hS2:=(hb9.cell (aG hS1)).trans hS1;clear hb9;refine⟨hS2, ?_⟩;refine az 6 rfl (by kernel_rfl) rfl (fun K hK=> ?_);have HTK:=ab (show bS S w9 (.slice (some ⟨b,o,none⟩) (k) cap) (L.take (k))from aR.takeN kg.len (HV.out.below (ag HBR.out HL9.out)) HKN.out)
      go_wp2_with (go_at_call 68; refine(sD S (L.take (k)) (.slice (some ⟨b,o,none⟩) (k) cap) q x _ HTK.out HDX.out).mono ?_; rintro ea wa ⟨rfl,hba⟩);have HLA:=ab (HL9.out.trans (hba.mono HL9.out.size));have hS1:=(hba.cell (aG hS2)).trans hS2;clear hba;refine⟨hS1, ?_⟩;refine af 7 rfl (by kernel_rfl) (by kernel_rfl) (by kernel_rfl) (fun _ _ _ h=>h) rfl hS1 (by intro w' hw1; go_simp; rfl) ?_
      simp only[Act.put,aC,aD,aE];refine aZ (by kernel_rfl) ?_;have HBA:=ab (ag HBR.out HLA.out);clear hS1 hS2
      by_cases h0:x=0
      ·subst h0;have HTN:=ab (eV HTR.out HAT.out HCA.out);go_wp2_with fail
       go_roundw
       case rel=>exact⟨k+1,by omega,by go_num,HTN.out,HBA.out⟩
       case measure=>simp[intOf]; omega
      ·have e1:(x != 0)=true:=by simp[h0]
       have HX0:=ab h0;clear h0;go_wp2_with fail;go_ret;exact⟨bo (by rw[de HL4.out HTR.out HAT.out (x:=x) HCA.out HX0.out]),HBA.out⟩
     ·obtain⟨j,rfl⟩: ∃j,k=j+1:=⟨k-1,by omega⟩;obtain⟨f,hf⟩: ∃f,L[j]? =some f:=⟨L[j]'(by rw[<-HN.out]; omega),by simp⟩;obtain⟨b',o',dv',he',-,-,-,hokf,-,p0,-⟩:=ij (HV.out.below HBR.out) hf;simp only[Option.some.injEq,Addr.mk.injEq,and_true]at he';obtain⟨rfl,rfl⟩:=he';have HPF:=ab (show f.path.size<=65536 from Nat.le_trans (lL (HTR.out.val f (List.mem_of_getElem? (i:=j) (by rw[List.getElem?_take,if_pos (Nat.lt_succ_self j)]; exact hf)))) (by omega))
      obtain⟨c,hc⟩: ∃c,bJ (bl f.path) (bl e.path)=c:=⟨_,rfl⟩;have HC:=ab hc;have e9:decide (0<j+1)=true:=by simp
      have hjn:j<n:=by omega
      have hjn2:(j:Int)<(n:Int):=by omega
      have hjn3:decide (j<n)=true:=by simp; omega
      have hjc:0<=(j:Int)+1/\(j:Int)+1<=(cap:Int):=by omega
      have hwj:IntKind.i64.wrap (j:Int)=j:=by rw[IntKind.wrap_i64]; omega
      have HAF:=ab (show fX (L.take (j+1)) e=decide (c<0) by rw[qO hf,hc]);clear hf hokf hc hk0
      by_cases hneg:c<0
      ·have HCV:=ab (show(cg e && fX (L.take (j+1)) e)=true by rw[HVE.out,HAF.out,decide_eq_true hneg]; rfl);have e8:decide (0<=c)=false:=by simp; omega
       obtain⟨x,hx⟩: ∃x,fP (L.take (j+1)) (bl q)=x:=⟨_,rfl⟩;have HDX:=ab hx;have HCA:=ab (show bQ (L.take (j+1)) e=x by unfold bQ; rw[if_pos HCV.out,<-HBQ.out,hx]);clear hx;go_wp2_with fail;refine ax [some 1,none,some 13,none,some 3] (by kernel_rfl) (by kernel_rfl) (by kernel_rfl) ?_;simp only[bp,List.take_succ_cons,List.take_zero,List.drop_succ_cons,List.drop_zero]
       obtain⟨W,hW⟩: ∃W:World,W=(wr.alloc (.cells #[.string e.path, .int .i64 e.kind, .int .i64 e.mode, .int .i64 e.time, .slice a1 e.data.length cap1, .string e.link] 30)).drew:=⟨_,rfl⟩;rw[<-hW];have HWL:=ab (show Below wr.heap.size wr W by rw[hW]; exact((Below.refl _ _).alloc (Nat.le_refl _) _).drew);have HX:=ab (show W.heap[wr.heap.size]? =some (.cells #[.string e.path, .int .i64 e.kind, .int .i64 e.mode, .int .i64 e.time, .slice a1 e.data.length cap1, .string e.link] 30 (0,0)) by rw[hW]; exact dC wr _)
       have HBW:=ab (ag HBR.out HWL.out);clear hW;have c0:=aj (k:=0) HX.out;have c1:=aj (k:=1) HX.out;have c2:=aj (k:=2) HX.out;have c3:=aj (k:=3) HX.out;have c4:=aj (k:=4) HX.out;have c5:=aj (k:=5) HX.out;simp only[gx]at c0 c1 c2 c3 c4 c5
       repeat (first | (refine aB rfl ?_; simp only[Act.put,aC,aD,aE]) | (refine aI rfl (fun K hK=> ?_); go_simp; refine hK _ ?_; clear hK K))
       refine aH ?_;refine bt rfl (fun K hK=> ?_);go_wp2_with (go_at_call 67; refine(gz S e (.slice a1 e.data.length cap1) true _ (HD.out.below HWL.out) HOK.out HPZ.out HVE.out).mono ?_; rintro e7 w7 ⟨rfl,hb7⟩; have HL7:=ab (HWL.out.trans (hb7.mono HWL.out.size)); have HX7:=ab ((hb7.block wr.heap.size (ep HX.out)).trans HX.out); clear hb7 c0 c1 c2 c3 c4 c5);have c0:=aj (k:=0) HX7.out
       have c1:=aj (k:=1) HX7.out;have c2:=aj (k:=2) HX7.out;have c3:=aj (k:=3) HX7.out;have c4:=aj (k:=4) HX7.out;have c5:=aj (k:=5) HX7.out;simp only[gx]at c0 c1 c2 c3 c4 c5;have y0:=(HL7.out.cell (aG p0)).trans p0
       repeat (first | (refine aB rfl ?_; simp only[Act.put,aC,aD,aE]) | (refine aI rfl (fun K hK=> ?_); go_simp; refine hK _ ?_; clear hK K))
       refine aH ?_;refine bt rfl (fun K hK=> ?_);go_wp2_with (go_at_call 45; refine(fA f.path e.path c _ HPF.out HC.out).mono ?_; rintro e8' w8 ⟨rfl,hb8⟩; have HL8:=ab (HL7.out.trans (hb8.mono HL7.out.size)); have HX8:=ab ((hb8.block wr.heap.size (ep HX7.out)).trans HX7.out); clear hb8 c0 c1 c2 c3 c4 c5 y0)
       repeat (first | (refine aB rfl ?_; simp only[Act.put,aC,aD,aE]) | (refine aI rfl (fun K hK=> ?_); go_simp; refine hK _ ?_; clear hK K))
       refine aH ?_;go_wp2_with fail;refine cu (fun w'=>w'.cell? ⟨wr.heap.size,0,none⟩=some (.string e.path)) (by kernel_rfl) ?_;obtain⟨V,hV⟩: ∃V:World,V=(w8).drew:=⟨_,rfl⟩;rw[<-hV];have HLV:=ab (show Below wr.heap.size wr V by rw[hV]; exact HL8.out.trans ((Below.refl (w8).heap.size (w8)).drew.mono HL8.out.size));have HXV:=ab (show V.heap[wr.heap.size]? =some (.cells #[.string e.path, .int .i64 e.kind, .int .i64 e.mode, .int .i64 e.time, .slice a1 e.data.length cap1, .string e.link] 30 (0,0)) by rw[hV]; exact HX8.out)
       clear hV;have hS1:=aj (k:=0) HXV.out;simp only[List.getElem?_toArray,List.getElem?_cons_zero]at hS1;refine af 0 rfl (by kernel_rfl) (by kernel_rfl) (by kernel_rfl) (fun _ _ _ h=>h) rfl hS1 (by intro w' hw1; go_simp; rfl) ?_;simp only[Act.put,aC,aD,aE];refine af 1 rfl (by kernel_rfl) (by kernel_rfl) (by kernel_rfl) (fun _ _ _ h=>h) rfl hS1 (by intro w' hw1; go_simp; rfl) ?_
       simp only[Act.put,aC,aD,aE];refine af 2 rfl (by kernel_rfl) (by kernel_rfl) (by kernel_rfl) (fun _ _ _ h=>h) rfl hS1 (by intro w' hw1; go_simp; rfl) ?_;simp only[Act.put,aC,aD,aE];refine af 3 rfl (by kernel_rfl) (by kernel_rfl) (by kernel_rfl) (fun _ _ _ h=>h) rfl hS1 (by intro w' hw1; go_simp; rfl) ?_;simp only[Act.put,aC,aD,aE];refine af 4 rfl (by kernel_rfl) (by kernel_rfl) (by kernel_rfl) (fun _ _ _ h=>h) rfl hS1 (by intro w' hw1; go_simp; rfl) ?_
       simp only[Act.put,aC,aD,aE];refine az 5 rfl (by kernel_rfl) rfl (fun K hK=> ?_);go_wp2_with (go_at_call 69; refine(mf e.path q _ HPP.out HQ.out).mono ?_; rintro e9 w9 ⟨rfl,hb9⟩);have HL9:=ab (HLV.out.trans (hb9.mono HLV.out.size));have hS2:=(hb9.cell (aG hS1)).trans hS1;clear hb9;refine⟨hS2, ?_⟩;refine az 6 rfl (by kernel_rfl) rfl (fun K hK=> ?_);have HTK:=ab (show bS S w9 (.slice (some ⟨b,o,none⟩) (j+1) cap) (L.take (j+1))from aR.takeN kg.len (HV.out.below (ag HBR.out HL9.out)) HKN.out)
       go_wp2_with (go_at_call 68; refine(sD S (L.take (j+1)) (.slice (some ⟨b,o,none⟩) (j+1) cap) q x _ HTK.out HDX.out).mono ?_; rintro ea wa ⟨rfl,hba⟩);have HLA:=ab (HL9.out.trans (hba.mono HL9.out.size));have hS1:=(hba.cell (aG hS2)).trans hS2;clear hba;refine⟨hS1, ?_⟩;refine af 7 rfl (by kernel_rfl) (by kernel_rfl) (by kernel_rfl) (fun _ _ _ h=>h) rfl hS1 (by intro w' hw1; go_simp; rfl) ?_
       simp only[Act.put,aC,aD,aE];refine aZ (by kernel_rfl) ?_;have HBA:=ab (ag HBR.out HLA.out);clear hS1 hS2
       by_cases h0:x=0
       ·subst h0;have HTN:=ab (eV HTR.out HAT.out HCA.out);go_wp2_with fail
        go_roundw
        case rel=>exact⟨j+1+1,by omega,by go_num,HTN.out,HBA.out⟩
        case measure=>simp[intOf]; omega
       ·have e1:(x != 0)=true:=by simp[h0]
        have HX0:=ab h0;clear h0;go_wp2_with fail;go_ret;exact⟨bo (by rw[de HL4.out HTR.out HAT.out (x:=x) HCA.out HX0.out]),HBA.out⟩
      ·have HCA:=ab (show bQ (L.take (j+1)) e=1 by unfold bQ; rw[HAF.out,decide_eq_false hneg]; simp);have e8:decide (0<=c)=true:=by simp; omega
       have e7:0<=c:=by omega
       go_wp2_with fail;refine ax [some 1,none,some 13,none,some 3] (by kernel_rfl) (by kernel_rfl) (by kernel_rfl) ?_;simp only[bp,List.take_succ_cons,List.take_zero,List.drop_succ_cons,List.drop_zero];obtain⟨W,hW⟩: ∃W:World,W=(wr.alloc (.cells #[.string e.path, .int .i64 e.kind, .int .i64 e.mode, .int .i64 e.time, .slice a1 e.data.length cap1, .string e.link] 30)).drew:=⟨_,rfl⟩
       rw[<-hW];have HWL:=ab (show Below wr.heap.size wr W by rw[hW]; exact((Below.refl _ _).alloc (Nat.le_refl _) _).drew);have HX:=ab (show W.heap[wr.heap.size]? =some (.cells #[.string e.path, .int .i64 e.kind, .int .i64 e.mode, .int .i64 e.time, .slice a1 e.data.length cap1, .string e.link] 30 (0,0)) by rw[hW]; exact dC wr _);have HBW:=ab (ag HBR.out HWL.out);clear hW
       have c0:=aj (k:=0) HX.out;have c1:=aj (k:=1) HX.out;have c2:=aj (k:=2) HX.out;have c3:=aj (k:=3) HX.out;have c4:=aj (k:=4) HX.out;have c5:=aj (k:=5) HX.out;simp only[gx]at c0 c1 c2 c3 c4 c5
       repeat (first | (refine aB rfl ?_; simp only[Act.put,aC,aD,aE]) | (refine aI rfl (fun K hK=> ?_); go_simp; refine hK _ ?_; clear hK K))
       refine aH ?_;refine bt rfl (fun K hK=> ?_);go_wp2_with (go_at_call 67; refine(gz S e (.slice a1 e.data.length cap1) true _ (HD.out.below HWL.out) HOK.out HPZ.out HVE.out).mono ?_; rintro e7 w7 ⟨rfl,hb7⟩; have HL7:=ab (HWL.out.trans (hb7.mono HWL.out.size)); have HX7:=ab ((hb7.block wr.heap.size (ep HX.out)).trans HX.out); clear hb7 c0 c1 c2 c3 c4 c5);have c0:=aj (k:=0) HX7.out
       have c1:=aj (k:=1) HX7.out;have c2:=aj (k:=2) HX7.out;have c3:=aj (k:=3) HX7.out;have c4:=aj (k:=4) HX7.out;have c5:=aj (k:=5) HX7.out;simp only[gx]at c0 c1 c2 c3 c4 c5;have y0:=(HL7.out.cell (aG p0)).trans p0
       repeat (first | (refine aB rfl ?_; simp only[Act.put,aC,aD,aE]) | (refine aI rfl (fun K hK=> ?_); go_simp; refine hK _ ?_; clear hK K))
       refine aH ?_;refine bt rfl (fun K hK=> ?_);go_wp2_with (go_at_call 45; refine(fA f.path e.path c _ HPF.out HC.out).mono ?_; rintro e8' w8 ⟨rfl,hb8⟩; have HL8:=ab (HL7.out.trans (hb8.mono HL7.out.size)); clear hb8 c0 c1 c2 c3 c4 c5 y0)
       repeat (first | (refine aB rfl ?_; simp only[Act.put,aC,aD,aE]) | (refine aI rfl (fun K hK=> ?_); go_simp; refine hK _ ?_; clear hK K))
       refine aH ?_;have HB9:=ab (ag HBR.out HL8.out);go_wp2_with fail;go_ret;exact⟨bo (by rw[de HL4.out HTR.out HAT.out (x:=1) HCA.out (by decide)]),HB9.out⟩
   ·have hk2:k=n:=by omega
    subst hk2;go_wp2_with fail;go_ret;exact⟨bo (by rw[mR HL4.out (by rw[<-HN.out]; exact HTR.out)]),HBR.out⟩
open Go Go.RowKit Go.Maps
def vw (f:ay):Bool:=f.parts.all gm && (decide (f.size=iJ f.parts) && decide (iJ f.parts<=1048576)) && (decide (f.kind=1) || decide (f.parts=[]))
theorem sB (f:ay):cN f=vw f:=by
 unfold vw cN
 by_cases hk:f.kind=1
 ·rw[if_pos hk]; simp[hk]
 ·rw[if_neg hk]
  cases f.parts with
  | nil=>simp[hk,iJ]; rfl
  | cons p l=>simp[hk]
theorem wH (S:Nat->Prop) (L:List bv) (v:Value) (x:Int) (w:World) (hv:bS S w v L) (hps: ∀e∈L,e.path.size<=16777216) (h:bV L=x):Calls Tryz.prog 35 #[v] w fun e w'=>e= .returned (.int .i64 x)/\Below w.heap.size w w':=by
 rw[<-h]; exact sC S L v w hv hps
theorem AP (x:cJ) (hall:x.files.all cN=true):ci x=(decide (0<=x.tm) && decide (bV (x.files.map fI)=0)):=by
 rw[cM,hall]
 by_cases hc:bV (x.files.map fI)=0
 ·have h1:x.files.length<=4096:=by
   unfold bV at hc
   split at hc
   ·simp at hc
   ·rename_i h; rw[List.length_map]at h; omega
  simp[hc,h1]
 ·simp[hc]
theorem uu (S:Nat->Prop) (x:cJ) (fv:Value) (w:World) (hx:aO S w fv x.files) (hps: ∀f∈x.files,f.path.size<=16777216) (hlen:x.files.length<=1048576) (hpl: ∀f∈x.files,f.parts.length<=1048576):Calls Tryz.prog 13 #[cG fv x.tm] w fun e w'=>e= .returned (.bool (ci x))/\Below w.heap.size w w':=by
 obtain⟨a,cap,rfl,hc,hm,-⟩:=aR.shape hx dj.len;unfold maxLen at hm;have HX0:=ab hx;have HPS:=ab hps;have HPL:=ab hpl;clear hx hps hpl;obtain⟨n,hn⟩: ∃n,n=x.files.length:=⟨_,rfl⟩;rw[<-hn]at hc HX0 hlen ⊢;have HN:=ab hn;clear hn;unfold cG
 go_enter Tryz.func13,Tryz.ntmps13
 go_upto_region 1 with fail
 obtain⟨W,hW⟩: ∃W,W=w.alloc (.cells #[.int .i64 x.tm, .slice a n cap] 36):=⟨_,rfl⟩;rw[<-hW];have HBW:=ab (show Below w.heap.size w W by rw[hW]; exact(Below.refl _ _).alloc (Nat.le_refl _) _);have HBX:=ab (show W.heap[w.heap.size]? =some (.cells #[.int .i64 x.tm, .slice a n cap] 36 (0,0)) by rw[hW]; exact heap_alloc_new w _);have HSZ:=ab (show W.heap.size=w.heap.size+1 by rw[hW]; simp)
 clear hW;have HMO:=ab (World.ownsRow_made (base:=W.heap.size) (e:=30) (size:=6) W #[] 0 (Nat.le_refl _) (by unfold maxLen; omega) rfl);have HBM:=ab (show Below W.heap.size W (W.alloc (.cells #[] 30))from(Below.refl _ _).alloc (Nat.le_refl _) _);have HV:=ab (show aO S W (.slice a n cap) x.files from aO.below HX0.out HBW.out);go_wp2_with fail
 go_loopw [3,4] (fun v i wr=> ∃k:Nat,k<=n/\i= .int .i64 k/\(x.files.take k).all cN=true/\wr.ownsRow W.heap.size 30 6 v k (jV ((x.files.take k).map mN))/\Below W.heap.size W wr) (fun _ i _=>n-(intOf i).toNat)
 case atStart=>exact⟨0,Nat.zero_le _,rfl,rfl,HMO.out,HBM.out⟩
 case round=>
  obtain⟨k,hk,rfl,hal,hown,hb⟩:=hrel;have HB:=ab hb;have HA:=ab hal;have HOWN:=ab hown;obtain⟨av,cv,hsv,hvn,hvm⟩:=au hown;subst hsv;unfold maxLen at hvm;have HZR:=ab hb.size;have HBXr:=ab ((hb.block w.heap.size (by have:=HSZ.out; omega)).trans HBX.out);have x0:=ai (k:=0) HBXr.out;have x1:=ai (k:=1) HBXr.out;simp only[gx]at x0 x1;clear hb hal hown
  by_cases hlt:k<n
  ·obtain⟨f,hf⟩: ∃f,x.files[k]? =some f:=⟨_,List.getElem?_eq_getElem (show k<x.files.length by rw[<-HN.out]; exact hlt)⟩;obtain⟨b,o,pa,pc,rfl,hok,hpa,hblt,-,hcl⟩:=cj HV.out (Below.refl _ _) hf;have hcl: ∀j,j<7->wr.cell? ⟨b,o+k*7+j,none⟩=(bO (.slice pa f.parts.length pc) f)[j]? :=fun j hj=>(HB.out.cell (p:=⟨b,o+k*7+j,none⟩) hblt).trans (hcl j hj)
   have q0:=hcl 0 (by omega);have q1:=hcl 1 (by omega);have q2:=hcl 2 (by omega);have q3:=hcl 3 (by omega);have q4:=hcl 4 (by omega);have q5:=hcl 5 (by omega);have q6:=hcl 6 (by omega);simp only[bO,bN,Nat.add_zero]at q0 q1 q2 q3 q4 q5 q6;have HFK:=ab hf;have hplm:=HPL.out f (List.mem_of_getElem? hf);obtain⟨m,hmm⟩: ∃m,m=f.parts.length:=⟨_,rfl⟩;obtain⟨-,hmc,hpm⟩:=pC hpa
   unfold maxLen at hpm;rw[<-hmm]at q6 hpa hmc hplm;have HPA:=ab hpa;have HM:=ab hmm;clear hf hpa hcl hok hmm;obtain⟨W3,hW3⟩: ∃W3,W3=wr.alloc (.cells #[.string f.path, .int .i64 f.kind, .int .i64 f.mode, .int .i64 f.time, .int .i64 f.size, .string f.link, .slice pa m pc] 42):=⟨_,rfl⟩;have HB3:=ab (show Below wr.heap.size wr W3 by rw[hW3]; exact(Below.refl _ _).alloc (Nat.le_refl _) _)
   have HX3:=ab (show W3.heap[wr.heap.size]? =some (.cells #[.string f.path, .int .i64 f.kind, .int .i64 f.mode, .int .i64 f.time, .int .i64 f.size, .string f.link, .slice pa m pc] 42 (0,0)) by rw[hW3]; exact heap_alloc_new wr _);have HZ3:=ab (show W3.heap.size=wr.heap.size+1 by rw[hW3]; simp)
   go_upto_region 6 with fail
   rw[<-hW3];clear hW3;have d0:=ai (k:=0) HX3.out;have d1:=ai (k:=1) HX3.out;have d2:=ai (k:=2) HX3.out;have d3:=ai (k:=3) HX3.out;have d5:=ai (k:=5) HX3.out;simp only[List.getElem?_toArray,bN]at d0 d1 d2 d3 d5;have HAL:=ab ((Below.refl W3.heap.size W3).alloc (Nat.le_refl _) (.cells (ie (.slice none 0 0) (fI f)).toArray 30));have HOA:=ab (aM (aM HOWN.out HB3.out) HAL.out)
   have HRL:=ab (dz (n:=1) (sz:=6) (cells:=ie (.slice none 0 0) (fI f)) (heap_alloc_new W3 (.cells (ie (.slice none 0 0) (fI f)).toArray 30)) rfl (by decide));have HZ:=ab (show W.heap.size<=(W3.alloc (.cells (ie (.slice none 0 0) (fI f)).toArray 30)).heap.size by have:=HZR.out; have:=HZ3.out; simp; omega);go_wp2_with (at_builtin; go_must (refine bg Tryz.appEnts rfl _ _ rfl W.heap.size (.slice av k cv) k (jV ((x.files.take k).map mN)) rfl HOA.out _ 1 (ie (.slice none 0 0) (fI f)) rfl HRL.out rA (by omega) HZ.out ?_); intro v9 w9 hown9 hg9; obtain⟨a9,c9,rfl,-,-⟩:=au hown9; have HO9:=ab hown9; have HG9:=ab hg9; clear hown9 hg9)
   have HX9:=ab ((HG9.out.block wr.heap.size (by have:=HZ3.out; simp; omega) (fun e1=>by
    have:=(HOWN.out.lt _ e1.symm).2
    omega)).trans ((heap_alloc_old _ _ (by have:=HZ3.out; omega)).trans HX3.out))
   have HB9:=ab (show Below W.heap.size W w9 from aS ((ag HB.out HB3.out).trans (HAL.out.mono (by have:=HZR.out; have:=HZ3.out; omega))) HOA.out HG9.out (Nat.le_refl _) HZ.out);have HLT9:=ab (lt_of_block HX9.out);clear x0 x1 q0 q1 q2 q3 q4 q5 q6 d0 d1 d2 d3 d5
   go_loopw [6,7] (fun t i wq=> ∃j:Nat,j<=m/\i= .int .i64 j/\t= .int .i64 (iJ (f.parts.take j))/\(f.parts.take j).all gm=true/\Below w9.heap.size w9 wq) (fun _ i _=>m-(intOf i).toNat)
   case atStart=>exact⟨0,Nat.zero_le _,rfl,rfl,rfl,Below.refl _ _⟩
   case round=>
    obtain⟨j,hj,rfl,rfl,hal,hb⟩:=hrel;have HBQ:=ab hb;have HAP:=ab hal;have HXq:=ab ((hb.block _ HLT9.out).trans HX9.out);have d1:=ai (k:=1) HXq.out;have d4:=ai (k:=4) HXq.out;have d6:=ai (k:=6) HXq.out;simp only[List.getElem?_toArray,bN]at d1 d4 d6;have HBE:=ab (HBW.out.trans ((ag HB9.out HBQ.out).mono (by have:=HSZ.out; omega)));clear hb hal
    by_cases hjm:j<m
    ·obtain⟨p,hp⟩: ∃p,f.parts[j]? =some p:=⟨_,List.getElem?_eq_getElem (show j<f.parts.length by rw[<-HM.out]; exact hjm)⟩;obtain⟨b2,o2,rfl,-,-,hpok,q0,q1⟩:=dS HPA.out (ag HB9.out HBQ.out) hp;have HP:=ab hp;have hsum:=hpok.sm;unfold maxLen at hsum;clear hp hpok
     by_cases hv:gm p=true
     case neg=>
      have HVN:=ab (show cN f=false by
       rw[sB]; unfold vw;rw[gZ HP.out (by simpa using hv)]; rfl)
      have hv2:p.sum.size=32->1<=p.size-> ¬p.size<=32768:=fun h1 h2 h3=>hv (by unfold gm; simp[h1,h2,h3])
      have HV2:=ab hv2;clear hv hv2
      by_cases h1:p.sum.size=32
      case neg=>
       have h1': ¬(p.sum.size:Int)=32:=by omega
       have HBAD:=ab (show ci x=false by rw[cM,gZ HFK.out HVN.out]; simp);go_wp2_with fail;go_ret;exact⟨aw (by rw[HBAD.out]),HBE.out⟩
      by_cases h2:p.size<1
      case pos=>
       have HBAD:=ab (show ci x=false by rw[cM,gZ HFK.out HVN.out]; simp);go_wp2_with fail;go_ret;exact⟨aw (by rw[HBAD.out]),HBE.out⟩
      have h3:32768<p.size:=by have:=HV2.out h1 (by omega); omega
      have HBAD:=ab (show ci x=false by rw[cM,gZ HFK.out HVN.out]; simp);go_wp2_with fail;go_ret;exact⟨aw (by rw[HBAD.out]),HBE.out⟩
     obtain⟨h1,h2,h3⟩:=(show p.sum.size=32/\1<=p.size/\p.size<=32768 by unfold gm at hv; simpa [and_assoc]using hv);have HVP:=ab hv;have hn2: ¬p.size<1:=by omega
     have hn3: ¬32768<p.size:=by omega
     clear hv;go_wp2_with fail
     go_roundw
     case rel=>
      refine⟨j+1,by omega,rfl, ?_,iO HAP.out HP.out HVP.out,HBQ.out⟩;rw[aX HP.out,pP]
     case measure=>simp only[intOf,Int.toNat_natCast]; omega
    ·have htk:f.parts.take j=f.parts:=List.take_of_length_le (by rw[<-HM.out]; omega);have hall:f.parts.all gm=true:=by rw[<-htk]; exact HAP.out
     rw[htk];have HALL:=ab hall;obtain⟨t,ht⟩: ∃t,t=iJ f.parts:=⟨_,rfl⟩;rw[<-ht];have HT:=ab ht;clear hall htk ht;have HRS:=ab (show cN f=((decide (f.size=t) && decide (t<=1048576)) && (decide (f.kind=1) || decide (f.parts=[]))) by
      rw[sB]; unfold vw; rw[HALL.out,<-HT.out]; rfl)
     by_cases h1:f.size=t
     case neg=>
      have HVN:=ab (show cN f=false by rw[HRS.out]; simp[h1]);have HBAD:=ab (show ci x=false by rw[cM,gZ HFK.out HVN.out]; simp);go_wp2_with fail;go_ret;exact⟨aw (by rw[HBAD.out]),HBE.out⟩
     by_cases h2:1048576<t
     case pos=>
      have HVN:=ab (show cN f=false by rw[HRS.out,show decide (t<=1048576)=false by simp; omega]; simp);have HBAD:=ab (show ci x=false by rw[cM,gZ HFK.out HVN.out]; simp);go_wp2_with fail;go_ret;exact⟨aw (by rw[HBAD.out]),HBE.out⟩
     by_cases h3:f.kind=1
     case pos=>
      have HVY:=ab (show cN f=true by rw[HRS.out]; simp[h1,h3]; omega);go_wp2_with fail
      go_roundw
      case rel=>
       refine⟨k+1,by omega,rfl,iO HA.out HFK.out HVY.out, ?_,ag HB9.out HBQ.out⟩;rw[aX HFK.out,List.map_append,List.map_singleton,km];exact aM HO9.out HBQ.out
      case measure=>simp only[intOf,Int.toNat_natCast]; omega
     by_cases h4:m=0
     case neg=>
      have HVN:=ab (show cN f=false by
       rw[HRS.out];have:f.parts≠[]:=fun e=>h4 (by rw[HM.out,e]; rfl)
       simp[h3,this])
      have h5:0<m:=by omega
      have HBAD:=ab (show ci x=false by rw[cM,gZ HFK.out HVN.out]; simp);go_wp2_with fail;go_ret;exact⟨aw (by rw[HBAD.out]),HBE.out⟩
     have h5:f.parts=[]:=List.eq_nil_of_length_eq_zero (by rw[<-HM.out]; exact h4);have HVY:=ab (show cN f=true by rw[HRS.out]; simp[h1,h5]; omega);have h6: ¬0<m:=by omega
     clear h5;go_wp2_with fail
     go_roundw
     case rel=>
      refine⟨k+1,by omega,rfl,iO HA.out HFK.out HVY.out, ?_,ag HB9.out HBQ.out⟩;rw[aX HFK.out,List.map_append,List.map_singleton,km];exact aM HO9.out HBQ.out
     case measure=>simp only[intOf,Int.toNat_natCast]; omega
  ·have hkn:k=n:=by omega
   subst hkn;have htk:x.files.take k=x.files:=List.take_of_length_le (by rw[<-HN.out]; exact Nat.le_refl _);have HALL:=ab (show x.files.all cN=true by rw[<-htk]; exact HA.out);rw[htk]at HOWN;clear htk;have HEA:=ab (show bS (fun i=>W.heap.size<=i/\(Value.slice av k cv).ownBlock=some i) wr (.slice av k cv) (x.files.map fI) by
    have h1:=bm HOWN.out;have h2:=nr (S:=fun i=>W.heap.size<=i/\(Value.slice av k cv).ownBlock=some i) (w:=wr) (ys:=x.files.map mN) (fun y hy=>by
     obtain⟨f,hf,rfl⟩:=List.mem_map.1 hy;exact⟨cy.nil _ _,yu (rD HV.out f hf)⟩)
    rw[qP]at h2;have h3:(x.files.map fI).length=k:=by rw[List.length_map,HN.out]
    exact⟨_,by rw[h3]; exact h1,h2⟩)
   have HPE:=ab (show ∀e∈x.files.map fI,e.path.size<=16777216 from fun e he=>by
    obtain⟨f,hf,rfl⟩:=List.mem_map.1 he;exact HPS.out f hf)
   obtain⟨z,hz⟩: ∃z,bV (x.files.map fI)=z:=⟨_,rfl⟩;have HZ:=ab hz;have HEB:=ab (show Below w.heap.size w wr from HBW.out.trans (HB.out.mono (by have:=HSZ.out; omega)));have HR:=ab (show ci x=(decide (0<=x.tm) && decide (z=0)) by rw[AP x HALL.out,hz]);clear hz
   by_cases ht:0<=x.tm
   case neg=>
    have HF:=ab (show ci x=false by rw[HR.out,decide_eq_false ht]; rfl);have ht2:x.tm<0:=by omega
    go_wp2_with fail;go_ret;exact⟨aw (by rw[HF.out]),HEB.out⟩
   have HF:=ab (show ci x=decide (z=0) by rw[HR.out,decide_eq_true ht]; rfl);go_wp2_with (go_at_call 35; refine(wH _ _ _ z _ HEA.out HPE.out HZ.out).mono ?_; rintro e w1 ⟨rfl,hb1⟩; have HB2:=ab (ag HEB.out hb1); clear hb1);go_ret;exact⟨aw (by rw[HF.out]; rfl),HB2.out⟩
theorem yw (r r':bC) (w:World):(Op.equalIn 10000 85 (iE r) (iE r')).run Tryz.prog w= .ok (decide (r=r')) w:=by
 have u1:=Tryz.underlying9;have u2:=Tryz.underlying3;have hS:Tryz.prog.underlying 85=some (.struct (Tryz.prog.fieldsOf 85)):=by kernel_rfl
 rw[show(10000:Nat)=9999+1 from rfl];unfold iE;rw[run_equalIn_struct w 9999 85 _ _ hS (by kernel_rfl)];simp only[Program.fieldsOf,Tryz.underlying85]
 go_simp
 obtain⟨n,s⟩:=r;obtain⟨n',s'⟩:=r';have hn:n.toList=n'.toList<->n=n':=⟨fun h=>ew (by rw[<-aV,<-aV,h]),fun h=>by rw[h]⟩;simp only[bC.mk.injEq,hn]
 by_cases h1:n=n'<;> by_cases h3:s=s'<;> simp[h1,h3]
theorem my (S T:Nat->Prop) (v u:Value) (rs ss:List bC) (w:World) (hv:aK S w v rs) (hu:aK T w u ss):
  Calls Tryz.prog 47 #[v,u] w fun e w'=>e= .returned (.bool (decide (rs=ss)))/\Below w.heap.size w w':=by
 obtain⟨a,cap,rfl,hc,hm,-⟩:=aR.shape hv dq.len;obtain⟨a2,cap2,rfl,hc2,hm2,-⟩:=aR.shape hu dq.len;unfold maxLen at hm hm2;have HV:=ab hv;have HU:=ab hu;clear hv hu
 by_cases hl:rs.length=ss.length
 ·have HL:=ab hl;have hl2:ss.length=rs.length:=hl.symm;rw[hl2]at HU hc2 ⊢;clear hl hl2
  go_enter Tryz.func47,Tryz.ntmps47
  go_wp2_with fail
  go_loopw [5] (fun i wr=> ∃k:Nat,k<=rs.length/\i= .int .i64 k/\rs.take k=ss.take k/\Below w.heap.size w wr) (fun i _=>rs.length-(intOf i).toNat)
  case atStart=>exact⟨0,Nat.zero_le _,rfl,by simp,Below.refl _ _⟩
  case round=>
   obtain⟨k,hk,rfl,hn,hb⟩:=hrel;have HN:=ab hn;have HB:=ab hb;clear hn hb
   by_cases hlt:k<rs.length
   ·obtain⟨r,hr⟩: ∃r,rs[k]? =some r:=⟨rs[k],by simp[hlt]⟩;obtain⟨x,hx⟩: ∃x,ss[k]? =some x:=⟨ss[k]'(by have:=HL.out; omega),by simp⟩;have HR:=ab hr;have HX:=ab hx;have heq:=yw r x;obtain⟨W,hW⟩: ∃W:World,W=wr.drew:=⟨_,rfl⟩;have HBW:=ab (show Below w.heap.size w W by rw[hW]; exact HB.out.drew);obtain⟨b,o,rfl,-,-,-,q0,q1⟩:=dS HV.out HBW.out hr
    obtain⟨b2,o2,rfl,-,-,-,p0,p1⟩:=dS (by have:=HU.out; rw[HL.out]at this; exact this) HBW.out hx;unfold iE at heq;clear hr hx
    by_cases hm:r=x
    ·have e1:decide (r=x)=true:=by simp[hm]
     rw[e1]at heq;have HT:=ab (show rs.take (k+1)=ss.take (k+1) by rw[aX HR.out,aX HX.out,HN.out,hm]);clear e1 hm;go_wp2_with fail;refine ax [some 9] (by kernel_rfl) (by kernel_rfl) (by kernel_rfl) ?_;simp only[bp,List.take_succ_cons,List.take_zero];rw[<-hW];clear hW
     repeat (first | (refine aB rfl ?_; simp only[Act.put,aC,aD,aE]) | (refine aI rfl (fun K hK=> ?_); go_simp; refine hK _ ?_; clear hK K))
     refine aH ?_;go_wp2_with fail
     go_roundw
     case rel=>exact⟨k+1,by omega,rfl,HT.out,HBW.out⟩
     case measure=>simp only[intOf,Int.toNat_natCast]; omega
    ·have e1:decide (r=x)=false:=by simp[hm]
     rw[e1]at heq;have HT:=ab (show decide (rs=ss)=false by
      rw[decide_eq_false_iff_not];intro e;have h1:=HR.out;rw[e,HX.out]at h1;exact hm (Option.some.inj h1).symm)
     clear e1 hm;go_wp2_with fail;refine ax [some 9] (by kernel_rfl) (by kernel_rfl) (by kernel_rfl) ?_;simp only[bp,List.take_succ_cons,List.take_zero];rw[<-hW];clear hW
     repeat (first | (refine aB rfl ?_; simp only[Act.put,aC,aD,aE]) | (refine aI rfl (fun K hK=> ?_); go_simp; refine hK _ ?_; clear hK K))
     refine aH ?_;go_wp2_with fail;go_ret;exact⟨aw HT.out.symm,HBW.out⟩
   ·obtain rfl:k=rs.length:=by omega
    have HT:=ab (show decide (rs=ss)=true by
     have:=HN.out;rw[List.take_of_length_le (Nat.le_refl _),List.take_of_length_le (by rw[HL.out]; exact Nat.le_refl _)]at this;simp[this])
    go_wp2_with fail;go_ret;exact⟨aw HT.out.symm,HB.out⟩
 ·have HT:=ab (show decide (rs=ss)=false by rw[decide_eq_false_iff_not]; intro e; exact hl (by rw[e]));have e1:((rs.length:Int) != (ss.length:Int))=true:=by simp; omega
  clear hl
  go_enter Tryz.func47,Tryz.ntmps47
  go_wp2_with fail;go_ret;exact⟨aw HT.out.symm,Below.refl _ _⟩
def dN :List ay->ByteArray->Nat->Int
 | [],_,_=> -1
 | e::L,p,i=>if e.path=p then(i:Int)else dN L p (i+1)
theorem rE {L:List ay} {p:ByteArray} {k:Nat} {e:ay} (h:L[k]? =some e):dN (L.drop k) p k=if e.path=p then(k:Int)else dN (L.drop (k+1)) p (k+1):=by
 obtain⟨hk,he⟩:=List.getElem?_eq_some_iff.1 h;rw[List.drop_eq_getElem_cons hk,dN,he]
theorem iW {p:ByteArray} : ∀(L:List ay) (i:Nat),(cQ L p=none/\dN L p i= -1)\/ ∃j e,cQ L p=some e/\L[j]? =some e/\dN L p i=((i+j:Nat):Int)
 | [],i=> .inl ⟨rfl,rfl⟩
 | e::L,i=>by
  by_cases h:e.path=p
  ·right
   refine⟨0,e,eH h,rfl, ?_⟩;rw[dN,if_pos h]; simp
  ·rw[dN,if_neg h,dx h]
   rcases iW L (i+1)with h1 | ⟨j,f,h1,h2,h3⟩
   ·exact .inl h1
   ·exact .inr ⟨j+1,f,h1,by simpa using h2,by rw[h3]; congr 1; omega⟩
theorem sJ (S:Nat->Prop) (L:List ay) (v:Value) (p:ByteArray) (w:World) (hv:aO S w v L):
  Calls Tryz.prog 46 #[v, .string p] w fun e w'=>e= .returned (.int .i64 (dN L p 0))/\Below w.heap.size w w':=by
 have HV:=ab hv;obtain⟨a,cap,rfl,hc,hm,-⟩:=aR.shape hv dj.len;obtain⟨n,hn⟩: ∃n,n=L.length:=⟨_,rfl⟩;have HN:=ab hn;rw[<-hn]at HV hc ⊢;unfold maxLen at hm;clear hv hn
 go_enter Tryz.func46,Tryz.ntmps46
 go_wp2_with fail
 go_loopw [5] (fun i wr=> ∃k:Nat,k<=n/\i= .int .i64 k/\dN L p 0=dN (L.drop k) p k/\Below w.heap.size w wr) (fun i _=>n-(intOf i).toNat)
 case atStart=>exact⟨0,Nat.zero_le _,rfl,rfl,Below.refl _ _⟩
 case round=>
  obtain⟨k,hk,rfl,hfi,hbr⟩:=hrel;have HFI:=ab hfi;have HBR:=ab hbr
  by_cases hlt:k<n
  ·obtain⟨e,he⟩: ∃e,L[k]? =some e:=⟨L[k]'(by rw[<-HN.out]; exact hlt),by simp⟩;obtain⟨b,o,pa,pc,rfl,hok,-,-,-,hcl⟩:=cj HV.out hbr he;have q0:=hcl 0 (by omega);simp only[bO,List.getElem?_cons_zero,Nat.add_zero]at q0;have HAT:=ab (rE (p:=p) he);clear he hfi hbr hcl hok
   by_cases hp:e.path=p
   ·have e1:(e.path.toList == p.toList)=true:=by rw[hp]; simp
    have HR:=ab (show dN L p 0=(k:Int) by rw[HFI.out,HAT.out,if_pos hp]);clear hp;go_wp2_with fail;go_ret;exact⟨bo HR.out.symm,HBR.out⟩
   ·have e1:(e.path.toList == p.toList)=false:=by
     rw[beq_eq_false_iff_ne]; intro h; exact hp (ew (by rw[<-aV,<-aV]; exact h))
    have HR:=ab (show dN L p 0=dN (L.drop (k+1)) p (k+1) by rw[HFI.out,HAT.out,if_neg hp]);clear hp;go_wp2_with fail
    go_roundw
    case rel=>exact⟨k+1,by omega,by go_num,HR.out,HBR.out⟩
    case measure=>simp[intOf]; omega
  ·have HR:=ab (show dN L p 0= -1 by rw[HFI.out,List.drop_of_length_le (by rw[<-HN.out]; omega)]; rfl);clear hfi hbr;go_wp2_with fail;go_ret;exact⟨bo HR.out.symm,HBR.out⟩
theorem jp (l:List ByteArray): ∀u∈l.map Value.string,u.oneCell'=true:=by
 intro u hu;obtain⟨x,_,rfl⟩:=List.mem_map.1 hu
 rfl
theorem zd {w:World} {z:Nat} {x:Value} {t:TypeId} (h:w.heap[z]? =some (.cells #[x] t (0,0))):aN (fun k=>k=z) w 1 (.slice (some ⟨z,0,none⟩) 1 1) 1 [x]:=
 ⟨rfl,_,1,rfl,Nat.le_refl _,by unfold maxLen; omega, .inr ⟨z,0,rfl,rfl,fun j u hj=>by
  rw[Nat.zero_add,aj h]
  simpa [List.getElem?_toArray]using hj⟩⟩
theorem nU {S:Nat->Prop} {w:World} {sz n c k:Nat} {a:Option Addr} {cells:List Value} (h:aN S w sz (.slice a n c) n cells) (hk:k<=n):aN S w sz (.slice a k c) k (cells.take (k*sz)):=by
 obtain⟨hl,a',cap,he,hn,hm,h0⟩:=h
 cases he
 refine⟨by rw[List.length_take,hl]; exact Nat.min_eq_left (Nat.mul_le_mul_right _ hk),a,c,rfl,by omega,hm, ?_⟩
 rcases h0 with h0 | ⟨b,o,ha,hb,hc⟩
 ·exact .inl (by omega)
 ·refine .inr ⟨b,o,ha,hb,fun j u hj=>hc j u ?_⟩;rw[List.getElem?_take]at hj
  split at hj
  ·exact hj
  ·cases hj
theorem zb {S:Nat->Prop} {w:World} {sz n c k b o:Nat} {cells:List Value} (h:aN S w sz (.slice (some ⟨b,o,none⟩) n c) n cells) (hk:k<=n):aN S w sz (.slice (some ⟨b,o+k*sz,none⟩) (n-k) (c-k)) (n-k) (cells.drop (k*sz)):=by
 obtain⟨hl,a',cap,he,hn,hm,h0⟩:=h
 cases he
 refine⟨by rw[List.length_drop,hl,Nat.sub_mul],_,_,rfl,by omega,by omega, ?_⟩
 rcases h0 with h0 | ⟨b',o',ha,hb,hc⟩
 ·exact .inl (by omega)
 ·cases ha
  refine .inr ⟨b,_,rfl,hb,fun j u hj=> ?_⟩;rw[List.getElem?_drop]at hj;rw[Nat.add_assoc];exact hc _ u hj
theorem sL {S:Nat->Prop} {w:World} {sz c:Nat} {a:Option Addr} (hc:c<=maxLen):aN S w sz (.slice a 0 c) 0 []:=⟨by simp,a,c,rfl,Nat.zero_le _,hc, .inl rfl⟩
structure kG (W wr : World) (v : Value) (P : List ByteArray) : Prop where
 row:wr.ownsRow W.heap.size 9 1 v P.length (P.map Value.string)
 shp: ∃pb pc,v= .slice (some ⟨pb,0,none⟩) P.length pc
 below:Below W.heap.size W wr
theorem kG.one {w:World} {B n:Nat} {v:Value} {P:List Value} (h:w.ownsRow B 9 1 v n P) (hn:0<n): ∃pb pc,v= .slice (some ⟨pb,0,none⟩) n pc:=by
 rcases h.2 with⟨-,h0⟩ | ⟨gb,cap,cur,rfl,-⟩
 ·omega
 ·exact⟨_,_,rfl⟩
theorem kG.later {W W0 w8:World} {v:Value} {L:List ByteArray} (h:kG W W0 v L) (hb:Below W0.heap.size W0 w8):kG W w8 v L:=⟨aM h.row hb,h.shp,h.below.trans (hb.mono h.below.size)⟩
theorem rT {α:Type} [DecidableEq α] {lt:α->α->Bool} {p:α} : ∀ {P:List α},(gp lt P p).length<=P.length+1
 | []=>by simp[gp]
 | x::P=>by
  simp only[gp]
  split
  ·have:=rT (lt:=lt) (p:=p) (P:=P);simp only[List.length_cons]; omega
  ·split<;> simp
theorem rV {α:Type} [DecidableEq α] {lt:α->α->Bool} : ∀(l P:List α),(l.foldl (gp lt) P).length<=P.length+l.length
 | [],P=>by simp
 | x::l,P=>by
  have h1:=rV (lt:=lt) l (gp lt P x);have h2:=rT (lt:=lt) (p:=x) (P:=P);rw[List.foldl_cons,List.length_cons]; omega
def cU (a b:cJ):List ByteArray:=a.files.map ay.path++b.files.map ay.path
theorem gY (a b:cJ):(cU a b).length=a.files.length+b.files.length:=by simp[cU]
theorem tt {a b:cJ} {k:Nat} {f:ay} (h:a.files[k]? =some f):(cU a b)[k]? =some f.path:=by
 have hk:=(List.getElem?_eq_some_iff.1 h).1;unfold cU;rw[List.getElem?_append_left (by simpa using hk),List.getElem?_map,h]; rfl
theorem tu {a b:cJ} {k:Nat} {f:ay} (h:b.files[k-a.files.length]? =some f) (hk:a.files.length<=k):(cU a b)[k]? =some f.path:=by
 unfold cU;rw[List.getElem?_append_right (by simpa using hk),List.getElem?_map,List.length_map,h]; rfl
def ey (a b:cJ) (k:Nat):List ByteArray:=((cU a b).take k).foldl (gp go) []
theorem sw {a b:cJ} {k:Nat} {p:ByteArray} (h:(cU a b)[k]? =some p):ey a b (k+1)=gp go (ey a b k) p:=by
 unfold ey;rw[aX h,List.foldl_append]; rfl
theorem nO (a b:cJ) (k:Nat):(ey a b k).length<=a.files.length+b.files.length:=by
 have h1:=rV (lt:=go) ((cU a b).take k) [];have h2:((cU a b).take k).length<=(cU a b).length:=List.length_take_le' _ _;rw[gY]at h2;unfold ey;rw[List.length_nil]at h1; omega
theorem nP {a b:cJ} {k:Nat} {p:ByteArray} (h:p∈ey a b k):(∃f∈a.files,f.path=p)\/ ∃f∈b.files,f.path=p:=by
 have h1:=(qr (lt:=go) _ _).1 h
 rcases h1 with h1 | h1
 ·cases h1
 ·have h2:=List.mem_of_mem_take h1;unfold cU at h2
  simpa [List.mem_append,List.mem_map]using h2
theorem nN (a b:cJ):ey a b (a.files.length+b.files.length)=je a.files b.files:=by
 unfold ey je;rw[List.take_of_length_le (by rw[gY]; exact Nat.le_refl _)]; rfl
theorem tW {L:List ByteArray} {p:ByteArray} {j:Nat} (h: ∀f∈L.take j,go f p=true): ∀(i:Nat) (q:ByteArray),i<j->L[i]? =some q->go q p=true:=fun i q hi hq=>h q (List.mem_of_getElem? (i:=i) (by rw[List.getElem?_take,if_pos hi]; exact hq))
theorem Tryz.appChg22 :cI Tryz.prog 68 82 2 24:=cI.mk' (z:= .agg #[.string ⟨#[]⟩, .int .i64 0]) Tryz.underlying68 (by kernel_rfl) rfl (by decide) (by decide)
structure cL (W wr : World) (v : Value) (out : List (ByteArray × Int)) : Prop where
 own:wr.ownsRow W.heap.size 82 2 v out.length (cr out)
 below:Below W.heap.size W wr
theorem cL.next {W wr w':World} {v:Value} {out:List (ByteArray×Int)} (h:cL W wr v out) (hb:Below wr.heap.size wr w'):cL W w' v out:=⟨aM h.own hb,ag h.below hb⟩
theorem rC {w:World} {b o:Nat} {f:ay} {v:Value} (h:w.cell? ⟨b,o+0,none⟩=(bO v f)[0]?):b<w.heap.size:=aG (a:=⟨b,o+0,none⟩) (v:= .string f.path) h
def vH (b p:Nat) (v:Value) (f:ay) (w:World):Prop:=w.cell? ⟨b,p+1,none⟩=some (.int .i64 f.kind)/\w.cell? ⟨b,p+2,none⟩=some (.int .i64 f.mode)/\w.cell? ⟨b,p+3,none⟩=some (.int .i64 f.time)/\w.cell? ⟨b,p+5,none⟩=some (.string f.link)/\w.cell? ⟨b,p+6,none⟩=some v
def tk (X Y:Nat) (va vb:Value) (b1 p1:Nat) (v1:Value) (f:ay) (b2 p2:Nat) (v2:Value) (g:ay) (w:World):Prop:=w.cell? ⟨X,1,none⟩=some va/\w.cell? ⟨Y,1,none⟩=some vb/\w.cell? ⟨b1,p1+1,none⟩=some (.int .i64 f.kind)/\w.cell? ⟨b1,p1+2,none⟩=some (.int .i64 f.mode)/\w.cell? ⟨b1,p1+3,none⟩=some (.int .i64 f.time)/\w.cell? ⟨b1,p1+5,none⟩=some (.string f.link)/\w.cell? ⟨b1,p1+6,none⟩=some v1/\vH b2 p2 v2 g w
def tH (a b:cJ) (L:List ByteArray) (j:Nat):List (ByteArray×Int):=(L.take j).flatMap (bG a.files b.files)
theorem vR (a b:List ay) (p:ByteArray):(bG a b p).length<=1:=by
 unfold bG
 split
 ·simp
 ·simp
 ·split<;> simp
theorem qX (a b:cJ): ∀(L:List ByteArray),(L.flatMap (bG a.files b.files)).length<=L.length
 | []=>by simp
 | p::L=>by
  have h1:=qX a b L;have h2:=vR a.files b.files p;rw[List.flatMap_cons,List.length_append,List.length_cons]; omega
theorem eB {a b:cJ} {L:List ByteArray} {j:Nat} {p:ByteArray} (h:L[j]? =some p):tH a b L (j+1)=tH a b L j++bG a.files b.files p:=by
 unfold tH;rw[aX h,List.flatMap_append];simp
theorem ff (S:Nat->Prop) (L:List ay) (v:Value) (p:ByteArray) (x:Int) (w:World) (hv:aO S w v L) (h:dN L p 0=x):
  Calls Tryz.prog 46 #[v, .string p] w fun e w'=>e= .returned (.int .i64 x)/\Below w.heap.size w w':=by
 rw[<-h]; exact sJ S L v p w hv
theorem jn (S T:Nat->Prop) (v u:Value) (rs ss:List bC) (b:Bool) (w:World) (hv:aK S w v rs) (hu:aK T w u ss) (h:decide (rs=ss)=b):
  Calls Tryz.prog 47 #[v,u] w fun e w'=>e= .returned (.bool b)/\Below w.heap.size w w':=by
 rw[<-h]; exact my S T v u rs ss w hv hu
theorem qD (S T:Nat->Prop) (a b:cJ) (va vb:Value) (w:World) (ha:aO S w va a.files) (hb:aO T w vb b.files) (hla:a.files.length<=4096) (hlb:b.files.length<=4096) (hpa: ∀f∈a.files,f.path.size<=65536) (hpb: ∀f∈b.files,f.path.size<=65536):
  Calls Tryz.prog 25 #[cG va a.tm,cG vb b.tm] w fun e w'=> ∃v,e= .returned v/\w'.ownsRow w.heap.size 82 2 v ((je a.files b.files).flatMap (bG a.files b.files)).length (cr ((je a.files b.files).flatMap (bG a.files b.files)))/\Below w.heap.size w w':=by
 obtain⟨aa,ac,rfl,hac,ham,-⟩:=aR.shape ha dj.len;obtain⟨ba,bc,rfl,hbc,hbm,-⟩:=aR.shape hb dj.len;have HA:=ab ha;have HB:=ab hb;have HPA:=ab hpa;have HPB:=ab hpb;obtain⟨na,hna⟩: ∃n,n=a.files.length:=⟨_,rfl⟩;obtain⟨nb,hnb⟩: ∃n,n=b.files.length:=⟨_,rfl⟩;rw[<-hna]at HA hla ⊢;rw[<-hnb]at HB hlb ⊢;have HNA:=ab hna;have HNB:=ab hnb;clear ha hb hpa hpb hna hnb hac ham hbc hbm
 unfold cG
 go_enter Tryz.func25,Tryz.ntmps25
 go_upto_region 1 with fail
 obtain⟨W,hW⟩: ∃W,W=(w.alloc (.cells #[.int .i64 a.tm, .slice aa na ac] 36)).alloc (.cells #[.int .i64 b.tm, .slice ba nb bc] 36):=⟨_,rfl⟩;rw[<-hW];have HBW:=ab (show Below w.heap.size w W by rw[hW]; exact((Below.refl _ _).alloc (Nat.le_refl _) _).alloc (by simp) _);have HX:=ab (show W.heap[w.heap.size]? =some (.cells #[.int .i64 a.tm, .slice aa na ac] 36 (0,0)) by rw[hW]; exact kh (heap_alloc_new w _) _)
 have HY:=ab (show W.heap[w.heap.size+1]? =some (.cells #[.int .i64 b.tm, .slice ba nb bc] 36 (0,0)) by rw[hW]; exact heap_alloc2_new w _ _);have HSZ:=ab (show W.heap.size=w.heap.size+2 by rw[hW]; simp);clear hW;have HS0:=ab (show kG W (W.alloc (.cells #[] 9)) (.slice (some ⟨W.heap.size,0,none⟩) 0 0) (ey a b 0)from⟨World.ownsRow_made (base:=W.heap.size) (e:=9) (size:=1) W #[] 0 (Nat.le_refl _) (by unfold maxLen; omega) rfl,⟨_,_,rfl⟩,(Below.refl _ _).alloc (Nat.le_refl _) _⟩)
 have HAW:=ab (HA.out.below HBW.out);have HBF:=ab (HB.out.below HBW.out);go_wp2_with fail
 go_loopw [5,6] (fun v i wr=> ∃k:Nat,k<=na+nb/\i= .int .i64 k/\kG W wr v (ey a b k)) (fun _ i _=>na+nb-(intOf i).toNat)
 case atStart=>exact⟨0,Nat.zero_le _,rfl,HS0.out⟩
 case round=>
  obtain⟨k,hk,rfl,hso⟩:=hrel;have HSO:=ab hso;obtain⟨W0,hW0⟩: ∃x:World,x=wr:=⟨_,rfl⟩;subst hW0;obtain⟨pb,pc,rfl⟩:=hso.shp;have hbx:=hso.below;have x1:=(hbx.cell (p:=⟨w.heap.size,1,none⟩) (by show w.heap.size<W.heap.size; have:=HSZ.out; omega)).trans (ai (k:=1) HX.out);have y1:=(hbx.cell (p:=⟨w.heap.size+1,1,none⟩) (by show w.heap.size+1<W.heap.size; have:=HSZ.out; omega)).trans (ai (k:=1) HY.out)
  simp only[List.getElem?_toArray,bN]at x1 y1;have hsum:IntKind.i64.wrap ((na:Int)+(nb:Int))=((na+nb:Nat):Int):=by rw[IntKind.wrap_i64]; omega
  clear hso hbx
  by_cases hlt:k<na+nb
  ·obtain⟨p,hp⟩: ∃p,(cU a b)[k]? =some p:=⟨_,List.getElem?_eq_getElem (show k<(cU a b).length by rw[gY,<-HNA.out,<-HNB.out]; exact hlt)⟩;have HPK:=ab hp;clear hp
   go_upto_if 29 with fail
   go_cut [7]from 14 to 84 (fun s wx=>s= .string p/\wx=W0)
   case first=>
    by_cases hka:k<na
    ·obtain⟨f,hf⟩: ∃f,a.files[k]? =some f:=⟨_,List.getElem?_eq_getElem (show k<a.files.length by rw[<-HNA.out]; exact hka)⟩;obtain⟨b1,o1,pa1,pc1,rfl,-,-,-,-,hcl⟩:=cj HAW.out HSO.out.below hf;have q0:=hcl 0 (by omega);simp only[bO,List.getElem?_cons_zero,Nat.add_zero]at q0;have HPE:=ab (show f.path=p from Option.some.inj ((tt hf).symm.trans HPK.out))
     clear hcl hf;go_wp2_with fail
     go_meet
     case rel=>exact⟨by rw[HPE.out],rfl⟩
    ·obtain⟨f,hf⟩: ∃f,b.files[k-na]? =some f:=⟨_,List.getElem?_eq_getElem (show k-na<b.files.length by rw[<-HNB.out]; omega)⟩;obtain⟨b1,o1,pa1,pc1,rfl,-,-,-,-,hcl⟩:=cj HBF.out HSO.out.below hf;have q0:=hcl 0 (by omega);simp only[bO,List.getElem?_cons_zero,Nat.add_zero]at q0;have HPE:=ab (show f.path=p from Option.some.inj ((tu (by rw[<-HNA.out]; exact hf) (by rw[<-HNA.out]; omega)).symm.trans HPK.out))
     have hdif:IntKind.i64.wrap ((k:Int)-(na:Int))=((k-na:Nat):Int):=by rw[IntKind.wrap_i64]; omega
     clear hcl hf;go_wp2_with fail
     go_meet
     case rel=>exact⟨by rw[HPE.out],rfl⟩
   case rest=>
    as_aux_lemma=>
     obtain⟨rfl,hwc⟩:=hcut;rw[hwc];clear hwc;obtain⟨L,hL⟩: ∃L,L=ey a b k:=⟨_,rfl⟩;obtain⟨L',hL'⟩: ∃L',L'=gp go L p:=⟨_,rfl⟩;have HL':=ab hL';obtain⟨m,hm0⟩: ∃m,m=L.length:=⟨_,rfl⟩;have HM0:=ab hm0;have HSL:=ab (show kG W W0 (.slice (some ⟨pb,0,none⟩) (ey a b k).length pc) L by rw[hL]; exact HSO.out);have HEND:=ab (show L'=ey a b (k+1) by rw[hL',hL,sw HPK.out])
     have HPM:=ab (show ∀q∈L,q.size<=65536 from fun q hq=>by
      rw[hL]at hq
      rcases nP hq with⟨f,hf,rfl⟩ | ⟨f,hf,rfl⟩
      ·exact HPA.out f hf
      ·exact HPB.out f hf)
     have hn:m<=8192:=by
      have h1:=nO a b k;rw[<-HNA.out,<-HNB.out,<-hL,<-hm0]at h1;omega
     rw[<-hL,<-hm0]at HSL;rw[<-hL,<-hm0];have HRW:=ab (show aN (fun _=>True) W0 1 (.slice (some ⟨pb,0,none⟩) m pc) m (L.map Value.string) by
      have h1:=bm HSL.out.row;rw[<-hm0]at h1;exact h1.weak fun _ _=>trivial)
     obtain⟨hcv,hmv⟩:m<=pc/\pc<=maxLen:=by
      obtain⟨_,a2,c2,h1,h2,h3,_⟩:=HRW.out
      cases h1
      exact⟨h2,h3⟩
     unfold maxLen at hmv;have HES:=ab (show cz (fun _=>True) W0 (.slice (some ⟨pb,0,none⟩) m pc) L by unfold cz; rw[<-hm0]; exact HRW.out);clear hL hL' hm0 hsum x1 y1;go_wp2_with fail
     go_loopw [8] (fun j wq=> ∃j':Nat,j= .int .i64 j'/\j'<=m/\(∀f∈L.take j',go f p=true)/\Below W0.heap.size W0 wq) (fun j _=>m-(intOf j).toNat)
     case atStart=>exact⟨0,rfl,Nat.zero_le _,by simp,Below.refl _ _⟩
     case round=>
      obtain⟨j,rfl,hjm,hji,hbq⟩:=hrel;have HIX:=ab hji;have HBQ:=ab hbq;clear hji hbq
      by_cases hjl:j<m
      case' pos=>
       obtain⟨f,hf⟩: ∃f,L[j]? =some f:=⟨L[j]'(by rw[<-HM0.out]; omega),by simp⟩;obtain⟨_,_,he,_,_,hcell⟩:=cz.shape HES.out;obtain⟨b1,o1,hab,-,p0⟩:=hcell j f hf;simp only[Value.slice.injEq]at he;obtain⟨rfl,-,rfl⟩:=he;simp only[Option.some.injEq,Addr.mk.injEq,and_true]at hab;obtain⟨rfl,rfl⟩:=hab;have HPF:=ab (HPM.out f (List.mem_of_getElem? hf));obtain⟨c,hc'⟩: ∃c,bJ (bl f) (bl p)=c:=⟨_,rfl⟩
       have HC:=ab hc';have e9:decide (j<m)=true:=by simp; omega
       have hjn2:(j:Int)<(m:Int):=by omega
       have HF:=ab hf;have y0:=(HBQ.out.cell (aG p0)).trans p0;rw[Nat.zero_add]at y0;have hlt0:=aG y0;clear hf hc' p0 hcell
       by_cases hneg:c<0
       case pos=>
        have e8:decide (c<0)=true:=by simp[hneg]
        have HIN:=ab (show ∀f∈L.take (j+1),go f p=true from fun x hx=>by
         rw[List.take_add_one,HF.out]at hx
         rcases List.mem_append.1 hx with hx | hx
         ·exact HIX.out x hx
         ·rw[show x=f by simpa using hx]; unfold go; rw[HC.out]; exact e8)
        go_wp2_with (go_at_call 45; refine(fA f p c _ HPF.out HC.out).mono ?_; rintro e8' w8 ⟨rfl,hb8⟩; have HB8:=ab (ag HBQ.out hb8); clear hb8)
        go_roundw
        case rel=>exact⟨j+1,by go_num,by omega,HIN.out,HB8.out⟩
        case measure=>simp[intOf]; omega
       case' neg=>
        have e8:decide (c<0)=false:=by simp; omega
        have HNEG:=ab (show go f p=false by unfold go; rw[HC.out]; exact e8)
        by_cases hfp:f=p
        case pos=>
         have e2:(f.toList == p.toList)=true:=by rw[hfp]; simp
         have HR:=ab (show L'=L by rw[HL'.out,mE (k:=j) (by rw[<-HM0.out]; omega) (tW HIX.out) (fun q hq=>by rw[HF.out]at hq; rw[<-Option.some.inj hq]; exact HNEG.out),HF.out,if_pos (by rw[hfp])]);clear hfp;go_wp2_with (go_at_call 45; refine(fA f p c _ HPF.out HC.out).mono ?_; rintro e8' w8 ⟨rfl,hb8⟩; have HB8:=ab (ag HBQ.out hb8); replace y0:=(hb8.cell hlt0).trans y0; replace hlt0:=Nat.lt_of_lt_of_le hlt0 hb8.size; clear hb8)
         refine⟨⟨k+1,by omega,by go_num, ?_⟩,by simp[intOf]; omega⟩;rw[<-HEND.out,HR.out];exact HSL.out.later HB8.out
        case' neg=>
         have e2:(f.toList == p.toList)=false:=by rw[beq_eq_false_iff_ne]; intro h; exact hfp (ew (by rw[<-aV,<-aV]; exact h))
         have HJ:=ab (show L'=L.take j++[p]++L.drop j by rw[HL'.out,mE (k:=j) (by rw[<-HM0.out]; omega) (tW HIX.out) (fun q hq=>by rw[HF.out]at hq; rw[<-Option.some.inj hq]; exact HNEG.out),HF.out,if_neg (fun h=>hfp (Option.some.inj h))]);clear hfp
         go_upto_region 13 with(go_at_call 45; refine(fA f p c _ HPF.out HC.out).mono ?_; rintro e8' w8 ⟨rfl,hb8⟩; have HB8:=ab (ag HBQ.out hb8); replace y0:=(hb8.cell hlt0).trans y0; replace hlt0:=Nat.lt_of_lt_of_le hlt0 hb8.size; clear hb8)
         clear e8 e2 y0 hjn2 e9 hneg hlt0;refine cu (fun _=>True) (by kernel_rfl) ?_;obtain⟨V,hV⟩: ∃V:World,V=(w8).drew:=⟨_,rfl⟩;rw[<-hV];have HBV:=ab (show Below W0.heap.size W0 V by rw[hV]; exact ag HB8.out ((Below.refl _ _).drew));clear hV;have hrw:=HRW.out;obtain⟨J,hJJ⟩: ∃J,J=j:=⟨_,rfl⟩;obtain⟨N,hNN⟩: ∃N,N=L.length-J:=⟨_,rfl⟩;have HJL:=ab (show J<=L.length by rw[hJJ,<-HM0.out]; exact hjm)
         have hJN:J+N<=8200:=by have:=HM0.out; have:=HJL.out; omega
         have HIJ:=ab (show L'=L.take J++[p]++L.drop J by rw[hJJ]; exact HJ.out);have HP:=ab (show aN (fun _=>True) W0 1 _ J ((L.take J).map Value.string)from by
          have h1:=nU (sz:=1) hrw hjm;rw[Nat.mul_one,<-List.map_take]at h1;rw[hJJ]; exact h1)
         have HQ:=ab (show aN (fun _=>True) W0 1 (.slice (some ⟨pb,j,none⟩) (m-j) (pc-j)) N ((L.drop J).map Value.string)from by
          have h1:=zb (sz:=1) hrw hjm;rw[Nat.mul_one,<-List.map_drop,Nat.zero_add]at h1;rw[hNN,hJJ,<-HM0.out];exact h1)
         have hjc2:j<pc:=by omega
         have hjc3:j<=pc:=by omega
         have HNN:=ab hNN;clear hrw hJJ hNN;refine af 1 rfl (by kernel_rfl) (by kernel_rfl) (by kernel_rfl) (fun _ _ _ h=>h) rfl trivial (by intro w' _; go_simp; rfl) ?_;simp only[Act.put,aC,aD,aE];refine af 2 rfl (by kernel_rfl) (by kernel_rfl) (by kernel_rfl) (fun _ _ _ h=>h) rfl trivial (by intro w' _; go_simp; rfl) ?_;simp only[Act.put,aC,aD,aE];refine af 3 rfl (by kernel_rfl) (by kernel_rfl) (by kernel_rfl) (fun _ _ _ h=>h) rfl trivial (by intro w' _; go_simp; rfl) ?_
         simp only[Act.put,aC,aD,aE];refine af 5 rfl (by kernel_rfl) (by kernel_rfl) (by kernel_rfl) (fun _ _ _ h=>h) rfl trivial (by intro w' _; go_simp; rfl) ?_;simp only[Act.put,aC,aD,aE];refine af 8 rfl (by kernel_rfl) (by kernel_rfl) (by kernel_rfl) (fun _ _ _ h=>h) rfl trivial (by intro w' _; go_simp; rfl) ?_;simp only[Act.put,aC,aD,aE];refine af 9 rfl (by kernel_rfl) (by kernel_rfl) (by kernel_rfl) (fun _ _ _ h=>h) rfl trivial (by intro w' _; go_simp; rfl) ?_
         simp only[Act.put,aC,aD,aE];refine af 10 rfl (by kernel_rfl) (by kernel_rfl) (by kernel_rfl) (fun _ _ _ h=>h) rfl trivial (by intro w' _; go_simp; rfl) ?_;simp only[Act.put,aC,aD,aE]
      case' neg=>
       have hj2:m=j:=by omega
       subst hj2;have HJ:=ab (show L'=L.take m++[p]++L.drop m by rw[HL'.out,mE (k:=m) (by rw[<-HM0.out]; omega) (tW HIX.out) (fun q hq=>by rw[HM0.out,List.getElem?_eq_none (Nat.le_refl _)]at hq; cases hq),HM0.out,List.getElem?_eq_none (Nat.le_refl _),if_neg (by simp)])
       go_upto_region 13 with(fail)
       refine cu (fun _=>True) (by kernel_rfl) ?_;obtain⟨V,hV⟩: ∃V:World,V=(wr).drew:=⟨_,rfl⟩;rw[<-hV];have HBV:=ab (show Below W0.heap.size W0 V by rw[hV]; exact ag HBQ.out ((Below.refl _ _).drew));clear hV;have hrw:=HRW.out
       by_cases hjc:m=pc
       case' pos=>
        subst hjc;obtain⟨J,hJJ⟩: ∃J,J=m:=⟨_,rfl⟩;obtain⟨N,hNN⟩: ∃N,N=L.length-J:=⟨_,rfl⟩;have HJL:=ab (show J<=L.length by rw[hJJ,<-HM0.out]; exact hjm);have hJN:J+N<=8200:=by have:=HM0.out; have:=HJL.out; omega
        have HIJ:=ab (show L'=L.take J++[p]++L.drop J by rw[hJJ]; exact HJ.out);have HP:=ab (show aN (fun _=>True) W0 1 _ J ((L.take J).map Value.string)from by
         have h1:=nU (sz:=1) hrw hjm;rw[Nat.mul_one,<-List.map_take]at h1;rw[hJJ]; exact h1)
        have HQ:=ab (show aN (fun _=>True) W0 1 (.slice (some ⟨pb,0,none⟩) 0 0) N ((L.drop J).map Value.string)from by
         have h1:L.length<=J:=by have:=HM0.out; omega
         rw[List.drop_eq_nil_of_le h1,hNN,Nat.sub_eq_zero_of_le h1];exact sL (by unfold maxLen; omega))
        have HNN:=ab hNN;clear hrw hJJ hNN;refine af 1 rfl (by kernel_rfl) (by kernel_rfl) (by kernel_rfl) (fun _ _ _ h=>h) rfl trivial (by intro w' _; go_simp; rfl) ?_;simp only[Act.put,aC,aD,aE];refine af 2 rfl (by kernel_rfl) (by kernel_rfl) (by kernel_rfl) (fun _ _ _ h=>h) rfl trivial (by intro w' _; go_simp; rfl) ?_;simp only[Act.put,aC,aD,aE];refine af 3 rfl (by kernel_rfl) (by kernel_rfl) (by kernel_rfl) (fun _ _ _ h=>h) rfl trivial (by intro w' _; go_simp; rfl) ?_
        simp only[Act.put,aC,aD,aE];refine af 5 rfl (by kernel_rfl) (by kernel_rfl) (by kernel_rfl) (fun _ _ _ h=>h) rfl trivial (by intro w' _; go_simp; rfl) ?_;simp only[Act.put,aC,aD,aE];refine af 8 rfl (by kernel_rfl) (by kernel_rfl) (by kernel_rfl) (fun _ _ _ h=>h) rfl trivial (by intro w' _; go_simp; rfl) ?_;simp only[Act.put,aC,aD,aE];refine af 9 rfl (by kernel_rfl) (by kernel_rfl) (by kernel_rfl) (fun _ _ _ h=>h) rfl trivial (by intro w' _; go_simp; rfl) ?_
        simp only[Act.put,aC,aD,aE];refine af 10 rfl (by kernel_rfl) (by kernel_rfl) (by kernel_rfl) (fun _ _ _ h=>h) rfl trivial (by intro w' _; go_simp; rfl) ?_;simp only[Act.put,aC,aD,aE]
       case' neg=>
        obtain⟨J,hJJ⟩: ∃J,J=m:=⟨_,rfl⟩;obtain⟨N,hNN⟩: ∃N,N=L.length-J:=⟨_,rfl⟩;have HJL:=ab (show J<=L.length by rw[hJJ,<-HM0.out]; exact hjm);have hJN:J+N<=8200:=by have:=HM0.out; have:=HJL.out; omega
        have HIJ:=ab (show L'=L.take J++[p]++L.drop J by rw[hJJ]; exact HJ.out);have HP:=ab (show aN (fun _=>True) W0 1 _ J ((L.take J).map Value.string)from by
         have h1:=nU (sz:=1) hrw hjm;rw[Nat.mul_one,<-List.map_take]at h1;rw[hJJ]; exact h1)
        have HQ:=ab (show aN (fun _=>True) W0 1 (.slice (some ⟨pb,m,none⟩) 0 (pc-m)) N ((L.drop J).map Value.string)from by
         have h1:L.length<=J:=by have:=HM0.out; omega
         rw[List.drop_eq_nil_of_le h1,hNN,Nat.sub_eq_zero_of_le h1];exact sL (by unfold maxLen; omega))
        have hjc2:m<pc:=by omega
        have hjc3:m<=pc:=by omega
        clear hjc;have HNN:=ab hNN;clear hrw hJJ hNN;refine af 1 rfl (by kernel_rfl) (by kernel_rfl) (by kernel_rfl) (fun _ _ _ h=>h) rfl trivial (by intro w' _; go_simp; rfl) ?_;simp only[Act.put,aC,aD,aE];refine af 2 rfl (by kernel_rfl) (by kernel_rfl) (by kernel_rfl) (fun _ _ _ h=>h) rfl trivial (by intro w' _; go_simp; rfl) ?_;simp only[Act.put,aC,aD,aE];refine af 3 rfl (by kernel_rfl) (by kernel_rfl) (by kernel_rfl) (fun _ _ _ h=>h) rfl trivial (by intro w' _; go_simp; rfl) ?_
        simp only[Act.put,aC,aD,aE];refine af 5 rfl (by kernel_rfl) (by kernel_rfl) (by kernel_rfl) (fun _ _ _ h=>h) rfl trivial (by intro w' _; go_simp; rfl) ?_;simp only[Act.put,aC,aD,aE];refine af 8 rfl (by kernel_rfl) (by kernel_rfl) (by kernel_rfl) (fun _ _ _ h=>h) rfl trivial (by intro w' _; go_simp; rfl) ?_;simp only[Act.put,aC,aD,aE];refine af 9 rfl (by kernel_rfl) (by kernel_rfl) (by kernel_rfl) (fun _ _ _ h=>h) rfl trivial (by intro w' _; go_simp; rfl) ?_
        simp only[Act.put,aC,aD,aE];refine af 10 rfl (by kernel_rfl) (by kernel_rfl) (by kernel_rfl) (fun _ _ _ h=>h) rfl trivial (by intro w' _; go_simp; rfl) ?_;simp only[Act.put,aC,aD,aE]
      all_goals
       skip
       refine kD.of (wpAnyH_all (rs:=[0,6]) (by kernel_rfl) (by simp) fun jj hjj=> ?_);simp only[List.mem_cons,List.not_mem_nil,or_false]at hjj
       rcases hjj with rfl | rfl
       case' inr=>
        refine bT 6 rfl rfl (fun K hK=> ?_);go_wp2_with fail;obtain⟨U1,hU⟩: ∃u:World,u=(V).alloc (.cells #[.string p] 9):=⟨_,rfl⟩;rw[<-hU];have hbu:Below (V).heap.size V U1:=by rw[hU]; exact(Below.refl _ _).alloc (Nat.le_refl _) _
        have HZ1:=ab (show(U1).heap[(V).heap.size]? =some (.cells #[.string p] 9 (0,0)) by rw[hU]; exact dC _ _);have HBU1:=ab (HBV.out.trans (hbu.mono HBV.out.size));clear hU
        try refine⟨trivial, ?_⟩
        try simp only[Act.put,aC,aD,aE]
        clear hbu;refine az 0 rfl (by kernel_rfl) rfl (fun K hK=> ?_);go_wp2_with fail;obtain⟨U2,hU⟩: ∃u:World,u=(U1).alloc (.cells #[] 9):=⟨_,rfl⟩;rw[<-hU];have hbu:Below (U1).heap.size U1 U2:=by rw[hU]; exact(Below.refl _ _).alloc (Nat.le_refl _) _
        have HO2:=ab (show(U2).ownsRow W0.heap.size 9 1 (.slice (some ⟨(U1).heap.size,0,none⟩) 0 0) 0 [] by rw[hU]; exact World.ownsRow_lit (base:=W0.heap.size) U1 #[] 0 HBU1.out.size (Nat.zero_le _) (by simp));have HBU2:=ab (HBU1.out.trans (hbu.mono HBU1.out.size));clear hU
        try refine⟨trivial, ?_⟩
        try simp only[Act.put,aC,aD,aE]
        have HZ2:=ab ((hbu.block _ (ep HZ1.out)).trans HZ1.out);have HLT:=ab (show V.heap.size<U1.heap.size from ep HZ1.out);clear hbu;refine az 4 rfl (by kernel_rfl) rfl (fun K hK=> ?_);go_wp2_with (at_builtin; go_must (refine bg Tryz.appStrings rfl _ _ rfl W0.heap.size _ 0 [] rfl HO2.out _ J ((L.take J).map Value.string) rfl (HP.out.below (by omega) HBU2.out) (jp _) (by omega) HBU2.out.size ?_); intro v1 U3 hown1 hg1)
        have HBU3:=ab (aS HBU2.out HO2.out hg1 (Nat.le_refl _) HBU2.out.size);have HO3:=ab (show(U3).ownsRow W0.heap.size 9 1 v1 J ((L.take J).map Value.string) by rw[Nat.zero_add,List.nil_append]at hown1; exact hown1);have HG1:=ab hg1;obtain⟨g1,k1,rfl,-,-⟩:=au HO3.out;clear hown1 hg1
        try refine⟨trivial, ?_⟩
        try simp only[Act.put,aC,aD,aE]
        have HZ3:=ab ((HG1.out.block _ (ep HZ2.out) (fun e'=>by have h1:V.heap.size=U1.heap.size:=Option.some.inj e'; have h2:=HLT.out; omega)).trans HZ2.out)
       case' inl=>
        refine bT 0 rfl rfl (fun K hK=> ?_);go_wp2_with fail;obtain⟨U1,hU⟩: ∃u:World,u=(V).alloc (.cells #[] 9):=⟨_,rfl⟩;rw[<-hU];have hbu:Below (V).heap.size V U1:=by rw[hU]; exact(Below.refl _ _).alloc (Nat.le_refl _) _
        have HO1:=ab (show(U1).ownsRow W0.heap.size 9 1 (.slice (some ⟨(V).heap.size,0,none⟩) 0 0) 0 [] by rw[hU]; exact World.ownsRow_lit (base:=W0.heap.size) V #[] 0 HBV.out.size (Nat.zero_le _) (by simp));have HBU1:=ab (HBV.out.trans (hbu.mono HBV.out.size));clear hU
        try refine⟨trivial, ?_⟩
        try simp only[Act.put,aC,aD,aE]
        refine kD.of (wpAnyH_all (rs:=[4,6]) (by kernel_rfl) (by simp) fun jj hjj=> ?_);simp only[List.mem_cons,List.not_mem_nil,or_false]at hjj
        rcases hjj with rfl | rfl
        case' inr=>
         refine bT 6 rfl rfl (fun K hK=> ?_);go_wp2_with fail;obtain⟨U2,hU⟩: ∃u:World,u=(U1).alloc (.cells #[.string p] 9):=⟨_,rfl⟩;rw[<-hU];have hbu:Below (U1).heap.size U1 U2:=by rw[hU]; exact(Below.refl _ _).alloc (Nat.le_refl _) _
         have HZ2:=ab (show(U2).heap[(U1).heap.size]? =some (.cells #[.string p] 9 (0,0)) by rw[hU]; exact dC _ _);have HBU2:=ab (HBU1.out.trans (hbu.mono HBU1.out.size));clear hU
         try refine⟨trivial, ?_⟩
         try simp only[Act.put,aC,aD,aE]
         have HO2:=ab (aM HO1.out hbu);have HLT:=ab (show V.heap.size<U1.heap.size from(HO1.out.lt _ rfl).2);clear hbu;refine az 4 rfl (by kernel_rfl) rfl (fun K hK=> ?_);go_wp2_with (at_builtin; go_must (refine bg Tryz.appStrings rfl _ _ rfl W0.heap.size _ 0 [] rfl HO2.out _ J ((L.take J).map Value.string) rfl (HP.out.below (by omega) HBU2.out) (jp _) (by omega) HBU2.out.size ?_); intro v1 U3 hown1 hg1)
         have HBU3:=ab (aS HBU2.out HO2.out hg1 (Nat.le_refl _) HBU2.out.size);have HO3:=ab (show(U3).ownsRow W0.heap.size 9 1 v1 J ((L.take J).map Value.string) by rw[Nat.zero_add,List.nil_append]at hown1; exact hown1);have HG1:=ab hg1;obtain⟨g1,k1,rfl,-,-⟩:=au HO3.out;clear hown1 hg1
         try refine⟨trivial, ?_⟩
         try simp only[Act.put,aC,aD,aE]
         have HZ3:=ab ((HG1.out.block _ (ep HZ2.out) (fun e'=>by have h1:U1.heap.size=V.heap.size:=Option.some.inj e'; have h2:=HLT.out; omega)).trans HZ2.out)
        case' inl=>
         refine bT 4 rfl rfl (fun K hK=> ?_);go_wp2_with (at_builtin; go_must (refine bg Tryz.appStrings rfl _ _ rfl W0.heap.size _ 0 [] rfl HO1.out _ J ((L.take J).map Value.string) rfl (HP.out.below (by omega) HBU1.out) (jp _) (by omega) HBU1.out.size ?_); intro v1 U2 hown1 hg1);have HBU2:=ab (aS HBU1.out HO1.out hg1 (Nat.le_refl _) HBU1.out.size);have HO2:=ab (show(U2).ownsRow W0.heap.size 9 1 v1 J ((L.take J).map Value.string) by rw[Nat.zero_add,List.nil_append]at hown1; exact hown1)
         have HG1:=ab hg1;obtain⟨g1,k1,rfl,-,-⟩:=au HO2.out;clear hown1 hg1
         try refine⟨trivial, ?_⟩
         try simp only[Act.put,aC,aD,aE]
         refine az 6 rfl (by kernel_rfl) rfl (fun K hK=> ?_);go_wp2_with fail;obtain⟨U3,hU⟩: ∃u:World,u=(U2).alloc (.cells #[.string p] 9):=⟨_,rfl⟩;rw[<-hU];have hbu:Below (U2).heap.size U2 U3:=by rw[hU]; exact(Below.refl _ _).alloc (Nat.le_refl _) _
         have HZ3:=ab (show(U3).heap[(U2).heap.size]? =some (.cells #[.string p] 9 (0,0)) by rw[hU]; exact dC _ _);have HBU3:=ab (HBU2.out.trans (hbu.mono HBU2.out.size));clear hU
         try refine⟨trivial, ?_⟩
         try simp only[Act.put,aC,aD,aE]
         have HO3:=ab (aM HO2.out hbu);clear hbu
       all_goals
        skip
        refine az 7 rfl (by kernel_rfl) rfl (fun K hK=> ?_);go_wp2_with (at_builtin; go_must (refine bg Tryz.appStrings rfl _ _ rfl W0.heap.size _ J ((L.take J).map Value.string) rfl HO3.out _ 1 [Value.string p] rfl (zd HZ3.out) (jp [p]) (by omega) HBU3.out.size ?_); intro v2 U8 hown2 hg2);have HBU8:=ab (aS HBU3.out HO3.out hg2 (Nat.le_refl _) HBU3.out.size);have HO8:=ab hown2
        obtain⟨g2,k2,rfl,-,-⟩:=au HO8.out;clear hown2 hg2
        try refine⟨trivial, ?_⟩
        try simp only[Act.put,aC,aD,aE]
        refine az 11 rfl (by kernel_rfl) rfl (fun K hK=> ?_);go_wp2_with (at_builtin; go_must (refine bg Tryz.appStrings rfl _ _ rfl W0.heap.size _ (J+1) ((L.take J).map Value.string++[Value.string p]) rfl HO8.out _ N ((L.drop J).map Value.string) rfl (HQ.out.below (by omega) HBU8.out) (jp _) (by omega) HBU8.out.size ?_); intro v3 U9 hown3 hg3);have HBU9:=ab (aS HBU8.out HO8.out hg3 (Nat.le_refl _) HBU8.out.size)
        have HO9:=ab (show(U9).ownsRow W0.heap.size 9 1 v3 (L.take J++[p]++L.drop J).length ((L.take J++[p]++L.drop J).map Value.string) by
         have hc:((L.take J).map Value.string++[Value.string p])++(L.drop J).map Value.string=(L.take J++[p]++L.drop J).map Value.string:=by simp
         have hn2:J+1+N=(L.take J++[p]++L.drop J).length:=by simp only[List.length_append,List.length_take,List.length_drop,List.length_singleton]; have:=HJL.out; rw[HNN.out]; omega
         rw[<-hc,<-hn2]; exact hown3)
        clear hown3 hg3
        try refine⟨trivial, ?_⟩
        try simp only[Act.put,aC,aD,aE]
        refine af 12 rfl (by kernel_rfl) (by kernel_rfl) (by kernel_rfl) (fun _ _ _ h=>h) rfl trivial (by intro w' _; go_simp; rfl) ?_;simp only[Act.put,aC,aD,aE];refine aZ (by kernel_rfl) ?_;rw[<-HIJ.out]at HO9
      all_goals
       go_wp2_with fail;refine⟨⟨k+1,by omega,by go_num, ?_⟩,by simp[intOf]; omega⟩;rw[<-HEND.out];exact⟨bK HO9.out HSO.out.below.size,kG.one HO9.out (by rw[HIJ.out]; simp; omega),HSO.out.below.trans (HBU9.out.mono HSO.out.below.size)⟩
  ·have hkn:k=na+nb:=by omega
   subst hkn;obtain⟨L,hL⟩: ∃L,L=ey a b (na+nb):=⟨_,rfl⟩;obtain⟨m,hm0⟩: ∃m,m=L.length:=⟨_,rfl⟩;have HM0:=ab hm0;have HLP:=ab (show L=je a.files b.files by rw[hL,HNA.out,HNB.out,nN]);have HSL:=ab (show kG W W0 (.slice (some ⟨pb,0,none⟩) (ey a b (na+nb)).length pc) L by rw[hL]; exact HSO.out);have hn:m<=8192:=by
    have h1:=nO a b (na+nb);rw[<-HNA.out,<-HNB.out,<-hL,<-hm0]at h1;omega
   rw[<-hL,<-hm0]at HSL;rw[<-hL,<-hm0];have HES:=ab (show cz (fun _=>True) W0 (.slice (some ⟨pb,0,none⟩) m pc) L by
    have h1:=bm HSL.out.row;exact h1.weak fun _ _=>trivial)
   clear hL hm0;have HI0:=ab (show cL W0 (W0.alloc (.cells #[] 82)) (.slice (some ⟨W0.heap.size,0,none⟩) 0 0) (tH a b L 0)from⟨World.ownsRow_made (base:=W0.heap.size) (e:=82) (size:=2) W0 #[] 0 (Nat.le_refl _) (by unfold maxLen; omega) rfl,(Below.refl _ _).alloc (Nat.le_refl _) _⟩);have HTO:=ab (show ∀u:World,Below W0.heap.size W0 u->Below w.heap.size w u from fun _ h=>HBW.out.trans ((HSO.out.below.trans (h.mono HSO.out.below.size)).mono HBW.out.size))
   go_wp2_with fail;clear x1 y1 hsum
   go_loopw [9,10] (fun v i wr=> ∃j:Nat,j<=m/\i= .int .i64 j/\cL W0 wr v (tH a b L j)) (fun _ i _=>m-(intOf i).toNat)
   case atStart=>exact⟨0,Nat.zero_le _,rfl,HI0.out⟩
   case round=>
    obtain⟨j,hj,rfl,hi⟩:=hrel;obtain⟨av,cv,rfl,-,-⟩:=au hi.own;obtain⟨out,hout⟩: ∃out,out=tH a b L j:=⟨_,rfl⟩;obtain⟨on,hon⟩: ∃n,n=out.length:=⟨_,rfl⟩;have HOUT:=ab hout;have HON:=ab hon;have hol:on<=8192:=by
     have h1:=qX a b (L.take j);have h2:(L.take j).length<=L.length:=List.length_take_le' _ _;have h3:=HM0.out;have h4:out.length=((L.take j).flatMap (bG a.files b.files)).length:=by rw[hout]; rfl
     omega
    have HI:=ab hi;rw[<-hout,<-hon]at HI;rw[<-hout,<-hon];clear hi hout hon
    by_cases hjl:j<m
    ·obtain⟨p,hp⟩: ∃p,L[j]? =some p:=⟨L[j]'(by rw[<-HM0.out]; omega),by simp⟩;have HLJ:=ab hp;have HCL:=ab (show ∀u:World,Below W0.heap.size W0 u->u.cell? ⟨w.heap.size,1,none⟩=some (.slice aa na ac)/\u.cell? ⟨w.heap.size+1,1,none⟩=some (.slice ba nb bc)/\u.cell? ⟨pb,j,none⟩=some (.string p)from fun u hu=>by
      have hu2:=HSO.out.below.trans (hu.mono HSO.out.below.size);obtain⟨_,_,he,_,_,hcell⟩:=cz.shape HES.out;obtain⟨b1,o1,hab,-,p0⟩:=hcell j p hp;simp only[Value.slice.injEq]at he;obtain⟨rfl,-,rfl⟩:=he;simp only[Option.some.injEq,Addr.mk.injEq,and_true]at hab;obtain⟨rfl,rfl⟩:=hab;rw[Nat.zero_add]at p0;exact⟨(hu2.cell (p:=⟨w.heap.size,1,none⟩) (by show w.heap.size<W.heap.size; have:=HSZ.out; omega)).trans (ai (k:=1) HX.out),(hu2.cell (p:=⟨w.heap.size+1,1,none⟩) (by show w.heap.size+1<W.heap.size; have:=HSZ.out; omega)).trans (ai (k:=1) HY.out),(hu.cell (aG p0)).trans p0⟩)
     obtain⟨x1,y1,y0⟩:=HCL.out wr HI.out.below;have hjn2:(j:Int)<(m:Int):=by omega
     clear hp
     rcases iW (p:=p) a.files 0 with⟨ha1,ha2⟩ | ⟨ja,f,ha1,hja,ha2⟩
     ·obtain⟨y,hy⟩: ∃y,dN b.files p 0=y:=⟨_,rfl⟩;have HFX:=ab ha2;have HFY:=ab hy;have HCO:=ab (show bG a.files b.files p=[(p,1)] by unfold bG; rw[ha1]);clear ha1 ha2 hy
      as_aux_lemma=>
       obtain⟨V,hV⟩: ∃V:World,V=wr.drew:=⟨_,rfl⟩;have HIV:=ab (show cL W0 V _ _ by rw[hV]; exact HI.out.next ((Below.refl _ _).drew))
       go_upto_region 18 with fail
       refine cu (fun w'=>w'.cell? ⟨w.heap.size,1,none⟩=some (.slice (aa) na ac)/\w'.cell? ⟨w.heap.size+1,1,none⟩=some (.slice (ba) nb bc)/\w'.cell? ⟨pb,j,none⟩=some (.string p)) (by kernel_rfl) ?_;rw[<-hV];clear hV x1 y1 y0;have SV:=ab (HCL.out V HIV.out.below);refine af 0 rfl (by kernel_rfl) (by kernel_rfl) (by kernel_rfl) (fun _ _ _ h=>h) rfl SV.out (by rintro w' ⟨hw1,hw2,hw3⟩; go_simp; rfl) ?_
       simp only[Act.put,aC,aD,aE];refine af 1 rfl (by kernel_rfl) (by kernel_rfl) (by kernel_rfl) (fun _ _ _ h=>h) rfl SV.out (by rintro w' ⟨hw1,hw2,hw3⟩; go_simp; rfl) ?_;simp only[Act.put,aC,aD,aE];refine af 2 rfl (by kernel_rfl) (by kernel_rfl) (by kernel_rfl) (fun _ _ _ h=>h) rfl SV.out (by rintro w' ⟨hw1,hw2,hw3⟩; go_simp; rfl) ?_;simp only[Act.put,aC,aD,aE]
       refine af 3 rfl (by kernel_rfl) (by kernel_rfl) (by kernel_rfl) (fun _ _ _ h=>h) rfl SV.out (by rintro w' ⟨hw1,hw2,hw3⟩; go_simp; rfl) ?_;simp only[Act.put,aC,aD,aE];refine af 4 rfl (by kernel_rfl) (by kernel_rfl) (by kernel_rfl) (fun _ _ _ h=>h) rfl SV.out (by rintro w' ⟨hw1,hw2,hw3⟩; go_simp; rfl) ?_;simp only[Act.put,aC,aD,aE];refine af 5 rfl (by kernel_rfl) (by kernel_rfl) (by kernel_rfl) (fun _ _ _ h=>h) rfl SV.out (by rintro w' ⟨hw1,hw2,hw3⟩; go_simp; rfl) ?_
       simp only[Act.put,aC,aD,aE];refine af 7 rfl (by kernel_rfl) (by kernel_rfl) (by kernel_rfl) (fun _ _ _ h=>h) rfl SV.out (by rintro w' ⟨hw1,hw2,hw3⟩; go_simp; rfl) ?_;simp only[Act.put,aC,aD,aE];refine af 8 rfl (by kernel_rfl) (by kernel_rfl) (by kernel_rfl) (fun _ _ _ h=>h) rfl SV.out (by rintro w' ⟨hw1,hw2,hw3⟩; go_simp; rfl) ?_;simp only[Act.put,aC,aD,aE]
       refine af 9 rfl (by kernel_rfl) (by kernel_rfl) (by kernel_rfl) (fun _ _ _ h=>h) rfl SV.out (by rintro w' ⟨hw1,hw2,hw3⟩; go_simp; rfl) ?_;simp only[Act.put,aC,aD,aE];refine af 10 rfl (by kernel_rfl) (by kernel_rfl) (by kernel_rfl) (fun _ _ _ h=>h) rfl SV.out (by rintro w' ⟨hw1,hw2,hw3⟩; go_simp; rfl) ?_;simp only[Act.put,aC,aD,aE];refine af 11 rfl (by kernel_rfl) (by kernel_rfl) (by kernel_rfl) (fun _ _ _ h=>h) rfl SV.out (by rintro w' ⟨hw1,hw2,hw3⟩; go_simp; rfl) ?_
       simp only[Act.put,aC,aD,aE];refine af 12 rfl (by kernel_rfl) (by kernel_rfl) (by kernel_rfl) (fun _ _ _ h=>h) rfl SV.out (by rintro w' ⟨hw1,hw2,hw3⟩; go_simp; rfl) ?_;simp only[Act.put,aC,aD,aE];refine az 6 rfl (by kernel_rfl) rfl (fun K hK=> ?_);have HFA:=ab (HA.out.below (HTO.out _ HIV.out.below));go_wp2_with (go_at_call 46; refine(ff _ a.files _ p (-1) _ HFA.out HFX.out).mono ?_; rintro e' w7 ⟨rfl,hb7⟩)
       have HI7:=ab (HIV.out.next hb7);clear hb7;have S7:=ab (HCL.out w7 HI7.out.below);refine⟨S7.out, ?_⟩;refine az 13 rfl (by kernel_rfl) rfl (fun K hK=> ?_);have HFB:=ab (HB.out.below (HTO.out _ HI7.out.below));go_wp2_with (go_at_call 46; refine(ff _ b.files _ p (y) _ HFB.out HFY.out).mono ?_; rintro e' w8 ⟨rfl,hb8⟩);have HI8:=ab (HI7.out.next hb8);clear hb8;have S8:=ab (HCL.out w8 HI8.out.below)
       refine⟨S8.out, ?_⟩;refine af 14 rfl (by kernel_rfl) (by kernel_rfl) (by kernel_rfl) (fun _ _ _ h=>h) rfl S8.out (by rintro w' ⟨hw1,hw2,hw3⟩; go_simp; rfl) ?_;simp only[Act.put,aC,aD,aE];refine af 15 rfl (by kernel_rfl) (by kernel_rfl) (by kernel_rfl) (fun _ _ _ h=>h) rfl S8.out (by rintro w' ⟨hw1,hw2,hw3⟩; go_simp; rfl) ?_;simp only[Act.put,aC,aD,aE];refine aZ (by kernel_rfl) ?_
       have x1:=S8.out.1;have y1:=S8.out.2.1;have y0:=S8.out.2.2
       go_upto_region 20 with fail
       have HAL:=ab ((Below.refl w8.heap.size w8).alloc (Nat.le_refl _) (.cells (bL (p,1)).toArray 82));have HOA:=ab (show(w8.alloc (.cells (bL (p,1)).toArray 82)).ownsRow W0.heap.size 82 2 (.slice av on cv) on (cr out)from by have h1:=aM HI8.out.own HAL.out; rw[<-HON.out]at h1; exact h1);have HRL:=ab (dz (n:=1) (sz:=2) (cells:=bL (p,1)) (heap_alloc_new w8 (.cells (bL (p,1)).toArray 82)) rfl (by decide))
       have HZ:=ab (show W0.heap.size<=(w8.alloc (.cells (bL (p,1)).toArray 82)).heap.size by have:=HI8.out.below.size; simp; omega);go_wp2_with (at_builtin; go_must (refine bg Tryz.appChg22 rfl _ _ rfl W0.heap.size (.slice av on cv) on (cr out) rfl HOA.out _ 1 (bL (p,1)) rfl HRL.out dB (by omega) HZ.out ?_); intro v9 w9 hown9 hg9; have HO9:=ab hown9; have HG9:=ab hg9; clear hown9 hg9)
       have HI9:=ab (show cL W0 w9 v9 (out++[(p,1)])from⟨by rw[List.length_append,List.length_singleton,cA,<-HON.out]; exact HO9.out,aS (ag HI8.out.below HAL.out) HOA.out HG9.out (Nat.le_refl _) HZ.out⟩)
       go_roundw
       case rel=>
        repeat apply Exists.intro
        refine⟨⟨j+1,by omega,by go_num, ?_⟩,rfl⟩;rw[eB HLJ.out,<-HOUT.out,HCO.out];exact HI9.out
       case measure=>
        show m-(intOf (.int .i64 ((j:Int)+1))).toNat<m-(intOf (.int .i64 (j:Int))).toNat
        simp only[intOf]; omega
     ·rw[Nat.zero_add]at ha2;have hja0:decide ((ja:Int)<0)=false:=by simp
      have hjan:ja<na:=by rw[HNA.out]; exact(List.getElem?_eq_some_iff.1 hja).1
      rcases iW (p:=p) b.files 0 with⟨hb1,hb2⟩ | ⟨jb,g,hb1,hjb,hb2⟩
      ·have HFX:=ab ha2;have HFY:=ab hb2;have HCO:=ab (show bG a.files b.files p=[(p,4)] by unfold bG; rw[ha1,hb1]);clear ha1 ha2 hb1 hb2 hja
       as_aux_lemma=>
        obtain⟨V,hV⟩: ∃V:World,V=wr.drew:=⟨_,rfl⟩;have HIV:=ab (show cL W0 V _ _ by rw[hV]; exact HI.out.next ((Below.refl _ _).drew))
        go_upto_region 18 with fail
        refine cu (fun w'=>w'.cell? ⟨w.heap.size,1,none⟩=some (.slice (aa) na ac)/\w'.cell? ⟨w.heap.size+1,1,none⟩=some (.slice (ba) nb bc)/\w'.cell? ⟨pb,j,none⟩=some (.string p)) (by kernel_rfl) ?_;rw[<-hV];clear hV x1 y1 y0;have SV:=ab (HCL.out V HIV.out.below);refine af 0 rfl (by kernel_rfl) (by kernel_rfl) (by kernel_rfl) (fun _ _ _ h=>h) rfl SV.out (by rintro w' ⟨hw1,hw2,hw3⟩; go_simp; rfl) ?_
        simp only[Act.put,aC,aD,aE];refine af 1 rfl (by kernel_rfl) (by kernel_rfl) (by kernel_rfl) (fun _ _ _ h=>h) rfl SV.out (by rintro w' ⟨hw1,hw2,hw3⟩; go_simp; rfl) ?_;simp only[Act.put,aC,aD,aE];refine af 2 rfl (by kernel_rfl) (by kernel_rfl) (by kernel_rfl) (fun _ _ _ h=>h) rfl SV.out (by rintro w' ⟨hw1,hw2,hw3⟩; go_simp; rfl) ?_;simp only[Act.put,aC,aD,aE]
        refine af 3 rfl (by kernel_rfl) (by kernel_rfl) (by kernel_rfl) (fun _ _ _ h=>h) rfl SV.out (by rintro w' ⟨hw1,hw2,hw3⟩; go_simp; rfl) ?_;simp only[Act.put,aC,aD,aE];refine af 4 rfl (by kernel_rfl) (by kernel_rfl) (by kernel_rfl) (fun _ _ _ h=>h) rfl SV.out (by rintro w' ⟨hw1,hw2,hw3⟩; go_simp; rfl) ?_;simp only[Act.put,aC,aD,aE];refine af 5 rfl (by kernel_rfl) (by kernel_rfl) (by kernel_rfl) (fun _ _ _ h=>h) rfl SV.out (by rintro w' ⟨hw1,hw2,hw3⟩; go_simp; rfl) ?_
        simp only[Act.put,aC,aD,aE];refine af 7 rfl (by kernel_rfl) (by kernel_rfl) (by kernel_rfl) (fun _ _ _ h=>h) rfl SV.out (by rintro w' ⟨hw1,hw2,hw3⟩; go_simp; rfl) ?_;simp only[Act.put,aC,aD,aE];refine af 8 rfl (by kernel_rfl) (by kernel_rfl) (by kernel_rfl) (fun _ _ _ h=>h) rfl SV.out (by rintro w' ⟨hw1,hw2,hw3⟩; go_simp; rfl) ?_;simp only[Act.put,aC,aD,aE]
        refine af 9 rfl (by kernel_rfl) (by kernel_rfl) (by kernel_rfl) (fun _ _ _ h=>h) rfl SV.out (by rintro w' ⟨hw1,hw2,hw3⟩; go_simp; rfl) ?_;simp only[Act.put,aC,aD,aE];refine af 10 rfl (by kernel_rfl) (by kernel_rfl) (by kernel_rfl) (fun _ _ _ h=>h) rfl SV.out (by rintro w' ⟨hw1,hw2,hw3⟩; go_simp; rfl) ?_;simp only[Act.put,aC,aD,aE];refine af 11 rfl (by kernel_rfl) (by kernel_rfl) (by kernel_rfl) (fun _ _ _ h=>h) rfl SV.out (by rintro w' ⟨hw1,hw2,hw3⟩; go_simp; rfl) ?_
        simp only[Act.put,aC,aD,aE];refine af 12 rfl (by kernel_rfl) (by kernel_rfl) (by kernel_rfl) (fun _ _ _ h=>h) rfl SV.out (by rintro w' ⟨hw1,hw2,hw3⟩; go_simp; rfl) ?_;simp only[Act.put,aC,aD,aE];refine az 6 rfl (by kernel_rfl) rfl (fun K hK=> ?_);have HFA:=ab (HA.out.below (HTO.out _ HIV.out.below));go_wp2_with (go_at_call 46; refine(ff _ a.files _ p ((ja:Int)) _ HFA.out HFX.out).mono ?_; rintro e' w7 ⟨rfl,hb7⟩)
        have HI7:=ab (HIV.out.next hb7);clear hb7;have S7:=ab (HCL.out w7 HI7.out.below);refine⟨S7.out, ?_⟩;refine az 13 rfl (by kernel_rfl) rfl (fun K hK=> ?_);have HFB:=ab (HB.out.below (HTO.out _ HI7.out.below));go_wp2_with (go_at_call 46; refine(ff _ b.files _ p (-1) _ HFB.out HFY.out).mono ?_; rintro e' w8 ⟨rfl,hb8⟩);have HI8:=ab (HI7.out.next hb8);clear hb8;have S8:=ab (HCL.out w8 HI8.out.below)
        refine⟨S8.out, ?_⟩;refine af 14 rfl (by kernel_rfl) (by kernel_rfl) (by kernel_rfl) (fun _ _ _ h=>h) rfl S8.out (by rintro w' ⟨hw1,hw2,hw3⟩; go_simp; rfl) ?_;simp only[Act.put,aC,aD,aE];refine af 15 rfl (by kernel_rfl) (by kernel_rfl) (by kernel_rfl) (fun _ _ _ h=>h) rfl S8.out (by rintro w' ⟨hw1,hw2,hw3⟩; go_simp; rfl) ?_;simp only[Act.put,aC,aD,aE];refine aZ (by kernel_rfl) ?_
        have x1:=S8.out.1;have y1:=S8.out.2.1;have y0:=S8.out.2.2
        go_upto_region 22 with fail
        have HAL:=ab ((Below.refl w8.heap.size w8).alloc (Nat.le_refl _) (.cells (bL (p,4)).toArray 82));have HOA:=ab (show(w8.alloc (.cells (bL (p,4)).toArray 82)).ownsRow W0.heap.size 82 2 (.slice av on cv) on (cr out)from by have h1:=aM HI8.out.own HAL.out; rw[<-HON.out]at h1; exact h1);have HRL:=ab (dz (n:=1) (sz:=2) (cells:=bL (p,4)) (heap_alloc_new w8 (.cells (bL (p,4)).toArray 82)) rfl (by decide))
        have HZ:=ab (show W0.heap.size<=(w8.alloc (.cells (bL (p,4)).toArray 82)).heap.size by have:=HI8.out.below.size; simp; omega);go_wp2_with (at_builtin; go_must (refine bg Tryz.appChg22 rfl _ _ rfl W0.heap.size (.slice av on cv) on (cr out) rfl HOA.out _ 1 (bL (p,4)) rfl HRL.out dB (by omega) HZ.out ?_); intro v9 w9 hown9 hg9; have HO9:=ab hown9; have HG9:=ab hg9; clear hown9 hg9)
        have HI9:=ab (show cL W0 w9 v9 (out++[(p,4)])from⟨by rw[List.length_append,List.length_singleton,cA,<-HON.out]; exact HO9.out,aS (ag HI8.out.below HAL.out) HOA.out HG9.out (Nat.le_refl _) HZ.out⟩)
        go_roundw
        case rel=>
         repeat apply Exists.intro
         refine⟨⟨j+1,by omega,by go_num, ?_⟩,rfl⟩;rw[eB HLJ.out,<-HOUT.out,HCO.out];exact HI9.out
        case measure=>
         show m-(intOf (.int .i64 ((j:Int)+1))).toNat<m-(intOf (.int .i64 (j:Int))).toNat
         simp only[intOf]; omega
      ·rw[Nat.zero_add]at hb2;have hjb0:decide ((jb:Int)<0)=false:=by simp
       have hjbn:jb<nb:=by rw[HNB.out]; exact(List.getElem?_eq_some_iff.1 hjb).1
       have hjan2:(ja:Int)<(na:Int):=by omega
       have hjbn2:(jb:Int)<(nb:Int):=by omega
       have HFX:=ab ha2;have HFY:=ab hb2;have HFA1:=ab ha1;have HFB1:=ab hb1;obtain⟨b1,o1,pa1,pc1,rfl,-,hpa1,-,-,hcl1⟩:=cj HAW.out (Below.refl _ _) hja;obtain⟨b2,o2,pa2,pc2,rfl,-,hpa2,-,-,hcl2⟩:=cj HBF.out (Below.refl _ _) hjb;have HPA1:=ab hpa1;have HPA2:=ab hpa2;have HTW:=ab (show ∀u:World,Below W0.heap.size W0 u->Below W.heap.size W u from fun u hu=>HSO.out.below.trans (hu.mono HSO.out.below.size))
       have HCF:=ab (show ∀u:World,Below W0.heap.size W0 u->tk w.heap.size (w.heap.size+1) (.slice (some ⟨b1,o1,none⟩) na ac) (.slice (some ⟨b2,o2,none⟩) nb bc) b1 (o1+ja*7) (.slice pa1 f.parts.length pc1) f b2 (o2+jb*7) (.slice pa2 g.parts.length pc2) g u from fun u hu=>by
        obtain⟨h1,h2,-⟩:=HCL.out u hu;have k1: ∀i,i<7->u.cell? ⟨b1,o1+ja*7+i,none⟩=(bO (.slice pa1 f.parts.length pc1) f)[i]? :=fun i hi=>((HTW.out u hu).cell (p:=⟨b1,o1+ja*7+i,none⟩) (rC (hcl1 0 (by omega)))).trans (hcl1 i hi)
        have k2: ∀i,i<7->u.cell? ⟨b2,o2+jb*7+i,none⟩=(bO (.slice pa2 g.parts.length pc2) g)[i]? :=fun i hi=>((HTW.out u hu).cell (p:=⟨b2,o2+jb*7+i,none⟩) (rC (hcl2 0 (by omega)))).trans (hcl2 i hi)
        exact⟨h1,h2,k1 1 (by omega),k1 2 (by omega),k1 3 (by omega),k1 5 (by omega),k1 6 (by omega),k2 1 (by omega),k2 2 (by omega),k2 3 (by omega),k2 5 (by omega),k2 6 (by omega)⟩)
       have HDF:=ab (show bG a.files b.files p=if dM f g=0 then []else [(p,dM f g)] by unfold bG; rw[ha1,hb1]);clear ha1 ha2 hb1 hb2 hja hjb hpa1 hpa2 hcl1 hcl2;obtain⟨V,hV⟩: ∃V:World,V=wr.drew:=⟨_,rfl⟩;have HIV:=ab (show cL W0 V _ _ by rw[hV]; exact HI.out.next ((Below.refl _ _).drew))
       go_upto_region 18 with fail
       refine cu (fun w'=>w'.cell? ⟨w.heap.size,1,none⟩=some (.slice (some ⟨b1,o1,none⟩) na ac)/\w'.cell? ⟨w.heap.size+1,1,none⟩=some (.slice (some ⟨b2,o2,none⟩) nb bc)/\w'.cell? ⟨pb,j,none⟩=some (.string p)) (by kernel_rfl) ?_;rw[<-hV];clear hV x1 y1 y0;have SV:=ab (HCL.out V HIV.out.below);refine af 0 rfl (by kernel_rfl) (by kernel_rfl) (by kernel_rfl) (fun _ _ _ h=>h) rfl SV.out (by rintro w' ⟨hw1,hw2,hw3⟩; go_simp; rfl) ?_
       simp only[Act.put,aC,aD,aE];refine af 1 rfl (by kernel_rfl) (by kernel_rfl) (by kernel_rfl) (fun _ _ _ h=>h) rfl SV.out (by rintro w' ⟨hw1,hw2,hw3⟩; go_simp; rfl) ?_;simp only[Act.put,aC,aD,aE];refine af 2 rfl (by kernel_rfl) (by kernel_rfl) (by kernel_rfl) (fun _ _ _ h=>h) rfl SV.out (by rintro w' ⟨hw1,hw2,hw3⟩; go_simp; rfl) ?_;simp only[Act.put,aC,aD,aE]
       refine af 3 rfl (by kernel_rfl) (by kernel_rfl) (by kernel_rfl) (fun _ _ _ h=>h) rfl SV.out (by rintro w' ⟨hw1,hw2,hw3⟩; go_simp; rfl) ?_;simp only[Act.put,aC,aD,aE];refine af 4 rfl (by kernel_rfl) (by kernel_rfl) (by kernel_rfl) (fun _ _ _ h=>h) rfl SV.out (by rintro w' ⟨hw1,hw2,hw3⟩; go_simp; rfl) ?_;simp only[Act.put,aC,aD,aE];refine af 5 rfl (by kernel_rfl) (by kernel_rfl) (by kernel_rfl) (fun _ _ _ h=>h) rfl SV.out (by rintro w' ⟨hw1,hw2,hw3⟩; go_simp; rfl) ?_
       simp only[Act.put,aC,aD,aE];refine af 7 rfl (by kernel_rfl) (by kernel_rfl) (by kernel_rfl) (fun _ _ _ h=>h) rfl SV.out (by rintro w' ⟨hw1,hw2,hw3⟩; go_simp; rfl) ?_;simp only[Act.put,aC,aD,aE];refine af 8 rfl (by kernel_rfl) (by kernel_rfl) (by kernel_rfl) (fun _ _ _ h=>h) rfl SV.out (by rintro w' ⟨hw1,hw2,hw3⟩; go_simp; rfl) ?_;simp only[Act.put,aC,aD,aE]
       refine af 9 rfl (by kernel_rfl) (by kernel_rfl) (by kernel_rfl) (fun _ _ _ h=>h) rfl SV.out (by rintro w' ⟨hw1,hw2,hw3⟩; go_simp; rfl) ?_;simp only[Act.put,aC,aD,aE];refine af 10 rfl (by kernel_rfl) (by kernel_rfl) (by kernel_rfl) (fun _ _ _ h=>h) rfl SV.out (by rintro w' ⟨hw1,hw2,hw3⟩; go_simp; rfl) ?_;simp only[Act.put,aC,aD,aE];refine af 11 rfl (by kernel_rfl) (by kernel_rfl) (by kernel_rfl) (fun _ _ _ h=>h) rfl SV.out (by rintro w' ⟨hw1,hw2,hw3⟩; go_simp; rfl) ?_
       simp only[Act.put,aC,aD,aE];refine af 12 rfl (by kernel_rfl) (by kernel_rfl) (by kernel_rfl) (fun _ _ _ h=>h) rfl SV.out (by rintro w' ⟨hw1,hw2,hw3⟩; go_simp; rfl) ?_;simp only[Act.put,aC,aD,aE];refine az 6 rfl (by kernel_rfl) rfl (fun K hK=> ?_);have HFA:=ab (HA.out.below (HTO.out _ HIV.out.below));go_wp2_with (go_at_call 46; refine(ff _ a.files _ p ((ja:Int)) _ HFA.out HFX.out).mono ?_; rintro e' w7 ⟨rfl,hb7⟩)
       have HI7:=ab (HIV.out.next hb7);clear hb7;have S7:=ab (HCL.out w7 HI7.out.below);refine⟨S7.out, ?_⟩;refine az 13 rfl (by kernel_rfl) rfl (fun K hK=> ?_);have HFB:=ab (HB.out.below (HTO.out _ HI7.out.below));go_wp2_with (go_at_call 46; refine(ff _ b.files _ p ((jb:Int)) _ HFB.out HFY.out).mono ?_; rintro e' w8 ⟨rfl,hb8⟩);have HI8:=ab (HI7.out.next hb8);clear hb8
       have S8:=ab (HCL.out w8 HI8.out.below);refine⟨S8.out, ?_⟩;refine af 14 rfl (by kernel_rfl) (by kernel_rfl) (by kernel_rfl) (fun _ _ _ h=>h) rfl S8.out (by rintro w' ⟨hw1,hw2,hw3⟩; go_simp; rfl) ?_;simp only[Act.put,aC,aD,aE];refine af 15 rfl (by kernel_rfl) (by kernel_rfl) (by kernel_rfl) (fun _ _ _ h=>h) rfl S8.out (by rintro w' ⟨hw1,hw2,hw3⟩; go_simp; rfl) ?_
       simp only[Act.put,aC,aD,aE];refine aZ (by kernel_rfl) ?_;have x1:=S8.out.1;have y1:=S8.out.2.1;have y0:=S8.out.2.2
       by_cases hk:f.kind=g.kind
       case neg=>
        as_aux_lemma=>
         have HCO:=ab (show bG a.files b.files p=[(p,2)] by rw[HDF.out,jA (fun h=>hk h.1)]; rfl);have hk1:(f.kind == g.kind)=false:=by simp[hk]
         have hk2:(f.kind != g.kind)=true:=by simp[hk]
         have hk3:decide (f.kind=g.kind)=false:=by simp[hk]
         obtain⟨x1,y1,a1,a2,a3,a5,a6,z1,z2,z3,z5,z6⟩:=HCF.out w8 HI8.out.below;have y0:=(HCL.out w8 HI8.out.below).2.2
         go_upto_region 23 with fail
         go_quiet (fail)
         have HIU:=ab (show cL W0 (w8.drewN nq) _ _ from HI8.out.next ⟨rfl,rfl,rfl,Nat.le_refl _,fun _ _=>rfl⟩);clear x1 y1 y0 a1 a2 a3 a5 a6 z1 z2 z3 z5 z6
         generalize w8.drewN nq=U at *
         obtain⟨x1,y1,-⟩:=HCF.out U HIU.out.below;have y0:=(HCL.out U HIU.out.below).2.2
         go_upto_region 24 with fail
         have HAL:=ab ((Below.refl U.heap.size U).alloc (Nat.le_refl _) (.cells (bL (p,2)).toArray 82));have HOA:=ab (show(U.alloc (.cells (bL (p,2)).toArray 82)).ownsRow W0.heap.size 82 2 (.slice av on cv) on (cr out)from by have h1:=aM HIU.out.own HAL.out; rw[<-HON.out]at h1; exact h1);have HRL:=ab (dz (n:=1) (sz:=2) (cells:=bL (p,2)) (heap_alloc_new U (.cells (bL (p,2)).toArray 82)) rfl (by decide))
         have HZ:=ab (show W0.heap.size<=(U.alloc (.cells (bL (p,2)).toArray 82)).heap.size by have:=HIU.out.below.size; simp; omega);go_wp2_with (at_builtin; go_must (refine bg Tryz.appChg22 rfl _ _ rfl W0.heap.size (.slice av on cv) on (cr out) rfl HOA.out _ 1 (bL (p,2)) rfl HRL.out dB (by omega) HZ.out ?_); intro v9 w9 hown9 hg9; have HO9:=ab hown9; have HG9:=ab hg9; clear hown9 hg9)
         have HI9:=ab (show cL W0 w9 v9 (out++[(p,2)])from⟨by rw[List.length_append,List.length_singleton,cA,<-HON.out]; exact HO9.out,aS (ag HIU.out.below HAL.out) HOA.out HG9.out (Nat.le_refl _) HZ.out⟩)
         go_roundw
         case rel=>
          repeat apply Exists.intro
          refine⟨⟨j+1,by omega,by go_num, ?_⟩,rfl⟩;rw[eB HLJ.out,<-HOUT.out,HCO.out];exact HI9.out
         case measure=>
          show m-(intOf (.int .i64 ((j:Int)+1))).toNat<m-(intOf (.int .i64 (j:Int))).toNat
          simp only[intOf]; omega
       have hk1:(f.kind == g.kind)=true:=by simp[hk]
       have hk2:(f.kind != g.kind)=false:=by simp[hk]
       have hk3:decide (f.kind=g.kind)=true:=by simp[hk]
       by_cases hl:f.link=g.link
       case neg=>
        as_aux_lemma=>
         have hl3:(f.link.toList == g.link.toList)=false:=by rw[beq_eq_false_iff_ne]; intro h; exact hl (ew (by rw[<-aV,<-aV]; exact h))
         have hl4:decide (f.link.toList=g.link.toList)=false:=by simpa using hl3
         have hl2: ¬f.link.toList=g.link.toList:=fun h=>hl (ew (by rw[<-aV,<-aV,h]))
         have HCO:=ab (show bG a.files b.files p=[(p,2)] by rw[HDF.out,jA (fun h=>hl h.2.1)]; rfl);obtain⟨x1,y1,a1,a2,a3,a5,a6,z1,z2,z3,z5,z6⟩:=HCF.out w8 HI8.out.below;have y0:=(HCL.out w8 HI8.out.below).2.2
         go_upto_region 23 with fail
         go_quiet (fail)
         have HIU:=ab (show cL W0 (w8.drewN nq) _ _ from HI8.out.next ⟨rfl,rfl,rfl,Nat.le_refl _,fun _ _=>rfl⟩);clear x1 y1 y0 a1 a2 a3 a5 a6 z1 z2 z3 z5 z6
         generalize w8.drewN nq=U at *
         obtain⟨x1,y1,-⟩:=HCF.out U HIU.out.below;have y0:=(HCL.out U HIU.out.below).2.2
         go_upto_region 24 with fail
         have HAL:=ab ((Below.refl U.heap.size U).alloc (Nat.le_refl _) (.cells (bL (p,2)).toArray 82));have HOA:=ab (show(U.alloc (.cells (bL (p,2)).toArray 82)).ownsRow W0.heap.size 82 2 (.slice av on cv) on (cr out)from by have h1:=aM HIU.out.own HAL.out; rw[<-HON.out]at h1; exact h1);have HRL:=ab (dz (n:=1) (sz:=2) (cells:=bL (p,2)) (heap_alloc_new U (.cells (bL (p,2)).toArray 82)) rfl (by decide))
         have HZ:=ab (show W0.heap.size<=(U.alloc (.cells (bL (p,2)).toArray 82)).heap.size by have:=HIU.out.below.size; simp; omega);go_wp2_with (at_builtin; go_must (refine bg Tryz.appChg22 rfl _ _ rfl W0.heap.size (.slice av on cv) on (cr out) rfl HOA.out _ 1 (bL (p,2)) rfl HRL.out dB (by omega) HZ.out ?_); intro v9 w9 hown9 hg9; have HO9:=ab hown9; have HG9:=ab hg9; clear hown9 hg9)
         have HI9:=ab (show cL W0 w9 v9 (out++[(p,2)])from⟨by rw[List.length_append,List.length_singleton,cA,<-HON.out]; exact HO9.out,aS (ag HIU.out.below HAL.out) HOA.out HG9.out (Nat.le_refl _) HZ.out⟩)
         go_roundw
         case rel=>
          repeat apply Exists.intro
          refine⟨⟨j+1,by omega,by go_num, ?_⟩,rfl⟩;rw[eB HLJ.out,<-HOUT.out,HCO.out];exact HI9.out
         case measure=>
          show m-(intOf (.int .i64 ((j:Int)+1))).toNat<m-(intOf (.int .i64 (j:Int))).toNat
          simp only[intOf]; omega
       have hl2:f.link.toList=g.link.toList:=by rw[hl]
       have hl3:(f.link.toList == g.link.toList)=true:=by rw[hl]; simp
       by_cases hpp:f.parts=g.parts
       case neg=>
        as_aux_lemma=>
         have HEQ:=ab (show decide (f.parts=g.parts)=false by simp[hpp]);have HCO:=ab (show bG a.files b.files p=[(p,2)] by rw[HDF.out,jA (fun h=>hpp h.2.2)]; rfl);clear hpp;obtain⟨U,hV⟩: ∃V:World,V=w8.drew:=⟨_,rfl⟩;have HIU:=ab (show cL W0 U _ _ by rw[hV]; exact HI8.out.next ((Below.refl _ _).drew))
         go_upto_region 23 with fail
         refine cu (tk w.heap.size (w.heap.size+1) (.slice (some ⟨b1,o1,none⟩) na ac) (.slice (some ⟨b2,o2,none⟩) nb bc) b1 (o1+ja*7) (.slice pa1 f.parts.length pc1) f b2 (o2+jb*7) (.slice pa2 g.parts.length pc2) g) (by kernel_rfl) ?_;rw[<-hV];clear hV x1 y1 y0;have SU:=ab (HCF.out U HIU.out.below);refine af 0 rfl (by kernel_rfl) (by kernel_rfl) (by kernel_rfl) (fun _ _ _ h=>h) rfl SU.out (by rintro w' ⟨_,_,_,_,_,_,_,_,_,_,_,_⟩; go_simp; rfl) ?_
         simp only[Act.put,aC,aD,aE];refine af 1 rfl (by kernel_rfl) (by kernel_rfl) (by kernel_rfl) (fun _ _ _ h=>h) rfl SU.out (by rintro w' ⟨_,_,_,_,_,_,_,_,_,_,_,_⟩; go_simp; rfl) ?_;simp only[Act.put,aC,aD,aE];refine af 2 rfl (by kernel_rfl) (by kernel_rfl) (by kernel_rfl) (fun _ _ _ h=>h) rfl SU.out (by rintro w' ⟨_,_,_,_,_,_,_,_,_,_,_,_⟩; go_simp; rfl) ?_
         simp only[Act.put,aC,aD,aE];refine af 3 rfl (by kernel_rfl) (by kernel_rfl) (by kernel_rfl) (fun _ _ _ h=>h) rfl SU.out (by rintro w' ⟨_,_,_,_,_,_,_,_,_,_,_,_⟩; go_simp; rfl) ?_;simp only[Act.put,aC,aD,aE];refine af 4 rfl (by kernel_rfl) (by kernel_rfl) (by kernel_rfl) (fun _ _ _ h=>h) rfl SU.out (by rintro w' ⟨_,_,_,_,_,_,_,_,_,_,_,_⟩; go_simp; rfl) ?_
         simp only[Act.put,aC,aD,aE];refine af 5 rfl (by kernel_rfl) (by kernel_rfl) (by kernel_rfl) (fun _ _ _ h=>h) rfl SU.out (by rintro w' ⟨_,_,_,_,_,_,_,_,_,_,_,_⟩; go_simp; rfl) ?_;simp only[Act.put,aC,aD,aE];refine af 6 rfl (by kernel_rfl) (by kernel_rfl) (by kernel_rfl) (fun _ _ _ h=>h) rfl SU.out (by rintro w' ⟨_,_,_,_,_,_,_,_,_,_,_,_⟩; go_simp; rfl) ?_
         simp only[Act.put,aC,aD,aE];refine af 7 rfl (by kernel_rfl) (by kernel_rfl) (by kernel_rfl) (fun _ _ _ h=>h) rfl SU.out (by rintro w' ⟨_,_,_,_,_,_,_,_,_,_,_,_⟩; go_simp; rfl) ?_;simp only[Act.put,aC,aD,aE];refine af 8 rfl (by kernel_rfl) (by kernel_rfl) (by kernel_rfl) (fun _ _ _ h=>h) rfl SU.out (by rintro w' ⟨_,_,_,_,_,_,_,_,_,_,_,_⟩; go_simp; rfl) ?_
         simp only[Act.put,aC,aD,aE];refine af 9 rfl (by kernel_rfl) (by kernel_rfl) (by kernel_rfl) (fun _ _ _ h=>h) rfl SU.out (by rintro w' ⟨_,_,_,_,_,_,_,_,_,_,_,_⟩; go_simp; rfl) ?_;simp only[Act.put,aC,aD,aE];refine af 10 rfl (by kernel_rfl) (by kernel_rfl) (by kernel_rfl) (fun _ _ _ h=>h) rfl SU.out (by rintro w' ⟨_,_,_,_,_,_,_,_,_,_,_,_⟩; go_simp; rfl) ?_
         simp only[Act.put,aC,aD,aE];refine af 11 rfl (by kernel_rfl) (by kernel_rfl) (by kernel_rfl) (fun _ _ _ h=>h) rfl SU.out (by rintro w' ⟨_,_,_,_,_,_,_,_,_,_,_,_⟩; go_simp; rfl) ?_;simp only[Act.put,aC,aD,aE];refine af 12 rfl (by kernel_rfl) (by kernel_rfl) (by kernel_rfl) (fun _ _ _ h=>h) rfl SU.out (by rintro w' ⟨_,_,_,_,_,_,_,_,_,_,_,_⟩; go_simp; rfl) ?_
         simp only[Act.put,aC,aD,aE];refine af 13 rfl (by kernel_rfl) (by kernel_rfl) (by kernel_rfl) (fun _ _ _ h=>h) rfl SU.out (by rintro w' ⟨_,_,_,_,_,_,_,_,_,_,_,_⟩; go_simp; rfl) ?_;simp only[Act.put,aC,aD,aE];refine af 14 rfl (by kernel_rfl) (by kernel_rfl) (by kernel_rfl) (fun _ _ _ h=>h) rfl SU.out (by rintro w' ⟨_,_,_,_,_,_,_,_,_,_,_,_⟩; go_simp; rfl) ?_
         simp only[Act.put,aC,aD,aE];refine af 15 rfl (by kernel_rfl) (by kernel_rfl) (by kernel_rfl) (fun _ _ _ h=>h) rfl SU.out (by rintro w' ⟨_,_,_,_,_,_,_,_,_,_,_,_⟩; go_simp; rfl) ?_;simp only[Act.put,aC,aD,aE];refine af 16 rfl (by kernel_rfl) (by kernel_rfl) (by kernel_rfl) (fun _ _ _ h=>h) rfl SU.out (by rintro w' ⟨_,_,_,_,_,_,_,_,_,_,_,_⟩; go_simp; rfl) ?_
         simp only[Act.put,aC,aD,aE];refine af 17 rfl (by kernel_rfl) (by kernel_rfl) (by kernel_rfl) (fun _ _ _ h=>h) rfl SU.out (by rintro w' ⟨_,_,_,_,_,_,_,_,_,_,_,_⟩; go_simp; rfl) ?_;simp only[Act.put,aC,aD,aE];refine af 18 rfl (by kernel_rfl) (by kernel_rfl) (by kernel_rfl) (fun _ _ _ h=>h) rfl SU.out (by rintro w' ⟨_,_,_,_,_,_,_,_,_,_,_,_⟩; go_simp; rfl) ?_
         simp only[Act.put,aC,aD,aE];refine af 19 rfl (by kernel_rfl) (by kernel_rfl) (by kernel_rfl) (fun _ _ _ h=>h) rfl SU.out (by rintro w' ⟨_,_,_,_,_,_,_,_,_,_,_,_⟩; go_simp; rfl) ?_;simp only[Act.put,aC,aD,aE];refine af 20 rfl (by kernel_rfl) (by kernel_rfl) (by kernel_rfl) (fun _ _ _ h=>h) rfl SU.out (by rintro w' ⟨_,_,_,_,_,_,_,_,_,_,_,_⟩; go_simp; rfl) ?_
         simp only[Act.put,aC,aD,aE];refine af 21 rfl (by kernel_rfl) (by kernel_rfl) (by kernel_rfl) (fun _ _ _ h=>h) rfl SU.out (by rintro w' ⟨_,_,_,_,_,_,_,_,_,_,_,_⟩; go_simp; rfl) ?_;simp only[Act.put,aC,aD,aE];refine af 22 rfl (by kernel_rfl) (by kernel_rfl) (by kernel_rfl) (fun _ _ _ h=>h) rfl SU.out (by rintro w' ⟨_,_,_,_,_,_,_,_,_,_,_,_⟩; go_simp; rfl) ?_
         simp only[Act.put,aC,aD,aE];refine af 23 rfl (by kernel_rfl) (by kernel_rfl) (by kernel_rfl) (fun _ _ _ h=>h) rfl SU.out (by rintro w' ⟨_,_,_,_,_,_,_,_,_,_,_,_⟩; go_simp; rfl) ?_;simp only[Act.put,aC,aD,aE];refine af 24 rfl (by kernel_rfl) (by kernel_rfl) (by kernel_rfl) (fun _ _ _ h=>h) rfl SU.out (by rintro w' ⟨_,_,_,_,_,_,_,_,_,_,_,_⟩; go_simp; rfl) ?_
         simp only[Act.put,aC,aD,aE];refine af 25 rfl (by kernel_rfl) (by kernel_rfl) (by kernel_rfl) (fun _ _ _ h=>h) rfl SU.out (by rintro w' ⟨_,_,_,_,_,_,_,_,_,_,_,_⟩; go_simp; rfl) ?_;simp only[Act.put,aC,aD,aE];refine af 26 rfl (by kernel_rfl) (by kernel_rfl) (by kernel_rfl) (fun _ _ _ h=>h) rfl SU.out (by rintro w' ⟨_,_,_,_,_,_,_,_,_,_,_,_⟩; go_simp; rfl) ?_
         simp only[Act.put,aC,aD,aE];refine af 27 rfl (by kernel_rfl) (by kernel_rfl) (by kernel_rfl) (fun _ _ _ h=>h) rfl SU.out (by rintro w' ⟨_,_,_,_,_,_,_,_,_,_,_,_⟩; go_simp; rfl) ?_;simp only[Act.put,aC,aD,aE];refine af 28 rfl (by kernel_rfl) (by kernel_rfl) (by kernel_rfl) (fun _ _ _ h=>h) rfl SU.out (by rintro w' ⟨_,_,_,_,_,_,_,_,_,_,_,_⟩; go_simp; rfl) ?_
         simp only[Act.put,aC,aD,aE];refine af 29 rfl (by kernel_rfl) (by kernel_rfl) (by kernel_rfl) (fun _ _ _ h=>h) rfl SU.out (by rintro w' ⟨_,_,_,_,_,_,_,_,_,_,_,_⟩; go_simp; rfl) ?_;simp only[Act.put,aC,aD,aE];refine af 30 rfl (by kernel_rfl) (by kernel_rfl) (by kernel_rfl) (fun _ _ _ h=>h) rfl SU.out (by rintro w' ⟨_,_,_,_,_,_,_,_,_,_,_,_⟩; go_simp; rfl) ?_
         simp only[Act.put,aC,aD,aE];refine af 31 rfl (by kernel_rfl) (by kernel_rfl) (by kernel_rfl) (fun _ _ _ h=>h) rfl SU.out (by rintro w' ⟨_,_,_,_,_,_,_,_,_,_,_,_⟩; go_simp; rfl) ?_;simp only[Act.put,aC,aD,aE];refine af 32 rfl (by kernel_rfl) (by kernel_rfl) (by kernel_rfl) (fun _ _ _ h=>h) rfl SU.out (by rintro w' ⟨_,_,_,_,_,_,_,_,_,_,_,_⟩; go_simp; rfl) ?_
         simp only[Act.put,aC,aD,aE];refine af 33 rfl (by kernel_rfl) (by kernel_rfl) (by kernel_rfl) (fun _ _ _ h=>h) rfl SU.out (by rintro w' ⟨_,_,_,_,_,_,_,_,_,_,_,_⟩; go_simp; rfl) ?_;simp only[Act.put,aC,aD,aE];refine af 34 rfl (by kernel_rfl) (by kernel_rfl) (by kernel_rfl) (fun _ _ _ h=>h) rfl SU.out (by rintro w' ⟨_,_,_,_,_,_,_,_,_,_,_,_⟩; go_simp; rfl) ?_
         simp only[Act.put,aC,aD,aE];refine af 35 rfl (by kernel_rfl) (by kernel_rfl) (by kernel_rfl) (fun _ _ _ h=>h) rfl SU.out (by rintro w' ⟨_,_,_,_,_,_,_,_,_,_,_,_⟩; go_simp; rfl) ?_;simp only[Act.put,aC,aD,aE];refine af 36 rfl (by kernel_rfl) (by kernel_rfl) (by kernel_rfl) (fun _ _ _ h=>h) rfl SU.out (by rintro w' ⟨_,_,_,_,_,_,_,_,_,_,_,_⟩; go_simp; rfl) ?_
         simp only[Act.put,aC,aD,aE];refine af 37 rfl (by kernel_rfl) (by kernel_rfl) (by kernel_rfl) (fun _ _ _ h=>h) rfl SU.out (by rintro w' ⟨_,_,_,_,_,_,_,_,_,_,_,_⟩; go_simp; rfl) ?_;simp only[Act.put,aC,aD,aE];refine af 38 rfl (by kernel_rfl) (by kernel_rfl) (by kernel_rfl) (fun _ _ _ h=>h) rfl SU.out (by rintro w' ⟨_,_,_,_,_,_,_,_,_,_,_,_⟩; go_simp; rfl) ?_
         simp only[Act.put,aC,aD,aE];refine af 39 rfl (by kernel_rfl) (by kernel_rfl) (by kernel_rfl) (fun _ _ _ h=>h) rfl SU.out (by rintro w' ⟨_,_,_,_,_,_,_,_,_,_,_,_⟩; go_simp; rfl) ?_;simp only[Act.put,aC,aD,aE];refine af 40 rfl (by kernel_rfl) (by kernel_rfl) (by kernel_rfl) (fun _ _ _ h=>h) rfl SU.out (by rintro w' ⟨_,_,_,_,_,_,_,_,_,_,_,_⟩; go_simp; rfl) ?_
         simp only[Act.put,aC,aD,aE];refine az 41 rfl (by kernel_rfl) rfl (fun K hK=> ?_);have HPU:=ab (aK.below HPA1.out (HTW.out _ HIU.out.below));have HQU:=ab (aK.below HPA2.out (HTW.out _ HIU.out.below));go_wp2_with (go_at_call 47; refine(jn _ _ _ _ f.parts g.parts (false) _ HPU.out HQU.out HEQ.out).mono ?_; rintro e' w9 ⟨rfl,hb9⟩);have HI9:=ab (HIU.out.next hb9)
         clear hb9;have S9:=ab (HCF.out w9 HI9.out.below);refine⟨S9.out, ?_⟩;refine af 42 rfl (by kernel_rfl) (by kernel_rfl) (by kernel_rfl) (fun _ _ _ h=>h) rfl S9.out (by rintro w' ⟨_,_,_,_,_,_,_,_,_,_,_,_⟩; go_simp; rfl) ?_;simp only[Act.put,aC,aD,aE];refine af 43 rfl (by kernel_rfl) (by kernel_rfl) (by kernel_rfl) (fun _ _ _ h=>h) rfl S9.out (by rintro w' ⟨_,_,_,_,_,_,_,_,_,_,_,_⟩; go_simp; rfl) ?_
         simp only[Act.put,aC,aD,aE];refine af 44 rfl (by kernel_rfl) (by kernel_rfl) (by kernel_rfl) (fun _ _ _ h=>h) rfl S9.out (by rintro w' ⟨_,_,_,_,_,_,_,_,_,_,_,_⟩; go_simp; rfl) ?_;simp only[Act.put,aC,aD,aE];refine aZ (by kernel_rfl) ?_;obtain⟨x1,y1,-⟩:=HCF.out w9 HI9.out.below;have y0:=(HCL.out w9 HI9.out.below).2.2
         go_upto_region 24 with fail
         have HAL:=ab ((Below.refl w9.heap.size w9).alloc (Nat.le_refl _) (.cells (bL (p,2)).toArray 82));have HOA:=ab (show(w9.alloc (.cells (bL (p,2)).toArray 82)).ownsRow W0.heap.size 82 2 (.slice av on cv) on (cr out)from by have h1:=aM HI9.out.own HAL.out; rw[<-HON.out]at h1; exact h1);have HRL:=ab (dz (n:=1) (sz:=2) (cells:=bL (p,2)) (heap_alloc_new w9 (.cells (bL (p,2)).toArray 82)) rfl (by decide))
         have HZ:=ab (show W0.heap.size<=(w9.alloc (.cells (bL (p,2)).toArray 82)).heap.size by have:=HI9.out.below.size; simp; omega);go_wp2_with (at_builtin; go_must (refine bg Tryz.appChg22 rfl _ _ rfl W0.heap.size (.slice av on cv) on (cr out) rfl HOA.out _ 1 (bL (p,2)) rfl HRL.out dB (by omega) HZ.out ?_); intro v9 w9 hown9 hg9; have HO9:=ab hown9; have HG9:=ab hg9; clear hown9 hg9)
         have HI9:=ab (show cL W0 w9 v9 (out++[(p,2)])from⟨by rw[List.length_append,List.length_singleton,cA,<-HON.out]; exact HO9.out,aS (ag HI9.out.below HAL.out) HOA.out HG9.out (Nat.le_refl _) HZ.out⟩)
         go_roundw
         case rel=>
          repeat apply Exists.intro
          refine⟨⟨j+1,by omega,by go_num, ?_⟩,rfl⟩;rw[eB HLJ.out,<-HOUT.out,HCO.out];exact HI9.out
         case measure=>
          show m-(intOf (.int .i64 ((j:Int)+1))).toNat<m-(intOf (.int .i64 (j:Int))).toNat
          simp only[intOf]; omega
       as_aux_lemma=>
        have HEQ:=ab (show decide (f.parts=g.parts)=true by simp[hpp]);have HALL:=ab (And.intro hk (And.intro hl hpp));clear hpp;obtain⟨U,hV⟩: ∃V:World,V=w8.drew:=⟨_,rfl⟩;have HIU:=ab (show cL W0 U _ _ by rw[hV]; exact HI8.out.next ((Below.refl _ _).drew))
        go_upto_region 23 with fail
        refine cu (tk w.heap.size (w.heap.size+1) (.slice (some ⟨b1,o1,none⟩) na ac) (.slice (some ⟨b2,o2,none⟩) nb bc) b1 (o1+ja*7) (.slice pa1 f.parts.length pc1) f b2 (o2+jb*7) (.slice pa2 g.parts.length pc2) g) (by kernel_rfl) ?_;rw[<-hV];clear hV x1 y1 y0;have SU:=ab (HCF.out U HIU.out.below);refine af 0 rfl (by kernel_rfl) (by kernel_rfl) (by kernel_rfl) (fun _ _ _ h=>h) rfl SU.out (by rintro w' ⟨_,_,_,_,_,_,_,_,_,_,_,_⟩; go_simp; rfl) ?_
        simp only[Act.put,aC,aD,aE];refine af 1 rfl (by kernel_rfl) (by kernel_rfl) (by kernel_rfl) (fun _ _ _ h=>h) rfl SU.out (by rintro w' ⟨_,_,_,_,_,_,_,_,_,_,_,_⟩; go_simp; rfl) ?_;simp only[Act.put,aC,aD,aE];refine af 2 rfl (by kernel_rfl) (by kernel_rfl) (by kernel_rfl) (fun _ _ _ h=>h) rfl SU.out (by rintro w' ⟨_,_,_,_,_,_,_,_,_,_,_,_⟩; go_simp; rfl) ?_
        simp only[Act.put,aC,aD,aE];refine af 3 rfl (by kernel_rfl) (by kernel_rfl) (by kernel_rfl) (fun _ _ _ h=>h) rfl SU.out (by rintro w' ⟨_,_,_,_,_,_,_,_,_,_,_,_⟩; go_simp; rfl) ?_;simp only[Act.put,aC,aD,aE];refine af 4 rfl (by kernel_rfl) (by kernel_rfl) (by kernel_rfl) (fun _ _ _ h=>h) rfl SU.out (by rintro w' ⟨_,_,_,_,_,_,_,_,_,_,_,_⟩; go_simp; rfl) ?_
        simp only[Act.put,aC,aD,aE];refine af 5 rfl (by kernel_rfl) (by kernel_rfl) (by kernel_rfl) (fun _ _ _ h=>h) rfl SU.out (by rintro w' ⟨_,_,_,_,_,_,_,_,_,_,_,_⟩; go_simp; rfl) ?_;simp only[Act.put,aC,aD,aE];refine af 6 rfl (by kernel_rfl) (by kernel_rfl) (by kernel_rfl) (fun _ _ _ h=>h) rfl SU.out (by rintro w' ⟨_,_,_,_,_,_,_,_,_,_,_,_⟩; go_simp; rfl) ?_
        simp only[Act.put,aC,aD,aE];refine af 7 rfl (by kernel_rfl) (by kernel_rfl) (by kernel_rfl) (fun _ _ _ h=>h) rfl SU.out (by rintro w' ⟨_,_,_,_,_,_,_,_,_,_,_,_⟩; go_simp; rfl) ?_;simp only[Act.put,aC,aD,aE];refine af 8 rfl (by kernel_rfl) (by kernel_rfl) (by kernel_rfl) (fun _ _ _ h=>h) rfl SU.out (by rintro w' ⟨_,_,_,_,_,_,_,_,_,_,_,_⟩; go_simp; rfl) ?_
        simp only[Act.put,aC,aD,aE];refine af 9 rfl (by kernel_rfl) (by kernel_rfl) (by kernel_rfl) (fun _ _ _ h=>h) rfl SU.out (by rintro w' ⟨_,_,_,_,_,_,_,_,_,_,_,_⟩; go_simp; rfl) ?_;simp only[Act.put,aC,aD,aE];refine af 10 rfl (by kernel_rfl) (by kernel_rfl) (by kernel_rfl) (fun _ _ _ h=>h) rfl SU.out (by rintro w' ⟨_,_,_,_,_,_,_,_,_,_,_,_⟩; go_simp; rfl) ?_
        simp only[Act.put,aC,aD,aE];refine af 11 rfl (by kernel_rfl) (by kernel_rfl) (by kernel_rfl) (fun _ _ _ h=>h) rfl SU.out (by rintro w' ⟨_,_,_,_,_,_,_,_,_,_,_,_⟩; go_simp; rfl) ?_;simp only[Act.put,aC,aD,aE];refine af 12 rfl (by kernel_rfl) (by kernel_rfl) (by kernel_rfl) (fun _ _ _ h=>h) rfl SU.out (by rintro w' ⟨_,_,_,_,_,_,_,_,_,_,_,_⟩; go_simp; rfl) ?_
        simp only[Act.put,aC,aD,aE];refine af 13 rfl (by kernel_rfl) (by kernel_rfl) (by kernel_rfl) (fun _ _ _ h=>h) rfl SU.out (by rintro w' ⟨_,_,_,_,_,_,_,_,_,_,_,_⟩; go_simp; rfl) ?_;simp only[Act.put,aC,aD,aE];refine af 14 rfl (by kernel_rfl) (by kernel_rfl) (by kernel_rfl) (fun _ _ _ h=>h) rfl SU.out (by rintro w' ⟨_,_,_,_,_,_,_,_,_,_,_,_⟩; go_simp; rfl) ?_
        simp only[Act.put,aC,aD,aE];refine af 15 rfl (by kernel_rfl) (by kernel_rfl) (by kernel_rfl) (fun _ _ _ h=>h) rfl SU.out (by rintro w' ⟨_,_,_,_,_,_,_,_,_,_,_,_⟩; go_simp; rfl) ?_;simp only[Act.put,aC,aD,aE];refine af 16 rfl (by kernel_rfl) (by kernel_rfl) (by kernel_rfl) (fun _ _ _ h=>h) rfl SU.out (by rintro w' ⟨_,_,_,_,_,_,_,_,_,_,_,_⟩; go_simp; rfl) ?_
        simp only[Act.put,aC,aD,aE];refine af 17 rfl (by kernel_rfl) (by kernel_rfl) (by kernel_rfl) (fun _ _ _ h=>h) rfl SU.out (by rintro w' ⟨_,_,_,_,_,_,_,_,_,_,_,_⟩; go_simp; rfl) ?_;simp only[Act.put,aC,aD,aE];refine af 18 rfl (by kernel_rfl) (by kernel_rfl) (by kernel_rfl) (fun _ _ _ h=>h) rfl SU.out (by rintro w' ⟨_,_,_,_,_,_,_,_,_,_,_,_⟩; go_simp; rfl) ?_
        simp only[Act.put,aC,aD,aE];refine af 19 rfl (by kernel_rfl) (by kernel_rfl) (by kernel_rfl) (fun _ _ _ h=>h) rfl SU.out (by rintro w' ⟨_,_,_,_,_,_,_,_,_,_,_,_⟩; go_simp; rfl) ?_;simp only[Act.put,aC,aD,aE];refine af 20 rfl (by kernel_rfl) (by kernel_rfl) (by kernel_rfl) (fun _ _ _ h=>h) rfl SU.out (by rintro w' ⟨_,_,_,_,_,_,_,_,_,_,_,_⟩; go_simp; rfl) ?_
        simp only[Act.put,aC,aD,aE];refine af 21 rfl (by kernel_rfl) (by kernel_rfl) (by kernel_rfl) (fun _ _ _ h=>h) rfl SU.out (by rintro w' ⟨_,_,_,_,_,_,_,_,_,_,_,_⟩; go_simp; rfl) ?_;simp only[Act.put,aC,aD,aE];refine af 22 rfl (by kernel_rfl) (by kernel_rfl) (by kernel_rfl) (fun _ _ _ h=>h) rfl SU.out (by rintro w' ⟨_,_,_,_,_,_,_,_,_,_,_,_⟩; go_simp; rfl) ?_
        simp only[Act.put,aC,aD,aE];refine af 23 rfl (by kernel_rfl) (by kernel_rfl) (by kernel_rfl) (fun _ _ _ h=>h) rfl SU.out (by rintro w' ⟨_,_,_,_,_,_,_,_,_,_,_,_⟩; go_simp; rfl) ?_;simp only[Act.put,aC,aD,aE];refine af 24 rfl (by kernel_rfl) (by kernel_rfl) (by kernel_rfl) (fun _ _ _ h=>h) rfl SU.out (by rintro w' ⟨_,_,_,_,_,_,_,_,_,_,_,_⟩; go_simp; rfl) ?_
        simp only[Act.put,aC,aD,aE];refine af 25 rfl (by kernel_rfl) (by kernel_rfl) (by kernel_rfl) (fun _ _ _ h=>h) rfl SU.out (by rintro w' ⟨_,_,_,_,_,_,_,_,_,_,_,_⟩; go_simp; rfl) ?_;simp only[Act.put,aC,aD,aE];refine af 26 rfl (by kernel_rfl) (by kernel_rfl) (by kernel_rfl) (fun _ _ _ h=>h) rfl SU.out (by rintro w' ⟨_,_,_,_,_,_,_,_,_,_,_,_⟩; go_simp; rfl) ?_
        simp only[Act.put,aC,aD,aE];refine af 27 rfl (by kernel_rfl) (by kernel_rfl) (by kernel_rfl) (fun _ _ _ h=>h) rfl SU.out (by rintro w' ⟨_,_,_,_,_,_,_,_,_,_,_,_⟩; go_simp; rfl) ?_;simp only[Act.put,aC,aD,aE];refine af 28 rfl (by kernel_rfl) (by kernel_rfl) (by kernel_rfl) (fun _ _ _ h=>h) rfl SU.out (by rintro w' ⟨_,_,_,_,_,_,_,_,_,_,_,_⟩; go_simp; rfl) ?_
        simp only[Act.put,aC,aD,aE];refine af 29 rfl (by kernel_rfl) (by kernel_rfl) (by kernel_rfl) (fun _ _ _ h=>h) rfl SU.out (by rintro w' ⟨_,_,_,_,_,_,_,_,_,_,_,_⟩; go_simp; rfl) ?_;simp only[Act.put,aC,aD,aE];refine af 30 rfl (by kernel_rfl) (by kernel_rfl) (by kernel_rfl) (fun _ _ _ h=>h) rfl SU.out (by rintro w' ⟨_,_,_,_,_,_,_,_,_,_,_,_⟩; go_simp; rfl) ?_
        simp only[Act.put,aC,aD,aE];refine af 31 rfl (by kernel_rfl) (by kernel_rfl) (by kernel_rfl) (fun _ _ _ h=>h) rfl SU.out (by rintro w' ⟨_,_,_,_,_,_,_,_,_,_,_,_⟩; go_simp; rfl) ?_;simp only[Act.put,aC,aD,aE];refine af 32 rfl (by kernel_rfl) (by kernel_rfl) (by kernel_rfl) (fun _ _ _ h=>h) rfl SU.out (by rintro w' ⟨_,_,_,_,_,_,_,_,_,_,_,_⟩; go_simp; rfl) ?_
        simp only[Act.put,aC,aD,aE];refine af 33 rfl (by kernel_rfl) (by kernel_rfl) (by kernel_rfl) (fun _ _ _ h=>h) rfl SU.out (by rintro w' ⟨_,_,_,_,_,_,_,_,_,_,_,_⟩; go_simp; rfl) ?_;simp only[Act.put,aC,aD,aE];refine af 34 rfl (by kernel_rfl) (by kernel_rfl) (by kernel_rfl) (fun _ _ _ h=>h) rfl SU.out (by rintro w' ⟨_,_,_,_,_,_,_,_,_,_,_,_⟩; go_simp; rfl) ?_
        simp only[Act.put,aC,aD,aE];refine af 35 rfl (by kernel_rfl) (by kernel_rfl) (by kernel_rfl) (fun _ _ _ h=>h) rfl SU.out (by rintro w' ⟨_,_,_,_,_,_,_,_,_,_,_,_⟩; go_simp; rfl) ?_;simp only[Act.put,aC,aD,aE];refine af 36 rfl (by kernel_rfl) (by kernel_rfl) (by kernel_rfl) (fun _ _ _ h=>h) rfl SU.out (by rintro w' ⟨_,_,_,_,_,_,_,_,_,_,_,_⟩; go_simp; rfl) ?_
        simp only[Act.put,aC,aD,aE];refine af 37 rfl (by kernel_rfl) (by kernel_rfl) (by kernel_rfl) (fun _ _ _ h=>h) rfl SU.out (by rintro w' ⟨_,_,_,_,_,_,_,_,_,_,_,_⟩; go_simp; rfl) ?_;simp only[Act.put,aC,aD,aE];refine af 38 rfl (by kernel_rfl) (by kernel_rfl) (by kernel_rfl) (fun _ _ _ h=>h) rfl SU.out (by rintro w' ⟨_,_,_,_,_,_,_,_,_,_,_,_⟩; go_simp; rfl) ?_
        simp only[Act.put,aC,aD,aE];refine af 39 rfl (by kernel_rfl) (by kernel_rfl) (by kernel_rfl) (fun _ _ _ h=>h) rfl SU.out (by rintro w' ⟨_,_,_,_,_,_,_,_,_,_,_,_⟩; go_simp; rfl) ?_;simp only[Act.put,aC,aD,aE];refine af 40 rfl (by kernel_rfl) (by kernel_rfl) (by kernel_rfl) (fun _ _ _ h=>h) rfl SU.out (by rintro w' ⟨_,_,_,_,_,_,_,_,_,_,_,_⟩; go_simp; rfl) ?_
        simp only[Act.put,aC,aD,aE];refine az 41 rfl (by kernel_rfl) rfl (fun K hK=> ?_);have HPU:=ab (aK.below HPA1.out (HTW.out _ HIU.out.below));have HQU:=ab (aK.below HPA2.out (HTW.out _ HIU.out.below));go_wp2_with (go_at_call 47; refine(jn _ _ _ _ f.parts g.parts (true) _ HPU.out HQU.out HEQ.out).mono ?_; rintro e' w9 ⟨rfl,hb9⟩);have HI9:=ab (HIU.out.next hb9)
        clear hb9;have S9:=ab (HCF.out w9 HI9.out.below);refine⟨S9.out, ?_⟩;refine af 42 rfl (by kernel_rfl) (by kernel_rfl) (by kernel_rfl) (fun _ _ _ h=>h) rfl S9.out (by rintro w' ⟨_,_,_,_,_,_,_,_,_,_,_,_⟩; go_simp; rfl) ?_;simp only[Act.put,aC,aD,aE];refine af 43 rfl (by kernel_rfl) (by kernel_rfl) (by kernel_rfl) (fun _ _ _ h=>h) rfl S9.out (by rintro w' ⟨_,_,_,_,_,_,_,_,_,_,_,_⟩; go_simp; rfl) ?_
        simp only[Act.put,aC,aD,aE];refine af 44 rfl (by kernel_rfl) (by kernel_rfl) (by kernel_rfl) (fun _ _ _ h=>h) rfl S9.out (by rintro w' ⟨_,_,_,_,_,_,_,_,_,_,_,_⟩; go_simp; rfl) ?_;simp only[Act.put,aC,aD,aE];refine aZ (by kernel_rfl) ?_;obtain⟨x1,y1,-⟩:=HCF.out w9 HI9.out.below;have y0:=(HCL.out w9 HI9.out.below).2.2
        by_cases hm:f.mode=g.mode
        case neg=>
         have hm1:(f.mode == g.mode)=false:=by simp[hm]
         have hm2:(f.mode != g.mode)=true:=by simp[hm]
         have HCO:=ab (show bG a.files b.files p=[(p,3)] by rw[HDF.out,mC HALL.out (fun h=>hm h.1)]; rfl);obtain⟨x1,y1,a1,a2,a3,a5,a6,z1,z2,z3,z5,z6⟩:=HCF.out w9 HI9.out.below;have y0:=(HCL.out w9 HI9.out.below).2.2
         go_upto_region 25 with fail
         go_quiet (fail)
         have HIU2:=ab (show cL W0 (w9.drewN nq) _ _ from HI9.out.next ⟨rfl,rfl,rfl,Nat.le_refl _,fun _ _=>rfl⟩);clear x1 y1 y0 a1 a2 a3 a5 a6 z1 z2 z3 z5 z6
         generalize w9.drewN nq=U2 at *
         obtain⟨x1,y1,-⟩:=HCF.out U2 HIU2.out.below;have y0:=(HCL.out U2 HIU2.out.below).2.2
         go_upto_region 26 with fail
         have HAL:=ab ((Below.refl U2.heap.size U2).alloc (Nat.le_refl _) (.cells (bL (p,3)).toArray 82));have HOA:=ab (show(U2.alloc (.cells (bL (p,3)).toArray 82)).ownsRow W0.heap.size 82 2 (.slice av on cv) on (cr out)from by have h1:=aM HIU2.out.own HAL.out; rw[<-HON.out]at h1; exact h1);have HRL:=ab (dz (n:=1) (sz:=2) (cells:=bL (p,3)) (heap_alloc_new U2 (.cells (bL (p,3)).toArray 82)) rfl (by decide))
         have HZ:=ab (show W0.heap.size<=(U2.alloc (.cells (bL (p,3)).toArray 82)).heap.size by have:=HIU2.out.below.size; simp; omega);go_wp2_with (at_builtin; go_must (refine bg Tryz.appChg22 rfl _ _ rfl W0.heap.size (.slice av on cv) on (cr out) rfl HOA.out _ 1 (bL (p,3)) rfl HRL.out dB (by omega) HZ.out ?_); intro v9 w9 hown9 hg9; have HO9:=ab hown9; have HG9:=ab hg9; clear hown9 hg9)
         have HI9:=ab (show cL W0 w9 v9 (out++[(p,3)])from⟨by rw[List.length_append,List.length_singleton,cA,<-HON.out]; exact HO9.out,aS (ag HIU2.out.below HAL.out) HOA.out HG9.out (Nat.le_refl _) HZ.out⟩)
         go_roundw
         case rel=>
          repeat apply Exists.intro
          refine⟨⟨j+1,by omega,by go_num, ?_⟩,rfl⟩;rw[eB HLJ.out,<-HOUT.out,HCO.out];exact HI9.out
         case measure=>
          show m-(intOf (.int .i64 ((j:Int)+1))).toNat<m-(intOf (.int .i64 (j:Int))).toNat
          simp only[intOf]; omega
        have hm1:(f.mode == g.mode)=true:=by simp[hm]
        have hm2:(f.mode != g.mode)=false:=by simp[hm]
        by_cases ht:f.time=g.time
        case neg=>
         have ht1:(f.time == g.time)=false:=by simp[ht]
         have ht2:(f.time != g.time)=true:=by simp[ht]
         have HCO:=ab (show bG a.files b.files p=[(p,3)] by rw[HDF.out,mC HALL.out (fun h=>ht h.2)]; rfl);obtain⟨x1,y1,a1,a2,a3,a5,a6,z1,z2,z3,z5,z6⟩:=HCF.out w9 HI9.out.below;have y0:=(HCL.out w9 HI9.out.below).2.2
         go_upto_region 25 with fail
         go_quiet (fail)
         have HIU2:=ab (show cL W0 (w9.drewN nq) _ _ from HI9.out.next ⟨rfl,rfl,rfl,Nat.le_refl _,fun _ _=>rfl⟩);clear x1 y1 y0 a1 a2 a3 a5 a6 z1 z2 z3 z5 z6
         generalize w9.drewN nq=U2 at *
         obtain⟨x1,y1,-⟩:=HCF.out U2 HIU2.out.below;have y0:=(HCL.out U2 HIU2.out.below).2.2
         go_upto_region 26 with fail
         have HAL:=ab ((Below.refl U2.heap.size U2).alloc (Nat.le_refl _) (.cells (bL (p,3)).toArray 82));have HOA:=ab (show(U2.alloc (.cells (bL (p,3)).toArray 82)).ownsRow W0.heap.size 82 2 (.slice av on cv) on (cr out)from by have h1:=aM HIU2.out.own HAL.out; rw[<-HON.out]at h1; exact h1);have HRL:=ab (dz (n:=1) (sz:=2) (cells:=bL (p,3)) (heap_alloc_new U2 (.cells (bL (p,3)).toArray 82)) rfl (by decide))
         have HZ:=ab (show W0.heap.size<=(U2.alloc (.cells (bL (p,3)).toArray 82)).heap.size by have:=HIU2.out.below.size; simp; omega);go_wp2_with (at_builtin; go_must (refine bg Tryz.appChg22 rfl _ _ rfl W0.heap.size (.slice av on cv) on (cr out) rfl HOA.out _ 1 (bL (p,3)) rfl HRL.out dB (by omega) HZ.out ?_); intro v9 w9 hown9 hg9; have HO9:=ab hown9; have HG9:=ab hg9; clear hown9 hg9)
         have HI9:=ab (show cL W0 w9 v9 (out++[(p,3)])from⟨by rw[List.length_append,List.length_singleton,cA,<-HON.out]; exact HO9.out,aS (ag HIU2.out.below HAL.out) HOA.out HG9.out (Nat.le_refl _) HZ.out⟩)
         go_roundw
         case rel=>
          repeat apply Exists.intro
          refine⟨⟨j+1,by omega,by go_num, ?_⟩,rfl⟩;rw[eB HLJ.out,<-HOUT.out,HCO.out];exact HI9.out
         case measure=>
          show m-(intOf (.int .i64 ((j:Int)+1))).toNat<m-(intOf (.int .i64 (j:Int))).toNat
          simp only[intOf]; omega
        have ht1:(f.time == g.time)=true:=by simp[ht]
        have ht2:(f.time != g.time)=false:=by simp[ht]
        have HCO:=ab (show bG a.files b.files p=[] by rw[HDF.out,uY HALL.out ⟨hm,ht⟩]; rfl);obtain⟨x1,y1,a1,a2,a3,a5,a6,z1,z2,z3,z5,z6⟩:=HCF.out w9 HI9.out.below;have y0:=(HCL.out w9 HI9.out.below).2.2
        go_upto_region 25 with fail
        go_quiet (fail)
        have HIU2:=ab (show cL W0 (w9.drewN nq) _ _ from HI9.out.next ⟨rfl,rfl,rfl,Nat.le_refl _,fun _ _=>rfl⟩);clear x1 y1 y0 a1 a2 a3 a5 a6 z1 z2 z3 z5 z6
        generalize w9.drewN nq=U2 at *
        obtain⟨x1,y1,-⟩:=HCF.out U2 HIU2.out.below;have y0:=(HCL.out U2 HIU2.out.below).2.2;go_wp2_with fail;have HIE:=ab (show cL W0 U2 (.slice av on cv) (out++[]) by rw[List.append_nil]; exact HIU2.out)
        go_roundw
        case rel=>
         repeat apply Exists.intro
         refine⟨⟨j+1,by omega,by go_num, ?_⟩,rfl⟩;rw[eB HLJ.out,<-HOUT.out,HCO.out];exact HIE.out
        case measure=>
         show m-(intOf (.int .i64 ((j:Int)+1))).toNat<m-(intOf (.int .i64 (j:Int))).toNat
         simp only[intOf]; omega
    ·have hjm:j=m:=by omega
     subst hjm;go_wp2_with fail;go_ret;have hfin:out=(je a.files b.files).flatMap (bG a.files b.files):=by
      rw[HOUT.out]; unfold tH;rw[List.take_of_length_le (by rw[<-HM0.out]; exact Nat.le_refl _),HLP.out]
     have ho:=HI.out.own;rw[HON.out]at ho ⊢;rw[<-hfin];exact⟨_,rfl,bK ho (HTO.out _ (Below.refl _ _)).size,HTO.out _ HI.out.below⟩
end Go.Proofs.YtnjkpcalgoefhaaGreatDoor
namespace Go.Proofs.YtnjkpcalgoefhaaGreatDoor
open Go.RowKit
def iU :eA:=⟨4,8,4,20,0⟩
theorem kQ :eM iU=true:=by decide
def xH (l:List UInt8):ByteArray:=⟨l.toArray⟩
def Aa :bv:=⟨xH [100],2,0,0,[],xH []⟩
def lT (d:List UInt8):bv:=⟨xH [100,47,102],1,0,5,d,xH []⟩
def dT (d:List UInt8):List bv:=[Aa,lT d]
def cE (ps:List bC):List ay:=[⟨xH [100],2,0,0,0,xH [],[]⟩,⟨xH [100,47,102],1,0,5,3,xH [],ps⟩]
theorem ri :bW iU [97,98,99]=[[97,98,99]]:=by decide+kernel
theorem jq (d:List UInt8) (h:d=[97,98,99]\/d=[97,98,100]):bV (dT d)=0:=by
 rcases h with rfl | rfl<;> decide+kernel
theorem fd :cl []=([],0,0):=by kernel_rfl
theorem vj (T:List bv):cV [] T=T:=by
 have h: ∀(f n:Nat) (d:Bool) (p:List (List UInt8)),cw d p [] f n=false:=by
  intro f
  induction f with
  | zero=>intros; rfl
  | succ f ih=>intro n d p; simp[cw,eQ,ih]
 unfold cV;rw[List.filter_eq_self];intro e _;unfold oE dm
 split
 ·rfl
 ·simp[aU,h]
def Bb :aT:=⟨[100],false,true,false⟩
theorem vu :cl [100,47]=([Bb],0,0):=by kernel_rfl
theorem BE (d:List UInt8) (h:d=[97,98,100]):cV [Bb] (dT d)=[]:=by
 subst h; decide+kernel
theorem Bc :eK ⟨0,[]⟩ 10 (dT [97,98,99]) [] iU= .ok ⟨⟨10,cE [bI [97,98,99]]⟩,[(xH [100],1),(xH [100,47,102],1)],[[97,98,99]],1,0⟩:=by
 unfold eK;rw[if_pos ⟨by decide+kernel,by decide,kQ⟩,if_pos (by rw[fd]),if_pos (jq _ (.inl rfl)),fd,vj];have hk:pD 0 [] (lT [97,98,99])=true:=rfl;have hd: ∀d,pD 0 [] Aa=false/\ol 0 [] Aa=false/\ol 0 [] (lT d)=false:=fun d=>⟨rfl,rfl,rfl⟩
 have h1:dA 0 [] iU (dT [97,98,99])=⟨cE [bI [97,98,99]],[iI [97,98,99]],[[97,98,99]],1,0⟩:=by
  have e1:dR 0 [] iU (lT [97,98,99])=[bI [97,98,99]]:=by
   rw[nM hk]
   show(bW iU [97,98,99]).map bI=_
   rw[ri]; rfl
  have e2:(dT [97,98,99]).filter (pD 0 [])=[lT [97,98,99]]:=rfl;have e3:(dT [97,98,99]).filter (ol 0 [])=[]:=rfl;unfold dA;rw[e2,e3];have e4:(dT [97,98,99]).map (eP 0 [] iU)=cE [bI [97,98,99]]:=by
   unfold dT;simp only[List.map_cons,List.map_nil];unfold eP;rw[e1]; rfl
  rw[e4];simp only[List.flatMap_cons,List.flatMap_nil,List.append_nil];rw[show bW iU (lT [97,98,99]).data=[[97,98,99]]from ri]
  rfl
 rw[h1]
 generalize [bI [97,98,99]]=ps
 rfl
theorem vi :ci ⟨10,cE [bI [97,98,99]]⟩=true:=by
 have h:=Bo (rules:=[]) (T:=dT [97,98,99]) (prev:=⟨0,[]⟩) (tm:=10) (c:=iU) fd (jq _ (.inl rfl)) (by decide+kernel) (by decide) kQ;have h2:=Bc;unfold eK at h2;rw[if_pos ⟨by decide+kernel,by decide,kQ⟩,if_pos (by rw[fd]),if_pos (jq _ (.inl rfl)),fd]at h2;have h3:(dA 0 [] iU (cV [] (dT [97,98,99]))).files=cE [bI [97,98,99]]:=by
  have:=Except.ok.inj h2;exact congrArg (fun r=>r.idx.files) this
 have h4:(cV [] (dT [97,98,99])).map (eP 0 [] iU)=cE [bI [97,98,99]]:=h3;rw[<-h4]; exact h
theorem BH :eK ⟨10,cE [bI [97,98,99]]⟩ 20 (dT [97,98,100]) [] iU= .ok ⟨⟨20,cE [bI [97,98,99]]⟩,[],[],0,1⟩:=by
 have hi:=vi
 revert hi
 generalize [bI [97,98,99]]=ps
 intro hi;unfold eK;rw[if_pos ⟨hi,show(10:Int)<=20 by decide,kQ⟩,if_pos (by rw[fd]),if_pos (jq _ (.inr rfl)),fd,vj];have e4:(dT [97,98,100]).map (eP 10 (cE ps) iU)=cE ps:=rfl;have e2:(dT [97,98,100]).filter (pD 10 (cE ps))=[]:=rfl;have e3:((dT [97,98,100]).filter (ol 10 (cE ps))).length=1:=rfl;unfold dA
 simp only;rw[e2,e3,e4,show iR (cE ps) (cE ps)=[]from qY _ _]
 rfl
theorem BI :eK ⟨10,cE [bI [97,98,99]]⟩ 20 (dT [97,98,100]) [100,47] iU= .ok ⟨⟨20,[]⟩,[(xH [100],4),(xH [100,47,102],4)],[],0,0⟩:=by
 have hi:=vi
 revert hi
 generalize [bI [97,98,99]]=ps
 intro hi;unfold eK;rw[if_pos ⟨hi,show(10:Int)<=20 by decide,kQ⟩,if_pos (by rw[vu]),if_pos (jq _ (.inr rfl)),vu,BE _ rfl]
 rfl
open Go Go.RowKit Go.Maps
theorem BD (r r':bC) (w:World):(Op.equalIn 10000 82 (iE r) (iE r')).run Tryz.prog w= .ok (decide (r=r')) w:=by
 have u1:=Tryz.underlying9;have u2:=Tryz.underlying3;have hS:Tryz.prog.underlying 82=some (.struct (Tryz.prog.fieldsOf 82)):=by kernel_rfl
 rw[show(10000:Nat)=9999+1 from rfl];unfold iE;rw[run_equalIn_struct w 9999 82 _ _ hS (by kernel_rfl)];simp only[Program.fieldsOf,Tryz.underlying82]
 go_simp
 obtain⟨n,s⟩:=r;obtain⟨n',s'⟩:=r';have hn:n.toList=n'.toList<->n=n':=⟨fun h=>ew (by rw[<-aV,<-aV,h]),fun h=>by rw[h]⟩;simp only[bC.mk.injEq,hn]
 by_cases h1:n=n'<;> by_cases h3:s=s'<;> simp[h1,h3]
theorem sO (S T:Nat->Prop) (v u:Value) (rs ss:List bC) (w:World) (hv:aK S w v rs) (hu:aK T w u ss):
  Calls Tryz.prog 24 #[v,u] w fun e w'=>e= .returned (.bool (decide (rs=ss)))/\Below w.heap.size w w':=by
 obtain⟨a,cap,rfl,hc,hm,-⟩:=aR.shape hv dq.len;obtain⟨a2,cap2,rfl,hc2,hm2,-⟩:=aR.shape hu dq.len;unfold maxLen at hm hm2;have HV:=ab hv;have HU:=ab hu;clear hv hu
 by_cases hl:rs.length=ss.length
 ·have HL:=ab hl;have hl2:ss.length=rs.length:=hl.symm;rw[hl2]at HU hc2 ⊢;clear hl hl2
  go_enter Tryz.func24,Tryz.ntmps24
  go_wp2_with fail
  go_loopw [5] (fun i wr=> ∃k:Nat,k<=rs.length/\i= .int .i64 k/\rs.take k=ss.take k/\Below w.heap.size w wr) (fun i _=>rs.length-(intOf i).toNat)
  case atStart=>exact⟨0,Nat.zero_le _,rfl,by simp,Below.refl _ _⟩
  case round=>
   obtain⟨k,hk,rfl,hn,hb⟩:=hrel;have HN:=ab hn;have HB:=ab hb;clear hn hb
   by_cases hlt:k<rs.length
   ·obtain⟨r,hr⟩: ∃r,rs[k]? =some r:=⟨rs[k],by simp[hlt]⟩;obtain⟨x,hx⟩: ∃x,ss[k]? =some x:=⟨ss[k]'(by have:=HL.out; omega),by simp⟩;have HR:=ab hr;have HX:=ab hx;have heq:=BD r x;obtain⟨W,hW⟩: ∃W:World,W=wr.drew:=⟨_,rfl⟩;have HBW:=ab (show Below w.heap.size w W by rw[hW]; exact HB.out.drew);obtain⟨b,o,rfl,-,-,-,q0,q1⟩:=dS HV.out HBW.out hr
    obtain⟨b2,o2,rfl,-,-,-,p0,p1⟩:=dS (by have:=HU.out; rw[HL.out]at this; exact this) HBW.out hx;unfold iE at heq;clear hr hx
    by_cases hm:r=x
    ·have e1:decide (r=x)=true:=by simp[hm]
     rw[e1]at heq;have HT:=ab (show rs.take (k+1)=ss.take (k+1) by rw[aX HR.out,aX HX.out,HN.out,hm]);clear e1 hm;go_wp2_with fail;refine ax [some 9] (by kernel_rfl) (by kernel_rfl) (by kernel_rfl) ?_;simp only[bp,List.take_succ_cons,List.take_zero];rw[<-hW];clear hW
     repeat (first | (refine aB rfl ?_; simp only[Act.put,aC,aD,aE]) | (refine aI rfl (fun K hK=> ?_); go_simp; refine hK _ ?_; clear hK K))
     refine aH ?_;go_wp2_with fail
     go_roundw
     case rel=>exact⟨k+1,by omega,rfl,HT.out,HBW.out⟩
     case measure=>simp only[intOf,Int.toNat_natCast]; omega
    ·have e1:decide (r=x)=false:=by simp[hm]
     rw[e1]at heq;have HT:=ab (show decide (rs=ss)=false by
      rw[decide_eq_false_iff_not];intro e;have h1:=HR.out;rw[e,HX.out]at h1;exact hm (Option.some.inj h1).symm)
     clear e1 hm;go_wp2_with fail;refine ax [some 9] (by kernel_rfl) (by kernel_rfl) (by kernel_rfl) ?_;simp only[bp,List.take_succ_cons,List.take_zero];rw[<-hW];clear hW
     repeat (first | (refine aB rfl ?_; simp only[Act.put,aC,aD,aE]) | (refine aI rfl (fun K hK=> ?_); go_simp; refine hK _ ?_; clear hK K))
     refine aH ?_;go_wp2_with fail;go_ret;exact⟨aw HT.out.symm,HBW.out⟩
   ·obtain rfl:k=rs.length:=by omega
    have HT:=ab (show decide (rs=ss)=true by
     have:=HN.out;rw[List.take_of_length_le (Nat.le_refl _),List.take_of_length_le (by rw[HL.out]; exact Nat.le_refl _)]at this;simp[this])
    go_wp2_with fail;go_ret;exact⟨aw HT.out.symm,HB.out⟩
 ·have HT:=ab (show decide (rs=ss)=false by rw[decide_eq_false_iff_not]; intro e; exact hl (by rw[e]));have e1:((rs.length:Int) != (ss.length:Int))=true:=by simp; omega
  clear hl
  go_enter Tryz.func24,Tryz.ntmps24
  go_wp2_with fail;go_ret;exact⟨aw HT.out.symm,Below.refl _ _⟩
def sW (l:List Nat):Nat:=l.foldl (· + ·) 0
theorem xy (l:List Nat) (n:Nat):sW (l++[n])=sW l+n:=by unfold sW; rw[List.foldl_append]; rfl
theorem AL {l:List Nat} {B:Nat} (h: ∀n∈l,n<=B):sW l<=l.length*B:=by
 have key: ∀(l:List Nat) (a:Nat),(∀n∈l,n<=B)->l.foldl (· + ·) a<=a+l.length*B:=by
  intro l
  induction l with
  | nil=>intro a _; simp
  | cons x l ih=>
   intro a h;rw[List.foldl_cons,List.length_cons];have h1:=ih (a+x) fun n hn=>h n (by simp[hn])
   have h2:=h x (by simp);rw[Nat.add_mul];omega
 have:=key l 0 h;unfold sW;omega
def zo (x:cJ):Nat:=sW ((x.files.take 20).map fun f=>f.parts.length)
def kw (x:cJ):Bool:=decide (x.files.length<=16) && decide (zo x<=60)
theorem pM (S:Nat->Prop) (x:cJ) (fv:Value) (w:World) (hx:aO S w fv x.files) (hw: ∀f∈x.files,f.parts.length<=1125899906842624):Calls Tryz.prog 10 #[cG fv x.tm] w fun e w'=>e= .returned (.bool (kw x))/\Below w.heap.size w w':=by
 obtain⟨a,cap,rfl,hc,hm,-⟩:=aR.shape hx dj.len;unfold maxLen at hm;have HX:=ab hx;have HWT:=ab hw;clear hx hw;obtain⟨n,hn⟩: ∃n,n=x.files.length:=⟨_,rfl⟩;rw[<-hn]at hc HX ⊢;have HN:=ab hn;clear hn;unfold cG
 go_enter Tryz.func10,Tryz.ntmps10
 go_upto_region 1 with fail
 obtain⟨W,hW⟩: ∃W,W=w.alloc (.cells #[.int .i64 x.tm, .slice a n cap] 24):=⟨_,rfl⟩;rw[<-hW];have HBW:=ab (show Below w.heap.size w W by rw[hW]; exact(Below.refl _ _).alloc (Nat.le_refl _) _);have HBX:=ab (show W.heap[w.heap.size]? =some (.cells #[.int .i64 x.tm, .slice a n cap] 24 (0,0)) by rw[hW]; exact heap_alloc_new w _);have HV:=ab (show aO S W (.slice a n cap) x.files from aO.below HX.out HBW.out)
 clear hW;have k1:=ai (k:=1) HBX.out;simp only[List.getElem?_toArray,bN]at k1;go_wp2_with fail
 go_loopw [3,4] (fun s i wr=> ∃k:Nat,k<=n/\k<=20/\i= .int .i64 k/\s= .int .i64 ((sW ((x.files.take k).map fun f=>f.parts.length):Nat):Int)/\wr=W) (fun _ i _=>20-(intOf i).toNat)
 case atStart=>exact⟨0,Nat.zero_le _,by omega,rfl,rfl,rfl⟩
 case round=>
  obtain⟨k,hk,hk2,rfl,rfl,rfl⟩:=hrel;obtain⟨m,hm2⟩: ∃m,m=sW ((x.files.take k).map fun f=>f.parts.length):=⟨_,rfl⟩;have HM:=ab hm2;have hmb:m<=k*1125899906842624:=by
   rw[hm2];refine Nat.le_trans (AL (B:=1125899906842624) (fun y hy=> ?_)) ?_
   ·obtain⟨f,hf,rfl⟩:=List.mem_map.1 hy;exact HWT.out f (List.take_subset _ _ hf)
   ·rw[List.length_map];exact Nat.mul_le_mul_right _ (List.length_take_le _ _)
  rw[<-hm2];clear hm2
  by_cases hlt:k<n
  ·by_cases h20:k<20
   ·obtain⟨f,hf⟩: ∃f,x.files[k]? =some f:=⟨_,List.getElem?_eq_getElem (show k<x.files.length by rw[<-HN.out]; exact hlt)⟩;obtain⟨b,o,pa,pc,rfl,-,-,-,-,hcl⟩:=cj HV.out (Below.refl _ _) hf;have q6:=hcl 6 (by omega);simp only[bO,bN]at q6;have hpl:=HWT.out f (List.mem_of_getElem? hf);have HF:=ab hf;obtain⟨p,hp⟩: ∃p,p=f.parts.length:=⟨_,rfl⟩;rw[<-hp]at q6 hpl
    have HP:=ab hp;clear hf hcl hp;have hadd:IntKind.i64.wrap ((m:Int)+(p:Int))=((m+p:Nat):Int):=by rw[IntKind.wrap_i64]; omega
    go_wp2_with fail
    go_roundw
    case rel=>
     refine⟨k+1,by omega,by omega,rfl, ?_,trivial⟩;rw[aX HF.out,List.map_append,List.map_singleton,xy,<-HM.out,<-HP.out]
     first | rfl | (rw[hadd])
    case measure=>simp only[intOf,Int.toNat_natCast]; omega
   ·have hk20:k=20:=by omega
    subst hk20;have HR:=ab (show kw x=false by
     unfold kw;rw[show decide (x.files.length<=16)=false by rw[decide_eq_false_iff_not,<-HN.out]; omega]; rfl)
    have hn16: ¬(n:Int)<=16:=by omega
    go_wp2_with fail;go_ret;exact⟨aw (by rw[HR.out]),HBW.out⟩
  ·have hkn:k=n:=by omega
   subst hkn;have htk:x.files.take k=x.files.take 20:=by rw[List.take_of_length_le (by rw[<-HN.out]; exact Nat.le_refl _),List.take_of_length_le (by rw[<-HN.out]; exact hk2)]
   have HR:=ab (show kw x=(decide (k<=16) && decide (m<=60)) by
    unfold kw zo;rw[<-HN.out,<-htk,<-HM.out])
   by_cases h16:k<=16
   ·have h16':(k:Int)<=16:=by omega
    go_wp2_with fail;go_ret;exact⟨aw (by rw[HR.out]; simp[h16]; omega),HBW.out⟩
   ·have h16': ¬(k:Int)<=16:=by omega
    go_wp2_with fail;go_ret;exact⟨aw (by rw[HR.out]; simp[h16]),HBW.out⟩
def gq (w:World) (v:Value) (L:List (List UInt8)):Prop:= ∃ys:List Value,aN (fun _=>True) w 1 v L.length ys/\ ∀(k:Nat) y pl,ys[k]? =some y->L[k]? =some pl->bA (fun _=>True) w y pl
theorem gq.below {w w':World} {v:Value} {L:List (List UInt8)} (h:gq w v L) (hb:Below w.heap.size w w'):gq w' v L:=by
 obtain⟨ys,h1,h2⟩:=h;exact⟨ys,aN.below h1 (by omega) hb,fun k y pl hy hp=>aN.below (h2 k y pl hy hp) (by omega) hb⟩
theorem uj {B:Nat} {v:Value} {L:List (List UInt8)} {w:World} (h:cK B v L w):gq w v L:=by
 obtain⟨ys,h1,h2,h3⟩:=h;have hl:ys.length=L.length:=by rw[<-h1,List.length_map]
 refine⟨ys.map Prod.fst, ?_,fun k y pl hy hp=> ?_⟩
 ·rw[<-hl];exact(bm h2).weak (fun _ _=>trivial)
 ·rw[List.getElem?_map,Option.map_eq_some_iff]at hy;obtain⟨z,hz,rfl⟩:=hy;rw[<-h1,List.getElem?_map,hz]at hp
  cases hp
  exact(bm (h3 z (List.mem_of_getElem? hz))).weak (fun _ _=>trivial)
theorem yd {w:World} {a:Option Addr} {n cap:Nat} {L:List (List UInt8)} (h:gq w (.slice a n cap) L) {k:Nat} {pl:List UInt8} (hk:L[k]? =some pl):
  ∃b o ya yc,a=some ⟨b,o,none⟩/\w.cell? ⟨b,o+k,none⟩=some (.slice ya pl.length yc)/\bA (fun _=>True) w (.slice ya pl.length yc) pl:=by
 obtain⟨ys,⟨hl,a',cap',hv,_,_,h0⟩,h2⟩:=h
 cases hv
 have hlt:=(List.getElem?_eq_some_iff.1 hk).1
 rcases h0 with h0 | ⟨b,o,rfl,_,hc⟩
 ·omega
 ·obtain⟨y,hy⟩: ∃y,ys[k]? =some y:=⟨_,List.getElem?_eq_getElem (show k<ys.length by omega)⟩;have h3:=h2 k y pl hy hk;obtain⟨_,ya,yc,rfl,_,_,_⟩:=id h3;exact⟨b,o,ya,yc,rfl,hc k _ hy,h3⟩
theorem uv (v u:Value) (L M:List (List UInt8)) (w:World) (hv:gq w v L) (hu:gq w u M):
  Calls Tryz.prog 32 #[v,u] w fun e w'=>e= .returned (.bool (decide (L=M)))/\Below w.heap.size w w':=by
 obtain⟨_,⟨_,a,cap,rfl,hc,hm,_⟩,_⟩:=id hv;obtain⟨_,⟨_,a2,cap2,rfl,hc2,hm2,_⟩,_⟩:=id hu;unfold maxLen at hm hm2;have HV:=ab hv;have HU:=ab hu;clear hv hu
 by_cases hl:L.length=M.length
 ·have HL:=ab hl;have hl2:M.length=L.length:=hl.symm;rw[hl2]at HU hc2 ⊢;clear hl hl2
  go_enter Tryz.func32,Tryz.ntmps32
  go_wp2_with fail
  go_loopw [5] (fun i wr=> ∃k:Nat,k<=L.length/\i= .int .i64 k/\L.take k=M.take k/\Below w.heap.size w wr) (fun i _=>L.length-(intOf i).toNat)
  case atStart=>exact⟨0,Nat.zero_le _,rfl,by simp,Below.refl _ _⟩
  case round=>
   obtain⟨k,hk,rfl,hn,hb⟩:=hrel;have HN:=ab hn;have HB:=ab hb;clear hn hb
   by_cases hlt:k<L.length
   ·obtain⟨r,hr⟩: ∃r,L[k]? =some r:=⟨L[k],by simp[hlt]⟩;obtain⟨x,hx⟩: ∃x,M[k]? =some x:=⟨M[k]'(by have:=HL.out; omega),by simp⟩;have HR:=ab hr;have HX:=ab hx;obtain⟨W,hW⟩: ∃W:World,W=wr.drew:=⟨_,rfl⟩;have HBW:=ab (show Below w.heap.size w W by rw[hW]; exact HB.out.drew);obtain⟨b,o,ya,yc,rfl,q0,hy⟩:=yd (HV.out.below HBW.out) hr;obtain⟨b2,o2,za,zc,rfl,p0,hy2⟩:=yd (by have:=HU.out.below HBW.out; rw[HL.out]at this; exact this) hx
    have hc1:=nh (bs:=r) hy;have hc2:=nh (bs:=x) hy2;clear hr hx hy hy2
    by_cases hm:r=x
    ·have HT:=ab (show L.take (k+1)=M.take (k+1) by rw[aX HR.out,aX HX.out,HN.out,hm]);subst hm;go_wp2_with fail;refine ax [some 11] (by kernel_rfl) (by kernel_rfl) (by kernel_rfl) ?_;simp only[bp,List.take_succ_cons,List.take_zero];rw[<-hW];clear hW
     repeat (first | (refine aB rfl ?_; simp only[Act.put,aC,aD,aE]) | (refine aI rfl (fun K hK=> ?_); go_simp; refine hK _ ?_; clear hK K))
     refine aH ?_;go_wp2_with fail
     all_goals exact⟨⟨k+1,by omega,rfl,HT.out,HBW.out⟩,by simp only[intOf,Int.toNat_natCast]; omega⟩
    ·have HT:=ab (show decide (L=M)=false by
      rw[decide_eq_false_iff_not];intro e;have h1:=HR.out;rw[e,HX.out]at h1;exact hm (Option.some.inj h1).symm)
     have hm4:(r == x)=false:=by simpa using hm
     have hm3: ¬(⟨r.toArray⟩:ByteArray).toList=(⟨x.toArray⟩:ByteArray).toList:=fun h=>hm (by rw[aV,aV,kI,kI]at h; exact h)
     go_wp2_with fail;refine ax [some 11] (by kernel_rfl) (by kernel_rfl) (by kernel_rfl) ?_;simp only[bp,List.take_succ_cons,List.take_zero];rw[<-hW];clear hW
     repeat (first | (refine aB rfl ?_; simp only[Act.put,aC,aD,aE]) | (refine aI rfl (fun K hK=> ?_); go_simp; refine hK _ ?_; clear hK K))
     refine aH ?_;go_wp2_with fail;go_ret;exact⟨aw HT.out.symm,HBW.out⟩
   ·obtain rfl:k=L.length:=by omega
    have HT:=ab (show decide (L=M)=true by
     have:=HN.out;rw[List.take_of_length_le (Nat.le_refl _),List.take_of_length_le (by rw[HL.out]; exact Nat.le_refl _)]at this;simp[this])
    go_wp2_with fail;go_ret;exact⟨aw HT.out.symm,HB.out⟩
 ·have HT:=ab (show decide (L=M)=false by rw[decide_eq_false_iff_not]; intro e; exact hl (by rw[e]));have e1:((L.length:Int) != (M.length:Int))=true:=by simp; omega
  clear hl
  go_enter Tryz.func32,Tryz.ntmps32
  go_wp2_with fail;go_ret;exact⟨aw HT.out.symm,Below.refl _ _⟩
end Go.Proofs.YtnjkpcalgoefhaaGreatDoor
