/- Texts of this proof, one after the other: RfE, RfF, RcT, RfG, RefK, ScnA, ScnX, ScnY, LawVal, Frame, OpI, FrameU, OpU. -/
import Derived.Test.YtnjkpcalgoefhaaGreatDoorCValidE
set_option maxRecDepth 100000
set_option maxHeartbeats 8000000
namespace Go.Proofs.YtnjkpcalgoefhaaGreatDoor
open Go.RowKit Go.Maps
theorem kC (S:Nat->Prop) (L:List bg) (v:Value) (p:ByteArray) (x:Int) (w:World) (hv:bG S w v L) (hx:dm L p 0=x):
  Calls Tryz.prog 104 #[v, .string p] w fun e w'=>e= .returned (.int .i64 x)/\Below w.heap.size w w':=by
 rw[<-hx]; exact sQ S L v p w hv
theorem lC (L:List bg) (p:ByteArray):ff L (bl p)=if bl p=[]then 0 else match dy L p with
 | none=>4
 | some e=>if e.kind=2 then 0 else 13:=by
 unfold ff;rw[mF]
 cases dy L p<;> rfl
theorem vg (S:Nat->Prop) (L:List bg) (v:Value) (p:ByteArray) (w:World) (hv:bG S w v L):
  Calls Tryz.prog 68 #[v, .string p] w fun e w'=>e= .returned (.int .i64 (ff L (bl p)))/\Below w.heap.size w w':=by
 have HV:=aa hv
 by_cases h0:bl p=[]
 ·have e1:p.toList.isEmpty=true:=by rw[fR,decide_eq_true h0]
  have HR:=aa (show ff L (bl p)=0 by rw[lC,if_pos h0]);clear h0 hv
  go_enter Tryz.func68,Tryz.ntmps68
  go_wp2_with fail;go_ret;exact⟨aZ HR.out.symm,Below.refl _ _⟩
 ·have e1:p.toList.isEmpty=false:=by rw[fR,decide_eq_false h0]
  rcases kV (p:=p) L 0 with⟨h1,h2⟩ | ⟨j,f,h1,h2,h3⟩
  ·have HR:=aa (show ff L (bl p)=4 by rw[lC,if_neg h0,h1]);have HI:=aa h2;clear h0 h1 h2 hv
   go_enter Tryz.func68,Tryz.ntmps68
   go_wp2_with (go_at_call 104; refine(kC S L v p (-1) _ HV.out HI.out).mono ?_; rintro e w1 ⟨rfl,hb1⟩; have HB1:=aa hb1; clear hb1);go_ret;exact⟨aZ HR.out.symm,HB1.out⟩
  ·have HI:=aa (show dm L p 0=(j:Int) by rw[h3]; simp);obtain⟨a,cap,rfl,hc,hm,-⟩:=aP.shape hv jb.len;have hjl:j<L.length:=(List.getElem?_eq_some_iff.1 h2).1;obtain⟨n,hn⟩: ∃n,n=L.length:=⟨_,rfl⟩;rw[<-hn]at HV hc hjl ⊢;obtain⟨b,o,dv,rfl,-,hb,-,-,-,q0,q1,q2,q3,q4,q5⟩:=gB HV.out h2;unfold maxLen at hm
   by_cases hk:f.kind=2
   ·have HR:=aa (show ff L (bl p)=0 by rw[lC,if_neg h0,h1]; simp only[if_pos hk]);have e2:(f.kind != 2)=false:=by simp[hk]
    clear h0 h1 h2 h3 hv hk hn q0 q2 q3 q4 q5
    go_enter Tryz.func68,Tryz.ntmps68
    go_wp2_with (go_at_call 104; refine(kC S L _ p j _ HV.out HI.out).mono ?_; rintro e w1 ⟨rfl,hb1⟩; have q9:=(hb1.cell (aB q1)).trans q1; have HB1:=aa hb1; clear hb1);go_ret;exact⟨aZ HR.out.symm,HB1.out⟩
   ·have HR:=aa (show ff L (bl p)=13 by rw[lC,if_neg h0,h1]; simp only[if_neg hk]);have e2:(f.kind != 2)=true:=by simp[hk]
    clear h0 h1 h2 h3 hv hk hn q0 q2 q3 q4 q5
    go_enter Tryz.func68,Tryz.ntmps68
    go_wp2_with (go_at_call 104; refine(kC S L _ p j _ HV.out HI.out).mono ?_; rintro e w1 ⟨rfl,hb1⟩; have q9:=(hb1.cell (aB q1)).trans q1; have HB1:=aa hb1; clear hb1);go_ret;exact⟨aZ HR.out.symm,HB1.out⟩
theorem bQ (s:ByteArray) (b:Bool) (w:World) (hs:s.size<=16777216) (h:bu (bl s)=b):Calls Tryz.prog 103 #[.string s] w fun e w'=>e= .returned (.bool b)/\Below w.heap.size w w':=by
 rw[<-h]; exact re s w hs
theorem mG {l:List UInt8} :l.contains 0=false<-> ∀k:Nat,∀b,l[k]? =some b->b≠0:=by
 rw[Bool.eq_false_iff,ne_eq,List.contains_iff_mem,List.mem_iff_getElem?]
 constructor
 ·intro h k b hb e; subst e; exact h ⟨k,hb⟩
 ·rintro h ⟨k,hk⟩; exact h k 0 hk rfl
theorem rB {en:bg} (h:(en.kind=1\/en.kind=2\/en.kind=3)/\en.data.length<=1048576/\(en.kind=1\/en.data.length=0)) (hz:(bl en.link).contains 0=false):dL en=((decide (en.kind=3) == decide (en.link.size≠0)) && decide (en.link.size<=512)):=by
 obtain⟨h1,h2,h3⟩:=h;unfold dL iI;rw[hz,<-am]
 rcases h1 with h1 | h1 | h1
 ·rw[if_pos h1,decide_eq_true h2,h1]
  by_cases hs:en.link.size=0
  ·simp[hs]
  ·simp[hs]
 ·have h4:en.data.length=0:=h3.resolve_left (by omega);rw[if_neg (by omega),if_pos h1,decide_eq_true h4,h1]
  by_cases hs:en.link.size=0
  ·simp[hs]
  ·simp[hs]
 ·have h4:en.data.length=0:=h3.resolve_left (by omega);rw[if_neg (by omega),if_neg (by omega),if_pos h1,decide_eq_true h4,h1]
  by_cases hs:en.link.size=0
  ·simp[hs]
  ·rw[decide_eq_true (by omega:1<=en.link.size)];simp[hs]
theorem pF (S:Nat->Prop) (en:bg) (v:Value) (w:World) (hd:bF S w v en.data) (hok:fO en) (hps:en.path.size<=16777216):Calls Tryz.prog 67 #[jd v en] w fun e w'=>e= .returned (.bool (bR en))/\Below w.heap.size w w':=by
 obtain⟨a,cap,rfl,hc,hm⟩:=hd.slice;unfold maxLen at hm;have HPS:=aa hps;have hlk:=hok.lnk;unfold maxLen at hlk;clear hok;unfold jd
 cases hv:bu (bl en.path)
 ·have HV:=aa hv;have HF:=aa (show bR en=false by unfold bR; rw[hv]; rfl);clear hv
  go_enter Tryz.func67,Tryz.ntmps67
  go_wp2_with fail;obtain⟨W,hW⟩: ∃W,W=w.alloc (.cells #[.string en.path, .int .i64 en.kind, .int .i64 en.mode, .int .i64 en.time, .slice a en.data.length cap, .string en.link] 30):=⟨_,rfl⟩;rw[<-hW];have HBW:=aa (show Below w.heap.size w W by rw[hW]; exact(Below.refl _ _).alloc (Nat.le_refl _) _);have HBX:=aa (show W.heap[w.heap.size]? =some (.cells #[.string en.path, .int .i64 en.kind, .int .i64 en.mode, .int .i64 en.time, .slice a en.data.length cap, .string en.link] 30 (0,0)) by rw[hW]; exact dA w _)
  clear hW;refine(bQ en.path false _ HPS.out HV.out).mono ?_;rintro e w1 ⟨rfl,hb1⟩;have HB1:=aa (af HBW.out hb1);clear hb1;go_wp2_with fail;go_ret;exact⟨aj (by rw[HF.out]),HB1.out⟩
 have HV:=aa hv
 by_cases h1:en.mode<0
 ·have e1:decide (en.mode<0)=true:=by simp[h1]
  have HF:=aa (show bR en=false by unfold bR gK; rw[decide_eq_false (by omega: ¬0<=en.mode)]; simp);clear hv
  go_enter Tryz.func67,Tryz.ntmps67
  go_wp2_with fail;obtain⟨W,hW⟩: ∃W,W=w.alloc (.cells #[.string en.path, .int .i64 en.kind, .int .i64 en.mode, .int .i64 en.time, .slice a en.data.length cap, .string en.link] 30):=⟨_,rfl⟩;rw[<-hW];have HBW:=aa (show Below w.heap.size w W by rw[hW]; exact(Below.refl _ _).alloc (Nat.le_refl _) _);have HBX:=aa (show W.heap[w.heap.size]? =some (.cells #[.string en.path, .int .i64 en.kind, .int .i64 en.mode, .int .i64 en.time, .slice a en.data.length cap, .string en.link] 30 (0,0)) by rw[hW]; exact dA w _)
  clear hW;refine(bQ en.path true _ HPS.out HV.out).mono ?_;rintro e w1 ⟨rfl,hb1⟩;have HB1:=aa (af HBW.out hb1);have HX1:=aa ((hb1.block w.heap.size (ek HBX.out)).trans HBX.out);clear hb1;have c0:=ah (k:=0) HX1.out;have c1:=ah (k:=1) HX1.out;have c2:=ah (k:=2) HX1.out;have c3:=ah (k:=3) HX1.out;have c4:=ah (k:=4) HX1.out;have c5:=ah (k:=5) HX1.out
  simp only[fT]at c0 c1 c2 c3 c4 c5;go_wp2_with fail;go_ret;exact⟨aj (by rw[HF.out]),HB1.out⟩
 have e1:decide (en.mode<0)=false:=by simp[h1]
 by_cases h2:511<en.mode
 ·have e2:decide (511<en.mode)=true:=by simp[h2]
  have HF:=aa (show bR en=false by unfold bR gK; rw[decide_eq_false (by omega: ¬en.mode<=511)]; simp);clear hv
  go_enter Tryz.func67,Tryz.ntmps67
  go_wp2_with fail;obtain⟨W,hW⟩: ∃W,W=w.alloc (.cells #[.string en.path, .int .i64 en.kind, .int .i64 en.mode, .int .i64 en.time, .slice a en.data.length cap, .string en.link] 30):=⟨_,rfl⟩;rw[<-hW];have HBW:=aa (show Below w.heap.size w W by rw[hW]; exact(Below.refl _ _).alloc (Nat.le_refl _) _);have HBX:=aa (show W.heap[w.heap.size]? =some (.cells #[.string en.path, .int .i64 en.kind, .int .i64 en.mode, .int .i64 en.time, .slice a en.data.length cap, .string en.link] 30 (0,0)) by rw[hW]; exact dA w _)
  clear hW;refine(bQ en.path true _ HPS.out HV.out).mono ?_;rintro e w1 ⟨rfl,hb1⟩;have HB1:=aa (af HBW.out hb1);have HX1:=aa ((hb1.block w.heap.size (ek HBX.out)).trans HBX.out);clear hb1;have c0:=ah (k:=0) HX1.out;have c1:=ah (k:=1) HX1.out;have c2:=ah (k:=2) HX1.out;have c3:=ah (k:=3) HX1.out;have c4:=ah (k:=4) HX1.out;have c5:=ah (k:=5) HX1.out
  simp only[fT]at c0 c1 c2 c3 c4 c5;go_wp2_with fail;go_ret;exact⟨aj (by rw[HF.out]),HB1.out⟩
 have e2:decide (511<en.mode)=false:=by simp[h2]
 by_cases h3:en.time<0
 ·have e3:decide (en.time<0)=true:=by simp[h3]
  have HF:=aa (show bR en=false by unfold bR gK; rw[decide_eq_false (by omega: ¬0<=en.time)]; simp);clear hv
  go_enter Tryz.func67,Tryz.ntmps67
  go_wp2_with fail;obtain⟨W,hW⟩: ∃W,W=w.alloc (.cells #[.string en.path, .int .i64 en.kind, .int .i64 en.mode, .int .i64 en.time, .slice a en.data.length cap, .string en.link] 30):=⟨_,rfl⟩;rw[<-hW];have HBW:=aa (show Below w.heap.size w W by rw[hW]; exact(Below.refl _ _).alloc (Nat.le_refl _) _);have HBX:=aa (show W.heap[w.heap.size]? =some (.cells #[.string en.path, .int .i64 en.kind, .int .i64 en.mode, .int .i64 en.time, .slice a en.data.length cap, .string en.link] 30 (0,0)) by rw[hW]; exact dA w _)
  clear hW;refine(bQ en.path true _ HPS.out HV.out).mono ?_;rintro e w1 ⟨rfl,hb1⟩;have HB1:=aa (af HBW.out hb1);have HX1:=aa ((hb1.block w.heap.size (ek HBX.out)).trans HBX.out);clear hb1;have c0:=ah (k:=0) HX1.out;have c1:=ah (k:=1) HX1.out;have c2:=ah (k:=2) HX1.out;have c3:=ah (k:=3) HX1.out;have c4:=ah (k:=4) HX1.out;have c5:=ah (k:=5) HX1.out
  simp only[fT]at c0 c1 c2 c3 c4 c5;go_wp2_with fail;go_ret;exact⟨aj (by rw[HF.out]),HB1.out⟩
 have e3:decide (en.time<0)=false:=by simp[h3]
 by_cases h4:en.kind<1
 ·have e4:decide (en.kind<1)=true:=by simp[h4]
  have HF:=aa (show bR en=false by unfold bR dL; rw[if_neg (by omega),if_neg (by omega),if_neg (by omega)]; simp);clear hv
  go_enter Tryz.func67,Tryz.ntmps67
  go_wp2_with fail;obtain⟨W,hW⟩: ∃W,W=w.alloc (.cells #[.string en.path, .int .i64 en.kind, .int .i64 en.mode, .int .i64 en.time, .slice a en.data.length cap, .string en.link] 30):=⟨_,rfl⟩;rw[<-hW];have HBW:=aa (show Below w.heap.size w W by rw[hW]; exact(Below.refl _ _).alloc (Nat.le_refl _) _);have HBX:=aa (show W.heap[w.heap.size]? =some (.cells #[.string en.path, .int .i64 en.kind, .int .i64 en.mode, .int .i64 en.time, .slice a en.data.length cap, .string en.link] 30 (0,0)) by rw[hW]; exact dA w _)
  clear hW;refine(bQ en.path true _ HPS.out HV.out).mono ?_;rintro e w1 ⟨rfl,hb1⟩;have HB1:=aa (af HBW.out hb1);have HX1:=aa ((hb1.block w.heap.size (ek HBX.out)).trans HBX.out);clear hb1;have c0:=ah (k:=0) HX1.out;have c1:=ah (k:=1) HX1.out;have c2:=ah (k:=2) HX1.out;have c3:=ah (k:=3) HX1.out;have c4:=ah (k:=4) HX1.out;have c5:=ah (k:=5) HX1.out
  simp only[fT]at c0 c1 c2 c3 c4 c5;go_wp2_with fail;go_ret;exact⟨aj (by rw[HF.out]),HB1.out⟩
 have e4:decide (en.kind<1)=false:=by simp[h4]
 by_cases h5:3<en.kind
 ·have e5:decide (3<en.kind)=true:=by simp[h5]
  have HF:=aa (show bR en=false by unfold bR dL; rw[if_neg (by omega),if_neg (by omega),if_neg (by omega)]; simp);clear hv
  go_enter Tryz.func67,Tryz.ntmps67
  go_wp2_with fail;obtain⟨W,hW⟩: ∃W,W=w.alloc (.cells #[.string en.path, .int .i64 en.kind, .int .i64 en.mode, .int .i64 en.time, .slice a en.data.length cap, .string en.link] 30):=⟨_,rfl⟩;rw[<-hW];have HBW:=aa (show Below w.heap.size w W by rw[hW]; exact(Below.refl _ _).alloc (Nat.le_refl _) _);have HBX:=aa (show W.heap[w.heap.size]? =some (.cells #[.string en.path, .int .i64 en.kind, .int .i64 en.mode, .int .i64 en.time, .slice a en.data.length cap, .string en.link] 30 (0,0)) by rw[hW]; exact dA w _)
  clear hW;refine(bQ en.path true _ HPS.out HV.out).mono ?_;rintro e w1 ⟨rfl,hb1⟩;have HB1:=aa (af HBW.out hb1);have HX1:=aa ((hb1.block w.heap.size (ek HBX.out)).trans HBX.out);clear hb1;have c0:=ah (k:=0) HX1.out;have c1:=ah (k:=1) HX1.out;have c2:=ah (k:=2) HX1.out;have c3:=ah (k:=3) HX1.out;have c4:=ah (k:=4) HX1.out;have c5:=ah (k:=5) HX1.out
  simp only[fT]at c0 c1 c2 c3 c4 c5;go_wp2_with fail;go_ret;exact⟨aj (by rw[HF.out]),HB1.out⟩
 have e5:decide (3<en.kind)=false:=by simp[h5]
 have HHD:=aa (show bR en=dL en by
  unfold bR gK;rw[hv,decide_eq_true (by omega:0<=en.mode),decide_eq_true (by omega:en.mode<=511),decide_eq_true (by omega:0<=en.time)]; simp)
 by_cases h6:en.kind≠1/\0<en.data.length
 ·have e6:(en.kind != 1)=true:=by simp[h6.1]
  have e7:decide (0<en.data.length)=true:=by simp[h6.2]
  have e8:0<en.data.length:=h6.2;have HF:=aa (show bR en=false by
   rw[HHD.out]; unfold dL; rw[if_neg h6.1,decide_eq_false (by omega: ¬en.data.length=0)]; simp)
  clear hv h6
  go_enter Tryz.func67,Tryz.ntmps67
  go_wp2_with fail;obtain⟨W,hW⟩: ∃W,W=w.alloc (.cells #[.string en.path, .int .i64 en.kind, .int .i64 en.mode, .int .i64 en.time, .slice a en.data.length cap, .string en.link] 30):=⟨_,rfl⟩;rw[<-hW];have HBW:=aa (show Below w.heap.size w W by rw[hW]; exact(Below.refl _ _).alloc (Nat.le_refl _) _);have HBX:=aa (show W.heap[w.heap.size]? =some (.cells #[.string en.path, .int .i64 en.kind, .int .i64 en.mode, .int .i64 en.time, .slice a en.data.length cap, .string en.link] 30 (0,0)) by rw[hW]; exact dA w _)
  clear hW;refine(bQ en.path true _ HPS.out HV.out).mono ?_;rintro e w1 ⟨rfl,hb1⟩;have HB1:=aa (af HBW.out hb1);have HX1:=aa ((hb1.block w.heap.size (ek HBX.out)).trans HBX.out);clear hb1;have c0:=ah (k:=0) HX1.out;have c1:=ah (k:=1) HX1.out;have c2:=ah (k:=2) HX1.out;have c3:=ah (k:=3) HX1.out;have c4:=ah (k:=4) HX1.out;have c5:=ah (k:=5) HX1.out
  simp only[fT]at c0 c1 c2 c3 c4 c5;go_wp2_with fail;go_ret;exact⟨aj (by rw[HF.out]),HB1.out⟩
 by_cases h7:1048576<en.data.length
 ·have hk1:en.kind=1:=by
   by_cases hk:en.kind=1
   ·exact hk
   ·exact absurd ⟨hk,by omega⟩ h6
  have e6:(en.kind != 1)=false:=by simp[hk1]
  have e7:decide (1048576<en.data.length)=true:=by simp[h7]
  have HF:=aa (show bR en=false by
   rw[HHD.out]; unfold dL; rw[if_pos hk1,decide_eq_false (by omega: ¬en.data.length<=1048576)]; simp)
  clear hv h6 hk1
  go_enter Tryz.func67,Tryz.ntmps67
  go_wp2_with fail;obtain⟨W,hW⟩: ∃W,W=w.alloc (.cells #[.string en.path, .int .i64 en.kind, .int .i64 en.mode, .int .i64 en.time, .slice a en.data.length cap, .string en.link] 30):=⟨_,rfl⟩;rw[<-hW];have HBW:=aa (show Below w.heap.size w W by rw[hW]; exact(Below.refl _ _).alloc (Nat.le_refl _) _);have HBX:=aa (show W.heap[w.heap.size]? =some (.cells #[.string en.path, .int .i64 en.kind, .int .i64 en.mode, .int .i64 en.time, .slice a en.data.length cap, .string en.link] 30 (0,0)) by rw[hW]; exact dA w _)
  clear hW;refine(bQ en.path true _ HPS.out HV.out).mono ?_;rintro e w1 ⟨rfl,hb1⟩;have HB1:=aa (af HBW.out hb1);have HX1:=aa ((hb1.block w.heap.size (ek HBX.out)).trans HBX.out);clear hb1;have c0:=ah (k:=0) HX1.out;have c1:=ah (k:=1) HX1.out;have c2:=ah (k:=2) HX1.out;have c3:=ah (k:=3) HX1.out;have c4:=ah (k:=4) HX1.out;have c5:=ah (k:=5) HX1.out
  simp only[fT]at c0 c1 c2 c3 c4 c5;go_wp2_with fail;go_ret;exact⟨aj (by rw[HF.out]),HB1.out⟩
 have e7:decide (1048576<en.data.length)=false:=by simp; omega
 have HKD:=aa (show(en.kind=1\/en.kind=2\/en.kind=3)/\en.data.length<=1048576/\(en.kind=1\/en.data.length=0)from⟨by omega,by omega,by
  by_cases hk:en.kind=1
  ·exact .inl hk
  ·exact .inr (by rcases Nat.eq_zero_or_pos en.data.length with h | h; exact h; exact absurd ⟨hk,h⟩ h6)⟩)
 clear hv
 by_cases hk1:en.kind=1
 ·have e6:(en.kind != 1)=false:=by simp[hk1]
  clear h6 hk1
  go_enter Tryz.func67,Tryz.ntmps67
  go_wp2_with fail;obtain⟨W,hW⟩: ∃W,W=w.alloc (.cells #[.string en.path, .int .i64 en.kind, .int .i64 en.mode, .int .i64 en.time, .slice a en.data.length cap, .string en.link] 30):=⟨_,rfl⟩;rw[<-hW];have HBW:=aa (show Below w.heap.size w W by rw[hW]; exact(Below.refl _ _).alloc (Nat.le_refl _) _);have HBX:=aa (show W.heap[w.heap.size]? =some (.cells #[.string en.path, .int .i64 en.kind, .int .i64 en.mode, .int .i64 en.time, .slice a en.data.length cap, .string en.link] 30 (0,0)) by rw[hW]; exact dA w _)
  clear hW;refine(bQ en.path true _ HPS.out HV.out).mono ?_;rintro e w1 ⟨rfl,hb1⟩;have HB1:=aa (af HBW.out hb1);have HX1:=aa ((hb1.block w.heap.size (ek HBX.out)).trans HBX.out);clear hb1;have c0:=ah (k:=0) HX1.out;have c1:=ah (k:=1) HX1.out;have c2:=ah (k:=2) HX1.out;have c3:=ah (k:=3) HX1.out;have c4:=ah (k:=4) HX1.out;have c5:=ah (k:=5) HX1.out
  simp only[fT]at c0 c1 c2 c3 c4 c5;go_wp2_with fail
  go_loopw [3] (fun i wr=> ∃k:Nat,k<=en.link.size/\i= .int .i64 k/\(∀j b,j<k->(bl en.link)[j]? =some b->b≠0)/\Below w1.heap.size w1 wr) (fun i _=>en.link.size-(intOf i).toNat)
  case atStart=>exact⟨0,Nat.zero_le _,rfl,fun _ _ h=>absurd h (Nat.not_lt_zero _),Below.refl _ _⟩
  case round=>
   obtain⟨k,hk,rfl,hz,hbr⟩:=hrel;have HZ:=aa hz;have HBR:=aa hbr;have HXR:=aa ((hbr.block w.heap.size (ek HX1.out)).trans HX1.out);clear hz hbr c0 c1 c2 c3 c4 c5;have c0:=ah (k:=0) HXR.out;have c1:=ah (k:=1) HXR.out;have c2:=ah (k:=2) HXR.out;have c3:=ah (k:=3) HXR.out;have c4:=ah (k:=4) HXR.out;have c5:=ah (k:=5) HXR.out;simp only[fT]at c0 c1 c2 c3 c4 c5
   by_cases hlt:k<en.link.size
   ·have HBY:=aa (show(bl en.link)[k]? =some en.link[k] by rw[List.getElem?_eq_getElem (by rw[<-am]; exact hlt)]; rfl)
    by_cases h0:(en.link[k]'hlt).toNat=0
    ·have HF:=aa (show bR en=false by
      rw[HHD.out];unfold dL;have hne: ¬en.link.size=0:=by omega
      have hct:(bl en.link).contains 0=true:=by
       have h9:en.link[k]'hlt=0:=UInt8.toNat_inj.1 h0;have:=HBY.out;rw[h9]at this;exact List.contains_iff_mem.2 (List.mem_of_getElem? this)
      rw[decide_eq_false hne];unfold iI;rw[hct]
      simp)
     go_wp2_with fail;go_ret;exact⟨aj (by rw[HF.out]),af HB1.out HBR.out⟩
    ·have HNZ:=aa h0;go_wp2_with fail
     go_roundw
     case rel=>
      refine⟨k+1,by omega,by go_num,fun j b hj hb e=> ?_,HBR.out⟩
      by_cases hjk:j=k
      ·subst hjk;rw[HBY.out]at hb;have:=Option.some.inj hb;subst this;exact HNZ.out (by rw[e]; rfl)
      ·exact HZ.out j b (by omega) hb e
     case measure=>simp[intOf]; omega
   ·have hk2:k=en.link.size:=by omega
    have HNO:=aa (show(bl en.link).contains 0=false from mG.2 (fun j b hj e=>by
     have h1:=(List.getElem?_eq_some_iff.1 hj).1;exact HZ.out j b (by rw[hk2,am]; exact h1) hj e))
    have HVK:=aa (rB HKD.out HNO.out);have HEM:=aa (show en.link.toList.isEmpty= !decide (en.link.size≠0) by rw[fR]; by_cases h:en.link.size=0<;> simp[h,iY.1,<-iY]);obtain⟨b3,hb3⟩: ∃b,decide (en.kind=3)=b:=⟨_,rfl⟩;obtain⟨be,hbe⟩: ∃b,decide (en.link.size≠0)=b:=⟨_,rfl⟩;obtain⟨b5,hb5⟩: ∃b,decide (en.link.size<=512)=b:=⟨_,rfl⟩
    have f3:(en.kind == 3)=b3:=by rw[<-hb3]; rfl
    have fe:=HEM.out;rw[hbe]at fe;have HRS:=aa (show bR en=((b3 == be) && b5) by rw[HHD.out,HVK.out,hb3,hbe,hb5]);have HB5:=aa hb5;clear hbe hlt hk hb3 hb5
    cases b3<;> cases be<;> simp only[Bool.not_true,Bool.not_false]at fe<;> (go_wp2_with fail)<;> (go_ret)<;> exact⟨aj (by rw[HRS.out,<-HB5.out]; simp[show(((en.link.size:Nat):Int)<=512<->en.link.size<=512)from by omega]),af HB1.out HBR.out⟩
 ·have e6:(en.kind != 1)=true:=by simp[hk1]
  have e8:decide (0<en.data.length)=false:=by rw[decide_eq_false_iff_not]; exact fun h=>h6 ⟨hk1,h⟩
  clear h6 hk1
  go_enter Tryz.func67,Tryz.ntmps67
  go_wp2_with fail;obtain⟨W,hW⟩: ∃W,W=w.alloc (.cells #[.string en.path, .int .i64 en.kind, .int .i64 en.mode, .int .i64 en.time, .slice a en.data.length cap, .string en.link] 30):=⟨_,rfl⟩;rw[<-hW];have HBW:=aa (show Below w.heap.size w W by rw[hW]; exact(Below.refl _ _).alloc (Nat.le_refl _) _);have HBX:=aa (show W.heap[w.heap.size]? =some (.cells #[.string en.path, .int .i64 en.kind, .int .i64 en.mode, .int .i64 en.time, .slice a en.data.length cap, .string en.link] 30 (0,0)) by rw[hW]; exact dA w _)
  clear hW;refine(bQ en.path true _ HPS.out HV.out).mono ?_;rintro e w1 ⟨rfl,hb1⟩;have HB1:=aa (af HBW.out hb1);have HX1:=aa ((hb1.block w.heap.size (ek HBX.out)).trans HBX.out);clear hb1;have c0:=ah (k:=0) HX1.out;have c1:=ah (k:=1) HX1.out;have c2:=ah (k:=2) HX1.out;have c3:=ah (k:=3) HX1.out;have c4:=ah (k:=4) HX1.out;have c5:=ah (k:=5) HX1.out
  simp only[fT]at c0 c1 c2 c3 c4 c5;go_wp2_with fail
  go_loopw [3] (fun i wr=> ∃k:Nat,k<=en.link.size/\i= .int .i64 k/\(∀j b,j<k->(bl en.link)[j]? =some b->b≠0)/\Below w1.heap.size w1 wr) (fun i _=>en.link.size-(intOf i).toNat)
  case atStart=>exact⟨0,Nat.zero_le _,rfl,fun _ _ h=>absurd h (Nat.not_lt_zero _),Below.refl _ _⟩
  case round=>
   obtain⟨k,hk,rfl,hz,hbr⟩:=hrel;have HZ:=aa hz;have HBR:=aa hbr;have HXR:=aa ((hbr.block w.heap.size (ek HX1.out)).trans HX1.out);clear hz hbr c0 c1 c2 c3 c4 c5;have c0:=ah (k:=0) HXR.out;have c1:=ah (k:=1) HXR.out;have c2:=ah (k:=2) HXR.out;have c3:=ah (k:=3) HXR.out;have c4:=ah (k:=4) HXR.out;have c5:=ah (k:=5) HXR.out;simp only[fT]at c0 c1 c2 c3 c4 c5
   by_cases hlt:k<en.link.size
   ·have HBY:=aa (show(bl en.link)[k]? =some en.link[k] by rw[List.getElem?_eq_getElem (by rw[<-am]; exact hlt)]; rfl)
    by_cases h0:(en.link[k]'hlt).toNat=0
    ·have HF:=aa (show bR en=false by
      rw[HHD.out];unfold dL;have hne: ¬en.link.size=0:=by omega
      have hct:(bl en.link).contains 0=true:=by
       have h9:en.link[k]'hlt=0:=UInt8.toNat_inj.1 h0;have:=HBY.out;rw[h9]at this;exact List.contains_iff_mem.2 (List.mem_of_getElem? this)
      rw[decide_eq_false hne];unfold iI;rw[hct]
      simp)
     go_wp2_with fail;go_ret;exact⟨aj (by rw[HF.out]),af HB1.out HBR.out⟩
    ·have HNZ:=aa h0;go_wp2_with fail
     go_roundw
     case rel=>
      refine⟨k+1,by omega,by go_num,fun j b hj hb e=> ?_,HBR.out⟩
      by_cases hjk:j=k
      ·subst hjk;rw[HBY.out]at hb;have:=Option.some.inj hb;subst this;exact HNZ.out (by rw[e]; rfl)
      ·exact HZ.out j b (by omega) hb e
     case measure=>simp[intOf]; omega
   ·have hk2:k=en.link.size:=by omega
    have HNO:=aa (show(bl en.link).contains 0=false from mG.2 (fun j b hj e=>by
     have h1:=(List.getElem?_eq_some_iff.1 hj).1;exact HZ.out j b (by rw[hk2,am]; exact h1) hj e))
    have HVK:=aa (rB HKD.out HNO.out);have HEM:=aa (show en.link.toList.isEmpty= !decide (en.link.size≠0) by rw[fR]; by_cases h:en.link.size=0<;> simp[h,iY.1,<-iY]);obtain⟨b3,hb3⟩: ∃b,decide (en.kind=3)=b:=⟨_,rfl⟩;obtain⟨be,hbe⟩: ∃b,decide (en.link.size≠0)=b:=⟨_,rfl⟩;obtain⟨b5,hb5⟩: ∃b,decide (en.link.size<=512)=b:=⟨_,rfl⟩
    have f3:(en.kind == 3)=b3:=by rw[<-hb3]; rfl
    have fe:=HEM.out;rw[hbe]at fe;have HRS:=aa (show bR en=((b3 == be) && b5) by rw[HHD.out,HVK.out,hb3,hbe,hb5]);have HB5:=aa hb5;clear hbe hlt hk hb3 hb5
    cases b3<;> cases be<;> simp only[Bool.not_true,Bool.not_false]at fe<;> (go_wp2_with fail)<;> (go_ret)<;> exact⟨aj (by rw[HRS.out,<-HB5.out]; simp[show(((en.link.size:Nat):Int)<=512<->en.link.size<=512)from by omega]),af HB1.out HBR.out⟩
end Go.Proofs.YtnjkpcalgoefhaaGreatDoor
namespace Go.Proofs.YtnjkpcalgoefhaaGreatDoor
open Go.RowKit
theorem fH (c:Int) (w:World) (h0:0<=c) (h1:c<=255):Calls Tryz.prog 81 #[.int .u8 c] w fun e w'=>e= .returned (.int .i64 (eZ c))/\w=w':=by
 by_cases h:c=47
 ·subst h
  go_enter Tryz.func81,Tryz.ntmps81
  go_wp2
  go_ret;exact⟨rfl,rfl⟩
 ·have hr:eZ c=c:=if_neg h;have HR:=aa hr;clear hr;have h2:(c == 47)=false:=by simpa using h
  go_enter Tryz.func81,Tryz.ntmps81
  go_wp2
  go_ret;exact⟨aZ HR.out.symm,rfl⟩
theorem nK (a b:ByteArray) (w:World) (ha:a.size<=65536):
  Calls Tryz.prog 45 #[.string a, .string b] w fun e w'=>e= .returned (.int .i64 (bI (bl a) (bl b)))/\Below w.heap.size w w':=by
 go_enter Tryz.func45,Tryz.ntmps45
 go_wp2_with fail
 go_loopw [5] (fun i wr=> ∃k:Nat,k<=a.size/\k<=b.size/\i= .int .i64 k/\Below w.heap.size w wr/\bI (bl a) (bl b)=bI ((bl a).drop k) ((bl b).drop k)) (fun i _=>a.size-(intOf i).toNat)
 case atStart=>exact⟨0,Nat.zero_le _,Nat.zero_le _,rfl,Below.refl _ _,rfl⟩
 case round=>
  obtain⟨k,hk1,hk2,rfl,hbw,hc⟩:=hrel;have HC:=aa hc;have HB:=aa hbw;clear hc hbw
  by_cases hla:k<a.size
  ·by_cases hlb:k<b.size
   ·have i1:(k:Int)<(a.size:Int):=by omega
    have i2:(k:Int)<(b.size:Int):=by omega
    have hla':k<(bl a).length:=by rw[<-am]; exact hla
    have hlb':k<(bl b).length:=by rw[<-am]; exact hlb
    have hr1:=(a[k]).toNat_lt;have hr2:=(b[k]).toNat_lt;have hxa:cE (bl a)[k]=eZ (a[k].toNat:Int):=by rw[ka]; exact congrArg cE (dM a k hla).symm
    have hyb:cE (bl b)[k]=eZ (b[k].toNat:Int):=by rw[ka]; exact congrArg cE (dM b k hlb).symm
    have HXA:=aa hxa;have HYB:=aa hyb;clear hxa hyb
    rcases Int.lt_trichotomy (eZ (a[k].toNat:Int)) (eZ (b[k].toNat:Int))with hxy | hxy | hxy
    ·have HXY:=aa hxy;go_wp2_with fail
     go_quiet ((go_at_call 81; refine dE (fH _ _ (by omega) (by omega))))
     go_wp2_with fail;go_ret;refine⟨aZ ?_,bZ HB.out _⟩;have hne:(bl a)[k]≠(bl b)[k]:=by intro e; have:=HXY.out; rw[<-HXA.out,<-HYB.out,e]at this; omega
     rw[HC.out,lZ hla' hlb' hne,HXA.out,HYB.out,Lib.compareInt,if_pos HXY.out]
    ·have e1: ¬eZ (a[k].toNat:Int)<eZ (b[k].toNat:Int):=by omega
     have e2: ¬eZ (b[k].toNat:Int)<eZ (a[k].toNat:Int):=by omega
     have HXY:=aa hxy;clear hxy;go_wp2_with fail
     go_quiet ((go_at_call 81; refine dE (fH _ _ (by omega) (by omega))))
     go_wp2_with fail;have hW: ∃W,W=wr.drewN nq/\Below w.heap.size w W:=⟨_,rfl,bZ HB.out nq⟩;obtain⟨W,hWe,hWb⟩:=hW;rw[<-hWe];have HB2:=aa hWb;clear hWe hWb HB
     go_quiet ((go_at_call 81; refine dE (fH _ _ (by omega) (by omega))))
     go_wp2_with fail
     go_roundw
     case rel=>
      refine⟨k+1,by omega,by omega,by go_num,bZ HB2.out _, ?_⟩;rw[HC.out];exact pZ hla' hlb' (fm (HXA.out.trans (HXY.out.trans HYB.out.symm)))
     case measure=>simp[intOf]; omega
    ·have e1: ¬eZ (a[k].toNat:Int)<eZ (b[k].toNat:Int):=by omega
     have HXY:=aa hxy;go_wp2_with fail
     go_quiet ((go_at_call 81; refine dE (fH _ _ (by omega) (by omega))))
     go_wp2_with fail;have hW: ∃W,W=wr.drewN nq/\Below w.heap.size w W:=⟨_,rfl,bZ HB.out nq⟩;obtain⟨W,hWe,hWb⟩:=hW;rw[<-hWe];have HB2:=aa hWb;clear hWe hWb HB
     go_quiet ((go_at_call 81; refine dE (fH _ _ (by omega) (by omega))))
     go_wp2_with fail;go_ret;refine⟨aZ ?_,bZ HB2.out _⟩;have hne:(bl a)[k]≠(bl b)[k]:=by intro e; have:=HXY.out; rw[<-HXA.out,<-HYB.out,e]at this; omega
     rw[HC.out,lZ hla' hlb' hne,HXA.out,HYB.out,Lib.compareInt,if_neg (by have:=HXY.out; omega),if_pos HXY.out]
   ·obtain rfl:k=b.size:=by omega
    have i2:decide ((b.size:Int)<(b.size:Int))=false:=by simp
    have i3:(b.size:Int)<(a.size:Int):=by omega
    go_wp2_with fail;go_ret;refine⟨aZ ?_,HB.out⟩;rw[HC.out,lB (by rw[<-am]; omega) (by rw[<-am]; exact Nat.le_refl _) (.inr (by rw[<-am])),<-am,<-am,Lib.compareInt,if_neg (by omega),if_pos (by omega)]
  ·obtain rfl:k=a.size:=by omega
   rcases Nat.lt_or_ge a.size b.size with hlb | hlb
   ·have i3:(a.size:Int)<(b.size:Int):=by omega
    go_wp2_with fail;go_ret;refine⟨aZ ?_,HB.out⟩;rw[HC.out,lB (by rw[<-am]; exact Nat.le_refl _) (by rw[<-am]; omega) (.inl (by rw[<-am])),<-am,<-am,Lib.compareInt,if_pos (by omega)]
   ·obtain heq:a.size=b.size:=by omega
    have HEQ:=aa heq;have i3: ¬(a.size:Int)<(b.size:Int):=by omega
    have i4: ¬(b.size:Int)<(a.size:Int):=by omega
    clear heq;go_wp2_with fail;go_ret;refine⟨aZ ?_,HB.out⟩;rw[HC.out,lB (by rw[<-am]; exact Nat.le_refl _) (by rw[<-am]; omega) (.inl (by rw[<-am])),<-am,<-am,Lib.compareInt,if_neg (by omega),if_neg (by omega)]
open Go.RowKit Go.Maps
theorem aY.take {α:Type} {R:List Value->α->Prop} {sz:Nat} (hs: ∀c x,R c x->c.length=sz): ∀ {xs:List α} {cells:List Value} (k:Nat),aY R cells xs->k<=xs.length->aY R (cells.take (k*sz)) (xs.take k)
 | _,_,0,_,_=>by simp[aY]
 | [],_,k+1,_,h=>by simp at h
 | x::xs,cells,k+1,⟨c,rest,hc,hx,hr⟩,h=>by
  subst hc;have hl:=hs c x hx;refine⟨c,rest.take (k*sz), ?_,hx,aY.take hs k hr (by simpa using h)⟩;rw[List.take_append,hl,List.take_of_length_le (by rw[hl,Nat.succ_mul]; omega),Nat.succ_mul]
  congr 2; omega
theorem aP.takeN {α:Type} {S:Nat->Prop} {w:World} {sz:Nat} {R:List Value->α->Prop} {a:Option Addr} {n cap:Nat} {xs:List α} (hs: ∀c x,R c x->c.length=sz) (h:aP S w sz R (.slice a n cap) xs) {k:Nat} (hk:k<=xs.length):aP S w sz R (.slice a k cap) (xs.take k):=by
 obtain⟨cells,⟨hl,a',cap',hv,hn,hm,h0⟩,hr⟩:=h
 cases hv
 have hlt:(xs.take k).length=k:=by rw[List.length_take]; omega
 refine⟨cells.take (k*sz),⟨?_,a,cap,by rw[hlt],by omega,hm, ?_⟩,aY.take hs k hr hk⟩
 ·rw[List.length_take,hl,hlt];exact Nat.min_eq_left (Nat.mul_le_mul_right _ hk)
 ·rcases h0 with h0 | ⟨b,o,ha,hb,hc⟩
  ·exact .inl (by omega)
  ·refine .inr ⟨b,o,ha,hb,fun j u hj=>hc j u ?_⟩;rw[List.getElem?_take]at hj
   split at hj
   ·exact hj
   ·cases hj
theorem fV (S:Nat->Prop) (en:bg) (v:Value) (b:Bool) (w:World) (hd:bF S w v en.data) (hok:fO en) (hps:en.path.size<=16777216) (h:bR en=b):Calls Tryz.prog 67 #[jd v en] w fun e w'=>e= .returned (.bool b)/\Below w.heap.size w w':=by
 rw[<-h]; exact pF S en v w hd hok hps
theorem lg (a b:ByteArray) (o:Int) (w:World) (ha:a.size<=65536) (h:bI (bl a) (bl b)=o):Calls Tryz.prog 45 #[.string a, .string b] w fun e w'=>e= .returned (.int .i64 o)/\Below w.heap.size w w':=by
 rw[<-h]; exact nK a b w ha
theorem lh (s q:ByteArray) (w:World) (hs:s.size<=65000) (hq:q=⟨(aK (bl s)).toArray⟩):Calls Tryz.prog 69 #[.string s] w fun e w'=>e= .returned (.string q)/\Below w.heap.size w w':=by
 rw[hq]; exact mQ s w hs
theorem qX (S:Nat->Prop) (L:List bg) (v:Value) (p:ByteArray) (x:Int) (w:World) (hv:bG S w v L) (hx:ff L (bl p)=x):Calls Tryz.prog 68 #[v, .string p] w fun e w'=>e= .returned (.int .i64 x)/\Below w.heap.size w w':=by
 rw[<-hx]; exact vg S L v p w hv
theorem oP {e:bg} (h:bR e=true):e.path.size<=65000:=by
 have:=nr (bP h);rw[am]; omega
theorem qW (S:Nat->Prop) (L:List bg) (v:Value) (w:World) (hv:bG S w v L) (hps: ∀e∈L,e.path.size<=16777216):Calls Tryz.prog 35 #[v] w fun e w'=>e= .returned (.int .i64 (bK L))/\Below w.heap.size w w':=by
 have HV:=aa hv;obtain⟨a,cap,rfl,hc,hm,-⟩:=aP.shape hv jb.len;unfold maxLen at hm;obtain⟨n,hn⟩: ∃n,n=L.length:=⟨_,rfl⟩;have HN:=aa hn;rw[<-hn]at hc HV ⊢;clear hv
 by_cases hbig:4096<n
 ·have hbi:(4096:Int)<(n:Int):=by omega
  have HC:=aa (nW (by rw[<-hn]; exact hbig));clear hbig hn
  go_enter Tryz.func35,Tryz.ntmps35
  go_wp2_with fail;go_ret;exact⟨aZ (by rw[HC.out]),Below.refl _ _⟩
 ·have hbi:(n:Int)<=(4096:Int):=by omega
  have HL4:=aa (show L.length<=4096 by omega);have HPS:=aa hps;clear hbig hn hps
  go_enter Tryz.func35,Tryz.ntmps35
  go_wp2_with fail
  go_loopw [11] (fun i wr=> ∃k:Nat,k<=n/\i= .int .i64 k/\Tr (L.take k)/\Below w.heap.size w wr) (fun i _=>n-(intOf i).toNat)
  case atStart=>exact⟨0,Nat.zero_le _,rfl,⟨List.Pairwise.nil,by simp,by simp⟩,Below.refl _ _⟩
  case round=>
   obtain⟨k,hk,rfl,htr,hbr⟩:=hrel;have HTR:=aa htr;have HBR:=aa hbr;clear htr hbr
   by_cases hlt:k<n
   ·obtain⟨e,he⟩: ∃e,L[k]? =some e:=⟨L[k]'(by rw[<-HN.out]; exact hlt),by simp⟩;obtain⟨b,o,dv,rfl,-,hb,hd,hok,-,q0,q1,q2,q3,q4,q5⟩:=gB (HV.out.below HBR.out) he;have HAT:=aa he;have HD:=aa hd;have HOK:=aa hok;have HPZ:=aa (HPS.out e (List.mem_of_getElem? he));obtain⟨a1,cap1,rfl,hd1,hd2⟩:=hd.slice;unfold maxLen at hd2;have hkc:k<=cap:=by omega
    have HKN:=aa (show k<=L.length by rw[<-HN.out]; omega);clear he hd hok
    cases hve:bR e
    ·have HVE:=aa hve;have HCA:=aa (show bC (L.take k) e=1 by unfold bC; rw[hve]; rfl);clear hve;go_wp2_with fail;refine ak [some 1,none,some 13,none,some 3] (by kernel_rfl) (by kernel_rfl) (by kernel_rfl) ?_;simp only[bb,List.take_succ_cons,List.take_zero,List.drop_succ_cons,List.drop_zero];obtain⟨W,hW⟩: ∃W:World,W=(wr.alloc (.cells #[.string e.path, .int .i64 e.kind, .int .i64 e.mode, .int .i64 e.time, .slice a1 e.data.length cap1, .string e.link] 30)).drew:=⟨_,rfl⟩
     rw[<-hW];have HWL:=aa (show Below wr.heap.size wr W by rw[hW]; exact((Below.refl _ _).alloc (Nat.le_refl _) _).drew);have HX:=aa (show W.heap[wr.heap.size]? =some (.cells #[.string e.path, .int .i64 e.kind, .int .i64 e.mode, .int .i64 e.time, .slice a1 e.data.length cap1, .string e.link] 30 (0,0)) by rw[hW]; exact dA wr _);have HBW:=aa (af HBR.out HWL.out);clear hW;have c0:=ah (k:=0) HX.out
     have c1:=ah (k:=1) HX.out;have c2:=ah (k:=2) HX.out;have c3:=ah (k:=3) HX.out;have c4:=ah (k:=4) HX.out;have c5:=ah (k:=5) HX.out;simp only[fT]at c0 c1 c2 c3 c4 c5
     repeat (first | (refine au rfl ?_; simp only[Act.put,aF,aG,aH]) | (refine aA rfl (fun K hK=> ?_); go_simp; refine hK _ ?_; clear hK K))
     refine az ?_;refine bi rfl (fun K hK=> ?_);go_wp2_with (go_at_call 67; refine(fV S e (.slice a1 e.data.length cap1) false _ (HD.out.below HWL.out) HOK.out HPZ.out HVE.out).mono ?_; rintro e7 w7 ⟨rfl,hb7⟩; have HL7:=aa (HWL.out.trans (hb7.mono HWL.out.size)); have HX7:=aa ((hb7.block wr.heap.size (ek HX.out)).trans HX.out); clear hb7 c0 c1 c2 c3 c4 c5)
     repeat (first | (refine au rfl ?_; simp only[Act.put,aF,aG,aH]) | (refine aA rfl (fun K hK=> ?_); go_simp; refine hK _ ?_; clear hK K))
     refine az ?_;refine gk rfl ?_;simp only[Act.put,aF,aG,aH]
     repeat (first | (refine au rfl ?_; simp only[Act.put,aF,aG,aH]) | (refine aA rfl (fun K hK=> ?_); go_simp; refine hK _ ?_; clear hK K))
     refine az ?_;have HB9:=aa (af HBR.out HL7.out);go_wp2_with fail;go_ret;exact⟨aZ (by rw[cG HL4.out HTR.out HAT.out (x:=1) HCA.out (by decide)]),HB9.out⟩
    ·have HVE:=aa hve;have HPP:=aa (show e.path.size<=65000 from oP hve);obtain⟨q,hq⟩: ∃q:ByteArray,q=⟨(aK (bl e.path)).toArray⟩:=⟨_,rfl⟩;have HBQ:=aa (show bl q=aK (bl e.path) by rw[hq]; exact jJ _);have HQ:=aa hq;clear hve hq
     rcases Nat.eq_zero_or_pos k with hk0 | hk0
     ·have e9:decide (0<k)=false:=by simp; omega
      have e8:(k:Int)<=0:=by omega
      have HCV:=aa (show(bR e && fq (L.take k) e)=true by rw[hk0,HVE.out]; rfl);clear hk0;obtain⟨x,hx⟩: ∃x,ff (L.take k) (bl q)=x:=⟨_,rfl⟩;have HDX:=aa hx;have HCA:=aa (show bC (L.take k) e=x by unfold bC; rw[if_pos HCV.out,<-HBQ.out,hx]);clear hx;go_wp2_with fail;refine ak [some 1,none,some 13,none,some 3] (by kernel_rfl) (by kernel_rfl) (by kernel_rfl) ?_
      simp only[bb,List.take_succ_cons,List.take_zero,List.drop_succ_cons,List.drop_zero];obtain⟨W,hW⟩: ∃W:World,W=(wr.alloc (.cells #[.string e.path, .int .i64 e.kind, .int .i64 e.mode, .int .i64 e.time, .slice a1 e.data.length cap1, .string e.link] 30)).drew:=⟨_,rfl⟩;rw[<-hW];have HWL:=aa (show Below wr.heap.size wr W by rw[hW]; exact((Below.refl _ _).alloc (Nat.le_refl _) _).drew)
      have HX:=aa (show W.heap[wr.heap.size]? =some (.cells #[.string e.path, .int .i64 e.kind, .int .i64 e.mode, .int .i64 e.time, .slice a1 e.data.length cap1, .string e.link] 30 (0,0)) by rw[hW]; exact dA wr _);have HBW:=aa (af HBR.out HWL.out);clear hW;have c0:=ah (k:=0) HX.out;have c1:=ah (k:=1) HX.out;have c2:=ah (k:=2) HX.out;have c3:=ah (k:=3) HX.out
      have c4:=ah (k:=4) HX.out;have c5:=ah (k:=5) HX.out;simp only[fT]at c0 c1 c2 c3 c4 c5
      repeat (first | (refine au rfl ?_; simp only[Act.put,aF,aG,aH]) | (refine aA rfl (fun K hK=> ?_); go_simp; refine hK _ ?_; clear hK K))
      refine az ?_;refine bi rfl (fun K hK=> ?_);go_wp2_with (go_at_call 67; refine(fV S e (.slice a1 e.data.length cap1) true _ (HD.out.below HWL.out) HOK.out HPZ.out HVE.out).mono ?_; rintro e7 w7 ⟨rfl,hb7⟩; have HL7:=aa (HWL.out.trans (hb7.mono HWL.out.size)); have HX7:=aa ((hb7.block wr.heap.size (ek HX.out)).trans HX.out); clear hb7 c0 c1 c2 c3 c4 c5)
      repeat (first | (refine au rfl ?_; simp only[Act.put,aF,aG,aH]) | (refine aA rfl (fun K hK=> ?_); go_simp; refine hK _ ?_; clear hK K))
      refine az ?_;refine gk rfl ?_;simp only[Act.put,aF,aG,aH]
      repeat (first | (refine au rfl ?_; simp only[Act.put,aF,aG,aH]) | (refine aA rfl (fun K hK=> ?_); go_simp; refine hK _ ?_; clear hK K))
      refine az ?_;go_wp2_with fail;refine ey (fun w'=>w'.cell? ⟨wr.heap.size,0,none⟩=some (.string e.path)) (by kernel_rfl) ?_;obtain⟨V,hV⟩: ∃V:World,V=(w7).drew:=⟨_,rfl⟩;rw[<-hV];have HLV:=aa (show Below wr.heap.size wr V by rw[hV]; exact HL7.out.trans ((Below.refl (w7).heap.size (w7)).drew.mono HL7.out.size));have HXV:=aa (show V.heap[wr.heap.size]? =some (.cells #[.string e.path, .int .i64 e.kind, .int .i64 e.mode, .int .i64 e.time, .slice a1 e.data.length cap1, .string e.link] 30 (0,0)) by rw[hV]; exact HX7.out)
      clear hV;have hS1:=ah (k:=0) HXV.out;simp only[List.getElem?_toArray,List.getElem?_cons_zero]at hS1;refine ag 0 rfl (by kernel_rfl) (by kernel_rfl) (by kernel_rfl) (fun _ _ _ h=>h) rfl hS1 (by intro w' hw1; go_simp; rfl) ?_;simp only[Act.put,aF,aG,aH];refine ag 1 rfl (by kernel_rfl) (by kernel_rfl) (by kernel_rfl) (fun _ _ _ h=>h) rfl hS1 (by intro w' hw1; go_simp; rfl) ?_
      simp only[Act.put,aF,aG,aH];refine ag 2 rfl (by kernel_rfl) (by kernel_rfl) (by kernel_rfl) (fun _ _ _ h=>h) rfl hS1 (by intro w' hw1; go_simp; rfl) ?_;simp only[Act.put,aF,aG,aH];refine ag 3 rfl (by kernel_rfl) (by kernel_rfl) (by kernel_rfl) (fun _ _ _ h=>h) rfl hS1 (by intro w' hw1; go_simp; rfl) ?_;simp only[Act.put,aF,aG,aH];refine ag 4 rfl (by kernel_rfl) (by kernel_rfl) (by kernel_rfl) (fun _ _ _ h=>h) rfl hS1 (by intro w' hw1; go_simp; rfl) ?_
      simp only[Act.put,aF,aG,aH];refine aO 5 rfl (by kernel_rfl) rfl (fun K hK=> ?_);go_wp2_with (go_at_call 69; refine(lh e.path q _ HPP.out HQ.out).mono ?_; rintro e9 w9 ⟨rfl,hb9⟩);have HL9:=aa (HLV.out.trans (hb9.mono HLV.out.size));have hS2:=(hb9.cell (aB hS1)).trans hS1;clear hb9;refine⟨hS2, ?_⟩;refine aO 6 rfl (by kernel_rfl) rfl (fun K hK=> ?_);have HTK:=aa (show bG S w9 (.slice (some ⟨b,o,none⟩) (k) cap) (L.take (k))from aP.takeN jb.len (HV.out.below (af HBR.out HL9.out)) HKN.out)
      go_wp2_with (go_at_call 68; refine(qX S (L.take (k)) (.slice (some ⟨b,o,none⟩) (k) cap) q x _ HTK.out HDX.out).mono ?_; rintro ea wa ⟨rfl,hba⟩);have HLA:=aa (HL9.out.trans (hba.mono HL9.out.size));have hS1:=(hba.cell (aB hS2)).trans hS2;clear hba;refine⟨hS1, ?_⟩;refine ag 7 rfl (by kernel_rfl) (by kernel_rfl) (by kernel_rfl) (fun _ _ _ h=>h) rfl hS1 (by intro w' hw1; go_simp; rfl) ?_
      simp only[Act.put,aF,aG,aH];refine bM (by kernel_rfl) ?_;have HBA:=aa (af HBR.out HLA.out);clear hS1 hS2
      by_cases h0:x=0
      ·subst h0;have HTN:=aa (ev HTR.out HAT.out HCA.out);go_wp2_with fail
       go_roundw
       case rel=>exact⟨k+1,by omega,by go_num,HTN.out,HBA.out⟩
       case measure=>simp[intOf]; omega
      ·have e1:(x != 0)=true:=by simp[h0]
       have HX0:=aa h0;clear h0;go_wp2_with fail;go_ret;exact⟨aZ (by rw[cG HL4.out HTR.out HAT.out (x:=x) HCA.out HX0.out]),HBA.out⟩
     ·obtain⟨j,rfl⟩: ∃j,k=j+1:=⟨k-1,by omega⟩;obtain⟨f,hf⟩: ∃f,L[j]? =some f:=⟨L[j]'(by rw[<-HN.out]; omega),by simp⟩;obtain⟨b',o',dv',he',-,-,-,hokf,-,p0,-⟩:=gB (HV.out.below HBR.out) hf;simp only[Option.some.injEq,Addr.mk.injEq,and_true]at he';obtain⟨rfl,rfl⟩:=he';have HPF:=aa (show f.path.size<=65536 from Nat.le_trans (oP (HTR.out.val f (List.mem_of_getElem? (i:=j) (by rw[List.getElem?_take,if_pos (Nat.lt_succ_self j)]; exact hf)))) (by omega))
      obtain⟨c,hc⟩: ∃c,bI (bl f.path) (bl e.path)=c:=⟨_,rfl⟩;have HC:=aa hc;have e9:decide (0<j+1)=true:=by simp
      have hjn:j<n:=by omega
      have hjn2:(j:Int)<(n:Int):=by omega
      have hjn3:decide (j<n)=true:=by simp; omega
      have hjc:0<=(j:Int)+1/\(j:Int)+1<=(cap:Int):=by omega
      have hwj:IntKind.i64.wrap (j:Int)=j:=by rw[IntKind.wrap_i64]; omega
      have HAF:=aa (show fq (L.take (j+1)) e=decide (c<0) by rw[pP hf,hc]);clear hf hokf hc hk0
      by_cases hneg:c<0
      ·have HCV:=aa (show(bR e && fq (L.take (j+1)) e)=true by rw[HVE.out,HAF.out,decide_eq_true hneg]; rfl);have e8:decide (0<=c)=false:=by simp; omega
       obtain⟨x,hx⟩: ∃x,ff (L.take (j+1)) (bl q)=x:=⟨_,rfl⟩;have HDX:=aa hx;have HCA:=aa (show bC (L.take (j+1)) e=x by unfold bC; rw[if_pos HCV.out,<-HBQ.out,hx]);clear hx;go_wp2_with fail;refine ak [some 1,none,some 13,none,some 3] (by kernel_rfl) (by kernel_rfl) (by kernel_rfl) ?_;simp only[bb,List.take_succ_cons,List.take_zero,List.drop_succ_cons,List.drop_zero]
       obtain⟨W,hW⟩: ∃W:World,W=(wr.alloc (.cells #[.string e.path, .int .i64 e.kind, .int .i64 e.mode, .int .i64 e.time, .slice a1 e.data.length cap1, .string e.link] 30)).drew:=⟨_,rfl⟩;rw[<-hW];have HWL:=aa (show Below wr.heap.size wr W by rw[hW]; exact((Below.refl _ _).alloc (Nat.le_refl _) _).drew);have HX:=aa (show W.heap[wr.heap.size]? =some (.cells #[.string e.path, .int .i64 e.kind, .int .i64 e.mode, .int .i64 e.time, .slice a1 e.data.length cap1, .string e.link] 30 (0,0)) by rw[hW]; exact dA wr _)
       have HBW:=aa (af HBR.out HWL.out);clear hW;have c0:=ah (k:=0) HX.out;have c1:=ah (k:=1) HX.out;have c2:=ah (k:=2) HX.out;have c3:=ah (k:=3) HX.out;have c4:=ah (k:=4) HX.out;have c5:=ah (k:=5) HX.out;simp only[fT]at c0 c1 c2 c3 c4 c5
       repeat (first | (refine au rfl ?_; simp only[Act.put,aF,aG,aH]) | (refine aA rfl (fun K hK=> ?_); go_simp; refine hK _ ?_; clear hK K))
       refine az ?_;refine bi rfl (fun K hK=> ?_);go_wp2_with (go_at_call 67; refine(fV S e (.slice a1 e.data.length cap1) true _ (HD.out.below HWL.out) HOK.out HPZ.out HVE.out).mono ?_; rintro e7 w7 ⟨rfl,hb7⟩; have HL7:=aa (HWL.out.trans (hb7.mono HWL.out.size)); have HX7:=aa ((hb7.block wr.heap.size (ek HX.out)).trans HX.out); clear hb7 c0 c1 c2 c3 c4 c5);have c0:=ah (k:=0) HX7.out
       have c1:=ah (k:=1) HX7.out;have c2:=ah (k:=2) HX7.out;have c3:=ah (k:=3) HX7.out;have c4:=ah (k:=4) HX7.out;have c5:=ah (k:=5) HX7.out;simp only[fT]at c0 c1 c2 c3 c4 c5;have y0:=(HL7.out.cell (aB p0)).trans p0
       repeat (first | (refine au rfl ?_; simp only[Act.put,aF,aG,aH]) | (refine aA rfl (fun K hK=> ?_); go_simp; refine hK _ ?_; clear hK K))
       refine az ?_;refine bi rfl (fun K hK=> ?_);go_wp2_with (go_at_call 45; refine(lg f.path e.path c _ HPF.out HC.out).mono ?_; rintro e8' w8 ⟨rfl,hb8⟩; have HL8:=aa (HL7.out.trans (hb8.mono HL7.out.size)); have HX8:=aa ((hb8.block wr.heap.size (ek HX7.out)).trans HX7.out); clear hb8 c0 c1 c2 c3 c4 c5 y0)
       repeat (first | (refine au rfl ?_; simp only[Act.put,aF,aG,aH]) | (refine aA rfl (fun K hK=> ?_); go_simp; refine hK _ ?_; clear hK K))
       refine az ?_;go_wp2_with fail;refine ey (fun w'=>w'.cell? ⟨wr.heap.size,0,none⟩=some (.string e.path)) (by kernel_rfl) ?_;obtain⟨V,hV⟩: ∃V:World,V=(w8).drew:=⟨_,rfl⟩;rw[<-hV];have HLV:=aa (show Below wr.heap.size wr V by rw[hV]; exact HL8.out.trans ((Below.refl (w8).heap.size (w8)).drew.mono HL8.out.size));have HXV:=aa (show V.heap[wr.heap.size]? =some (.cells #[.string e.path, .int .i64 e.kind, .int .i64 e.mode, .int .i64 e.time, .slice a1 e.data.length cap1, .string e.link] 30 (0,0)) by rw[hV]; exact HX8.out)
       clear hV;have hS1:=ah (k:=0) HXV.out;simp only[List.getElem?_toArray,List.getElem?_cons_zero]at hS1;refine ag 0 rfl (by kernel_rfl) (by kernel_rfl) (by kernel_rfl) (fun _ _ _ h=>h) rfl hS1 (by intro w' hw1; go_simp; rfl) ?_;simp only[Act.put,aF,aG,aH];refine ag 1 rfl (by kernel_rfl) (by kernel_rfl) (by kernel_rfl) (fun _ _ _ h=>h) rfl hS1 (by intro w' hw1; go_simp; rfl) ?_
       simp only[Act.put,aF,aG,aH];refine ag 2 rfl (by kernel_rfl) (by kernel_rfl) (by kernel_rfl) (fun _ _ _ h=>h) rfl hS1 (by intro w' hw1; go_simp; rfl) ?_;simp only[Act.put,aF,aG,aH];refine ag 3 rfl (by kernel_rfl) (by kernel_rfl) (by kernel_rfl) (fun _ _ _ h=>h) rfl hS1 (by intro w' hw1; go_simp; rfl) ?_;simp only[Act.put,aF,aG,aH];refine ag 4 rfl (by kernel_rfl) (by kernel_rfl) (by kernel_rfl) (fun _ _ _ h=>h) rfl hS1 (by intro w' hw1; go_simp; rfl) ?_
       simp only[Act.put,aF,aG,aH];refine aO 5 rfl (by kernel_rfl) rfl (fun K hK=> ?_);go_wp2_with (go_at_call 69; refine(lh e.path q _ HPP.out HQ.out).mono ?_; rintro e9 w9 ⟨rfl,hb9⟩);have HL9:=aa (HLV.out.trans (hb9.mono HLV.out.size));have hS2:=(hb9.cell (aB hS1)).trans hS1;clear hb9;refine⟨hS2, ?_⟩;refine aO 6 rfl (by kernel_rfl) rfl (fun K hK=> ?_);have HTK:=aa (show bG S w9 (.slice (some ⟨b,o,none⟩) (j+1) cap) (L.take (j+1))from aP.takeN jb.len (HV.out.below (af HBR.out HL9.out)) HKN.out)
       go_wp2_with (go_at_call 68; refine(qX S (L.take (j+1)) (.slice (some ⟨b,o,none⟩) (j+1) cap) q x _ HTK.out HDX.out).mono ?_; rintro ea wa ⟨rfl,hba⟩);have HLA:=aa (HL9.out.trans (hba.mono HL9.out.size));have hS1:=(hba.cell (aB hS2)).trans hS2;clear hba;refine⟨hS1, ?_⟩;refine ag 7 rfl (by kernel_rfl) (by kernel_rfl) (by kernel_rfl) (fun _ _ _ h=>h) rfl hS1 (by intro w' hw1; go_simp; rfl) ?_
       simp only[Act.put,aF,aG,aH];refine bM (by kernel_rfl) ?_;have HBA:=aa (af HBR.out HLA.out);clear hS1 hS2
       by_cases h0:x=0
       ·subst h0;have HTN:=aa (ev HTR.out HAT.out HCA.out);go_wp2_with fail
        go_roundw
        case rel=>exact⟨j+1+1,by omega,by go_num,HTN.out,HBA.out⟩
        case measure=>simp[intOf]; omega
       ·have e1:(x != 0)=true:=by simp[h0]
        have HX0:=aa h0;clear h0;go_wp2_with fail;go_ret;exact⟨aZ (by rw[cG HL4.out HTR.out HAT.out (x:=x) HCA.out HX0.out]),HBA.out⟩
      ·have HCA:=aa (show bC (L.take (j+1)) e=1 by unfold bC; rw[HAF.out,decide_eq_false hneg]; simp);have e8:decide (0<=c)=true:=by simp; omega
       have e7:0<=c:=by omega
       go_wp2_with fail;refine ak [some 1,none,some 13,none,some 3] (by kernel_rfl) (by kernel_rfl) (by kernel_rfl) ?_;simp only[bb,List.take_succ_cons,List.take_zero,List.drop_succ_cons,List.drop_zero];obtain⟨W,hW⟩: ∃W:World,W=(wr.alloc (.cells #[.string e.path, .int .i64 e.kind, .int .i64 e.mode, .int .i64 e.time, .slice a1 e.data.length cap1, .string e.link] 30)).drew:=⟨_,rfl⟩
       rw[<-hW];have HWL:=aa (show Below wr.heap.size wr W by rw[hW]; exact((Below.refl _ _).alloc (Nat.le_refl _) _).drew);have HX:=aa (show W.heap[wr.heap.size]? =some (.cells #[.string e.path, .int .i64 e.kind, .int .i64 e.mode, .int .i64 e.time, .slice a1 e.data.length cap1, .string e.link] 30 (0,0)) by rw[hW]; exact dA wr _);have HBW:=aa (af HBR.out HWL.out);clear hW
       have c0:=ah (k:=0) HX.out;have c1:=ah (k:=1) HX.out;have c2:=ah (k:=2) HX.out;have c3:=ah (k:=3) HX.out;have c4:=ah (k:=4) HX.out;have c5:=ah (k:=5) HX.out;simp only[fT]at c0 c1 c2 c3 c4 c5
       repeat (first | (refine au rfl ?_; simp only[Act.put,aF,aG,aH]) | (refine aA rfl (fun K hK=> ?_); go_simp; refine hK _ ?_; clear hK K))
       refine az ?_;refine bi rfl (fun K hK=> ?_);go_wp2_with (go_at_call 67; refine(fV S e (.slice a1 e.data.length cap1) true _ (HD.out.below HWL.out) HOK.out HPZ.out HVE.out).mono ?_; rintro e7 w7 ⟨rfl,hb7⟩; have HL7:=aa (HWL.out.trans (hb7.mono HWL.out.size)); have HX7:=aa ((hb7.block wr.heap.size (ek HX.out)).trans HX.out); clear hb7 c0 c1 c2 c3 c4 c5);have c0:=ah (k:=0) HX7.out
       have c1:=ah (k:=1) HX7.out;have c2:=ah (k:=2) HX7.out;have c3:=ah (k:=3) HX7.out;have c4:=ah (k:=4) HX7.out;have c5:=ah (k:=5) HX7.out;simp only[fT]at c0 c1 c2 c3 c4 c5;have y0:=(HL7.out.cell (aB p0)).trans p0
       repeat (first | (refine au rfl ?_; simp only[Act.put,aF,aG,aH]) | (refine aA rfl (fun K hK=> ?_); go_simp; refine hK _ ?_; clear hK K))
       refine az ?_;refine bi rfl (fun K hK=> ?_);go_wp2_with (go_at_call 45; refine(lg f.path e.path c _ HPF.out HC.out).mono ?_; rintro e8' w8 ⟨rfl,hb8⟩; have HL8:=aa (HL7.out.trans (hb8.mono HL7.out.size)); clear hb8 c0 c1 c2 c3 c4 c5 y0)
       repeat (first | (refine au rfl ?_; simp only[Act.put,aF,aG,aH]) | (refine aA rfl (fun K hK=> ?_); go_simp; refine hK _ ?_; clear hK K))
       refine az ?_;have HB9:=aa (af HBR.out HL8.out);go_wp2_with fail;go_ret;exact⟨aZ (by rw[cG HL4.out HTR.out HAT.out (x:=1) HCA.out (by decide)]),HB9.out⟩
   ·have hk2:k=n:=by omega
    subst hk2;go_wp2_with fail;go_ret;exact⟨aZ (by rw[lQ HL4.out (by rw[<-HN.out]; exact HTR.out)]),HBR.out⟩
open Go Go.RowKit Go.Maps
def ud (f:ax):Bool:=f.parts.all fM && (decide (f.size=gZ f.parts) && decide (gZ f.parts<=1048576)) && (decide (f.kind=1) || decide (f.parts=[]))
theorem qV (f:ax):cj f=ud f:=by
 unfold ud cj
 by_cases hk:f.kind=1
 ·rw[if_pos hk]; simp[hk]
 ·rw[if_neg hk]
  cases f.parts with
  | nil=>simp[hk,gZ]; rfl
  | cons p l=>simp[hk]
theorem vh (S:Nat->Prop) (L:List bg) (v:Value) (x:Int) (w:World) (hv:bG S w v L) (hps: ∀e∈L,e.path.size<=16777216) (h:bK L=x):Calls Tryz.prog 35 #[v] w fun e w'=>e= .returned (.int .i64 x)/\Below w.heap.size w w':=by
 rw[<-h]; exact qW S L v w hv hps
theorem zB (x:eK) (hall:x.files.all cj=true):dF x=(decide (0<=x.tm) && decide (bK (x.files.map fg)=0)):=by
 rw[ci,hall]
 by_cases hc:bK (x.files.map fg)=0
 ·have h1:x.files.length<=4096:=by
   unfold bK at hc
   split at hc
   ·simp at hc
   ·rename_i h; rw[List.length_map]at h; omega
  simp[hc,h1]
 ·simp[hc]
theorem sX (S:Nat->Prop) (x:eK) (fv:Value) (w:World) (hx:aR S w fv x.files) (hps: ∀f∈x.files,f.path.size<=16777216) (hlen:x.files.length<=1048576) (hpl: ∀f∈x.files,f.parts.length<=1048576):Calls Tryz.prog 13 #[fD fv x.tm] w fun e w'=>e= .returned (.bool (dF x))/\Below w.heap.size w w':=by
 obtain⟨a,cap,rfl,hc,hm,-⟩:=aP.shape hx dT.len;unfold maxLen at hm;have HX0:=aa hx;have HPS:=aa hps;have HPL:=aa hpl;clear hx hps hpl;obtain⟨n,hn⟩: ∃n,n=x.files.length:=⟨_,rfl⟩;rw[<-hn]at hc HX0 hlen ⊢;have HN:=aa hn;clear hn;unfold fD
 go_enter Tryz.func13,Tryz.ntmps13
 go_upto_region 1 with fail
 obtain⟨W,hW⟩: ∃W,W=w.alloc (.cells #[.int .i64 x.tm, .slice a n cap] 36):=⟨_,rfl⟩;rw[<-hW];have HBW:=aa (show Below w.heap.size w W by rw[hW]; exact(Below.refl _ _).alloc (Nat.le_refl _) _);have HBX:=aa (show W.heap[w.heap.size]? =some (.cells #[.int .i64 x.tm, .slice a n cap] 36 (0,0)) by rw[hW]; exact heap_alloc_new w _);have HSZ:=aa (show W.heap.size=w.heap.size+1 by rw[hW]; simp)
 clear hW;have HMO:=aa (World.ownsRow_made (base:=W.heap.size) (e:=30) (size:=6) W #[] 0 (Nat.le_refl _) (by unfold maxLen; omega) rfl);have HBM:=aa (show Below W.heap.size W (W.alloc (.cells #[] 30))from(Below.refl _ _).alloc (Nat.le_refl _) _);have HV:=aa (show aR S W (.slice a n cap) x.files from aR.below HX0.out HBW.out);go_wp2_with fail
 go_loopw [3,4] (fun v i wr=> ∃k:Nat,k<=n/\i= .int .i64 k/\(x.files.take k).all cj=true/\wr.ownsRow W.heap.size 30 6 v k (jk ((x.files.take k).map lM))/\Below W.heap.size W wr) (fun _ i _=>n-(intOf i).toNat)
 case atStart=>exact⟨0,Nat.zero_le _,rfl,rfl,HMO.out,HBM.out⟩
 case round=>
  obtain⟨k,hk,rfl,hal,hown,hb⟩:=hrel;have HB:=aa hb;have HA:=aa hal;have HOWN:=aa hown;obtain⟨av,cv,hsv,hvn,hvm⟩:=al hown;subst hsv;unfold maxLen at hvm;have HZR:=aa hb.size;have HBXr:=aa ((hb.block w.heap.size (by have:=HSZ.out; omega)).trans HBX.out);have x0:=ab (k:=0) HBXr.out;have x1:=ab (k:=1) HBXr.out;simp only[fT]at x0 x1;clear hb hal hown
  by_cases hlt:k<n
  ·obtain⟨f,hf⟩: ∃f,x.files[k]? =some f:=⟨_,List.getElem?_eq_getElem (show k<x.files.length by rw[<-HN.out]; exact hlt)⟩;obtain⟨b,o,pa,pc,rfl,hok,hpa,hblt,-,hcl⟩:=dk HV.out (Below.refl _ _) hf;have hcl: ∀j,j<7->wr.cell? ⟨b,o+k*7+j,none⟩=(aX (.slice pa f.parts.length pc) f)[j]? :=fun j hj=>(HB.out.cell (p:=⟨b,o+k*7+j,none⟩) hblt).trans (hcl j hj)
   have q0:=hcl 0 (by omega);have q1:=hcl 1 (by omega);have q2:=hcl 2 (by omega);have q3:=hcl 3 (by omega);have q4:=hcl 4 (by omega);have q5:=hcl 5 (by omega);have q6:=hcl 6 (by omega);simp only[aX,bN,Nat.add_zero]at q0 q1 q2 q3 q4 q5 q6;have HFK:=aa hf;have hplm:=HPL.out f (List.mem_of_getElem? hf);obtain⟨m,hmm⟩: ∃m,m=f.parts.length:=⟨_,rfl⟩;obtain⟨-,hmc,hpm⟩:=oC hpa
   unfold maxLen at hpm;rw[<-hmm]at q6 hpa hmc hplm;have HPA:=aa hpa;have HM:=aa hmm;clear hf hpa hcl hok hmm;obtain⟨W3,hW3⟩: ∃W3,W3=wr.alloc (.cells #[.string f.path, .int .i64 f.kind, .int .i64 f.mode, .int .i64 f.time, .int .i64 f.size, .string f.link, .slice pa m pc] 42):=⟨_,rfl⟩;have HB3:=aa (show Below wr.heap.size wr W3 by rw[hW3]; exact(Below.refl _ _).alloc (Nat.le_refl _) _)
   have HX3:=aa (show W3.heap[wr.heap.size]? =some (.cells #[.string f.path, .int .i64 f.kind, .int .i64 f.mode, .int .i64 f.time, .int .i64 f.size, .string f.link, .slice pa m pc] 42 (0,0)) by rw[hW3]; exact heap_alloc_new wr _);have HZ3:=aa (show W3.heap.size=wr.heap.size+1 by rw[hW3]; simp)
   go_upto_region 6 with fail
   rw[<-hW3];clear hW3;have d0:=ab (k:=0) HX3.out;have d1:=ab (k:=1) HX3.out;have d2:=ab (k:=2) HX3.out;have d3:=ab (k:=3) HX3.out;have d5:=ab (k:=5) HX3.out;simp only[List.getElem?_toArray,bN]at d0 d1 d2 d3 d5;have HAL:=aa ((Below.refl W3.heap.size W3).alloc (Nat.le_refl _) (.cells (cY (.slice none 0 0) (fg f)).toArray 30));have HOA:=aa (aM (aM HOWN.out HB3.out) HAL.out)
   have HRL:=aa (fW (n:=1) (sz:=6) (cells:=cY (.slice none 0 0) (fg f)) (heap_alloc_new W3 (.cells (cY (.slice none 0 0) (fg f)).toArray 30)) rfl (by decide));have HZ:=aa (show W.heap.size<=(W3.alloc (.cells (cY (.slice none 0 0) (fg f)).toArray 30)).heap.size by have:=HZR.out; have:=HZ3.out; simp; omega);go_wp2_with (at_builtin; go_must (refine cF Tryz.appEnts rfl _ _ rfl W.heap.size (.slice av k cv) k (jk ((x.files.take k).map lM)) rfl HOA.out _ 1 (cY (.slice none 0 0) (fg f)) rfl HRL.out qp (by omega) HZ.out ?_); intro v9 w9 hown9 hg9; obtain⟨a9,c9,rfl,-,-⟩:=al hown9; have HO9:=aa hown9; have HG9:=aa hg9; clear hown9 hg9)
   have HX9:=aa ((HG9.out.block wr.heap.size (by have:=HZ3.out; simp; omega) (fun e1=>by
    have:=(HOWN.out.lt _ e1.symm).2
    omega)).trans ((heap_alloc_old _ _ (by have:=HZ3.out; omega)).trans HX3.out))
   have HB9:=aa (show Below W.heap.size W w9 from bB ((af HB.out HB3.out).trans (HAL.out.mono (by have:=HZR.out; have:=HZ3.out; omega))) HOA.out HG9.out (Nat.le_refl _) HZ.out);have HLT9:=aa (lt_of_block HX9.out);clear x0 x1 q0 q1 q2 q3 q4 q5 q6 d0 d1 d2 d3 d5
   go_loopw [6,7] (fun t i wq=> ∃j:Nat,j<=m/\i= .int .i64 j/\t= .int .i64 (gZ (f.parts.take j))/\(f.parts.take j).all fM=true/\Below w9.heap.size w9 wq) (fun _ i _=>m-(intOf i).toNat)
   case atStart=>exact⟨0,Nat.zero_le _,rfl,rfl,rfl,Below.refl _ _⟩
   case round=>
    obtain⟨j,hj,rfl,rfl,hal,hb⟩:=hrel;have HBQ:=aa hb;have HAP:=aa hal;have HXq:=aa ((hb.block _ HLT9.out).trans HX9.out);have d1:=ab (k:=1) HXq.out;have d4:=ab (k:=4) HXq.out;have d6:=ab (k:=6) HXq.out;simp only[List.getElem?_toArray,bN]at d1 d4 d6;have HBE:=aa (HBW.out.trans ((af HB9.out HBQ.out).mono (by have:=HSZ.out; omega)));clear hb hal
    by_cases hjm:j<m
    ·obtain⟨p,hp⟩: ∃p,f.parts[j]? =some p:=⟨_,List.getElem?_eq_getElem (show j<f.parts.length by rw[<-HM.out]; exact hjm)⟩;obtain⟨b2,o2,rfl,-,-,hpok,q0,q1⟩:=eb HPA.out (af HB9.out HBQ.out) hp;have HP:=aa hp;have hsum:=hpok.sm;unfold maxLen at hsum;clear hp hpok
     by_cases hv:fM p=true
     case neg=>
      have HVN:=aa (show cj f=false by
       rw[qV]; unfold ud;rw[gw HP.out (by simpa using hv)]; rfl)
      have hv2:p.sum.size=32->1<=p.size-> ¬p.size<=32768:=fun h1 h2 h3=>hv (by unfold fM; simp[h1,h2,h3])
      have HV2:=aa hv2;clear hv hv2
      by_cases h1:p.sum.size=32
      case neg=>
       have h1': ¬(p.sum.size:Int)=32:=by omega
       have HBAD:=aa (show dF x=false by rw[ci,gw HFK.out HVN.out]; simp);go_wp2_with fail;go_ret;exact⟨aj (by rw[HBAD.out]),HBE.out⟩
      by_cases h2:p.size<1
      case pos=>
       have HBAD:=aa (show dF x=false by rw[ci,gw HFK.out HVN.out]; simp);go_wp2_with fail;go_ret;exact⟨aj (by rw[HBAD.out]),HBE.out⟩
      have h3:32768<p.size:=by have:=HV2.out h1 (by omega); omega
      have HBAD:=aa (show dF x=false by rw[ci,gw HFK.out HVN.out]; simp);go_wp2_with fail;go_ret;exact⟨aj (by rw[HBAD.out]),HBE.out⟩
     obtain⟨h1,h2,h3⟩:=(show p.sum.size=32/\1<=p.size/\p.size<=32768 by unfold fM at hv; simpa [and_assoc]using hv);have HVP:=aa hv;have hn2: ¬p.size<1:=by omega
     have hn3: ¬32768<p.size:=by omega
     clear hv;go_wp2_with fail
     go_roundw
     case rel=>
      refine⟨j+1,by omega,rfl, ?_,ie HAP.out HP.out HVP.out,HBQ.out⟩;rw[aW HP.out,oN]
     case measure=>simp only[intOf,Int.toNat_natCast]; omega
    ·have htk:f.parts.take j=f.parts:=List.take_of_length_le (by rw[<-HM.out]; omega);have hall:f.parts.all fM=true:=by rw[<-htk]; exact HAP.out
     rw[htk];have HALL:=aa hall;obtain⟨t,ht⟩: ∃t,t=gZ f.parts:=⟨_,rfl⟩;rw[<-ht];have HT:=aa ht;clear hall htk ht;have HRS:=aa (show cj f=((decide (f.size=t) && decide (t<=1048576)) && (decide (f.kind=1) || decide (f.parts=[]))) by
      rw[qV]; unfold ud; rw[HALL.out,<-HT.out]; rfl)
     by_cases h1:f.size=t
     case neg=>
      have HVN:=aa (show cj f=false by rw[HRS.out]; simp[h1]);have HBAD:=aa (show dF x=false by rw[ci,gw HFK.out HVN.out]; simp);go_wp2_with fail;go_ret;exact⟨aj (by rw[HBAD.out]),HBE.out⟩
     by_cases h2:1048576<t
     case pos=>
      have HVN:=aa (show cj f=false by rw[HRS.out,show decide (t<=1048576)=false by simp; omega]; simp);have HBAD:=aa (show dF x=false by rw[ci,gw HFK.out HVN.out]; simp);go_wp2_with fail;go_ret;exact⟨aj (by rw[HBAD.out]),HBE.out⟩
     by_cases h3:f.kind=1
     case pos=>
      have HVY:=aa (show cj f=true by rw[HRS.out]; simp[h1,h3]; omega);go_wp2_with fail
      go_roundw
      case rel=>
       refine⟨k+1,by omega,rfl,ie HA.out HFK.out HVY.out, ?_,af HB9.out HBQ.out⟩;rw[aW HFK.out,List.map_append,List.map_singleton,jv];exact aM HO9.out HBQ.out
      case measure=>simp only[intOf,Int.toNat_natCast]; omega
     by_cases h4:m=0
     case neg=>
      have HVN:=aa (show cj f=false by
       rw[HRS.out];have:f.parts≠[]:=fun e=>h4 (by rw[HM.out,e]; rfl)
       simp[h3,this])
      have h5:0<m:=by omega
      have HBAD:=aa (show dF x=false by rw[ci,gw HFK.out HVN.out]; simp);go_wp2_with fail;go_ret;exact⟨aj (by rw[HBAD.out]),HBE.out⟩
     have h5:f.parts=[]:=List.eq_nil_of_length_eq_zero (by rw[<-HM.out]; exact h4);have HVY:=aa (show cj f=true by rw[HRS.out]; simp[h1,h5]; omega);have h6: ¬0<m:=by omega
     clear h5;go_wp2_with fail
     go_roundw
     case rel=>
      refine⟨k+1,by omega,rfl,ie HA.out HFK.out HVY.out, ?_,af HB9.out HBQ.out⟩;rw[aW HFK.out,List.map_append,List.map_singleton,jv];exact aM HO9.out HBQ.out
     case measure=>simp only[intOf,Int.toNat_natCast]; omega
  ·have hkn:k=n:=by omega
   subst hkn;have htk:x.files.take k=x.files:=List.take_of_length_le (by rw[<-HN.out]; exact Nat.le_refl _);have HALL:=aa (show x.files.all cj=true by rw[<-htk]; exact HA.out);rw[htk]at HOWN;clear htk;have HEA:=aa (show bG (fun i=>W.heap.size<=i/\(Value.slice av k cv).ownBlock=some i) wr (.slice av k cv) (x.files.map fg) by
    have h1:=bc HOWN.out;have h2:=mq (S:=fun i=>W.heap.size<=i/\(Value.slice av k cv).ownBlock=some i) (w:=wr) (ys:=x.files.map lM) (fun y hy=>by
     obtain⟨f,hf,rfl⟩:=List.mem_map.1 hy;exact⟨bF.nil _ _,xe (qr HV.out f hf)⟩)
    rw[pQ]at h2;have h3:(x.files.map fg).length=k:=by rw[List.length_map,HN.out]
    exact⟨_,by rw[h3]; exact h1,h2⟩)
   have HPE:=aa (show ∀e∈x.files.map fg,e.path.size<=16777216 from fun e he=>by
    obtain⟨f,hf,rfl⟩:=List.mem_map.1 he;exact HPS.out f hf)
   obtain⟨z,hz⟩: ∃z,bK (x.files.map fg)=z:=⟨_,rfl⟩;have HZ:=aa hz;have HEB:=aa (show Below w.heap.size w wr from HBW.out.trans (HB.out.mono (by have:=HSZ.out; omega)));have HR:=aa (show dF x=(decide (0<=x.tm) && decide (z=0)) by rw[zB x HALL.out,hz]);clear hz
   by_cases ht:0<=x.tm
   case neg=>
    have HF:=aa (show dF x=false by rw[HR.out,decide_eq_false ht]; rfl);have ht2:x.tm<0:=by omega
    go_wp2_with fail;go_ret;exact⟨aj (by rw[HF.out]),HEB.out⟩
   have HF:=aa (show dF x=decide (z=0) by rw[HR.out,decide_eq_true ht]; rfl);go_wp2_with (go_at_call 35; refine(vh _ _ _ z _ HEA.out HPE.out HZ.out).mono ?_; rintro e w1 ⟨rfl,hb1⟩; have HB2:=aa (af HEB.out hb1); clear hb1);go_ret;exact⟨aj (by rw[HF.out]; rfl),HB2.out⟩
end Go.Proofs.YtnjkpcalgoefhaaGreatDoor
namespace Go.Proofs.YtnjkpcalgoefhaaGreatDoor
open Go.RowKit
def ip :dQ:=⟨4,8,4,20,0⟩
theorem jS :el ip=true:=by decide
def wt (l:List UInt8):ByteArray:=⟨l.toArray⟩
def yI :bg:=⟨wt [100],2,0,0,[],wt []⟩
def kT (d:List UInt8):bg:=⟨wt [100,47,102],1,0,5,d,wt []⟩
def dq (d:List UInt8):List bg:=[yI,kT d]
def bX (ps:List bw):List ax:=[⟨wt [100],2,0,0,0,wt [],[]⟩,⟨wt [100,47,102],1,0,5,3,wt [],ps⟩]
theorem qg :bL ip [97,98,99]=[[97,98,99]]:=by decide+kernel
theorem iG (d:List UInt8) (h:d=[97,98,99]\/d=[97,98,100]):bK (dq d)=0:=by
 rcases h with rfl | rfl<;> decide+kernel
theorem eB :bS []=([],0,0):=by kernel_rfl
theorem tV (T:List bg):cB [] T=T:=by
 have h: ∀(f n:Nat) (d:Bool) (p:List (List UInt8)),bT d p [] f n=false:=by
  intro f
  induction f with
  | zero=>intros; rfl
  | succ f ih=>intro n d p; simp[bT,eq,ih]
 unfold cB;rw[List.filter_eq_self];intro e _;unfold nE cO
 split
 ·rfl
 ·simp[aN,h]
def zL :aL:=⟨[100],false,true,false⟩
theorem uc :bS [100,47]=([zL],0,0):=by kernel_rfl
theorem An (d:List UInt8) (h:d=[97,98,100]):cB [zL] (dq d)=[]:=by
 subst h; decide+kernel
theorem zM :ee ⟨0,[]⟩ 10 (dq [97,98,99]) [] ip= .ok ⟨⟨10,bX [bv [97,98,99]]⟩,[(wt [100],1),(wt [100,47,102],1)],[[97,98,99]],1,0⟩:=by
 unfold ee;rw[if_pos ⟨by decide+kernel,by decide,jS⟩,if_pos (by rw[eB]),if_pos (iG _ (.inl rfl)),eB,tV];have hk:oD 0 [] (kT [97,98,99])=true:=rfl;have hd: ∀d,oD 0 [] yI=false/\nk 0 [] yI=false/\nk 0 [] (kT d)=false:=fun d=>⟨rfl,rfl,rfl⟩
 have h1:cX 0 [] ip (dq [97,98,99])=⟨bX [bv [97,98,99]],[gY [97,98,99]],[[97,98,99]],1,0⟩:=by
  have e1:dp 0 [] ip (kT [97,98,99])=[bv [97,98,99]]:=by
   rw[mN hk]
   show(bL ip [97,98,99]).map bv=_
   rw[qg]; rfl
  have e2:(dq [97,98,99]).filter (oD 0 [])=[kT [97,98,99]]:=rfl;have e3:(dq [97,98,99]).filter (nk 0 [])=[]:=rfl;unfold cX;rw[e2,e3];have e4:(dq [97,98,99]).map (ep 0 [] ip)=bX [bv [97,98,99]]:=by
   unfold dq;simp only[List.map_cons,List.map_nil];unfold ep;rw[e1]; rfl
  rw[e4];simp only[List.flatMap_cons,List.flatMap_nil,List.append_nil];rw[show bL ip (kT [97,98,99]).data=[[97,98,99]]from qg]
  rfl
 rw[h1]
 generalize [bv [97,98,99]]=ps
 rfl
theorem tU :dF ⟨10,bX [bv [97,98,99]]⟩=true:=by
 have h:=zX (rules:=[]) (T:=dq [97,98,99]) (prev:=⟨0,[]⟩) (tm:=10) (c:=ip) eB (iG _ (.inl rfl)) (by decide+kernel) (by decide) jS;have h2:=zM;unfold ee at h2;rw[if_pos ⟨by decide+kernel,by decide,jS⟩,if_pos (by rw[eB]),if_pos (iG _ (.inl rfl)),eB]at h2;have h3:(cX 0 [] ip (cB [] (dq [97,98,99]))).files=bX [bv [97,98,99]]:=by
  have:=Except.ok.inj h2;exact congrArg (fun r=>r.idx.files) this
 have h4:(cB [] (dq [97,98,99])).map (ep 0 [] ip)=bX [bv [97,98,99]]:=h3;rw[<-h4]; exact h
theorem As :ee ⟨10,bX [bv [97,98,99]]⟩ 20 (dq [97,98,100]) [] ip= .ok ⟨⟨20,bX [bv [97,98,99]]⟩,[],[],0,1⟩:=by
 have hi:=tU
 revert hi
 generalize [bv [97,98,99]]=ps
 intro hi;unfold ee;rw[if_pos ⟨hi,show(10:Int)<=20 by decide,jS⟩,if_pos (by rw[eB]),if_pos (iG _ (.inr rfl)),eB,tV];have e4:(dq [97,98,100]).map (ep 10 (bX ps) ip)=bX ps:=rfl;have e2:(dq [97,98,100]).filter (oD 10 (bX ps))=[]:=rfl;have e3:((dq [97,98,100]).filter (nk 10 (bX ps))).length=1:=rfl;unfold cX
 simp only;rw[e2,e3,e4,show ny (bX ps) (bX ps)=[]from pY _ _]
 rfl
theorem At :ee ⟨10,bX [bv [97,98,99]]⟩ 20 (dq [97,98,100]) [100,47] ip= .ok ⟨⟨20,[]⟩,[(wt [100],4),(wt [100,47,102],4)],[],0,0⟩:=by
 have hi:=tU
 revert hi
 generalize [bv [97,98,99]]=ps
 intro hi;unfold ee;rw[if_pos ⟨hi,show(10:Int)<=20 by decide,jS⟩,if_pos (by rw[uc]),if_pos (iG _ (.inr rfl)),uc,An _ rfl]
 rfl
open Go Go.RowKit Go.Maps
theorem Am (r r':bw) (w:World):(Op.equalIn 10000 82 (lf r) (lf r')).run Tryz.prog w= .ok (decide (r=r')) w:=by
 have u1:=Tryz.underlying9;have u2:=Tryz.underlying3;have hS:Tryz.prog.underlying 82=some (.struct (Tryz.prog.fieldsOf 82)):=by kernel_rfl
 rw[show(10000:Nat)=9999+1 from rfl];unfold lf;rw[run_equalIn_struct w 9999 82 _ _ hS (by kernel_rfl)];simp only[Program.fieldsOf,Tryz.underlying82]
 go_simp
 obtain⟨n,s⟩:=r;obtain⟨n',s'⟩:=r';have hn:n.toList=n'.toList<->n=n':=⟨fun h=>gz (by rw[<-ba,<-ba,h]),fun h=>by rw[h]⟩;simp only[bw.mk.injEq,hn]
 by_cases h1:n=n'<;> by_cases h3:s=s'<;> simp[h1,h3]
theorem rj (S T:Nat->Prop) (v u:Value) (rs ss:List bw) (w:World) (hv:aC S w v rs) (hu:aC T w u ss):
  Calls Tryz.prog 24 #[v,u] w fun e w'=>e= .returned (.bool (decide (rs=ss)))/\Below w.heap.size w w':=by
 obtain⟨a,cap,rfl,hc,hm,-⟩:=aP.shape hv cR.len;obtain⟨a2,cap2,rfl,hc2,hm2,-⟩:=aP.shape hu cR.len;unfold maxLen at hm hm2;have HV:=aa hv;have HU:=aa hu;clear hv hu
 by_cases hl:rs.length=ss.length
 ·have HL:=aa hl;have hl2:ss.length=rs.length:=hl.symm;rw[hl2]at HU hc2 ⊢;clear hl hl2
  go_enter Tryz.func24,Tryz.ntmps24
  go_wp2_with fail
  go_loopw [5] (fun i wr=> ∃k:Nat,k<=rs.length/\i= .int .i64 k/\rs.take k=ss.take k/\Below w.heap.size w wr) (fun i _=>rs.length-(intOf i).toNat)
  case atStart=>exact⟨0,Nat.zero_le _,rfl,by simp,Below.refl _ _⟩
  case round=>
   obtain⟨k,hk,rfl,hn,hb⟩:=hrel;have HN:=aa hn;have HB:=aa hb;clear hn hb
   by_cases hlt:k<rs.length
   ·obtain⟨r,hr⟩: ∃r,rs[k]? =some r:=⟨rs[k],by simp[hlt]⟩;obtain⟨x,hx⟩: ∃x,ss[k]? =some x:=⟨ss[k]'(by have:=HL.out; omega),by simp⟩;have HR:=aa hr;have HX:=aa hx;have heq:=Am r x;obtain⟨W,hW⟩: ∃W:World,W=wr.drew:=⟨_,rfl⟩;have HBW:=aa (show Below w.heap.size w W by rw[hW]; exact HB.out.drew);obtain⟨b,o,rfl,-,-,-,q0,q1⟩:=eb HV.out HBW.out hr
    obtain⟨b2,o2,rfl,-,-,-,p0,p1⟩:=eb (by have:=HU.out; rw[HL.out]at this; exact this) HBW.out hx;unfold lf at heq;clear hr hx
    by_cases hm:r=x
    ·have e1:decide (r=x)=true:=by simp[hm]
     rw[e1]at heq;have HT:=aa (show rs.take (k+1)=ss.take (k+1) by rw[aW HR.out,aW HX.out,HN.out,hm]);clear e1 hm;go_wp2_with fail;refine ak [some 9] (by kernel_rfl) (by kernel_rfl) (by kernel_rfl) ?_;simp only[bb,List.take_succ_cons,List.take_zero];rw[<-hW];clear hW
     repeat (first | (refine au rfl ?_; simp only[Act.put,aF,aG,aH]) | (refine aA rfl (fun K hK=> ?_); go_simp; refine hK _ ?_; clear hK K))
     refine az ?_;go_wp2_with fail
     go_roundw
     case rel=>exact⟨k+1,by omega,rfl,HT.out,HBW.out⟩
     case measure=>simp only[intOf,Int.toNat_natCast]; omega
    ·have e1:decide (r=x)=false:=by simp[hm]
     rw[e1]at heq;have HT:=aa (show decide (rs=ss)=false by
      rw[decide_eq_false_iff_not];intro e;have h1:=HR.out;rw[e,HX.out]at h1;exact hm (Option.some.inj h1).symm)
     clear e1 hm;go_wp2_with fail;refine ak [some 9] (by kernel_rfl) (by kernel_rfl) (by kernel_rfl) ?_;simp only[bb,List.take_succ_cons,List.take_zero];rw[<-hW];clear hW
     repeat (first | (refine au rfl ?_; simp only[Act.put,aF,aG,aH]) | (refine aA rfl (fun K hK=> ?_); go_simp; refine hK _ ?_; clear hK K))
     refine az ?_;go_wp2_with fail;go_ret;exact⟨aj HT.out.symm,HBW.out⟩
   ·obtain rfl:k=rs.length:=by omega
    have HT:=aa (show decide (rs=ss)=true by
     have:=HN.out;rw[List.take_of_length_le (Nat.le_refl _),List.take_of_length_le (by rw[HL.out]; exact Nat.le_refl _)]at this;simp[this])
    go_wp2_with fail;go_ret;exact⟨aj HT.out.symm,HB.out⟩
 ·have HT:=aa (show decide (rs=ss)=false by rw[decide_eq_false_iff_not]; intro e; exact hl (by rw[e]));have e1:((rs.length:Int) != (ss.length:Int))=true:=by simp; omega
  clear hl
  go_enter Tryz.func24,Tryz.ntmps24
  go_wp2_with fail;go_ret;exact⟨aj HT.out.symm,Below.refl _ _⟩
def rA (l:List Nat):Nat:=l.foldl (· + ·) 0
theorem wg (l:List Nat) (n:Nat):rA (l++[n])=rA l+n:=by unfold rA; rw[List.foldl_append]; rfl
theorem zx {l:List Nat} {B:Nat} (h: ∀n∈l,n<=B):rA l<=l.length*B:=by
 have key: ∀(l:List Nat) (a:Nat),(∀n∈l,n<=B)->l.foldl (· + ·) a<=a+l.length*B:=by
  intro l
  induction l with
  | nil=>intro a _; simp
  | cons x l ih=>
   intro a h;rw[List.foldl_cons,List.length_cons];have h1:=ih (a+x) fun n hn=>h n (by simp[hn])
   have h2:=h x (by simp);rw[Nat.add_mul];omega
 have:=key l 0 h;unfold rA;omega
def xU (x:eK):Nat:=rA ((x.files.take 20).map fun f=>f.parts.length)
def kG (x:eK):Bool:=decide (x.files.length<=16) && decide (xU x<=60)
theorem vT (S:Nat->Prop) (x:eK) (fv:Value) (w:World) (hx:aR S w fv x.files) (hw: ∀f∈x.files,f.parts.length<=1125899906842624):Calls Tryz.prog 10 #[fD fv x.tm] w fun e w'=>e= .returned (.bool (kG x))/\Below w.heap.size w w':=by
 obtain⟨a,cap,rfl,hc,hm,-⟩:=aP.shape hx dT.len;unfold maxLen at hm;have HX:=aa hx;have HWT:=aa hw;clear hx hw;obtain⟨n,hn⟩: ∃n,n=x.files.length:=⟨_,rfl⟩;rw[<-hn]at hc HX ⊢;have HN:=aa hn;clear hn;unfold fD
 go_enter Tryz.func10,Tryz.ntmps10
 go_upto_region 1 with fail
 obtain⟨W,hW⟩: ∃W,W=w.alloc (.cells #[.int .i64 x.tm, .slice a n cap] 24):=⟨_,rfl⟩;rw[<-hW];have HBW:=aa (show Below w.heap.size w W by rw[hW]; exact(Below.refl _ _).alloc (Nat.le_refl _) _);have HBX:=aa (show W.heap[w.heap.size]? =some (.cells #[.int .i64 x.tm, .slice a n cap] 24 (0,0)) by rw[hW]; exact heap_alloc_new w _);have HV:=aa (show aR S W (.slice a n cap) x.files from aR.below HX.out HBW.out)
 clear hW;have k1:=ab (k:=1) HBX.out;simp only[List.getElem?_toArray,bN]at k1;go_wp2_with fail
 go_loopw [3,4] (fun s i wr=> ∃k:Nat,k<=n/\k<=20/\i= .int .i64 k/\s= .int .i64 ((rA ((x.files.take k).map fun f=>f.parts.length):Nat):Int)/\wr=W) (fun _ i _=>20-(intOf i).toNat)
 case atStart=>exact⟨0,Nat.zero_le _,by omega,rfl,rfl,rfl⟩
 case round=>
  obtain⟨k,hk,hk2,rfl,rfl,rfl⟩:=hrel;obtain⟨m,hm2⟩: ∃m,m=rA ((x.files.take k).map fun f=>f.parts.length):=⟨_,rfl⟩;have HM:=aa hm2;have hmb:m<=k*1125899906842624:=by
   rw[hm2];refine Nat.le_trans (zx (B:=1125899906842624) (fun y hy=> ?_)) ?_
   ·obtain⟨f,hf,rfl⟩:=List.mem_map.1 hy;exact HWT.out f (List.take_subset _ _ hf)
   ·rw[List.length_map];exact Nat.mul_le_mul_right _ (List.length_take_le _ _)
  rw[<-hm2];clear hm2
  by_cases hlt:k<n
  ·by_cases h20:k<20
   ·obtain⟨f,hf⟩: ∃f,x.files[k]? =some f:=⟨_,List.getElem?_eq_getElem (show k<x.files.length by rw[<-HN.out]; exact hlt)⟩;obtain⟨b,o,pa,pc,rfl,-,-,-,-,hcl⟩:=dk HV.out (Below.refl _ _) hf;have q6:=hcl 6 (by omega);simp only[aX,bN]at q6;have hpl:=HWT.out f (List.mem_of_getElem? hf);have HF:=aa hf;obtain⟨p,hp⟩: ∃p,p=f.parts.length:=⟨_,rfl⟩;rw[<-hp]at q6 hpl
    have HP:=aa hp;clear hf hcl hp;have hadd:IntKind.i64.wrap ((m:Int)+(p:Int))=((m+p:Nat):Int):=by rw[IntKind.wrap_i64]; omega
    go_wp2_with fail
    go_roundw
    case rel=>
     refine⟨k+1,by omega,by omega,rfl, ?_,trivial⟩;rw[aW HF.out,List.map_append,List.map_singleton,wg,<-HM.out,<-HP.out]
     first | rfl | (rw[hadd])
    case measure=>simp only[intOf,Int.toNat_natCast]; omega
   ·have hk20:k=20:=by omega
    subst hk20;have HR:=aa (show kG x=false by
     unfold kG;rw[show decide (x.files.length<=16)=false by rw[decide_eq_false_iff_not,<-HN.out]; omega]; rfl)
    have hn16: ¬(n:Int)<=16:=by omega
    go_wp2_with fail;go_ret;exact⟨aj (by rw[HR.out]),HBW.out⟩
  ·have hkn:k=n:=by omega
   subst hkn;have htk:x.files.take k=x.files.take 20:=by rw[List.take_of_length_le (by rw[<-HN.out]; exact Nat.le_refl _),List.take_of_length_le (by rw[<-HN.out]; exact hk2)]
   have HR:=aa (show kG x=(decide (k<=16) && decide (m<=60)) by
    unfold kG xU;rw[<-HN.out,<-htk,<-HM.out])
   by_cases h16:k<=16
   ·have h16':(k:Int)<=16:=by omega
    go_wp2_with fail;go_ret;exact⟨aj (by rw[HR.out]; simp[h16]; omega),HBW.out⟩
   ·have h16': ¬(k:Int)<=16:=by omega
    go_wp2_with fail;go_ret;exact⟨aj (by rw[HR.out]; simp[h16]),HBW.out⟩
def fN (w:World) (v:Value) (L:List (List UInt8)):Prop:= ∃ys:List Value,aJ (fun _=>True) w 1 v L.length ys/\ ∀(k:Nat) y pl,ys[k]? =some y->L[k]? =some pl->bd (fun _=>True) w y pl
theorem fN.below {w w':World} {v:Value} {L:List (List UInt8)} (h:fN w v L) (hb:Below w.heap.size w w'):fN w' v L:=by
 obtain⟨ys,h1,h2⟩:=h;exact⟨ys,aJ.below h1 (by omega) hb,fun k y pl hy hp=>aJ.below (h2 k y pl hy hp) (by omega) hb⟩
theorem sP {B:Nat} {v:Value} {L:List (List UInt8)} {w:World} (h:cg B v L w):fN w v L:=by
 obtain⟨ys,h1,h2,h3⟩:=h;have hl:ys.length=L.length:=by rw[<-h1,List.length_map]
 refine⟨ys.map Prod.fst, ?_,fun k y pl hy hp=> ?_⟩
 ·rw[<-hl];exact(bc h2).weak (fun _ _=>trivial)
 ·rw[List.getElem?_map,Option.map_eq_some_iff]at hy;obtain⟨z,hz,rfl⟩:=hy;rw[<-h1,List.getElem?_map,hz]at hp
  cases hp
  exact(bc (h3 z (List.mem_of_getElem? hz))).weak (fun _ _=>trivial)
theorem wN {w:World} {a:Option Addr} {n cap:Nat} {L:List (List UInt8)} (h:fN w (.slice a n cap) L) {k:Nat} {pl:List UInt8} (hk:L[k]? =some pl):
  ∃b o ya yc,a=some ⟨b,o,none⟩/\w.cell? ⟨b,o+k,none⟩=some (.slice ya pl.length yc)/\bd (fun _=>True) w (.slice ya pl.length yc) pl:=by
 obtain⟨ys,⟨hl,a',cap',hv,_,_,h0⟩,h2⟩:=h
 cases hv
 have hlt:=(List.getElem?_eq_some_iff.1 hk).1
 rcases h0 with h0 | ⟨b,o,rfl,_,hc⟩
 ·omega
 ·obtain⟨y,hy⟩: ∃y,ys[k]? =some y:=⟨_,List.getElem?_eq_getElem (show k<ys.length by omega)⟩;have h3:=h2 k y pl hy hk;obtain⟨_,ya,yc,rfl,_,_,_⟩:=id h3;exact⟨b,o,ya,yc,rfl,hc k _ hy,h3⟩
theorem sY (v u:Value) (L M:List (List UInt8)) (w:World) (hv:fN w v L) (hu:fN w u M):
  Calls Tryz.prog 32 #[v,u] w fun e w'=>e= .returned (.bool (decide (L=M)))/\Below w.heap.size w w':=by
 obtain⟨_,⟨_,a,cap,rfl,hc,hm,_⟩,_⟩:=id hv;obtain⟨_,⟨_,a2,cap2,rfl,hc2,hm2,_⟩,_⟩:=id hu;unfold maxLen at hm hm2;have HV:=aa hv;have HU:=aa hu;clear hv hu
 by_cases hl:L.length=M.length
 ·have HL:=aa hl;have hl2:M.length=L.length:=hl.symm;rw[hl2]at HU hc2 ⊢;clear hl hl2
  go_enter Tryz.func32,Tryz.ntmps32
  go_wp2_with fail
  go_loopw [5] (fun i wr=> ∃k:Nat,k<=L.length/\i= .int .i64 k/\L.take k=M.take k/\Below w.heap.size w wr) (fun i _=>L.length-(intOf i).toNat)
  case atStart=>exact⟨0,Nat.zero_le _,rfl,by simp,Below.refl _ _⟩
  case round=>
   obtain⟨k,hk,rfl,hn,hb⟩:=hrel;have HN:=aa hn;have HB:=aa hb;clear hn hb
   by_cases hlt:k<L.length
   ·obtain⟨r,hr⟩: ∃r,L[k]? =some r:=⟨L[k],by simp[hlt]⟩;obtain⟨x,hx⟩: ∃x,M[k]? =some x:=⟨M[k]'(by have:=HL.out; omega),by simp⟩;have HR:=aa hr;have HX:=aa hx;obtain⟨W,hW⟩: ∃W:World,W=wr.drew:=⟨_,rfl⟩;have HBW:=aa (show Below w.heap.size w W by rw[hW]; exact HB.out.drew);obtain⟨b,o,ya,yc,rfl,q0,hy⟩:=wN (HV.out.below HBW.out) hr;obtain⟨b2,o2,za,zc,rfl,p0,hy2⟩:=wN (by have:=HU.out.below HBW.out; rw[HL.out]at this; exact this) hx
    have hc1:=mf (bs:=r) hy;have hc2:=mf (bs:=x) hy2;clear hr hx hy hy2
    by_cases hm:r=x
    ·have HT:=aa (show L.take (k+1)=M.take (k+1) by rw[aW HR.out,aW HX.out,HN.out,hm]);subst hm;go_wp2_with fail;refine ak [some 11] (by kernel_rfl) (by kernel_rfl) (by kernel_rfl) ?_;simp only[bb,List.take_succ_cons,List.take_zero];rw[<-hW];clear hW
     repeat (first | (refine au rfl ?_; simp only[Act.put,aF,aG,aH]) | (refine aA rfl (fun K hK=> ?_); go_simp; refine hK _ ?_; clear hK K))
     refine az ?_;go_wp2_with fail
     all_goals exact⟨⟨k+1,by omega,rfl,HT.out,HBW.out⟩,by simp only[intOf,Int.toNat_natCast]; omega⟩
    ·have HT:=aa (show decide (L=M)=false by
      rw[decide_eq_false_iff_not];intro e;have h1:=HR.out;rw[e,HX.out]at h1;exact hm (Option.some.inj h1).symm)
     have hm4:(r == x)=false:=by simpa using hm
     have hm3: ¬(⟨r.toArray⟩:ByteArray).toList=(⟨x.toArray⟩:ByteArray).toList:=fun h=>hm (by rw[ba,ba,jJ,jJ]at h; exact h)
     go_wp2_with fail;refine ak [some 11] (by kernel_rfl) (by kernel_rfl) (by kernel_rfl) ?_;simp only[bb,List.take_succ_cons,List.take_zero];rw[<-hW];clear hW
     repeat (first | (refine au rfl ?_; simp only[Act.put,aF,aG,aH]) | (refine aA rfl (fun K hK=> ?_); go_simp; refine hK _ ?_; clear hK K))
     refine az ?_;go_wp2_with fail;go_ret;exact⟨aj HT.out.symm,HBW.out⟩
   ·obtain rfl:k=L.length:=by omega
    have HT:=aa (show decide (L=M)=true by
     have:=HN.out;rw[List.take_of_length_le (Nat.le_refl _),List.take_of_length_le (by rw[HL.out]; exact Nat.le_refl _)]at this;simp[this])
    go_wp2_with fail;go_ret;exact⟨aj HT.out.symm,HB.out⟩
 ·have HT:=aa (show decide (L=M)=false by rw[decide_eq_false_iff_not]; intro e; exact hl (by rw[e]));have e1:((L.length:Int) != (M.length:Int))=true:=by simp; omega
  clear hl
  go_enter Tryz.func32,Tryz.ntmps32
  go_wp2_with fail;go_ret;exact⟨aj HT.out.symm,Below.refl _ _⟩
def nl (b:Nat):List Value:=[.string ⟨#[100]⟩, .int .i64 2, .int .i64 0, .int .i64 0, .slice none 0 0, .string ⟨#[]⟩, .string ⟨#[100,47,102]⟩, .int .i64 1, .int .i64 0, .int .i64 5, .slice (some ⟨b,0,none⟩) 3 3, .string ⟨#[]⟩]
theorem wP {w:World} {b k:Nat} {cs:Array Value} {t:TypeId} {z:Nat×Nat} (h:w.heap[b]? =some (.cells cs t z)):w.cell? ⟨b,k,none⟩=cs[k]? :=by
 simp[World.cell?,h]
theorem kg {W:World} {b n sz:Nat} {cells:List Value} {t:TypeId} {z:Nat×Nat} (h:W.heap[b]? =some (.cells cells.toArray t z)) (hl:cells.length=n*sz) (hn:n<=maxLen):aJ (fun _=>True) W sz (.slice (some ⟨b,0,none⟩) n n) n cells:=
 ⟨hl,some ⟨b,0,none⟩,n,rfl,Nat.le_refl _,hn, .inr ⟨b,0,rfl,trivial,fun j u hj=>by rw[wP h,Nat.zero_add,List.getElem?_toArray]; exact hj⟩⟩
theorem pJ {w:World} {rb b:Nat} {d:List UInt8} {t u:TypeId} {z:Nat×Nat} (h:w.heap[rb]? =some (.cells (nl b).toArray t (0,0))) (hb:w.heap[b]? =some (.cells (d.map aT).toArray u z)) (hd:d.length=3):bG (fun _=>True) w (.slice (some ⟨rb,0,none⟩) 2 2) (dq d):=by
 refine⟨nl b,kg (n:=2) (sz:=6) (cells:=nl b) h rfl (by unfold maxLen; omega), ?_⟩;have hda:bF (fun _=>True) w (.slice (some ⟨b,0,none⟩) 3 3) d:=by
  have h1:=kg (n:=d.length) (sz:=1) (cells:=d.map aT) hb (by simp) (by rw[hd]; unfold maxLen; omega);rw[show Value.slice (some ⟨b,0,none⟩) 3 3= .slice (some ⟨b,0,none⟩) d.length d.length by rw[hd]];exact h1
 refine⟨cY (.slice none 0 0) yI,cY (.slice (some ⟨b,0,none⟩) 3 3) (kT d),rfl,⟨_,rfl,bF.nil _ _, ?_⟩,⟨cY (.slice (some ⟨b,0,none⟩) 3 3) (kT d),[],rfl,⟨_,rfl,hda, ?_⟩,rfl⟩⟩
 ·exact⟨by show(1:Nat)<=_; unfold maxLen; omega,by show(0:Nat)<=_; omega,rfl,rfl,rfl⟩
 ·exact⟨by show(3:Nat)<=_; unfold maxLen; omega,by show(0:Nat)<=_; omega,rfl,rfl,rfl⟩
def uh (p:ByteArray×Int):bw:=⟨p.1,p.2⟩
theorem lT (l:List (ByteArray×Int)):eY l=aV (l.map uh):=by
 induction l with
 | nil=>rfl
 | cons p l ih=>
  unfold eY aV at *;rw[List.flatMap_cons,List.map_cons,List.flatMap_cons,ih]; rfl
theorem zf {w:World} {base:Nat} {v:Value} {l:List (ByteArray×Int)} (h:w.ownsRow base 60 2 v l.length (eY l)) (hok: ∀p∈l,cU (uh p)):aC (fun _=>True) w v (l.map uh):=by
 rw[lT]at h;refine⟨_, ?_,dR (fun p hp=> ?_)⟩
 ·rw[List.length_map];exact(bc h).weak (fun _ _=>trivial)
 ·obtain⟨q,hq,rfl⟩:=List.mem_map.1 hp;exact hok q hq
theorem tX {w:World} {b:Nat} {l:List (ByteArray×Int)} {t:TypeId} (h:w.heap[b]? =some (.cells (eY l).toArray t (0,0))) (hl:l.length<=maxLen) (hok: ∀p∈l,cU (uh p)):aC (fun _=>True) w (.slice (some ⟨b,0,none⟩) l.length l.length) (l.map uh):=by
 rw[lT]at h;refine⟨_, ?_,dR (fun p hp=> ?_)⟩
 ·have h1:=(fW (n:=l.length) (sz:=2) (cells:=aV (l.map uh)) h (by rw[mL,List.length_map]) hl).weak (T:=fun _=>True) (fun _ _=>trivial);rw[List.length_map];exact h1
 ·obtain⟨q,hq,rfl⟩:=List.mem_map.1 hp;exact hok q hq
theorem tY (x:Int):([(⟨#[100]⟩,x),(⟨#[100,47,102]⟩,x)]:List (ByteArray×Int)).length<=maxLen:=by show 2<=maxLen; unfold maxLen; omega
def lR (x:Int):List (ByteArray×Int):=[(⟨#[100]⟩,x),(⟨#[100,47,102]⟩,x)]
theorem lA {x:Int} (h:x=1\/x=4): ∀p∈lR x,cU (uh p):=by
 intro p hp;simp only[lR,List.mem_cons,List.not_mem_nil,or_false]at hp
 rcases h with rfl | rfl<;> rcases hp with rfl | rfl
 all_goals exact⟨by first | (show(1:Nat)<=_; unfold maxLen; omega) | (show(3:Nat)<=_; unfold maxLen; omega),rfl⟩
theorem mV (S T:Nat->Prop) (v u:Value) (rs ss:List bw) (b:Bool) (w:World) (hv:aC S w v rs) (hu:aC T w u ss) (h:decide (rs=ss)=b):Calls Tryz.prog 24 #[v,u] w fun e w'=>e= .returned (.bool b)/\Below w.heap.size w w':=by
 rw[<-h]; exact rj S T v u rs ss w hv hu
theorem kx (w:World) (C:Array Value) (n c:Nat):(convert 28 28 (.slice (some ⟨w.heap.size,0,none⟩) n c)).run Tryz.prog (w.alloc (.cells C 5))= .ok (.slice (some ⟨w.heap.size,0,none⟩) n c) (w.alloc (.cells C 5 (C.size,C.size+1))):=
 Lib.run_convert_bytes_const w 28 5 C n c Tryz.underlying28 Tryz.underlying5
theorem vG (v u:Value) (L M:List (List UInt8)) (b:Bool) (w:World) (hv:fN w v L) (hu:fN w u M) (h:decide (L=M)=b):Calls Tryz.prog 32 #[v,u] w fun e w'=>e= .returned (.bool b)/\Below w.heap.size w w':=by
 rw[<-h]; exact sY v u L M w hv hu
theorem vI (tv:Value) (w:World) (ht:bG (fun _=>True) w tv (dq [97,98,99])) (he:gW w):Calls Tryz.prog 20 #[.agg #[.int .i64 0, .slice none 0 0], .int .i64 10,tv, .string ⟨#[]⟩, .agg #[.int .i64 4, .int .i64 8, .int .i64 4, .int .i64 20, .int .u64 0]] w (jG (.ok ⟨⟨10,bX [bv [97,98,99]]⟩,lR 1,[[97,98,99]],1,0⟩) w):=by
 have h:=mW (fun _=>True) (fun _=>True) ⟨0,[]⟩ (.slice none 0 0) tv 10 (dq [97,98,99]) ⟨#[]⟩ ip w (aR.nil _ _) ht he (by decide) (by simp);rw[show bl ⟨#[]⟩=[]from rfl,zM]at h;exact h
theorem xj : ∀f∈bX [bv [97,98,99]],f.parts.length<=1048576:=by
 intro f hf;simp only[bX,List.mem_cons,List.not_mem_nil,or_false]at hf
 rcases hf with rfl | rfl<;> simp
theorem vJ (S:Nat->Prop) (fv tv:Value) (w:World) (hf:aR S w fv (bX [bv [97,98,99]])) (ht:bG (fun _=>True) w tv (dq [97,98,100])) (he:gW w):Calls Tryz.prog 20 #[.agg #[.int .i64 10,fv], .int .i64 20,tv, .string ⟨#[]⟩, .agg #[.int .i64 4, .int .i64 8, .int .i64 4, .int .i64 20, .int .u64 0]] w (jG (.ok ⟨⟨20,bX [bv [97,98,99]]⟩,[],[],0,1⟩) w):=by
 have h:=mW S (fun _=>True) ⟨10,bX [bv [97,98,99]]⟩ fv tv 20 (dq [97,98,100]) ⟨#[]⟩ ip w hf ht he (by decide) xj;rw[show bl ⟨#[]⟩=[]from rfl,As]at h;exact h
theorem vK (S:Nat->Prop) (fv tv:Value) (w:World) (hf:aR S w fv (bX [bv [97,98,99]])) (ht:bG (fun _=>True) w tv (dq [97,98,100])) (he:gW w):Calls Tryz.prog 20 #[.agg #[.int .i64 10,fv], .int .i64 20,tv, .string ⟨#[100,47]⟩, .agg #[.int .i64 4, .int .i64 8, .int .i64 4, .int .i64 20, .int .u64 0]] w (jG (.ok ⟨⟨20,[]⟩,lR 4,[],0,0⟩) w):=by
 have h:=mW S (fun _=>True) ⟨10,bX [bv [97,98,99]]⟩ fv tv 20 (dq [97,98,100]) ⟨#[100,47]⟩ ip w hf ht he (by decide) xj;rw[show bl ⟨#[100,47]⟩=[100,47]from rfl,At]at h;exact h
theorem fL (w:World) (o:Obj):(w.alloc o).heap.size=w.heap.size+1:=by simp
theorem kA {w:World} {o x:Obj} {k:Nat} (h:w.heap[k]? =some x):(w.alloc o).heap[k]? =some x:=by
 rw[heap_alloc_old _ _ (lt_of_block h)]; exact h
theorem tp {w W:World} {n:Nat} (o p:Obj) (h:Below n w W) (hn:n<=W.heap.size):Below n w ((W.alloc o).alloc p):=
 (h.alloc hn _).alloc (by rw[fL]; omega) _
theorem ua (W:World) (o p:Obj):((W.alloc o).alloc p).heap[W.heap.size+1]? =some p:=by
 rw[<-fL W o]; exact heap_alloc_new _ _
theorem yb {w:World} {rb b c:Nat} {t:TypeId} (h:w.heap[rb]? =some (.cells (nl b).toArray t (0,0))):(w.setCell ⟨rb,10,none⟩ (.slice (some ⟨c,0,none⟩) 3 3)).heap[rb]? =some (.cells (nl c).toArray t (0,0)):=by
 rw[heap_setCell_same _ _ _ _ _ _ h]
 rfl
theorem zd (w:World) (a:Addr) (v:Value) (o:Obj):((w.setCell a v).alloc o).heap[w.heap.size]? =some o:=by
 have h:=heap_alloc_new (w.setCell a v) o;have e:(w.setCell a v).heap.size=w.heap.size:=by simp
 rw[e]at h; exact h
theorem ub {w:World} {a:Addr} {v:Value} {o x:Obj} {k:Nat} (h:w.heap[k]? =some x) (hk:k≠a.block):((w.setCell a v).alloc o).heap[k]? =some x:=
 kA ((heap_setCell_other _ _ _ _ hk).trans h)
theorem zW {w:World} {base b j:Nat} {v fv:Value} {o:Obj} {fs:List ax} (h:bE w base fv fs) (hb:b<base):bE ((w.setCell ⟨b,j,none⟩ v).alloc o) base fv fs:=
 bE.below (h.same fun k _ _ _ hB _ _=>heap_setCell_other _ _ _ _ (by show k≠b; omega)) ((Below.refl _ _).alloc (Nat.le_refl _) _)
theorem Ac {w W:World} {n:Nat} {a:Addr} (v:Value) (o:Obj) (h:Below n w W) (hn:n<=a.block) (hz:n<=W.heap.size):Below n w ((W.setCell a v).alloc o):=
 (h.setCell hn _).alloc (by simpa using hz) _
theorem sI {r:wC} {w w':World} {e:Ending} (h:jG (.ok r) w e w') (hok: ∀p∈r.chg,cU (uh p)): ∃fa fn fc ca cn cc na nc,e= .returned (.tuple #[.agg #[.int .i64 r.idx.tm, .slice fa fn fc, .slice ca cn cc, .slice na r.news.length nc, .int .i64 (r.read:Int), .int .i64 (r.kept:Int)], .int .i64 0])/\Below w.heap.size w w'/\bE w' w.heap.size (.slice fa fn fc) r.idx.files/\aC (fun _=>True) w' (.slice ca cn cc) (r.chg.map uh)/\fN w' (.slice na r.news.length nc) r.news/\cn=r.chg.length:=by
 obtain⟨hb,fv,cv,nv,rfl,hf,hc,hn⟩:=h;obtain⟨zs,-,hz,-⟩:=hf.row;obtain⟨fa,fc,rfl,-,-⟩:=al hz;have hc':=zf hc hok;obtain⟨ca,cc,rfl,-,-⟩:=al hc;obtain⟨ys,hys,hn1,-⟩:=id hn;have hl:ys.length=r.news.length:=by rw[<-hys,List.length_map]
 have hn':=sP hn;obtain⟨na,nc,rfl,-,-⟩:=al hn1;rw[hl]at hn' ⊢;exact⟨fa,_,fc,ca,_,cc,na,nc,rfl,hb,hf,hc',hn',rfl⟩
theorem yA {w:World} {rb b:Nat} {d:List UInt8} {t u:TypeId} {z z':Nat×Nat} (h:w.heap[rb]? =some (.cells #[.slice (some ⟨b,0,none⟩) 3 3] t z')) (hb:w.heap[b]? =some (.cells (d.map aT).toArray u z)) (hd:d.length=3):fN w (.slice (some ⟨rb,0,none⟩) 1 1) [d]:=by
 refine⟨[.slice (some ⟨b,0,none⟩) 3 3],kg (n:=1) (sz:=1) (cells:=[.slice (some ⟨b,0,none⟩) 3 3]) h rfl (by unfold maxLen; omega),fun k y pl hy hp=> ?_⟩
 rcases k with _ | k
 ·cases hy; cases hp
  have h1:=kg (n:=d.length) (sz:=1) (cells:=d.map aT) hb (by simp) (by rw[hd]; unfold maxLen; omega);rw[show Value.slice (some ⟨b,0,none⟩) 3 3= .slice (some ⟨b,0,none⟩) d.length d.length by rw[hd]];exact h1
 ·simp at hy
theorem fN.two {w:World} {v:Value} {L:List (List UInt8)} {o p:Obj} (h:fN w v L):fN ((w.alloc o).alloc p) v L:=h.below (tp _ _ (Below.refl _ _) (Nat.le_refl _))
theorem aC.below' {w w':World} {v:Value} {ps:List bw} (h:aC (fun _=>True) w v ps) (hb:Below w.heap.size w w'):aC (fun _=>True) w' v ps:=by
 obtain⟨cells,h1,h2⟩:=h;exact⟨cells,aJ.below h1 (by omega) hb,h2⟩
theorem ij (w:World) (he:gW w):Calls Tryz.prog 11 #[] w fun e w'=>e= .returned (.bool true)/\Below w.heap.size w w':=by
 have HE:=aa he;have h6:=he.six;clear he
 go_enter Tryz.func11,Tryz.ntmps11
 go_upto_region 2 with fail
 obtain⟨W1,hW1⟩: ∃W1,W1=w.alloc (.cells #[.int .i64 4, .int .i64 8, .int .i64 4, .int .i64 20, .int .u64 0] 48):=⟨_,rfl⟩;rw[<-hW1];have HB1:=aa (show Below w.heap.size w W1 by rw[hW1]; exact(Below.refl _ _).alloc (Nat.le_refl _) _);have HC1:=aa (show W1.heap[w.heap.size]? =some (.cells #[.int .i64 4, .int .i64 8, .int .i64 4, .int .i64 20, .int .u64 0] 48 (0,0)) by rw[hW1]; exact heap_alloc_new w _)
 have hz1:w.heap.size<W1.heap.size:=lt_of_block HC1.out;clear hW1;have hcv:=kx W1 #[.int .u8 97, .int .u8 98, .int .u8 99] 3 3
 go_upto_region 3 with fail
 obtain⟨W3,hW3⟩: ∃W3,W3=(W1.alloc (.cells #[.int .u8 97, .int .u8 98, .int .u8 99] 5 (3,4))).alloc (.cells #[.string ⟨#[100]⟩, .int .i64 2, .int .i64 0, .int .i64 0, .slice none 0 0, .string ⟨#[]⟩, .string ⟨#[100,47,102]⟩, .int .i64 1, .int .i64 0, .int .i64 5, .slice (some ⟨W1.heap.size,0,none⟩) 3 3, .string ⟨#[]⟩] 30):=⟨_,rfl⟩;rw[<-hW3];have HB3:=aa (show Below w.heap.size w W3 by rw[hW3]; exact tp _ _ HB1.out (by omega))
 have HC3:=aa (show W3.heap[w.heap.size]? =some (.cells #[.int .i64 4, .int .i64 8, .int .i64 4, .int .i64 20, .int .u64 0] 48 (0,0)) by rw[hW3]; exact kA (kA HC1.out));have HD3:=aa (show W3.heap[W1.heap.size]? =some (.cells ([97,98,99].map aT).toArray 5 (3,4)) by rw[hW3]; exact kA (heap_alloc_new W1 _));have HT3:=aa (show W3.heap[W1.heap.size+1]? =some (.cells (nl W1.heap.size).toArray 30 (0,0)) by rw[hW3]; exact ua W1 _ _)
 clear hW3;have c0:=ab (k:=0) HC3.out;have c1:=ab (k:=1) HC3.out;have c2:=ab (k:=2) HC3.out;have c3:=ab (k:=3) HC3.out;have c4:=ab (k:=4) HC3.out;simp only[List.getElem?_toArray,bN]at c0 c1 c2 c3 c4;have ht3:=aa (pJ HT3.out HD3.out rfl);go_wp2_with (refine(vI _ _ ht3.out (HE.out.below HB3.out)).mono ?_);intro e w4 h4;obtain⟨fa,fn,fc,ca,cn,cc,na,nc,rfl,hb4,hf4,hc4,hn4,-⟩:=sI h4 (lA (.inl rfl))
 have HB4:=aa hb4;have HF4:=aa hf4;have HP4:=aa hc4;have HN4:=aa hn4;have hz4:=hb4.size;clear h4 hb4 hf4 hc4 hn4
 go_upto_region 4 with fail
 obtain⟨W5,hW5⟩: ∃W5,W5=w4.alloc (.cells #[.int .i64 10, .slice fa fn fc, .slice ca cn cc, .slice na 1 nc, .int .i64 1, .int .i64 0] 54):=⟨_,rfl⟩;rw[<-hW5];have HX5:=aa (show W5.heap[w4.heap.size]? =some (.cells #[.int .i64 10, .slice fa fn fc, .slice ca cn cc, .slice na 1 nc, .int .i64 1, .int .i64 0] 54 (0,0)) by rw[hW5]; exact heap_alloc_new w4 _);have HB5:=aa (show Below w4.heap.size w4 W5 by rw[hW5]; exact(Below.refl _ _).alloc (Nat.le_refl _) _)
 have hz5:W5.heap.size=w4.heap.size+1:=by rw[hW5]; exact fL _ _
 clear hW5;have hcv5:=kx W5 #[.int .u8 97, .int .u8 98, .int .u8 99] 3 3;have HZ5:=aa hz5;clear hz5;have x0:=ab (k:=0) HX5.out;have x1:=ab (k:=1) HX5.out;have x2:=ab (k:=2) HX5.out;have x3:=ab (k:=3) HX5.out;have x4:=ab (k:=4) HX5.out;have x5:=ab (k:=5) HX5.out;simp only[List.getElem?_toArray,bN]at x0 x1 x2 x3 x4 x5;go_wp2_with (refine(vG _ _ [[97,98,99]] [[97,98,99]] true _ (HN4.out.below HB5.out).two (yA (ua _ _ _) (kA (heap_alloc_new _ _)) rfl) (by decide)).mono ?_)
 rintro e w6 ⟨rfl,hb6⟩;have HB6:=aa (show Below W5.heap.size W5 w6 from(tp _ _ (Below.refl _ _) (Nat.le_refl _)).trans (hb6.mono (by rw[fL,fL]; omega)));clear hb6;have HX6:=aa ((HB6.out.block _ (lt_of_block HX5.out)).trans HX5.out);have hz6:=HB6.out.size;have HP6:=aa ((HP4.out.below' HB5.out).below' HB6.out);clear x0 x1 x2 x3 x4 x5;have x0:=ab (k:=0) HX6.out;have x1:=ab (k:=1) HX6.out
 have x2:=ab (k:=2) HX6.out;have x3:=ab (k:=3) HX6.out;have x4:=ab (k:=4) HX6.out;have x5:=ab (k:=5) HX6.out;simp only[List.getElem?_toArray,bN]at x0 x1 x2 x3 x4 x5;go_wp2_with (refine(mV _ _ _ _ ((lR 1).map uh) ((lR 1).map uh) true _ (HP6.out.below' ((Below.refl _ _).alloc (Nat.le_refl _) _)) (tX (l:=lR 1) (heap_alloc_new _ _) (tY 1) (lA (.inl rfl))) (decide_eq_true rfl)).mono ?_)
 rintro e w7 ⟨rfl,hb7⟩;have HB7:=aa (show Below w6.heap.size w6 w7 from((Below.refl _ _).alloc (Nat.le_refl _) _).trans (hb7.mono (by rw[fL]; omega)));clear hb7;have HX7:=aa ((HB7.out.block _ (lt_of_block HX6.out)).trans HX6.out);have hz7:=HB7.out.size;clear x0 x1 x2 x3 x4 x5 hcv5
 go_upto_region 6 with fail
 have hz4s:W3.heap.size<=w7.heap.size:=by have:=HZ5.out; omega
 have HB37:=aa (show Below W3.heap.size W3 w7 from((HB4.out.trans (HB5.out.mono hz4)).trans (HB6.out.mono (by have:=HZ5.out; omega))).trans (HB7.out.mono (by have:=HZ5.out; omega)));have HT7:=aa ((HB37.out.block _ (lt_of_block HT3.out)).trans HT3.out);have HC7:=aa ((HB37.out.block _ (lt_of_block HC3.out)).trans HC3.out);have HF7:=aa (((HF4.out.below HB5.out).below HB6.out).below HB7.out)
 have hcv7:=kx w7 #[.int .u8 97, .int .u8 98, .int .u8 100] 3 3;have hz17:W1.heap.size+1<w7.heap.size:=lt_of_block HT7.out;have f10:w7.frozen? ⟨W1.heap.size+1,10,none⟩=false:=ai HT7.out;have t10:w7.cell? ⟨W1.heap.size+1,10,none⟩=some (.slice (some ⟨W1.heap.size,0,none⟩) 3 3):=wP (k:=10) HT7.out;have hw37:w.heap.size<=W3.heap.size:=HB3.out.size
 clear hz4s
 go_upto_region 7 with fail
 obtain⟨W8,hW8⟩: ∃W8,W8=(w7.setCell ⟨W1.heap.size+1,10,none⟩ (.slice (some ⟨w7.heap.size,0,none⟩) 3 3)).alloc (.cells #[.int .u8 97, .int .u8 98, .int .u8 100] 5 (3,4)):=⟨_,rfl⟩;rw[<-hW8];have HT8:=aa (show W8.heap[W1.heap.size+1]? =some (.cells (nl w7.heap.size).toArray 30 (0,0)) by rw[hW8]; exact kA (yb HT7.out));have HD8:=aa (show W8.heap[w7.heap.size]? =some (.cells ([97,98,100].map aT).toArray 5 (3,4)) by rw[hW8]; exact zd _ _ _ _)
 have hl3:W1.heap.size+1<W3.heap.size:=lt_of_block HT3.out;have HC8:=aa (show W8.heap[w.heap.size]? =some (.cells #[.int .i64 4, .int .i64 8, .int .i64 4, .int .i64 20, .int .u64 0] 48 (0,0)) by rw[hW8]; exact ub HC7.out (by show w.heap.size≠W1.heap.size+1; omega));have HX8:=aa (show W8.heap[w4.heap.size]? =some (.cells #[.int .i64 10, .slice fa fn fc, .slice ca cn cc, .slice na 1 nc, .int .i64 1, .int .i64 0] 54 (0,0)) by rw[hW8]; exact ub HX7.out (by show w4.heap.size≠W1.heap.size+1; omega))
 have HF8:=aa (show bE W8 W3.heap.size (.slice fa fn fc) (bX [bv [97,98,99]]) by rw[hW8]; exact zW HF7.out hl3);have HB8:=aa (show Below w.heap.size w W8 by rw[hW8]; exact Ac _ _ (HB3.out.trans (HB37.out.mono hw37)) (by show w.heap.size<=W1.heap.size+1; omega) (by omega));have HE8:=aa (HE.out.keep HB8.out h6);have hz8:w.heap.size<=W8.heap.size:=HB8.out.size
 clear hW8 hcv7 t10 f10 c0 c1 c2 c3 c4;have x0:=ab (k:=0) HX8.out;have x1:=ab (k:=1) HX8.out;have x2:=ab (k:=2) HX8.out;have x3:=ab (k:=3) HX8.out;have x4:=ab (k:=4) HX8.out;have x5:=ab (k:=5) HX8.out;simp only[List.getElem?_toArray,bN]at x0 x1 x2 x3 x4 x5;have c0:=ab (k:=0) HC8.out;have c1:=ab (k:=1) HC8.out;have c2:=ab (k:=2) HC8.out
 have c3:=ab (k:=3) HC8.out;have c4:=ab (k:=4) HC8.out;simp only[List.getElem?_toArray,bN]at c0 c1 c2 c3 c4;have ht8:=aa (pJ HT8.out HD8.out rfl);go_wp2_with (refine(vJ (fun k=>W3.heap.size<=k) _ _ _ HF8.out.at ht8.out HE8.out).mono ?_);intro e w9 h9;obtain⟨fa2,fn2,fc2,ca2,cn2,cc2,na2,nc2,rfl,hb9,-,-,-,hcn2⟩:=sI h9 (fun p hp=>absurd hp (by simp))
 dsimp only at hcn2
 subst hcn2;have HB9:=aa hb9;have hz9:=hb9.size;clear h9 hb9
 go_upto_region 8 with fail
 obtain⟨WA,hWA⟩: ∃WA,WA=w9.alloc (.cells #[.int .i64 20, .slice fa2 fn2 fc2, .slice ca2 0 cc2, .slice na2 0 nc2, .int .i64 0, .int .i64 1] 54):=⟨_,rfl⟩;rw[<-hWA];have HYA:=aa (show WA.heap[w9.heap.size]? =some (.cells #[.int .i64 20, .slice fa2 fn2 fc2, .slice ca2 0 cc2, .slice na2 0 nc2, .int .i64 0, .int .i64 1] 54 (0,0)) by rw[hWA]; exact heap_alloc_new w9 _);have HBA:=aa (show Below W8.heap.size W8 WA by rw[hWA]; exact HB9.out.alloc hz9 _)
 have HTA:=aa ((HBA.out.block _ (lt_of_block HT8.out)).trans HT8.out);have HDA:=aa ((HBA.out.block _ (lt_of_block HD8.out)).trans HD8.out);have HCA:=aa ((HBA.out.block _ (lt_of_block HC8.out)).trans HC8.out);have HXA:=aa ((HBA.out.block _ (lt_of_block HX8.out)).trans HX8.out);have HFA:=aa (HF8.out.below HBA.out);have HEA:=aa (HE8.out.below HBA.out);have hzA:=HBA.out.size;clear hWA c0 c1 c2 c3 c4 x0 x1 x2 x3 x4 x5
 have x0:=ab (k:=0) HXA.out;have x1:=ab (k:=1) HXA.out;have x2:=ab (k:=2) HXA.out;have x3:=ab (k:=3) HXA.out;have x4:=ab (k:=4) HXA.out;have x5:=ab (k:=5) HXA.out;simp only[List.getElem?_toArray,bN]at x0 x1 x2 x3 x4 x5;have c0:=ab (k:=0) HCA.out;have c1:=ab (k:=1) HCA.out;have c2:=ab (k:=2) HCA.out;have c3:=ab (k:=3) HCA.out
 have c4:=ab (k:=4) HCA.out;simp only[List.getElem?_toArray,bN]at c0 c1 c2 c3 c4;have htA:=aa (pJ HTA.out HDA.out rfl);go_wp2_with (refine(vK (fun k=>W3.heap.size<=k) _ _ _ HFA.out.at htA.out HEA.out).mono ?_);intro e wb hb;obtain⟨fa3,fn3,fc3,ca3,cn3,cc3,na3,nc3,rfl,hbb,-,hcb,-,-⟩:=sI hb (lA (.inr rfl));have HBB:=aa hbb;have HPB:=aa hcb;have hzb:=hbb.size
 clear hb hbb hcb
 go_upto_region 9 with fail
 obtain⟨WC,hWC⟩: ∃WC,WC=wb.alloc (.cells #[.int .i64 20, .slice fa3 fn3 fc3, .slice ca3 cn3 cc3, .slice na3 0 nc3, .int .i64 0, .int .i64 0] 54):=⟨_,rfl⟩;rw[<-hWC];have HZC:=aa (show WC.heap[wb.heap.size]? =some (.cells #[.int .i64 20, .slice fa3 fn3 fc3, .slice ca3 cn3 cc3, .slice na3 0 nc3, .int .i64 0, .int .i64 0] 54 (0,0)) by rw[hWC]; exact heap_alloc_new wb _);have HBC:=aa (show Below WA.heap.size WA WC by rw[hWC]; exact HBB.out.alloc hzb _)
 have HPC:=aa (show aC (fun _=>True) WC (.slice ca3 cn3 cc3) ((lR 4).map uh) by rw[hWC]; exact HPB.out.below' ((Below.refl _ _).alloc (Nat.le_refl _) _));have HYC:=aa ((HBC.out.block _ (lt_of_block HYA.out)).trans HYA.out);have hzC:=HBC.out.size;clear hWC c0 c1 c2 c3 c4 x0 x1 x2 x3 x4 x5;have x0:=ab (k:=0) HYC.out;have x1:=ab (k:=1) HYC.out;have x2:=ab (k:=2) HYC.out
 have x3:=ab (k:=3) HYC.out;have x4:=ab (k:=4) HYC.out;have x5:=ab (k:=5) HYC.out;simp only[List.getElem?_toArray,bN]at x0 x1 x2 x3 x4 x5;have y0:=ab (k:=0) HZC.out;have y1:=ab (k:=1) HZC.out;have y2:=ab (k:=2) HZC.out;have y3:=ab (k:=3) HZC.out;have y4:=ab (k:=4) HZC.out;have y5:=ab (k:=5) HZC.out;simp only[List.getElem?_toArray,bN]at y0 y1 y2 y3 y4 y5
 go_wp2_with (refine(mV _ _ _ _ ((lR 4).map uh) ((lR 4).map uh) true _ (HPC.out.below' ((Below.refl _ _).alloc (Nat.le_refl _) _)) (tX (l:=lR 4) (heap_alloc_new _ _) (tY 4) (lA (.inr rfl))) (decide_eq_true rfl)).mono ?_);rintro e wd ⟨rfl,hbd⟩;have HBD:=aa (show Below w.heap.size w wd from((HB8.out.trans (HBA.out.mono hz8)).trans (HBC.out.mono (by omega))).trans (((Below.refl WC.heap.size WC).alloc (Nat.le_refl _) _).mono (by omega) |>.trans (hbd.mono (by rw[fL]; omega))))
 clear hbd;go_wp2_with fail;go_ret
 first | exact HBD.out | exact⟨rfl,HBD.out⟩
def um (X F E:Obj) (b:Nat) (w:World):Prop:=w.heap[b]? =some X/\w.heap[b+1]? =some F/\w.heap[b+1+1]? =some E
theorem um.below {X F E:Obj} {b:Nat} {w w':World} (h:um X F E b w) (hb:Below w.heap.size w w'):um X F E b w':=
 ⟨(hb.block _ (lt_of_block h.1)).trans h.1,(hb.block _ (lt_of_block h.2.1)).trans h.2.1,(hb.block _ (lt_of_block h.2.2)).trans h.2.2⟩
theorem yz (w:World) (X F E:Obj):um X F E w.heap.size (((w.alloc X).alloc F).alloc E):=by
 obtain⟨-,-,h1,h2,h3⟩:=nj (w:=w) X F E;exact⟨h1,h2,h3⟩
theorem pC {w:World} {base:Nat} {v:Value} {l:List bw} (h:w.ownsRow base 85 2 v l.length (aV l)) (hok: ∀p∈l,cU p):aC (fun _=>True) w v l:=
 ⟨_,(bc h).weak fun _ _=>trivial,dR hok⟩
theorem yd (fv pv dv:Value) (x:eK) (t1:Int) (f:ax) (e:bg) (w:World) (he:gW w) (hf:aR (fun _=>True) w fv x.files) (hps: ∀f∈x.files,f.path.size<=1048576) (hpl: ∀f∈x.files,f.parts.length<=1048576) (hfl:x.files.length<=1048576) (hp:aC (fun _=>True) w pv f.parts) (hok:cu f) (hpn:f.parts.length<=1048576) (hd:bF (fun _=>True) w dv e.data) (heo:fO e):
  Calls Tryz.prog 3 #[fD fv x.tm, .int .i64 t1,cJ pv f,jd dv e] w fun e w'=>e= .returned (.bool true)/\Below w.heap.size w w':=by
 obtain⟨fa,fc,rfl,hfc,hfm,-⟩:=aP.shape hf dT.len;obtain⟨pa,pc,rfl,hpc,hpm,-⟩:=aP.shape hp cR.len;obtain⟨da,dc,rfl,hdc,hdm⟩:=hd.slice;have HE:=aa he;have h6:=he.six;have HF:=aa hf;have HPS:=aa (show ∀f∈x.files,f.path.size<=16777216 from fun f h=>by have:=hps f h; omega);have HPL:=aa hpl;have HFB:=aa (show ∀f∈x.files,f.parts.length<=1125899906842624 from fun f h=>by have:=hpl f h; omega)
 have HP:=aa hp;have HD:=aa hd;have HOK:=aa hok;have HEO:=aa heo;have HPO:=aa (mM hp);have HFPO:=aa (show ∀f∈x.files,∀p∈f.parts,cU p from fun g hg=>by
  obtain⟨k,hk⟩:=List.getElem?_of_mem hg;obtain⟨_,_,_,_,_,_,h3,_⟩:=dk hf (Below.refl _ _) hk;exact mM h3)
 obtain⟨fl,hfl'⟩: ∃n,n=x.files.length:=⟨_,rfl⟩;obtain⟨pl,hpl'⟩: ∃n,n=f.parts.length:=⟨_,rfl⟩;obtain⟨dl,hdl'⟩: ∃n,n=e.data.length:=⟨_,rfl⟩;rw[<-hfl']at HF hfl ⊢;rw[<-hpl']at HP hpn ⊢;rw[<-hdl']at HD ⊢;have HFL:=aa hfl';have HPN:=aa hpl';clear he hf hps hpl hp hd hok heo hfl' hpl' hdl' hfc hfm hpc hpm hdc hdm;unfold fD cJ jd
 go_enter Tryz.func3,Tryz.ntmps3
 go_upto_region 1 with fail
 obtain⟨W1,hW1⟩: ∃W1,W1=((w.alloc (.cells #[.int .i64 x.tm, .slice fa fl fc] 24)).alloc (.cells (aX (.slice pa pl pc) f).toArray 27)).alloc (.cells (cY (.slice da dl dc) e).toArray 30):=⟨_,rfl⟩
 change Code.wp _ _ _ _ (((w.alloc (.cells #[.int .i64 x.tm, .slice fa fl fc] 24)).alloc (.cells (aX (.slice pa pl pc) f).toArray 27)).alloc (.cells (cY (.slice da dl dc) e).toArray 30))
 rw[<-hW1];have HB:=aa (show Below w.heap.size w W1 by rw[hW1]; exact(nj _ _ _).1);have HS1:=aa (show um (.cells #[.int .i64 x.tm, .slice fa fl fc] 24 (0,0)) (.cells (aX (.slice pa pl pc) f).toArray 27 (0,0)) (.cells (cY (.slice da dl dc) e).toArray 30 (0,0)) w.heap.size W1 by rw[hW1]; exact yz _ _ _ _);clear hW1;have p0:=ab (k:=0) HS1.out.1;have p1:=ab (k:=1) HS1.out.1
 simp only[List.getElem?_toArray,bN]at p0 p1;have HF1:=aa (HF.out.below HB.out);go_wp2_with (refine(vT _ x _ _ HF1.out HFB.out).mono ?_);rintro e w2 ⟨rfl,hb2⟩;have HB2:=aa (af HB.out hb2);have HS2:=aa (HS1.out.below hb2);clear hb2 p0 p1;have q6:=ab (k:=6) HS2.out.2.1;simp only[aX,List.getElem?_toArray,bN]at q6
 cases hsh:kG x
 case false=>
  go_wp2_with fail;refine(ij _ (HE.out.keep HB2.out h6)).mono ?_;rintro e wz ⟨rfl,hbz⟩;have HBZ:=aa (af HB2.out hbz);clear hbz;go_wp2_with fail;go_ret;exact⟨rfl,HBZ.out⟩
 by_cases h60:60<pl
 case pos=>
  go_wp2_with fail;refine(ij _ (HE.out.keep HB2.out h6)).mono ?_;rintro e wz ⟨rfl,hbz⟩;have HBZ:=aa (af HB2.out hbz);clear hbz;go_wp2_with fail;go_ret;exact⟨rfl,HBZ.out⟩
 have h60': ¬(60:Int)<(pl:Int):=by omega
 go_upto_region 3 with fail
 refine ey (um (.cells #[.int .i64 x.tm, .slice fa fl fc] 24 (0,0)) (.cells (aX (.slice pa pl pc) f).toArray 27 (0,0)) (.cells (cY (.slice da dl dc) e).toArray 30 (0,0)) w.heap.size) (by kernel_rfl) ?_;obtain⟨V,hV⟩: ∃V:World,V=w2.drew:=⟨_,rfl⟩;rw[<-hV];have hb:Below w2.heap.size w2 V:=by rw[hV]; exact(Below.refl _ _).drew
 have HBV:=aa (af HB2.out hb);have SV:=aa (HS2.out.below hb);clear hV hb q6;refine aO 0 rfl (by kernel_rfl) rfl (fun K hK=> ?_);go_wp2_with (go_at_call 11; refine(ij _ (HE.out.keep HBV.out h6)).mono ?_; rintro e w3 ⟨rfl,hb⟩);have HB3:=aa (af HBV.out hb);have S3:=aa (SV.out.below hb);clear hb;refine⟨S3.out, ?_⟩;refine ag 1 rfl (by kernel_rfl) (by kernel_rfl) (by kernel_rfl) (fun _ _ _ h=>h) rfl S3.out (by rintro w' ⟨hx,hf,he⟩; have x0:=ab (k:=0) hx; have x1:=ab (k:=1) hx; have f0:=ab (k:=0) hf; have f1:=ab (k:=1) hf; have f2:=ab (k:=2) hf; have f3:=ab (k:=3) hf; have f4:=ab (k:=4) hf; have f5:=ab (k:=5) hf; have f6:=ab (k:=6) hf; have e0:=ab (k:=0) he; have e1:=ab (k:=1) he; have e2:=ab (k:=2) he; have e3:=ab (k:=3) he; have e4:=ab (k:=4) he; have e5:=ab (k:=5) he; simp only[aX,cY,List.getElem?_toArray,bN]at x0 x1 f0 f1 f2 f3 f4 f5 f6 e0 e1 e2 e3 e4 e5; clear hx hf he; go_simp; rfl) ?_
 simp only[Act.put,aF,aG,aH];refine ag 2 rfl (by kernel_rfl) (by kernel_rfl) (by kernel_rfl) (fun _ _ _ h=>h) rfl S3.out (by rintro w' ⟨hx,hf,he⟩; have x0:=ab (k:=0) hx; have x1:=ab (k:=1) hx; have f0:=ab (k:=0) hf; have f1:=ab (k:=1) hf; have f2:=ab (k:=2) hf; have f3:=ab (k:=3) hf; have f4:=ab (k:=4) hf; have f5:=ab (k:=5) hf; have f6:=ab (k:=6) hf; have e0:=ab (k:=0) he; have e1:=ab (k:=1) he; have e2:=ab (k:=2) he; have e3:=ab (k:=3) he; have e4:=ab (k:=4) he; have e5:=ab (k:=5) he; simp only[aX,cY,List.getElem?_toArray,bN]at x0 x1 f0 f1 f2 f3 f4 f5 f6 e0 e1 e2 e3 e4 e5; clear hx hf he; go_simp; rfl) ?_
 simp only[Act.put,aF,aG,aH];refine ag 4 rfl (by kernel_rfl) (by kernel_rfl) (by kernel_rfl) (fun _ _ _ h=>h) rfl S3.out (by rintro w' ⟨hx,hf,he⟩; have x0:=ab (k:=0) hx; have x1:=ab (k:=1) hx; have f0:=ab (k:=0) hf; have f1:=ab (k:=1) hf; have f2:=ab (k:=2) hf; have f3:=ab (k:=3) hf; have f4:=ab (k:=4) hf; have f5:=ab (k:=5) hf; have f6:=ab (k:=6) hf; have e0:=ab (k:=0) he; have e1:=ab (k:=1) he; have e2:=ab (k:=2) he; have e3:=ab (k:=3) he; have e4:=ab (k:=4) he; have e5:=ab (k:=5) he; simp only[aX,cY,List.getElem?_toArray,bN]at x0 x1 f0 f1 f2 f3 f4 f5 f6 e0 e1 e2 e3 e4 e5; clear hx hf he; go_simp; rfl) ?_
 simp only[Act.put,aF,aG,aH];refine aO 3 rfl (by kernel_rfl) rfl (fun K hK=> ?_);have HF3:=aa (HF.out.below HB3.out);have HE3:=aa (HE.out.keep HB3.out h6).env;go_wp2_with (go_at_call 12; refine(kk _ x _ _ HF3.out HE3.out).mono ?_; rintro e w4 ⟨rfl,hb⟩);have HB4:=aa (af HB3.out hb);have S4:=aa (S3.out.below hb);clear hb;refine⟨S4.out, ?_⟩;refine aO 5 rfl (by kernel_rfl) rfl (fun K hK=> ?_)
 have HF4:=aa (HF.out.below HB4.out);have hfl4:x.files.length<=1048576:=by rw[<-HFL.out]; exact hfl
 go_wp2_with (go_at_call 14; refine(qG _ x _ _ HF4.out hfl4 HPL.out HFPO.out).mono ?_; rintro e w5 ⟨fv2,rfl,hfo,hb⟩; unfold fD);have HFO:=aa hfo.at
 clear hfo;have HB5:=aa (af HB4.out hb);have S5:=aa (S4.out.below hb);clear hb;refine⟨S5.out, ?_⟩;refine aO 6 rfl (by kernel_rfl) rfl (fun K hK=> ?_);go_wp2_with (go_at_call 13; refine(sX _ x fv2 _ HFO.out HPS.out hfl4 HPL.out).mono ?_; rintro e w6 ⟨rfl,hb⟩);clear HFO;have HB6:=aa (af HB5.out hb);have S6:=aa (S5.out.below hb);clear hb;refine⟨S6.out, ?_⟩
 refine ag 7 rfl (by kernel_rfl) (by kernel_rfl) (by kernel_rfl) (fun _ _ _ h=>h) rfl S6.out (by rintro w' ⟨hx,hf,he⟩; have x0:=ab (k:=0) hx; have x1:=ab (k:=1) hx; have f0:=ab (k:=0) hf; have f1:=ab (k:=1) hf; have f2:=ab (k:=2) hf; have f3:=ab (k:=3) hf; have f4:=ab (k:=4) hf; have f5:=ab (k:=5) hf; have f6:=ab (k:=6) hf; have e0:=ab (k:=0) he; have e1:=ab (k:=1) he; have e2:=ab (k:=2) he; have e3:=ab (k:=3) he; have e4:=ab (k:=4) he; have e5:=ab (k:=5) he; simp only[aX,cY,List.getElem?_toArray,bN]at x0 x1 f0 f1 f2 f3 f4 f5 f6 e0 e1 e2 e3 e4 e5; clear hx hf he; go_simp; rfl) ?_
 simp only[Act.put,aF,aG,aH];refine ag 8 rfl (by kernel_rfl) (by kernel_rfl) (by kernel_rfl) (fun _ _ _ h=>h) rfl S6.out (by rintro w' ⟨hx,hf,he⟩; have x0:=ab (k:=0) hx; have x1:=ab (k:=1) hx; have f0:=ab (k:=0) hf; have f1:=ab (k:=1) hf; have f2:=ab (k:=2) hf; have f3:=ab (k:=3) hf; have f4:=ab (k:=4) hf; have f5:=ab (k:=5) hf; have f6:=ab (k:=6) hf; have e0:=ab (k:=0) he; have e1:=ab (k:=1) he; have e2:=ab (k:=2) he; have e3:=ab (k:=3) he; have e4:=ab (k:=4) he; have e5:=ab (k:=5) he; simp only[aX,cY,List.getElem?_toArray,bN]at x0 x1 f0 f1 f2 f3 f4 f5 f6 e0 e1 e2 e3 e4 e5; clear hx hf he; go_simp; rfl) ?_
 simp only[Act.put,aF,aG,aH];refine ag 9 rfl (by kernel_rfl) (by kernel_rfl) (by kernel_rfl) (fun _ _ _ h=>h) rfl S6.out (by rintro w' ⟨hx,hf,he⟩; have x0:=ab (k:=0) hx; have x1:=ab (k:=1) hx; have f0:=ab (k:=0) hf; have f1:=ab (k:=1) hf; have f2:=ab (k:=2) hf; have f3:=ab (k:=3) hf; have f4:=ab (k:=4) hf; have f5:=ab (k:=5) hf; have f6:=ab (k:=6) hf; have e0:=ab (k:=0) he; have e1:=ab (k:=1) he; have e2:=ab (k:=2) he; have e3:=ab (k:=3) he; have e4:=ab (k:=4) he; have e5:=ab (k:=5) he; simp only[aX,cY,List.getElem?_toArray,bN]at x0 x1 f0 f1 f2 f3 f4 f5 f6 e0 e1 e2 e3 e4 e5; clear hx hf he; go_simp; rfl) ?_
 simp only[Act.put,aF,aG,aH];refine ag 10 rfl (by kernel_rfl) (by kernel_rfl) (by kernel_rfl) (fun _ _ _ h=>h) rfl S6.out (by rintro w' ⟨hx,hf,he⟩; have x0:=ab (k:=0) hx; have x1:=ab (k:=1) hx; have f0:=ab (k:=0) hf; have f1:=ab (k:=1) hf; have f2:=ab (k:=2) hf; have f3:=ab (k:=3) hf; have f4:=ab (k:=4) hf; have f5:=ab (k:=5) hf; have f6:=ab (k:=6) hf; have e0:=ab (k:=0) he; have e1:=ab (k:=1) he; have e2:=ab (k:=2) he; have e3:=ab (k:=3) he; have e4:=ab (k:=4) he; have e5:=ab (k:=5) he; simp only[aX,cY,List.getElem?_toArray,bN]at x0 x1 f0 f1 f2 f3 f4 f5 f6 e0 e1 e2 e3 e4 e5; clear hx hf he; go_simp; rfl) ?_
 simp only[Act.put,aF,aG,aH];refine ag 11 rfl (by kernel_rfl) (by kernel_rfl) (by kernel_rfl) (fun _ _ _ h=>h) rfl S6.out (by rintro w' ⟨hx,hf,he⟩; have x0:=ab (k:=0) hx; have x1:=ab (k:=1) hx; have f0:=ab (k:=0) hf; have f1:=ab (k:=1) hf; have f2:=ab (k:=2) hf; have f3:=ab (k:=3) hf; have f4:=ab (k:=4) hf; have f5:=ab (k:=5) hf; have f6:=ab (k:=6) hf; have e0:=ab (k:=0) he; have e1:=ab (k:=1) he; have e2:=ab (k:=2) he; have e3:=ab (k:=3) he; have e4:=ab (k:=4) he; have e5:=ab (k:=5) he; simp only[aX,cY,List.getElem?_toArray,bN]at x0 x1 f0 f1 f2 f3 f4 f5 f6 e0 e1 e2 e3 e4 e5; clear hx hf he; go_simp; rfl) ?_
 simp only[Act.put,aF,aG,aH];refine ag 12 rfl (by kernel_rfl) (by kernel_rfl) (by kernel_rfl) (fun _ _ _ h=>h) rfl S6.out (by rintro w' ⟨hx,hf,he⟩; have x0:=ab (k:=0) hx; have x1:=ab (k:=1) hx; have f0:=ab (k:=0) hf; have f1:=ab (k:=1) hf; have f2:=ab (k:=2) hf; have f3:=ab (k:=3) hf; have f4:=ab (k:=4) hf; have f5:=ab (k:=5) hf; have f6:=ab (k:=6) hf; have e0:=ab (k:=0) he; have e1:=ab (k:=1) he; have e2:=ab (k:=2) he; have e3:=ab (k:=3) he; have e4:=ab (k:=4) he; have e5:=ab (k:=5) he; simp only[aX,cY,List.getElem?_toArray,bN]at x0 x1 f0 f1 f2 f3 f4 f5 f6 e0 e1 e2 e3 e4 e5; clear hx hf he; go_simp; rfl) ?_
 simp only[Act.put,aF,aG,aH];refine ag 14 rfl (by kernel_rfl) (by kernel_rfl) (by kernel_rfl) (fun _ _ _ h=>h) rfl S6.out (by rintro w' ⟨hx,hf,he⟩; have x0:=ab (k:=0) hx; have x1:=ab (k:=1) hx; have f0:=ab (k:=0) hf; have f1:=ab (k:=1) hf; have f2:=ab (k:=2) hf; have f3:=ab (k:=3) hf; have f4:=ab (k:=4) hf; have f5:=ab (k:=5) hf; have f6:=ab (k:=6) hf; have e0:=ab (k:=0) he; have e1:=ab (k:=1) he; have e2:=ab (k:=2) he; have e3:=ab (k:=3) he; have e4:=ab (k:=4) he; have e5:=ab (k:=5) he; simp only[aX,cY,List.getElem?_toArray,bN]at x0 x1 f0 f1 f2 f3 f4 f5 f6 e0 e1 e2 e3 e4 e5; clear hx hf he; go_simp; rfl) ?_
 simp only[Act.put,aF,aG,aH];refine ag 15 rfl (by kernel_rfl) (by kernel_rfl) (by kernel_rfl) (fun _ _ _ h=>h) rfl S6.out (by rintro w' ⟨hx,hf,he⟩; have x0:=ab (k:=0) hx; have x1:=ab (k:=1) hx; have f0:=ab (k:=0) hf; have f1:=ab (k:=1) hf; have f2:=ab (k:=2) hf; have f3:=ab (k:=3) hf; have f4:=ab (k:=4) hf; have f5:=ab (k:=5) hf; have f6:=ab (k:=6) hf; have e0:=ab (k:=0) he; have e1:=ab (k:=1) he; have e2:=ab (k:=2) he; have e3:=ab (k:=3) he; have e4:=ab (k:=4) he; have e5:=ab (k:=5) he; simp only[aX,cY,List.getElem?_toArray,bN]at x0 x1 f0 f1 f2 f3 f4 f5 f6 e0 e1 e2 e3 e4 e5; clear hx hf he; go_simp; rfl) ?_
 simp only[Act.put,aF,aG,aH];refine ag 17 rfl (by kernel_rfl) (by kernel_rfl) (by kernel_rfl) (fun _ _ _ h=>h) rfl S6.out (by rintro w' ⟨hx,hf,he⟩; have x0:=ab (k:=0) hx; have x1:=ab (k:=1) hx; have f0:=ab (k:=0) hf; have f1:=ab (k:=1) hf; have f2:=ab (k:=2) hf; have f3:=ab (k:=3) hf; have f4:=ab (k:=4) hf; have f5:=ab (k:=5) hf; have f6:=ab (k:=6) hf; have e0:=ab (k:=0) he; have e1:=ab (k:=1) he; have e2:=ab (k:=2) he; have e3:=ab (k:=3) he; have e4:=ab (k:=4) he; have e5:=ab (k:=5) he; simp only[aX,cY,List.getElem?_toArray,bN]at x0 x1 f0 f1 f2 f3 f4 f5 f6 e0 e1 e2 e3 e4 e5; clear hx hf he; go_simp; rfl) ?_
 simp only[Act.put,aF,aG,aH];refine aO 13 rfl (by kernel_rfl) rfl (fun K hK=> ?_);have HP6:=aa (HP.out.below HB6.out);have HD6:=aa (bF.below HD.out HB6.out);go_wp2_with (go_at_call 15; refine(lm _ t1 f _ _ e _ HOK.out HP6.out HD6.out HEO.out).mono ?_; rintro e' w7 ⟨rfl,hb⟩);have HB7:=aa (af HB6.out hb);have S7:=aa (S6.out.below hb);clear hb;refine⟨S7.out, ?_⟩
 refine aO 16 rfl (by kernel_rfl) rfl (fun K hK=> ?_);have HP7:=aa (HP.out.below HB7.out);have hpn7:f.parts.length<=1048576:=by rw[<-HPN.out]; exact hpn
 go_wp2_with (go_at_call 17; refine(ms _ f _ _ HP7.out hpn7).mono ?_; rintro e' w8 ⟨pv2,rfl,hpo,hb⟩; unfold cJ);have HPV:=aa (pC hpo HPO.out);clear hpo;have HB8:=aa (af HB7.out hb);have S8:=aa (S7.out.below hb);clear hb;refine⟨S8.out, ?_⟩;refine aO 18 rfl (by kernel_rfl) rfl (fun K hK=> ?_);have HD8:=aa (bF.below HD.out HB8.out);go_wp2_with (go_at_call 16; refine(nM _ t1 f _ _ e _ HOK.out HPV.out HD8.out HEO.out).mono ?_; rintro e' w9 ⟨rfl,hb⟩)
 clear HPV;have HB9:=aa (af HB8.out hb);have S9:=aa (S8.out.below hb);clear hb;refine⟨S9.out, ?_⟩;refine ag 19 rfl (by kernel_rfl) (by kernel_rfl) (by kernel_rfl) (fun _ _ _ h=>h) rfl S9.out (by rintro w' ⟨hx,hf,he⟩; have x0:=ab (k:=0) hx; have x1:=ab (k:=1) hx; have f0:=ab (k:=0) hf; have f1:=ab (k:=1) hf; have f2:=ab (k:=2) hf; have f3:=ab (k:=3) hf; have f4:=ab (k:=4) hf; have f5:=ab (k:=5) hf; have f6:=ab (k:=6) hf; have e0:=ab (k:=0) he; have e1:=ab (k:=1) he; have e2:=ab (k:=2) he; have e3:=ab (k:=3) he; have e4:=ab (k:=4) he; have e5:=ab (k:=5) he; simp only[aX,cY,List.getElem?_toArray,bN]at x0 x1 f0 f1 f2 f3 f4 f5 f6 e0 e1 e2 e3 e4 e5; clear hx hf he; go_simp; rfl) ?_
 simp only[Act.put,aF,aG,aH];refine ag 20 rfl (by kernel_rfl) (by kernel_rfl) (by kernel_rfl) (fun _ _ _ h=>h) rfl S9.out (by rintro w' ⟨hx,hf,he⟩; have x0:=ab (k:=0) hx; have x1:=ab (k:=1) hx; have f0:=ab (k:=0) hf; have f1:=ab (k:=1) hf; have f2:=ab (k:=2) hf; have f3:=ab (k:=3) hf; have f4:=ab (k:=4) hf; have f5:=ab (k:=5) hf; have f6:=ab (k:=6) hf; have e0:=ab (k:=0) he; have e1:=ab (k:=1) he; have e2:=ab (k:=2) he; have e3:=ab (k:=3) he; have e4:=ab (k:=4) he; have e5:=ab (k:=5) he; simp only[aX,cY,List.getElem?_toArray,bN]at x0 x1 f0 f1 f2 f3 f4 f5 f6 e0 e1 e2 e3 e4 e5; clear hx hf he; go_simp; rfl) ?_
 simp only[Act.put,aF,aG,aH];refine ag 21 rfl (by kernel_rfl) (by kernel_rfl) (by kernel_rfl) (fun _ _ _ h=>h) rfl S9.out (by rintro w' ⟨hx,hf,he⟩; have x0:=ab (k:=0) hx; have x1:=ab (k:=1) hx; have f0:=ab (k:=0) hf; have f1:=ab (k:=1) hf; have f2:=ab (k:=2) hf; have f3:=ab (k:=3) hf; have f4:=ab (k:=4) hf; have f5:=ab (k:=5) hf; have f6:=ab (k:=6) hf; have e0:=ab (k:=0) he; have e1:=ab (k:=1) he; have e2:=ab (k:=2) he; have e3:=ab (k:=3) he; have e4:=ab (k:=4) he; have e5:=ab (k:=5) he; simp only[aX,cY,List.getElem?_toArray,bN]at x0 x1 f0 f1 f2 f3 f4 f5 f6 e0 e1 e2 e3 e4 e5; clear hx hf he; go_simp; rfl) ?_
 simp only[Act.put,aF,aG,aH];refine bM (by kernel_rfl) ?_;go_wp2_with fail;go_ret;exact⟨rfl,HB9.out⟩
end Go.Proofs.YtnjkpcalgoefhaaGreatDoor
namespace Go.Proofs.YtnjkpcalgoefhaaGreatDoor
open Go.ChangeShapes Go.WideShapes Go.ChangeAt Go.RowKit Go.Lib Go.Shelf
open Go.ChangeMaps (open_string shut_string)
section
variable {H : Type} {enc : TypeId × Value → H}
end
def zI :List (String×DataW Unit):=[("math/bits.deBruijn64tab",Rows.laid_math_bits_deBruijn64tab),("kinkeep/sha256.initial",Rows.laid_kinkeep_sha256_initial),("kinkeep/sha256.constants",Rows.laid_kinkeep_sha256_constants),("unicode/utf8.acceptRanges",Rows.laid_unicode_utf8_acceptRanges),("unicode/utf8.first",Rows.laid_unicode_utf8_first)]
theorem own :ownKnob Tryz.prog.godebug=none:=by kernel_rfl
theorem ur :(Rows.laid_unicode_utf8_acceptRanges:DataW Unit)=acceptData:=by kernel_rfl
theorem uv :(Rows.laid_math_bits_deBruijn64tab:DataW Unit)=tabData .u8 (Lib.deBruijn64tab.map fun(n:Nat)=>(n:Int)):=by kernel_rfl
theorem sA :(Rows.laid_kinkeep_sha256_initial:DataW Unit)=tabData .u32 (kM.list.map fun(n:Nat)=>(n:Int)):=by kernel_rfl
theorem pk :(Rows.laid_kinkeep_sha256_constants:DataW Unit)=tabData .u32 (kc.map fun(n:Nat)=>(n:Int)):=by kernel_rfl
theorem kL {P:Program} {w:World} {n:String} {k:IntKind} {zs:List Int} {g:Nat} {t e:TypeId} {N:Nat} (hg:P.globalNamed n=some g) (hty:(P.globals[g]?).map (·.type)=some t)
  (ht:P.underlying t=some (.array N e)) (he:P.underlying e=some (.int k)) (hce:P.cellsOf e=1) (hct:P.cellsOf t=N) (h:VarReads P w n (tabData k zs)) (j:Nat):w.cell? ⟨g,j,none⟩=(zs.map fun z=>Value.int k z)[j]? :=by
 obtain⟨g',t',cs,fuel,p,hg',hty',hvar,hd⟩:=h;obtain rfl:=Option.some.inj (hg.symm.trans hg');obtain rfl:=Option.some.inj (hty.symm.trans hty');rw[World.var?_cell hg hvar j,<-Array.getElem?_toList,cells_of_tab ht he hce hct hd]
theorem pj {w:World} {b k:Nat} {v:Value} (h:w.cell? ⟨b,k,none⟩=some v):b<w.heap.size:=by
 by_cases hb:b<w.heap.size
 ·exact hb
 ·exfalso
  have:w.heap[b]? =none:=Array.getElem?_eq_none (by omega);simp[World.cell?,this]at h
theorem zU {W:World} (hL:laidMetH Tryz.prog zI W) (hsh:W.ShapedOpen Tryz.prog):gW W:=by
 rw[MakeChecks.laidMetH_plain _ _ _ (by kernel_rfl)]at hL;have h1:=Lib.laidMet.reads hL (.head _);have h2:=Lib.laidMet.reads hL (.tail _ (.head _));have h3:=Lib.laidMet.reads hL (.tail _ (.tail _ (.head _)));have h4:=Lib.laidMet.reads hL (.tail _ (.tail _ (.tail _ (.head _))));have h5:=Lib.laidMet.reads hL (.tail _ (.tail _ (.tail _ (.tail _ (.head _)))));rw[uv]at h1;rw[sA]at h2
 rw[pk]at h3;rw[ur]at h4;have c1:=kL (g:=5) (t:=240) (e:=5) (N:=64) (by kernel_rfl) (by kernel_rfl) (by kernel_rfl) (by kernel_rfl) (by kernel_rfl) (by kernel_rfl) h1;have c2:=kL (g:=1) (t:=101) (e:=100) (N:=8) (by kernel_rfl) (by kernel_rfl) (by kernel_rfl) (by kernel_rfl) (by kernel_rfl) (by kernel_rfl) h2;have c3:=kL (g:=4) (t:=156) (e:=100) (N:=64) (by kernel_rfl) (by kernel_rfl) (by kernel_rfl) (by kernel_rfl) (by kernel_rfl) (by kernel_rfl) h3
 have hI:ib W:=fun j x hj=>by
  rw[c2 j];simp[hj,eP]
 have hK:fo W:=fun j x hj=>by
  rw[c3 j];simp[hj,eP]
 have hD:TabAt 5 Lib.deBruijn64tab W:=fun j hj=>by
  rw[c1 j];simp[hj]
 have hi0:=hI 0 0x6a09e667 rfl;have hk0:=hK 0 0x428a2f98 rfl;have hd0:=hD 0 (by decide);refine⟨⟨?_, ?_⟩,hI,hK,pj hi0,pj hk0,⟨hD,pj hd0⟩⟩
 ·exact cell_of_shapedOpen_int (zero:= #[.int .i64 0]) (t:=3) hsh (of_decide_eq_true (by kernel_rfl)) (by kernel_rfl) rfl (by kernel_rfl) (by kernel_rfl) Tryz.underlying3
 ·exact utf8Tabs_of_readsT (U8Types.of196 Tryz.laysValid) ⟨by kernel_rfl,by kernel_rfl,by kernel_rfl,by kernel_rfl,by kernel_rfl,by kernel_rfl,by kernel_rfl⟩ (Pinned.utf8First_eq▸h5) h4
end Go.Proofs.YtnjkpcalgoefhaaGreatDoor
namespace Go.Proofs.YtnjkpcalgoefhaaGreatDoor
open Go.ChangeShapes Go.WideShapes Go.ChangeAt Go.RowKit Go.Lib Go.Shelf
section
variable {H : Type} {enc : TypeId × Value → H} {P : Program} {W : World} {base b0 : Nat} {spare : Nat → Bool} {held : Bool} {v : Value} {d : DataW H} {ps : List MemPlace}
theorem yu (a:Addr) (i j:Nat):(a.add i).add j=a.add (i+j):=by
 unfold Addr.add
 by_cases hi:i=0
 ·simp[hi]
 ·by_cases hj:j=0
  ·simp[hi,hj]
  ·simp[hi,hj]; omega
end
section
variable {H : Type} {enc : TypeId × Value → H} {W : World} {base b0 : Nat} {spare : Nat → Bool} {held : Bool} {v : Value} {d : DataW H} {ps : List MemPlace}
theorem cH {P:Program} {t:TypeId} {fs:Array Field} {fuel:Nat} {cs:List Value} {x:DataW H×List MemPlace} (ht:P.underlying t=some (.struct fs)) (h:DataW.trod enc P W base spare held fuel t cs=some x) (i:Nat) {f:Field} (hf:fs[i]? =some f):
  ∃n y,DataW.trod enc P W base spare held n f.type ((cs.drop f.offset).take (P.cellsOf f.type))=some y:=by
 obtain⟨xs,n,_,_,_,hlen,hF⟩:=DataW.trod_struct ht h;have hi:i<xs.length:=by rw[hlen]; exact(Array.getElem?_eq_some_iff.1 hf).1
 exact⟨n,xs[i],by rw[hF i f hf]; simp[hi]⟩
theorem gJ {P:Program} {t:TypeId} {fs:Array Field} {fuel:Nat} {cs:List Value} {x:DataW H×List MemPlace} (ht:P.underlying t=some (.struct fs)) (h:DataW.trod enc P W base spare held fuel t cs=some x):cs.length=P.cellsOf t:=by
 obtain⟨xs,n,_,_,hl,_,_⟩:=DataW.trod_struct ht h;exact hl
theorem lO :Tryz.prog.cellsOf 9=1:=by kernel_rfl
theorem jL :Tryz.prog.cellsOf 3=1:=by kernel_rfl
theorem yB :Tryz.prog.cellsOf 5=1:=by kernel_rfl
theorem uy :Tryz.prog.cellsOf 28=1:=by kernel_rfl
theorem wQ :Tryz.prog.cellsOf 30=6:=by kernel_rfl
theorem Ao {α:Type} {cs:List α} (h:cs.length=6): ∃c0 c1 c2 c3 c4 c5,cs=[c0,c1,c2,c3,c4,c5]:=by
 match cs,h with
 | [c0,c1,c2,c3,c4,c5],_=>exact⟨c0,c1,c2,c3,c4,c5,rfl⟩
def pM (c:List Value) (b:UInt8):Prop:=c=[aT b]
theorem vj {n:Nat} {cs:List Value} {y:DataW H×List MemPlace} (h:DataW.trod enc Tryz.prog W base spare held n 5 cs=some y): ∃b,pM cs b:=by
 obtain⟨a,e,_,hw⟩:=DataW.trod_int Tryz.underlying5 h;have h1:0<=a/\a<=255:=by
  simp only[Lit.wf,Bool.and_eq_true,decide_eq_true_eq]at hw;exact⟨hw.1,hw.2⟩
 refine⟨UInt8.ofNat a.toNat, ?_⟩;unfold pM;rw[uw (by omega),e,Int.toNat_of_nonneg h1.1]
theorem pi {S:Nat->Prop} {w:World} {v:Value} {bs:List UInt8} (h:aP S w 1 pM v bs):bd S w v bs:=by
 obtain⟨cells,h1,h2⟩:=h;have: ∀(bs:List UInt8) (cells:List Value),aY pM cells bs->cells=bs.map aT:=by
  intro bs
  induction bs with
  | nil=>intro cells h; exact h
  | cons x bs ih=>
   rintro cells ⟨c,rest,rfl,hc,hr⟩;rw[ih rest hr,show c=[aT x]from hc]; rfl
 rw[this bs cells h2]at h1;exact h1
theorem rO {v:Value} {l:List Value} (h:v.cells.toList=l) (hl:1<l.length):v= .agg l.toArray:=by
 cases v
 case agg cs=>simp only[Value.cells]at h; rw[<-h]
 all_goals (exfalso; simp only[Value.cells]at h; rw[<-h]at hl; simp at hl)
theorem si {S:Nat->Prop} {w:World} {v:Value} {bs:List UInt8} (h:bd S w v bs):bF S w v bs:=h
theorem nU :Tryz.prog.cellsOf 62=2:=by kernel_rfl
theorem rW :Tryz.prog.cellsOf 25=1:=by kernel_rfl
theorem nT :Tryz.prog.cellsOf 27=7:=by kernel_rfl
theorem rV :Tryz.prog.cellsOf 22=1:=by kernel_rfl
theorem wR :Tryz.prog.cellsOf 24=2:=by kernel_rfl
theorem zJ {α:Type} {cs:List α} (h:cs.length=2): ∃c0 c1,cs=[c0,c1]:=by
 match cs,h with
 | [c0,c1],_=>exact⟨c0,c1,rfl⟩
theorem Ap {α:Type} {cs:List α} (h:cs.length=7): ∃c0 c1 c2 c3 c4 c5 c6,cs=[c0,c1,c2,c3,c4,c5,c6]:=by
 match cs,h with
 | [c0,c1,c2,c3,c4,c5,c6],_=>exact⟨c0,c1,c2,c3,c4,c5,c6,rfl⟩
theorem mT {α:Type} {R:List Value->α->Prop} {X:α->Prop} : ∀ {xs:List α} {cells:List Value},aY (fun c x=>R c x/\X x) cells xs->aY R cells xs/\ ∀x∈xs,X x
 | [],_,h=>⟨h,by simp⟩
 | x::xs,_,⟨c,rest,e,hx,hr⟩=>by
  obtain⟨h1,h2⟩:=mT hr;refine⟨⟨c,rest,e,hx.1,h1⟩,fun y hy=> ?_⟩
  rcases List.mem_cons.1 hy with rfl | hy
  ·exact hx.2
  ·exact h2 y hy
end
section
variable {H : Type} {enc : TypeId × Value → H} {P : Program} {w : World} {base : Nat} {spare : Nat → Bool} {held : Bool}
end
section
variable {H : Type} {enc : TypeId × Value → H}
theorem AH {C:Checked} {os:Os} {f:FuncId} {fn:Func} {s:OpenSpec} {conds:List PathCond} {apart:Bool} {laid:List (String×DataW Unit)} (modest:Bool) (w0:World) (args:Array Value) (fuel:Nat) (hos:w0.os=os)
  (hsh:(w0.forCall (fun _ _=>0) ⟨#[],args,[]⟩).Shaped C.prog)
  (hok:Input.okWideB C.prog (w0.forCall (fun _ _=>0) ⟨#[],args,[]⟩) f ⟨#[],args,[]⟩=true)
  (hs:(DataW.whole enc C.prog (w0.forCall (fun _ _=>0) ⟨#[],args,[]⟩).memory fn.params.toList s.vars apart args.toList fuel).isSome=true)
  (hconds:conds.all (PathCond.test C.prog ⟨fn.params.toList,(Option.get _ hs).1,s.bare.plain.varTypes C.prog,(Option.get _ hs).2.1⟩)=true) (hkk: ∀k,s.cond=some k->k H ((Option.get _ hs).1++(Option.get _ hs).2.1)=true)
  (hsz:s.bare.sizedB enc C.prog fn apart (w0.forCall (fun _ _=>0) ⟨#[],args,[]⟩).memory args fuel=true) (hl:laidMetH C.prog laid (w0.forCall (fun _ _=>0) ⟨#[],args,[]⟩).memory):
  ∃(w:World) (tape:Tape) (i:Input),w.os=os/\(w.forCall tape i).Shaped C.prog/\i.vars=[]/\Input.okWide C.prog (w.forCall tape i) .any w.heap.size f i/\
   s.preRow enc C.prog fn conds apart laid (w.forCall tape i).memory i.args/\({modest:=modest} :Assume).holds C.prog (lone (Frame.enter C.prog f i.args .normal) [] (w.forCall tape i)):=
 ⟨w0,fun _ _=>0,⟨#[],args,[]⟩,hos,hsh,(Input.okWide_of_okWideB (base:=0) hok).1,(Input.okWide_of_okWideB hok).2,OpenSpec.preRow_of_cond fuel (Option.some_get hs).symm hconds hkk hsz hl,by
  simp only[Assume.holds];exact⟨by simp,by simp,fun _=>Modest.zero,by simp,by simp⟩⟩
end
theorem kv {H:Type} {d:DataW H} {l:List (DataW H)} (h:d∈l):Rows.uptoBulk d<=Rows.uptoBulkAll l:=by
 induction l with
 | nil=>cases h
 | cons x r ih=>
  simp only[Rows.uptoBulkAll]
  cases List.mem_cons.1 h with
  | inl e=>subst e; omega
  | inr e=>have:=ih e; omega
theorem rU {H:Type} {l:List (DataW H)} (hk:Rows.uptoSmall H l=true):Rows.uptoBulkAll l<=1048576:=of_decide_eq_true hk
section
variable {H : Type} {enc : TypeId × Value → H} {P : Program} {W : World} {base b0 : Nat} {spare : Nat → Bool} {held : Bool} {v : Value} {d : DataW H} {ps : List MemPlace}
def nu (d:DataW H):Prop:=Rows.uptoBulk d<=1048576
theorem wO (d:DataW H):1<=Rows.uptoBulk d:=by
 cases d
 case lit l=>cases l<;> simp[Rows.uptoBulk]
 all_goals simp[Rows.uptoBulk]
theorem pT : ∀(l:List (DataW H)),l.length<=Rows.uptoBulkAll l
 | []=>by simp[Rows.uptoBulkAll]
 | d::l=>by
  have h1:=pT l;have h2:=wO d;simp only[Rows.uptoBulkAll,List.length_cons]; omega
theorem mw {l:List (DataW H)} (h:Rows.uptoSmall H l=true) {d:DataW H} (hd:d∈l):nu d:=Nat.le_trans (kv hd) (rU h)
theorem vW {es rest:List (DataW H)} (h:nu (.slice es rest)):es.length<=1048576/\ ∀d∈es,nu d:=by
 unfold nu at h;simp only[Rows.uptoBulk]at h;have h1:=pT es;refine⟨by omega,fun d hd=> ?_⟩;have:=kv hd;unfold nu; omega
theorem yv {ds:List (DataW H)} (h:nu (.agg ds)): ∀d∈ds,nu d:=fun d hd=>by
 unfold nu at h;simp only[Rows.uptoBulk]at h;have:=kv hd;unfold nu; omega
theorem ex {P:Program} {t:TypeId} {fs:Array Field} {fuel:Nat} {cs:List Value} {x:DataW H×List MemPlace} (ht:P.underlying t=some (.struct fs)) (h:DataW.trod enc P W base spare held fuel t cs=some x) (hL:nu x.1) (i:Nat) {f:Field} (hf:fs[i]? =some f):
  ∃n y,DataW.trod enc P W base spare held n f.type ((cs.drop f.offset).take (P.cellsOf f.type))=some y/\nu y.1:=by
 obtain⟨xs,n,_,hx,_,hlen,hF⟩:=DataW.trod_struct ht h;have hi:i<xs.length:=by rw[hlen]; exact(Array.getElem?_eq_some_iff.1 hf).1
 refine⟨n,xs[i],by rw[hF i f hf]; simp[hi], ?_⟩;rw[hx]at hL;exact yv hL _ (List.mem_map.2 ⟨_,List.getElem_mem hi,rfl⟩)
theorem pI {α:Type} {P:Program} {R:List Value->α->Prop} {t e:TypeId} {sz:Nat} {fuel:Nat} {cs0:List Value} {y0:DataW H×List MemPlace} (ht:P.underlying t=some (.slice e)) (hc:P.cellsOf e=sz) (hpos:0<sz)
  (hR: ∀n cs y,DataW.trod enc P W base spare held n e cs=some y->nu y.1-> ∃x,R cs x) (hs: ∀c x,R c x->c.length=sz)
  (hf:DataW.trod enc P W base spare held fuel t cs0=some y0) (hL:nu y0.1): ∃v,cs0=[v]/\ ∃xs:List α,aP (fun _=>True) W sz R v xs/\xs.length<=1048576:=by
 rcases DataW.trod_slice ht hf with⟨hcs,_⟩ | ⟨a,len0,cap0,elems,rest,n,_,hcs,hy0,hb,hl,hm,hlen,hel,_,_⟩
 ·exact⟨_,hcs,[],aP.nil,by simp⟩
 ·refine⟨_,hcs, ?_⟩;rw[hc]at hel;rw[hy0]at hL;obtain⟨hL1,hL2⟩:=vW hL;rw[List.length_map,hlen]at hL1;have each: ∀i,i<len0-> ∃cs x,R cs x/\cs.length=sz/\ ∀j,j<sz->W.cell? (a.add (i*sz+j))=cs[j]? :=by
   intro i hi;have h1:=hel i hi;rw[List.getElem?_eq_getElem (by omega),Option.bind_eq_some_iff]at h1;obtain⟨cs,hcs,hy⟩:=h1;obtain⟨x,hx⟩:=hR n cs _ hy (hL2 _ (List.mem_map.2 ⟨_,List.getElem_mem (by omega),rfl⟩));refine⟨cs,x,hx,hs cs x hx,fun j hj=> ?_⟩;have h3:=World.cells?_some hcs;rw[<-yu];exact h3.2.2 j hj
  have main: ∀m,m<=len0-> ∃(cells:List Value) (xs:List α),xs.length=m/\cells.length=m*sz/\aY R cells xs/\ ∀(j:Nat) u,cells[j]? =some u->W.cell? (a.add j)=some u:=by
   intro m
   induction m with
   | zero=>intro _; exact⟨[],[],rfl,by simp,rfl,fun j u hj=>by simp at hj⟩
   | succ m ih=>
    intro hm;obtain⟨cells,xs,h1,h2,h3,h4⟩:=ih (by omega);obtain⟨cs,x,hx,hcl,hcc⟩:=each m (by omega);refine⟨cells++cs,xs++[x],by simp[h1],by rw[List.length_append,h2,hcl,Nat.add_mul]; omega,aY.snoc h3 hx,fun j u hj=> ?_⟩
    rcases Nat.lt_or_ge j cells.length with hj2 | hj2
    ·rw[List.getElem?_append_left hj2]at hj; exact h4 j u hj
    ·rw[List.getElem?_append_right hj2]at hj;have hlt:=(List.getElem?_eq_some_iff.1 hj).1;have:=hcc (j-cells.length) (by omega);rw[h2,show m*sz+(j-m*sz)=j by omega]at this;rw[this,<-h2]; exact hj
  obtain⟨cells,xs,h1,h2,h3,h4⟩:=main len0 (Nat.le_refl _);subst h1;refine⟨xs,⟨cells,⟨h2,some a,cap0,rfl,hl,hm, ?_⟩,h3⟩,hL1⟩
  rcases Nat.eq_zero_or_pos xs.length with h0 | h0
  ·exact .inl h0
  ·right
   have hpl:0<cells.length:=by rw[h2]; exact Nat.mul_pos h0 hpos
   have hc0:=h4 0 cells[0] (by simp[hpl]);have hsp:a.spot=none:=by simpa [Addr.add]using World.cell?_spot hc0
   obtain⟨b,o,sp⟩:=a;simp only at hsp;subst hsp;refine⟨b,o,rfl,trivial,fun j u hj=> ?_⟩;have:=h4 j u hj;rw[oZ]at this; exact this
end
section
variable {H : Type} {enc : TypeId × Value → H} {W : World} {base b0 : Nat} {spare : Nat → Bool} {held : Bool} {v : Value} {d : DataW H} {ps : List MemPlace}
theorem gI {n:Nat} {t:TypeId} {cs:List Value} {x:DataW H×List MemPlace} {P:Program} (ht:P.underlying t=some .string) (h:DataW.trod enc P W base spare held n t cs=some x) (hL:nu x.1): ∃s:ByteArray,cs=[.string s]/\s.size<=maxLen/\s.size<=1048576:=by
 obtain⟨s,e,hx,hw⟩:=DataW.trod_string ht h;refine⟨s,e,hw, ?_⟩;rw[hx]at hL;unfold nu at hL;simp only[Rows.uptoBulk]at hL;have h4:s.data.toList.length=s.size:=rfl;omega
structure tC (f : ax) : Prop where
 pth:f.path.size<=1048576
 lnk:f.link.size<=1048576
 len:f.parts.length<=1048576
 sum: ∀p∈f.parts,p.sum.size<=1048576
theorem sS {n:Nat} {cs:List Value} {y:DataW H×List MemPlace} (h:DataW.trod enc Tryz.prog W base spare held n 62 cs=some y) (hL:nu y.1): ∃p,cR cs p/\p.sum.size<=1048576:=by
 have hl:=gJ Tryz.underlying62 h;rw[nU]at hl;obtain⟨c0,c1,rfl⟩:=zJ hl;obtain⟨n0,y0,h0,hL0⟩:=ex Tryz.underlying62 h hL 0 rfl;obtain⟨n1,y1,h1⟩:=cH Tryz.underlying62 h 1 rfl;simp only[List.getElem_toArray,List.getElem_cons_zero,List.getElem_cons_succ,lO,jL]at h0 h1;obtain⟨a0,e0,g0,gb⟩:=gI Tryz.underlying9 h0 hL0;obtain⟨a1,e1,_,g1⟩:=DataW.trod_int Tryz.underlying3 h1
 simp at e0 e1;subst e0 e1;exact⟨⟨a0,a1⟩,⟨rfl,⟨g0,g1⟩⟩,gb⟩
theorem mR {n:Nat} {cs:List Value} {y:DataW H×List MemPlace} (h:DataW.trod enc Tryz.prog W base spare held n 27 cs=some y) (hL:nu y.1): ∃f,dT (fun _=>True) W cs f/\tC f:=by
 have hl:=gJ Tryz.underlying27 h;rw[nT]at hl;obtain⟨c0,c1,c2,c3,c4,c5,c6,rfl⟩:=Ap hl;obtain⟨n0,y0,h0,hL0⟩:=ex Tryz.underlying27 h hL 0 rfl;obtain⟨n1,y1,h1⟩:=cH Tryz.underlying27 h 1 rfl;obtain⟨n2,y2,h2⟩:=cH Tryz.underlying27 h 2 rfl;obtain⟨n3,y3,h3⟩:=cH Tryz.underlying27 h 3 rfl;obtain⟨n4,y4,h4⟩:=cH Tryz.underlying27 h 4 rfl
 obtain⟨n5,y5,h5,hL5⟩:=ex Tryz.underlying27 h hL 5 rfl;obtain⟨n6,y6,h6,hL6⟩:=ex Tryz.underlying27 h hL 6 rfl;simp only[List.getElem_toArray,List.getElem_cons_zero,List.getElem_cons_succ,lO,jL,rW]at h0 h1 h2 h3 h4 h5 h6;obtain⟨a0,e0,g0,k0⟩:=gI Tryz.underlying9 h0 hL0;obtain⟨a5,e5,g5,k5⟩:=gI Tryz.underlying9 h5 hL5;obtain⟨a1,e1,_,g1⟩:=DataW.trod_int Tryz.underlying3 h1
 obtain⟨a2,e2,_,g2⟩:=DataW.trod_int Tryz.underlying3 h2;obtain⟨a3,e3,_,g3⟩:=DataW.trod_int Tryz.underlying3 h3;obtain⟨a4,e4,_,g4⟩:=DataW.trod_int Tryz.underlying3 h4;obtain⟨a6,e6,ps,⟨cells,g6,g7⟩,gb⟩:=pI (R:=fun c p=>cR c p/\p.sum.size<=1048576) Tryz.underlying25 nU (by omega) (fun n cs y hy hf=>sS hy hf) (fun c x hx=>cR.len c x hx.1) h6 hL6
 obtain⟨g8,g9⟩:=mT g7;simp at e0 e1 e2 e3 e4 e5 e6;subst e0 e1 e2 e3 e4 e5 e6;exact⟨⟨a0,a1,a2,a3,a4,a5,ps⟩,⟨_,rfl,⟨cells,g6,g8⟩,⟨g0,g5,g1,g2,g3,g4⟩⟩,⟨k0,k5,gb,g9⟩⟩
theorem uU (h:DataW.Trod enc Tryz.prog W base spare held 24 v d ps) (hL:nu d): ∃(fv:Value) (x:eK),v=fD fv x.tm/\aR (fun _=>True) W fv x.files/\(∀f∈x.files,tC f)/\x.files.length<=1048576/\(Lit.int .i64 x.tm).wf=true:=by
 obtain⟨fuel,h⟩:=h;have hl:=gJ Tryz.underlying24 h;rw[wR]at hl;obtain⟨c0,c1,hcs⟩:=zJ hl;rw[hcs]at h;obtain⟨n0,y0,h0⟩:=cH Tryz.underlying24 h 0 rfl;obtain⟨n1,y1,h1,hL1⟩:=ex Tryz.underlying24 h hL 1 rfl;simp only[List.getElem_toArray,List.getElem_cons_zero,List.getElem_cons_succ,rV,jL]at h0 h1;obtain⟨a0,e0,_,g0⟩:=DataW.trod_int Tryz.underlying3 h0
 obtain⟨a1,e1,xs,⟨cells,h2,h3⟩,hn⟩:=pI (R:=fun c f=>dT (fun _=>True) W c f/\tC f) Tryz.underlying22 nT (by omega) (fun n cs y hy hy2=>mR hy hy2) (fun c x hx=>dT.len c x hx.1) h1 hL1;simp at e0 e1;subst e0 e1;obtain⟨h4,h5⟩:=mT h3;exact⟨_,⟨a0,xs⟩,rO hcs (by simp),⟨cells,h2,h4⟩,h5,hn,g0⟩
theorem sG (h:DataW.Trod enc Tryz.prog W base spare held 27 v d ps) (hL:nu d): ∃(pv:Value) (f:ax),v=cJ pv f/\aC (fun _=>True) W pv f.parts/\cu f/\tC f:=by
 obtain⟨fuel,h⟩:=h;obtain⟨f,⟨pv,hc,hp,hok⟩,hs⟩:=mR h hL;exact⟨pv,f,rO hc (by simp),hp,hok,hs⟩
theorem vk {n:Nat} {cs:List Value} {y:DataW H×List MemPlace} (h:DataW.trod enc Tryz.prog W base spare held n 30 cs=some y) (hL:nu y.1): ∃e,jb (fun _=>True) W cs e/\e.path.size<=1048576/\e.data.length<=1048576:=by
 have hl:=gJ Tryz.underlying30 h;rw[wQ]at hl;obtain⟨c0,c1,c2,c3,c4,c5,rfl⟩:=Ao hl;obtain⟨n0,y0,h0,hL0⟩:=ex Tryz.underlying30 h hL 0 rfl;obtain⟨n1,y1,h1⟩:=cH Tryz.underlying30 h 1 rfl;obtain⟨n2,y2,h2⟩:=cH Tryz.underlying30 h 2 rfl;obtain⟨n3,y3,h3⟩:=cH Tryz.underlying30 h 3 rfl;obtain⟨n4,y4,h4,hL4⟩:=ex Tryz.underlying30 h hL 4 rfl
 obtain⟨n5,y5,h5⟩:=cH Tryz.underlying30 h 5 rfl;simp only[List.getElem_toArray,List.getElem_cons_zero,List.getElem_cons_succ,lO,jL,uy]at h0 h1 h2 h3 h4 h5;obtain⟨a0,e0,g0,k0⟩:=gI Tryz.underlying9 h0 hL0;obtain⟨a1,e1,_,g1⟩:=DataW.trod_int Tryz.underlying3 h1;obtain⟨a2,e2,_,g2⟩:=DataW.trod_int Tryz.underlying3 h2;obtain⟨a3,e3,_,g3⟩:=DataW.trod_int Tryz.underlying3 h3
 obtain⟨a4,e4,bs,g4,gb⟩:=pI (R:=pM) Tryz.underlying28 yB (by omega) (fun n cs y hy _=>vj hy) (fun c x hc=>by rw[show c=[aT x]from hc]; rfl) h4 hL4;obtain⟨a5,e5,_,g5⟩:=DataW.trod_string Tryz.underlying9 h5;simp at e0 e1 e2 e3 e4 e5;subst e0 e1 e2 e3 e4 e5;exact⟨⟨a0,a1,a2,a3,bs,a5⟩,⟨_,rfl,si (pi g4),⟨g0,g5,g1,g2,g3⟩⟩,k0,gb⟩
theorem uT (h:DataW.Trod enc Tryz.prog W base spare held 30 v d ps) (hL:nu d): ∃(dv:Value) (e:bg),v=jd dv e/\bF (fun _=>True) W dv e.data/\fO e/\e.path.size<=1048576/\e.data.length<=1048576:=by
 obtain⟨fuel,h⟩:=h;obtain⟨e,⟨dv,hc,hp,hok⟩,hs⟩:=vk h hL;exact⟨dv,e,rO hc (by simp),hp,hok,hs⟩
end
end Go.Proofs.YtnjkpcalgoefhaaGreatDoor
