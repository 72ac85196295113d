/- Texts of this proof, one after the other: RfE, RfF, RcT, RfG, RefK, StrO, CntP, RefN, CntA, CntB, ScnA, ScnX, ScnY, LawCnt, Frame, OpI, FrameU, OpU. -/
import Derived.Test.YtnjkpcalgoefhaaGreatDoorCContentsE
set_option maxRecDepth 100000
set_option maxHeartbeats 8000000
namespace Go.Proofs.YtnjkpcalgoefhaaGreatDoor
open Go.RowKit Go.Maps
theorem kM (S:Nat->Prop) (L:List bi) (v:Value) (p:ByteArray) (x:Int) (w:World) (hv:bG S w v L) (hx:dq L p 0=x):
  Calls Tryz.prog 104 #[v, .string p] w fun e w'=>e= .returned (.int .i64 x)/\Below w.heap.size w w':=by
 rw[<-hx]; exact tD S L v p w hv
theorem lN (L:List bi) (p:ByteArray):fi L (bl p)=if bl p=[]then 0 else match dD L p with
 | none=>4
 | some e=>if e.kind=2 then 0 else 13:=by
 unfold fi;rw[lp]
 cases dD L p<;> rfl
theorem vR (S:Nat->Prop) (L:List bi) (v:Value) (p:ByteArray) (w:World) (hv:bG S w v L):
  Calls Tryz.prog 68 #[v, .string p] w fun e w'=>e= .returned (.int .i64 (fi L (bl p)))/\Below w.heap.size w w':=by
 have HV:=aa hv
 by_cases h0:bl p=[]
 ·have e1:p.toList.isEmpty=true:=by rw[fT,decide_eq_true h0]
  have HR:=aa (show fi L (bl p)=0 by rw[lN,if_pos h0]);clear h0 hv
  go_enter Tryz.func68,Tryz.ntmps68
  go_wp2_with fail;go_ret;exact⟨bd HR.out.symm,Below.refl _ _⟩
 ·have e1:p.toList.isEmpty=false:=by rw[fT,decide_eq_false h0]
  rcases lj (p:=p) L 0 with⟨h1,h2⟩ | ⟨j,f,h1,h2,h3⟩
  ·have HR:=aa (show fi L (bl p)=4 by rw[lN,if_neg h0,h1]);have HI:=aa h2;clear h0 h1 h2 hv
   go_enter Tryz.func68,Tryz.ntmps68
   go_wp2_with (go_at_call 104; refine(kM S L v p (-1) _ HV.out HI.out).mono ?_; rintro e w1 ⟨rfl,hb1⟩; have HB1:=aa hb1; clear hb1);go_ret;exact⟨bd HR.out.symm,HB1.out⟩
  ·have HI:=aa (show dq L p 0=(j:Int) by rw[h3]; simp);obtain⟨a,cap,rfl,hc,hm,-⟩:=aP.shape hv jx.len;have hjl:j<L.length:=(List.getElem?_eq_some_iff.1 h2).1;obtain⟨n,hn⟩: ∃n,n=L.length:=⟨_,rfl⟩;rw[<-hn]at HV hc hjl ⊢;obtain⟨b,o,dv,rfl,-,hb,-,-,-,q0,q1,q2,q3,q4,q5⟩:=gE HV.out h2;unfold maxLen at hm
   by_cases hk:f.kind=2
   ·have HR:=aa (show fi L (bl p)=0 by rw[lN,if_neg h0,h1]; simp only[if_pos hk]);have e2:(f.kind != 2)=false:=by simp[hk]
    clear h0 h1 h2 h3 hv hk hn q0 q2 q3 q4 q5
    go_enter Tryz.func68,Tryz.ntmps68
    go_wp2_with (go_at_call 104; refine(kM S L _ p j _ HV.out HI.out).mono ?_; rintro e w1 ⟨rfl,hb1⟩; have q9:=(hb1.cell (ay q1)).trans q1; have HB1:=aa hb1; clear hb1);go_ret;exact⟨bd HR.out.symm,HB1.out⟩
   ·have HR:=aa (show fi L (bl p)=13 by rw[lN,if_neg h0,h1]; simp only[if_neg hk]);have e2:(f.kind != 2)=true:=by simp[hk]
    clear h0 h1 h2 h3 hv hk hn q0 q2 q3 q4 q5
    go_enter Tryz.func68,Tryz.ntmps68
    go_wp2_with (go_at_call 104; refine(kM S L _ p j _ HV.out HI.out).mono ?_; rintro e w1 ⟨rfl,hb1⟩; have q9:=(hb1.cell (ay q1)).trans q1; have HB1:=aa hb1; clear hb1);go_ret;exact⟨bd HR.out.symm,HB1.out⟩
theorem bQ (s:ByteArray) (b:Bool) (w:World) (hs:s.size<=16777216) (h:bv (bl s)=b):Calls Tryz.prog 103 #[.string s] w fun e w'=>e= .returned (.bool b)/\Below w.heap.size w w':=by
 rw[<-h]; exact rO s w hs
theorem mR {l:List UInt8} :l.contains 0=false<-> ∀k:Nat,∀b,l[k]? =some b->b≠0:=by
 rw[Bool.eq_false_iff,ne_eq,List.contains_iff_mem,List.mem_iff_getElem?]
 constructor
 ·intro h k b hb e; subst e; exact h ⟨k,hb⟩
 ·rintro h ⟨k,hk⟩; exact h k 0 hk rfl
theorem su {en:bi} (h:(en.kind=1\/en.kind=2\/en.kind=3)/\en.data.length<=1048576/\(en.kind=1\/en.data.length=0)) (hz:(bl en.link).contains 0=false):dQ en=((decide (en.kind=3) == decide (en.link.size≠0)) && decide (en.link.size<=512)):=by
 obtain⟨h1,h2,h3⟩:=h;unfold dQ iO;rw[hz,<-am]
 rcases h1 with h1 | h1 | h1
 ·rw[if_pos h1,decide_eq_true h2,h1]
  by_cases hs:en.link.size=0
  ·simp[hs]
  ·simp[hs]
 ·have h4:en.data.length=0:=h3.resolve_left (by omega);rw[if_neg (by omega),if_pos h1,decide_eq_true h4,h1]
  by_cases hs:en.link.size=0
  ·simp[hs]
  ·simp[hs]
 ·have h4:en.data.length=0:=h3.resolve_left (by omega);rw[if_neg (by omega),if_neg (by omega),if_pos h1,decide_eq_true h4,h1]
  by_cases hs:en.link.size=0
  ·simp[hs]
  ·rw[decide_eq_true (by omega:1<=en.link.size)];simp[hs]
theorem pZ (S:Nat->Prop) (en:bi) (v:Value) (w:World) (hd:bU S w v en.data) (hok:ic en) (hps:en.path.size<=16777216):Calls Tryz.prog 67 #[mF v en] w fun e w'=>e= .returned (.bool (bR en))/\Below w.heap.size w w':=by
 obtain⟨a,cap,rfl,hc,hm⟩:=hd.slice;unfold maxLen at hm;have HPS:=aa hps;have hlk:=hok.lnk;unfold maxLen at hlk;clear hok;unfold mF
 cases hv:bv (bl en.path)
 ·have HV:=aa hv;have HF:=aa (show bR en=false by unfold bR; rw[hv]; rfl);clear hv
  go_enter Tryz.func67,Tryz.ntmps67
  go_wp2_with fail;obtain⟨W,hW⟩: ∃W,W=w.alloc (.cells #[.string en.path, .int .i64 en.kind, .int .i64 en.mode, .int .i64 en.time, .slice a en.data.length cap, .string en.link] 30):=⟨_,rfl⟩;rw[<-hW];have HBW:=aa (show Below w.heap.size w W by rw[hW]; exact(Below.refl _ _).alloc (Nat.le_refl _) _);have HBX:=aa (show W.heap[w.heap.size]? =some (.cells #[.string en.path, .int .i64 en.kind, .int .i64 en.mode, .int .i64 en.time, .slice a en.data.length cap, .string en.link] 30 (0,0)) by rw[hW]; exact cX w _)
  clear hW;refine(bQ en.path false _ HPS.out HV.out).mono ?_;rintro e w1 ⟨rfl,hb1⟩;have HB1:=aa (ac HBW.out hb1);clear hb1;go_wp2_with fail;go_ret;exact⟨ak (by rw[HF.out]),HB1.out⟩
 have HV:=aa hv
 by_cases h1:en.mode<0
 ·have e1:decide (en.mode<0)=true:=by simp[h1]
  have HF:=aa (show bR en=false by unfold bR gL; rw[decide_eq_false (by omega: ¬0<=en.mode)]; simp);clear hv
  go_enter Tryz.func67,Tryz.ntmps67
  go_wp2_with fail;obtain⟨W,hW⟩: ∃W,W=w.alloc (.cells #[.string en.path, .int .i64 en.kind, .int .i64 en.mode, .int .i64 en.time, .slice a en.data.length cap, .string en.link] 30):=⟨_,rfl⟩;rw[<-hW];have HBW:=aa (show Below w.heap.size w W by rw[hW]; exact(Below.refl _ _).alloc (Nat.le_refl _) _);have HBX:=aa (show W.heap[w.heap.size]? =some (.cells #[.string en.path, .int .i64 en.kind, .int .i64 en.mode, .int .i64 en.time, .slice a en.data.length cap, .string en.link] 30 (0,0)) by rw[hW]; exact cX w _)
  clear hW;refine(bQ en.path true _ HPS.out HV.out).mono ?_;rintro e w1 ⟨rfl,hb1⟩;have HB1:=aa (ac HBW.out hb1);have HX1:=aa ((hb1.block w.heap.size (dM HBX.out)).trans HBX.out);clear hb1;have c0:=ah (k:=0) HX1.out;have c1:=ah (k:=1) HX1.out;have c2:=ah (k:=2) HX1.out;have c3:=ah (k:=3) HX1.out;have c4:=ah (k:=4) HX1.out;have c5:=ah (k:=5) HX1.out
  simp only[eX]at c0 c1 c2 c3 c4 c5;go_wp2_with fail;go_ret;exact⟨ak (by rw[HF.out]),HB1.out⟩
 have e1:decide (en.mode<0)=false:=by simp[h1]
 by_cases h2:511<en.mode
 ·have e2:decide (511<en.mode)=true:=by simp[h2]
  have HF:=aa (show bR en=false by unfold bR gL; rw[decide_eq_false (by omega: ¬en.mode<=511)]; simp);clear hv
  go_enter Tryz.func67,Tryz.ntmps67
  go_wp2_with fail;obtain⟨W,hW⟩: ∃W,W=w.alloc (.cells #[.string en.path, .int .i64 en.kind, .int .i64 en.mode, .int .i64 en.time, .slice a en.data.length cap, .string en.link] 30):=⟨_,rfl⟩;rw[<-hW];have HBW:=aa (show Below w.heap.size w W by rw[hW]; exact(Below.refl _ _).alloc (Nat.le_refl _) _);have HBX:=aa (show W.heap[w.heap.size]? =some (.cells #[.string en.path, .int .i64 en.kind, .int .i64 en.mode, .int .i64 en.time, .slice a en.data.length cap, .string en.link] 30 (0,0)) by rw[hW]; exact cX w _)
  clear hW;refine(bQ en.path true _ HPS.out HV.out).mono ?_;rintro e w1 ⟨rfl,hb1⟩;have HB1:=aa (ac HBW.out hb1);have HX1:=aa ((hb1.block w.heap.size (dM HBX.out)).trans HBX.out);clear hb1;have c0:=ah (k:=0) HX1.out;have c1:=ah (k:=1) HX1.out;have c2:=ah (k:=2) HX1.out;have c3:=ah (k:=3) HX1.out;have c4:=ah (k:=4) HX1.out;have c5:=ah (k:=5) HX1.out
  simp only[eX]at c0 c1 c2 c3 c4 c5;go_wp2_with fail;go_ret;exact⟨ak (by rw[HF.out]),HB1.out⟩
 have e2:decide (511<en.mode)=false:=by simp[h2]
 by_cases h3:en.time<0
 ·have e3:decide (en.time<0)=true:=by simp[h3]
  have HF:=aa (show bR en=false by unfold bR gL; rw[decide_eq_false (by omega: ¬0<=en.time)]; simp);clear hv
  go_enter Tryz.func67,Tryz.ntmps67
  go_wp2_with fail;obtain⟨W,hW⟩: ∃W,W=w.alloc (.cells #[.string en.path, .int .i64 en.kind, .int .i64 en.mode, .int .i64 en.time, .slice a en.data.length cap, .string en.link] 30):=⟨_,rfl⟩;rw[<-hW];have HBW:=aa (show Below w.heap.size w W by rw[hW]; exact(Below.refl _ _).alloc (Nat.le_refl _) _);have HBX:=aa (show W.heap[w.heap.size]? =some (.cells #[.string en.path, .int .i64 en.kind, .int .i64 en.mode, .int .i64 en.time, .slice a en.data.length cap, .string en.link] 30 (0,0)) by rw[hW]; exact cX w _)
  clear hW;refine(bQ en.path true _ HPS.out HV.out).mono ?_;rintro e w1 ⟨rfl,hb1⟩;have HB1:=aa (ac HBW.out hb1);have HX1:=aa ((hb1.block w.heap.size (dM HBX.out)).trans HBX.out);clear hb1;have c0:=ah (k:=0) HX1.out;have c1:=ah (k:=1) HX1.out;have c2:=ah (k:=2) HX1.out;have c3:=ah (k:=3) HX1.out;have c4:=ah (k:=4) HX1.out;have c5:=ah (k:=5) HX1.out
  simp only[eX]at c0 c1 c2 c3 c4 c5;go_wp2_with fail;go_ret;exact⟨ak (by rw[HF.out]),HB1.out⟩
 have e3:decide (en.time<0)=false:=by simp[h3]
 by_cases h4:en.kind<1
 ·have e4:decide (en.kind<1)=true:=by simp[h4]
  have HF:=aa (show bR en=false by unfold bR dQ; rw[if_neg (by omega),if_neg (by omega),if_neg (by omega)]; simp);clear hv
  go_enter Tryz.func67,Tryz.ntmps67
  go_wp2_with fail;obtain⟨W,hW⟩: ∃W,W=w.alloc (.cells #[.string en.path, .int .i64 en.kind, .int .i64 en.mode, .int .i64 en.time, .slice a en.data.length cap, .string en.link] 30):=⟨_,rfl⟩;rw[<-hW];have HBW:=aa (show Below w.heap.size w W by rw[hW]; exact(Below.refl _ _).alloc (Nat.le_refl _) _);have HBX:=aa (show W.heap[w.heap.size]? =some (.cells #[.string en.path, .int .i64 en.kind, .int .i64 en.mode, .int .i64 en.time, .slice a en.data.length cap, .string en.link] 30 (0,0)) by rw[hW]; exact cX w _)
  clear hW;refine(bQ en.path true _ HPS.out HV.out).mono ?_;rintro e w1 ⟨rfl,hb1⟩;have HB1:=aa (ac HBW.out hb1);have HX1:=aa ((hb1.block w.heap.size (dM HBX.out)).trans HBX.out);clear hb1;have c0:=ah (k:=0) HX1.out;have c1:=ah (k:=1) HX1.out;have c2:=ah (k:=2) HX1.out;have c3:=ah (k:=3) HX1.out;have c4:=ah (k:=4) HX1.out;have c5:=ah (k:=5) HX1.out
  simp only[eX]at c0 c1 c2 c3 c4 c5;go_wp2_with fail;go_ret;exact⟨ak (by rw[HF.out]),HB1.out⟩
 have e4:decide (en.kind<1)=false:=by simp[h4]
 by_cases h5:3<en.kind
 ·have e5:decide (3<en.kind)=true:=by simp[h5]
  have HF:=aa (show bR en=false by unfold bR dQ; rw[if_neg (by omega),if_neg (by omega),if_neg (by omega)]; simp);clear hv
  go_enter Tryz.func67,Tryz.ntmps67
  go_wp2_with fail;obtain⟨W,hW⟩: ∃W,W=w.alloc (.cells #[.string en.path, .int .i64 en.kind, .int .i64 en.mode, .int .i64 en.time, .slice a en.data.length cap, .string en.link] 30):=⟨_,rfl⟩;rw[<-hW];have HBW:=aa (show Below w.heap.size w W by rw[hW]; exact(Below.refl _ _).alloc (Nat.le_refl _) _);have HBX:=aa (show W.heap[w.heap.size]? =some (.cells #[.string en.path, .int .i64 en.kind, .int .i64 en.mode, .int .i64 en.time, .slice a en.data.length cap, .string en.link] 30 (0,0)) by rw[hW]; exact cX w _)
  clear hW;refine(bQ en.path true _ HPS.out HV.out).mono ?_;rintro e w1 ⟨rfl,hb1⟩;have HB1:=aa (ac HBW.out hb1);have HX1:=aa ((hb1.block w.heap.size (dM HBX.out)).trans HBX.out);clear hb1;have c0:=ah (k:=0) HX1.out;have c1:=ah (k:=1) HX1.out;have c2:=ah (k:=2) HX1.out;have c3:=ah (k:=3) HX1.out;have c4:=ah (k:=4) HX1.out;have c5:=ah (k:=5) HX1.out
  simp only[eX]at c0 c1 c2 c3 c4 c5;go_wp2_with fail;go_ret;exact⟨ak (by rw[HF.out]),HB1.out⟩
 have e5:decide (3<en.kind)=false:=by simp[h5]
 have HHD:=aa (show bR en=dQ en by
  unfold bR gL;rw[hv,decide_eq_true (by omega:0<=en.mode),decide_eq_true (by omega:en.mode<=511),decide_eq_true (by omega:0<=en.time)]; simp)
 by_cases h6:en.kind≠1/\0<en.data.length
 ·have e6:(en.kind != 1)=true:=by simp[h6.1]
  have e7:decide (0<en.data.length)=true:=by simp[h6.2]
  have e8:0<en.data.length:=h6.2;have HF:=aa (show bR en=false by
   rw[HHD.out]; unfold dQ; rw[if_neg h6.1,decide_eq_false (by omega: ¬en.data.length=0)]; simp)
  clear hv h6
  go_enter Tryz.func67,Tryz.ntmps67
  go_wp2_with fail;obtain⟨W,hW⟩: ∃W,W=w.alloc (.cells #[.string en.path, .int .i64 en.kind, .int .i64 en.mode, .int .i64 en.time, .slice a en.data.length cap, .string en.link] 30):=⟨_,rfl⟩;rw[<-hW];have HBW:=aa (show Below w.heap.size w W by rw[hW]; exact(Below.refl _ _).alloc (Nat.le_refl _) _);have HBX:=aa (show W.heap[w.heap.size]? =some (.cells #[.string en.path, .int .i64 en.kind, .int .i64 en.mode, .int .i64 en.time, .slice a en.data.length cap, .string en.link] 30 (0,0)) by rw[hW]; exact cX w _)
  clear hW;refine(bQ en.path true _ HPS.out HV.out).mono ?_;rintro e w1 ⟨rfl,hb1⟩;have HB1:=aa (ac HBW.out hb1);have HX1:=aa ((hb1.block w.heap.size (dM HBX.out)).trans HBX.out);clear hb1;have c0:=ah (k:=0) HX1.out;have c1:=ah (k:=1) HX1.out;have c2:=ah (k:=2) HX1.out;have c3:=ah (k:=3) HX1.out;have c4:=ah (k:=4) HX1.out;have c5:=ah (k:=5) HX1.out
  simp only[eX]at c0 c1 c2 c3 c4 c5;go_wp2_with fail;go_ret;exact⟨ak (by rw[HF.out]),HB1.out⟩
 by_cases h7:1048576<en.data.length
 ·have hk1:en.kind=1:=by
   by_cases hk:en.kind=1
   ·exact hk
   ·exact absurd ⟨hk,by omega⟩ h6
  have e6:(en.kind != 1)=false:=by simp[hk1]
  have e7:decide (1048576<en.data.length)=true:=by simp[h7]
  have HF:=aa (show bR en=false by
   rw[HHD.out]; unfold dQ; rw[if_pos hk1,decide_eq_false (by omega: ¬en.data.length<=1048576)]; simp)
  clear hv h6 hk1
  go_enter Tryz.func67,Tryz.ntmps67
  go_wp2_with fail;obtain⟨W,hW⟩: ∃W,W=w.alloc (.cells #[.string en.path, .int .i64 en.kind, .int .i64 en.mode, .int .i64 en.time, .slice a en.data.length cap, .string en.link] 30):=⟨_,rfl⟩;rw[<-hW];have HBW:=aa (show Below w.heap.size w W by rw[hW]; exact(Below.refl _ _).alloc (Nat.le_refl _) _);have HBX:=aa (show W.heap[w.heap.size]? =some (.cells #[.string en.path, .int .i64 en.kind, .int .i64 en.mode, .int .i64 en.time, .slice a en.data.length cap, .string en.link] 30 (0,0)) by rw[hW]; exact cX w _)
  clear hW;refine(bQ en.path true _ HPS.out HV.out).mono ?_;rintro e w1 ⟨rfl,hb1⟩;have HB1:=aa (ac HBW.out hb1);have HX1:=aa ((hb1.block w.heap.size (dM HBX.out)).trans HBX.out);clear hb1;have c0:=ah (k:=0) HX1.out;have c1:=ah (k:=1) HX1.out;have c2:=ah (k:=2) HX1.out;have c3:=ah (k:=3) HX1.out;have c4:=ah (k:=4) HX1.out;have c5:=ah (k:=5) HX1.out
  simp only[eX]at c0 c1 c2 c3 c4 c5;go_wp2_with fail;go_ret;exact⟨ak (by rw[HF.out]),HB1.out⟩
 have e7:decide (1048576<en.data.length)=false:=by simp; omega
 have HKD:=aa (show(en.kind=1\/en.kind=2\/en.kind=3)/\en.data.length<=1048576/\(en.kind=1\/en.data.length=0)from⟨by omega,by omega,by
  by_cases hk:en.kind=1
  ·exact .inl hk
  ·exact .inr (by rcases Nat.eq_zero_or_pos en.data.length with h | h; exact h; exact absurd ⟨hk,h⟩ h6)⟩)
 clear hv
 by_cases hk1:en.kind=1
 ·have e6:(en.kind != 1)=false:=by simp[hk1]
  clear h6 hk1
  go_enter Tryz.func67,Tryz.ntmps67
  go_wp2_with fail;obtain⟨W,hW⟩: ∃W,W=w.alloc (.cells #[.string en.path, .int .i64 en.kind, .int .i64 en.mode, .int .i64 en.time, .slice a en.data.length cap, .string en.link] 30):=⟨_,rfl⟩;rw[<-hW];have HBW:=aa (show Below w.heap.size w W by rw[hW]; exact(Below.refl _ _).alloc (Nat.le_refl _) _);have HBX:=aa (show W.heap[w.heap.size]? =some (.cells #[.string en.path, .int .i64 en.kind, .int .i64 en.mode, .int .i64 en.time, .slice a en.data.length cap, .string en.link] 30 (0,0)) by rw[hW]; exact cX w _)
  clear hW;refine(bQ en.path true _ HPS.out HV.out).mono ?_;rintro e w1 ⟨rfl,hb1⟩;have HB1:=aa (ac HBW.out hb1);have HX1:=aa ((hb1.block w.heap.size (dM HBX.out)).trans HBX.out);clear hb1;have c0:=ah (k:=0) HX1.out;have c1:=ah (k:=1) HX1.out;have c2:=ah (k:=2) HX1.out;have c3:=ah (k:=3) HX1.out;have c4:=ah (k:=4) HX1.out;have c5:=ah (k:=5) HX1.out
  simp only[eX]at c0 c1 c2 c3 c4 c5;go_wp2_with fail
  go_loopw [3] (fun i wr=> ∃k:Nat,k<=en.link.size/\i= .int .i64 k/\(∀j b,j<k->(bl en.link)[j]? =some b->b≠0)/\Below w1.heap.size w1 wr) (fun i _=>en.link.size-(intOf i).toNat)
  case atStart=>exact⟨0,Nat.zero_le _,rfl,fun _ _ h=>absurd h (Nat.not_lt_zero _),Below.refl _ _⟩
  case round=>
   obtain⟨k,hk,rfl,hz,hbr⟩:=hrel;have HZ:=aa hz;have HBR:=aa hbr;have HXR:=aa ((hbr.block w.heap.size (dM HX1.out)).trans HX1.out);clear hz hbr c0 c1 c2 c3 c4 c5;have c0:=ah (k:=0) HXR.out;have c1:=ah (k:=1) HXR.out;have c2:=ah (k:=2) HXR.out;have c3:=ah (k:=3) HXR.out;have c4:=ah (k:=4) HXR.out;have c5:=ah (k:=5) HXR.out;simp only[eX]at c0 c1 c2 c3 c4 c5
   by_cases hlt:k<en.link.size
   ·have HBY:=aa (show(bl en.link)[k]? =some en.link[k] by rw[List.getElem?_eq_getElem (by rw[<-am]; exact hlt)]; rfl)
    by_cases h0:(en.link[k]'hlt).toNat=0
    ·have HF:=aa (show bR en=false by
      rw[HHD.out];unfold dQ;have hne: ¬en.link.size=0:=by omega
      have hct:(bl en.link).contains 0=true:=by
       have h9:en.link[k]'hlt=0:=UInt8.toNat_inj.1 h0;have:=HBY.out;rw[h9]at this;exact List.contains_iff_mem.2 (List.mem_of_getElem? this)
      rw[decide_eq_false hne];unfold iO;rw[hct]
      simp)
     go_wp2_with fail;go_ret;exact⟨ak (by rw[HF.out]),ac HB1.out HBR.out⟩
    ·have HNZ:=aa h0;go_wp2_with fail
     go_roundw
     case rel=>
      refine⟨k+1,by omega,by go_num,fun j b hj hb e=> ?_,HBR.out⟩
      by_cases hjk:j=k
      ·subst hjk;rw[HBY.out]at hb;have:=Option.some.inj hb;subst this;exact HNZ.out (by rw[e]; rfl)
      ·exact HZ.out j b (by omega) hb e
     case measure=>simp[intOf]; omega
   ·have hk2:k=en.link.size:=by omega
    have HNO:=aa (show(bl en.link).contains 0=false from mR.2 (fun j b hj e=>by
     have h1:=(List.getElem?_eq_some_iff.1 hj).1;exact HZ.out j b (by rw[hk2,am]; exact h1) hj e))
    have HVK:=aa (su HKD.out HNO.out);have HEM:=aa (show en.link.toList.isEmpty= !decide (en.link.size≠0) by rw[fT]; by_cases h:en.link.size=0<;> simp[h,je.1,<-je]);obtain⟨b3,hb3⟩: ∃b,decide (en.kind=3)=b:=⟨_,rfl⟩;obtain⟨be,hbe⟩: ∃b,decide (en.link.size≠0)=b:=⟨_,rfl⟩;obtain⟨b5,hb5⟩: ∃b,decide (en.link.size<=512)=b:=⟨_,rfl⟩
    have f3:(en.kind == 3)=b3:=by rw[<-hb3]; rfl
    have fe:=HEM.out;rw[hbe]at fe;have HRS:=aa (show bR en=((b3 == be) && b5) by rw[HHD.out,HVK.out,hb3,hbe,hb5]);have HB5:=aa hb5;clear hbe hlt hk hb3 hb5
    cases b3<;> cases be<;> simp only[Bool.not_true,Bool.not_false]at fe<;> (go_wp2_with fail)<;> (go_ret)<;> exact⟨ak (by rw[HRS.out,<-HB5.out]; simp[show(((en.link.size:Nat):Int)<=512<->en.link.size<=512)from by omega]),ac HB1.out HBR.out⟩
 ·have e6:(en.kind != 1)=true:=by simp[hk1]
  have e8:decide (0<en.data.length)=false:=by rw[decide_eq_false_iff_not]; exact fun h=>h6 ⟨hk1,h⟩
  clear h6 hk1
  go_enter Tryz.func67,Tryz.ntmps67
  go_wp2_with fail;obtain⟨W,hW⟩: ∃W,W=w.alloc (.cells #[.string en.path, .int .i64 en.kind, .int .i64 en.mode, .int .i64 en.time, .slice a en.data.length cap, .string en.link] 30):=⟨_,rfl⟩;rw[<-hW];have HBW:=aa (show Below w.heap.size w W by rw[hW]; exact(Below.refl _ _).alloc (Nat.le_refl _) _);have HBX:=aa (show W.heap[w.heap.size]? =some (.cells #[.string en.path, .int .i64 en.kind, .int .i64 en.mode, .int .i64 en.time, .slice a en.data.length cap, .string en.link] 30 (0,0)) by rw[hW]; exact cX w _)
  clear hW;refine(bQ en.path true _ HPS.out HV.out).mono ?_;rintro e w1 ⟨rfl,hb1⟩;have HB1:=aa (ac HBW.out hb1);have HX1:=aa ((hb1.block w.heap.size (dM HBX.out)).trans HBX.out);clear hb1;have c0:=ah (k:=0) HX1.out;have c1:=ah (k:=1) HX1.out;have c2:=ah (k:=2) HX1.out;have c3:=ah (k:=3) HX1.out;have c4:=ah (k:=4) HX1.out;have c5:=ah (k:=5) HX1.out
  simp only[eX]at c0 c1 c2 c3 c4 c5;go_wp2_with fail
  go_loopw [3] (fun i wr=> ∃k:Nat,k<=en.link.size/\i= .int .i64 k/\(∀j b,j<k->(bl en.link)[j]? =some b->b≠0)/\Below w1.heap.size w1 wr) (fun i _=>en.link.size-(intOf i).toNat)
  case atStart=>exact⟨0,Nat.zero_le _,rfl,fun _ _ h=>absurd h (Nat.not_lt_zero _),Below.refl _ _⟩
  case round=>
   obtain⟨k,hk,rfl,hz,hbr⟩:=hrel;have HZ:=aa hz;have HBR:=aa hbr;have HXR:=aa ((hbr.block w.heap.size (dM HX1.out)).trans HX1.out);clear hz hbr c0 c1 c2 c3 c4 c5;have c0:=ah (k:=0) HXR.out;have c1:=ah (k:=1) HXR.out;have c2:=ah (k:=2) HXR.out;have c3:=ah (k:=3) HXR.out;have c4:=ah (k:=4) HXR.out;have c5:=ah (k:=5) HXR.out;simp only[eX]at c0 c1 c2 c3 c4 c5
   by_cases hlt:k<en.link.size
   ·have HBY:=aa (show(bl en.link)[k]? =some en.link[k] by rw[List.getElem?_eq_getElem (by rw[<-am]; exact hlt)]; rfl)
    by_cases h0:(en.link[k]'hlt).toNat=0
    ·have HF:=aa (show bR en=false by
      rw[HHD.out];unfold dQ;have hne: ¬en.link.size=0:=by omega
      have hct:(bl en.link).contains 0=true:=by
       have h9:en.link[k]'hlt=0:=UInt8.toNat_inj.1 h0;have:=HBY.out;rw[h9]at this;exact List.contains_iff_mem.2 (List.mem_of_getElem? this)
      rw[decide_eq_false hne];unfold iO;rw[hct]
      simp)
     go_wp2_with fail;go_ret;exact⟨ak (by rw[HF.out]),ac HB1.out HBR.out⟩
    ·have HNZ:=aa h0;go_wp2_with fail
     go_roundw
     case rel=>
      refine⟨k+1,by omega,by go_num,fun j b hj hb e=> ?_,HBR.out⟩
      by_cases hjk:j=k
      ·subst hjk;rw[HBY.out]at hb;have:=Option.some.inj hb;subst this;exact HNZ.out (by rw[e]; rfl)
      ·exact HZ.out j b (by omega) hb e
     case measure=>simp[intOf]; omega
   ·have hk2:k=en.link.size:=by omega
    have HNO:=aa (show(bl en.link).contains 0=false from mR.2 (fun j b hj e=>by
     have h1:=(List.getElem?_eq_some_iff.1 hj).1;exact HZ.out j b (by rw[hk2,am]; exact h1) hj e))
    have HVK:=aa (su HKD.out HNO.out);have HEM:=aa (show en.link.toList.isEmpty= !decide (en.link.size≠0) by rw[fT]; by_cases h:en.link.size=0<;> simp[h,je.1,<-je]);obtain⟨b3,hb3⟩: ∃b,decide (en.kind=3)=b:=⟨_,rfl⟩;obtain⟨be,hbe⟩: ∃b,decide (en.link.size≠0)=b:=⟨_,rfl⟩;obtain⟨b5,hb5⟩: ∃b,decide (en.link.size<=512)=b:=⟨_,rfl⟩
    have f3:(en.kind == 3)=b3:=by rw[<-hb3]; rfl
    have fe:=HEM.out;rw[hbe]at fe;have HRS:=aa (show bR en=((b3 == be) && b5) by rw[HHD.out,HVK.out,hb3,hbe,hb5]);have HB5:=aa hb5;clear hbe hlt hk hb3 hb5
    cases b3<;> cases be<;> simp only[Bool.not_true,Bool.not_false]at fe<;> (go_wp2_with fail)<;> (go_ret)<;> exact⟨ak (by rw[HRS.out,<-HB5.out]; simp[show(((en.link.size:Nat):Int)<=512<->en.link.size<=512)from by omega]),ac HB1.out HBR.out⟩
end Go.Proofs.YtnjkpcalgoefhaaGreatDoor
namespace Go.Proofs.YtnjkpcalgoefhaaGreatDoor
open Go.RowKit
theorem fK (c:Int) (w:World) (h0:0<=c) (h1:c<=255):Calls Tryz.prog 81 #[.int .u8 c] w fun e w'=>e= .returned (.int .i64 (ff c))/\w=w':=by
 by_cases h:c=47
 ·subst h
  go_enter Tryz.func81,Tryz.ntmps81
  go_wp2
  go_ret;exact⟨rfl,rfl⟩
 ·have hr:ff c=c:=if_neg h;have HR:=aa hr;clear hr;have h2:(c == 47)=false:=by simpa using h
  go_enter Tryz.func81,Tryz.ntmps81
  go_wp2
  go_ret;exact⟨bd HR.out.symm,rfl⟩
theorem oc (a b:ByteArray) (w:World) (ha:a.size<=65536):
  Calls Tryz.prog 45 #[.string a, .string b] w fun e w'=>e= .returned (.int .i64 (bH (bl a) (bl b)))/\Below w.heap.size w w':=by
 go_enter Tryz.func45,Tryz.ntmps45
 go_wp2_with fail
 go_loopw [5] (fun i wr=> ∃k:Nat,k<=a.size/\k<=b.size/\i= .int .i64 k/\Below w.heap.size w wr/\bH (bl a) (bl b)=bH ((bl a).drop k) ((bl b).drop k)) (fun i _=>a.size-(intOf i).toNat)
 case atStart=>exact⟨0,Nat.zero_le _,Nat.zero_le _,rfl,Below.refl _ _,rfl⟩
 case round=>
  obtain⟨k,hk1,hk2,rfl,hbw,hc⟩:=hrel;have HC:=aa hc;have HB:=aa hbw;clear hc hbw
  by_cases hla:k<a.size
  ·by_cases hlb:k<b.size
   ·have i1:(k:Int)<(a.size:Int):=by omega
    have i2:(k:Int)<(b.size:Int):=by omega
    have hla':k<(bl a).length:=by rw[<-am]; exact hla
    have hlb':k<(bl b).length:=by rw[<-am]; exact hlb
    have hr1:=(a[k]).toNat_lt;have hr2:=(b[k]).toNat_lt;have hxa:cG (bl a)[k]=ff (a[k].toNat:Int):=by rw[km]; exact congrArg cG (dR a k hla).symm
    have hyb:cG (bl b)[k]=ff (b[k].toNat:Int):=by rw[km]; exact congrArg cG (dR b k hlb).symm
    have HXA:=aa hxa;have HYB:=aa hyb;clear hxa hyb
    rcases Int.lt_trichotomy (ff (a[k].toNat:Int)) (ff (b[k].toNat:Int))with hxy | hxy | hxy
    ·have HXY:=aa hxy;go_wp2_with fail
     go_quiet ((go_at_call 81; refine dI (fK _ _ (by omega) (by omega))))
     go_wp2_with fail;go_ret;refine⟨bd ?_,cg HB.out _⟩;have hne:(bl a)[k]≠(bl b)[k]:=by intro e; have:=HXY.out; rw[<-HXA.out,<-HYB.out,e]at this; omega
     rw[HC.out,mr hla' hlb' hne,HXA.out,HYB.out,Lib.compareInt,if_pos HXY.out]
    ·have e1: ¬ff (a[k].toNat:Int)<ff (b[k].toNat:Int):=by omega
     have e2: ¬ff (b[k].toNat:Int)<ff (a[k].toNat:Int):=by omega
     have HXY:=aa hxy;clear hxy;go_wp2_with fail
     go_quiet ((go_at_call 81; refine dI (fK _ _ (by omega) (by omega))))
     go_wp2_with fail;have hW: ∃W,W=wr.drewN nq/\Below w.heap.size w W:=⟨_,rfl,cg HB.out nq⟩;obtain⟨W,hWe,hWb⟩:=hW;rw[<-hWe];have HB2:=aa hWb;clear hWe hWb HB
     go_quiet ((go_at_call 81; refine dI (fK _ _ (by omega) (by omega))))
     go_wp2_with fail
     go_roundw
     case rel=>
      refine⟨k+1,by omega,by omega,by go_num,cg HB2.out _, ?_⟩;rw[HC.out];exact qA hla' hlb' (fq (HXA.out.trans (HXY.out.trans HYB.out.symm)))
     case measure=>simp[intOf]; omega
    ·have e1: ¬ff (a[k].toNat:Int)<ff (b[k].toNat:Int):=by omega
     have HXY:=aa hxy;go_wp2_with fail
     go_quiet ((go_at_call 81; refine dI (fK _ _ (by omega) (by omega))))
     go_wp2_with fail;have hW: ∃W,W=wr.drewN nq/\Below w.heap.size w W:=⟨_,rfl,cg HB.out nq⟩;obtain⟨W,hWe,hWb⟩:=hW;rw[<-hWe];have HB2:=aa hWb;clear hWe hWb HB
     go_quiet ((go_at_call 81; refine dI (fK _ _ (by omega) (by omega))))
     go_wp2_with fail;go_ret;refine⟨bd ?_,cg HB2.out _⟩;have hne:(bl a)[k]≠(bl b)[k]:=by intro e; have:=HXY.out; rw[<-HXA.out,<-HYB.out,e]at this; omega
     rw[HC.out,mr hla' hlb' hne,HXA.out,HYB.out,Lib.compareInt,if_neg (by have:=HXY.out; omega),if_pos HXY.out]
   ·obtain rfl:k=b.size:=by omega
    have i2:decide ((b.size:Int)<(b.size:Int))=false:=by simp
    have i3:(b.size:Int)<(a.size:Int):=by omega
    go_wp2_with fail;go_ret;refine⟨bd ?_,HB.out⟩;rw[HC.out,lM (by rw[<-am]; omega) (by rw[<-am]; exact Nat.le_refl _) (.inr (by rw[<-am])),<-am,<-am,Lib.compareInt,if_neg (by omega),if_pos (by omega)]
  ·obtain rfl:k=a.size:=by omega
   rcases Nat.lt_or_ge a.size b.size with hlb | hlb
   ·have i3:(a.size:Int)<(b.size:Int):=by omega
    go_wp2_with fail;go_ret;refine⟨bd ?_,HB.out⟩;rw[HC.out,lM (by rw[<-am]; exact Nat.le_refl _) (by rw[<-am]; omega) (.inl (by rw[<-am])),<-am,<-am,Lib.compareInt,if_pos (by omega)]
   ·obtain heq:a.size=b.size:=by omega
    have HEQ:=aa heq;have i3: ¬(a.size:Int)<(b.size:Int):=by omega
    have i4: ¬(b.size:Int)<(a.size:Int):=by omega
    clear heq;go_wp2_with fail;go_ret;refine⟨bd ?_,HB.out⟩;rw[HC.out,lM (by rw[<-am]; exact Nat.le_refl _) (by rw[<-am]; omega) (.inl (by rw[<-am])),<-am,<-am,Lib.compareInt,if_neg (by omega),if_neg (by omega)]
open Go.RowKit Go.Maps
theorem bb.take {α:Type} {R:List Value->α->Prop} {sz:Nat} (hs: ∀c x,R c x->c.length=sz): ∀ {xs:List α} {cells:List Value} (k:Nat),bb R cells xs->k<=xs.length->bb R (cells.take (k*sz)) (xs.take k)
 | _,_,0,_,_=>by simp[bb]
 | [],_,k+1,_,h=>by simp at h
 | x::xs,cells,k+1,⟨c,rest,hc,hx,hr⟩,h=>by
  subst hc;have hl:=hs c x hx;refine⟨c,rest.take (k*sz), ?_,hx,bb.take hs k hr (by simpa using h)⟩;rw[List.take_append,hl,List.take_of_length_le (by rw[hl,Nat.succ_mul]; omega),Nat.succ_mul]
  congr 2; omega
theorem aP.takeN {α:Type} {S:Nat->Prop} {w:World} {sz:Nat} {R:List Value->α->Prop} {a:Option Addr} {n cap:Nat} {xs:List α} (hs: ∀c x,R c x->c.length=sz) (h:aP S w sz R (.slice a n cap) xs) {k:Nat} (hk:k<=xs.length):aP S w sz R (.slice a k cap) (xs.take k):=by
 obtain⟨cells,⟨hl,a',cap',hv,hn,hm,h0⟩,hr⟩:=h
 cases hv
 have hlt:(xs.take k).length=k:=by rw[List.length_take]; omega
 refine⟨cells.take (k*sz),⟨?_,a,cap,by rw[hlt],by omega,hm, ?_⟩,bb.take hs k hr hk⟩
 ·rw[List.length_take,hl,hlt];exact Nat.min_eq_left (Nat.mul_le_mul_right _ hk)
 ·rcases h0 with h0 | ⟨b,o,ha,hb,hc⟩
  ·exact .inl (by omega)
  ·refine .inr ⟨b,o,ha,hb,fun j u hj=>hc j u ?_⟩;rw[List.getElem?_take]at hj
   split at hj
   ·exact hj
   ·cases hj
theorem fW (S:Nat->Prop) (en:bi) (v:Value) (b:Bool) (w:World) (hd:bU S w v en.data) (hok:ic en) (hps:en.path.size<=16777216) (h:bR en=b):Calls Tryz.prog 67 #[mF v en] w fun e w'=>e= .returned (.bool b)/\Below w.heap.size w w':=by
 rw[<-h]; exact pZ S en v w hd hok hps
theorem lw (a b:ByteArray) (o:Int) (w:World) (ha:a.size<=65536) (h:bH (bl a) (bl b)=o):Calls Tryz.prog 45 #[.string a, .string b] w fun e w'=>e= .returned (.int .i64 o)/\Below w.heap.size w w':=by
 rw[<-h]; exact oc a b w ha
theorem lx (s q:ByteArray) (w:World) (hs:s.size<=65000) (hq:q=⟨(aL (bl s)).toArray⟩):Calls Tryz.prog 69 #[.string s] w fun e w'=>e= .returned (.string q)/\Below w.heap.size w w':=by
 rw[hq]; exact ng s w hs
theorem rL (S:Nat->Prop) (L:List bi) (v:Value) (p:ByteArray) (x:Int) (w:World) (hv:bG S w v L) (hx:fi L (bl p)=x):Calls Tryz.prog 68 #[v, .string p] w fun e w'=>e= .returned (.int .i64 x)/\Below w.heap.size w w':=by
 rw[<-hx]; exact vR S L v p w hv
theorem pt {e:bi} (h:bR e=true):e.path.size<=65000:=by
 have:=nJ (bP h);rw[am]; omega
theorem rK (S:Nat->Prop) (L:List bi) (v:Value) (w:World) (hv:bG S w v L) (hps: ∀e∈L,e.path.size<=16777216):Calls Tryz.prog 35 #[v] w fun e w'=>e= .returned (.int .i64 (bL L))/\Below w.heap.size w w':=by
 have HV:=aa hv;obtain⟨a,cap,rfl,hc,hm,-⟩:=aP.shape hv jx.len;unfold maxLen at hm;obtain⟨n,hn⟩: ∃n,n=L.length:=⟨_,rfl⟩;have HN:=aa hn;rw[<-hn]at hc HV ⊢;clear hv
 by_cases hbig:4096<n
 ·have hbi:(4096:Int)<(n:Int):=by omega
  have HC:=aa (ox (by rw[<-hn]; exact hbig));clear hbig hn
  go_enter Tryz.func35,Tryz.ntmps35
  go_wp2_with fail;go_ret;exact⟨bd (by rw[HC.out]),Below.refl _ _⟩
 ·have hbi:(n:Int)<=(4096:Int):=by omega
  have HL4:=aa (show L.length<=4096 by omega);have HPS:=aa hps;clear hbig hn hps
  go_enter Tryz.func35,Tryz.ntmps35
  go_wp2_with fail
  go_loopw [11] (fun i wr=> ∃k:Nat,k<=n/\i= .int .i64 k/\Tr (L.take k)/\Below w.heap.size w wr) (fun i _=>n-(intOf i).toNat)
  case atStart=>exact⟨0,Nat.zero_le _,rfl,⟨List.Pairwise.nil,by simp,by simp⟩,Below.refl _ _⟩
  case round=>
   obtain⟨k,hk,rfl,htr,hbr⟩:=hrel;have HTR:=aa htr;have HBR:=aa hbr;clear htr hbr
   by_cases hlt:k<n
   ·obtain⟨e,he⟩: ∃e,L[k]? =some e:=⟨L[k]'(by rw[<-HN.out]; exact hlt),by simp⟩;obtain⟨b,o,dv,rfl,-,hb,hd,hok,-,q0,q1,q2,q3,q4,q5⟩:=gE (HV.out.below HBR.out) he;have HAT:=aa he;have HD:=aa hd;have HOK:=aa hok;have HPZ:=aa (HPS.out e (List.mem_of_getElem? he));obtain⟨a1,cap1,rfl,hd1,hd2⟩:=hd.slice;unfold maxLen at hd2;have hkc:k<=cap:=by omega
    have HKN:=aa (show k<=L.length by rw[<-HN.out]; omega);clear he hd hok
    cases hve:bR e
    ·have HVE:=aa hve;have HCA:=aa (show bC (L.take k) e=1 by unfold bC; rw[hve]; rfl);clear hve;go_wp2_with fail;refine al [some 1,none,some 13,none,some 3] (by kernel_rfl) (by kernel_rfl) (by kernel_rfl) ?_;simp only[bc,List.take_succ_cons,List.take_zero,List.drop_succ_cons,List.drop_zero];obtain⟨W,hW⟩: ∃W:World,W=(wr.alloc (.cells #[.string e.path, .int .i64 e.kind, .int .i64 e.mode, .int .i64 e.time, .slice a1 e.data.length cap1, .string e.link] 30)).drew:=⟨_,rfl⟩
     rw[<-hW];have HWL:=aa (show Below wr.heap.size wr W by rw[hW]; exact((Below.refl _ _).alloc (Nat.le_refl _) _).drew);have HX:=aa (show W.heap[wr.heap.size]? =some (.cells #[.string e.path, .int .i64 e.kind, .int .i64 e.mode, .int .i64 e.time, .slice a1 e.data.length cap1, .string e.link] 30 (0,0)) by rw[hW]; exact cX wr _);have HBW:=aa (ac HBR.out HWL.out);clear hW;have c0:=ah (k:=0) HX.out
     have c1:=ah (k:=1) HX.out;have c2:=ah (k:=2) HX.out;have c3:=ah (k:=3) HX.out;have c4:=ah (k:=4) HX.out;have c5:=ah (k:=5) HX.out;simp only[eX]at c0 c1 c2 c3 c4 c5
     repeat (first | (refine aw rfl ?_; simp only[Act.put,aG,aH,aI]) | (refine aB rfl (fun K hK=> ?_); go_simp; refine hK _ ?_; clear hK K))
     refine aA ?_;refine bg rfl (fun K hK=> ?_);go_wp2_with (go_at_call 67; refine(fW S e (.slice a1 e.data.length cap1) false _ (HD.out.below HWL.out) HOK.out HPZ.out HVE.out).mono ?_; rintro e7 w7 ⟨rfl,hb7⟩; have HL7:=aa (HWL.out.trans (hb7.mono HWL.out.size)); have HX7:=aa ((hb7.block wr.heap.size (dM HX.out)).trans HX.out); clear hb7 c0 c1 c2 c3 c4 c5)
     repeat (first | (refine aw rfl ?_; simp only[Act.put,aG,aH,aI]) | (refine aB rfl (fun K hK=> ?_); go_simp; refine hK _ ?_; clear hK K))
     refine aA ?_;refine gm rfl ?_;simp only[Act.put,aG,aH,aI]
     repeat (first | (refine aw rfl ?_; simp only[Act.put,aG,aH,aI]) | (refine aB rfl (fun K hK=> ?_); go_simp; refine hK _ ?_; clear hK K))
     refine aA ?_;have HB9:=aa (ac HBR.out HL7.out);go_wp2_with fail;go_ret;exact⟨bd (by rw[cI HL4.out HTR.out HAT.out (x:=1) HCA.out (by decide)]),HB9.out⟩
    ·have HVE:=aa hve;have HPP:=aa (show e.path.size<=65000 from pt hve);obtain⟨q,hq⟩: ∃q:ByteArray,q=⟨(aL (bl e.path)).toArray⟩:=⟨_,rfl⟩;have HBQ:=aa (show bl q=aL (bl e.path) by rw[hq]; exact jR _);have HQ:=aa hq;clear hve hq
     rcases Nat.eq_zero_or_pos k with hk0 | hk0
     ·have e9:decide (0<k)=false:=by simp; omega
      have e8:(k:Int)<=0:=by omega
      have HCV:=aa (show(bR e && fw (L.take k) e)=true by rw[hk0,HVE.out]; rfl);clear hk0;obtain⟨x,hx⟩: ∃x,fi (L.take k) (bl q)=x:=⟨_,rfl⟩;have HDX:=aa hx;have HCA:=aa (show bC (L.take k) e=x by unfold bC; rw[if_pos HCV.out,<-HBQ.out,hx]);clear hx;go_wp2_with fail;refine al [some 1,none,some 13,none,some 3] (by kernel_rfl) (by kernel_rfl) (by kernel_rfl) ?_
      simp only[bc,List.take_succ_cons,List.take_zero,List.drop_succ_cons,List.drop_zero];obtain⟨W,hW⟩: ∃W:World,W=(wr.alloc (.cells #[.string e.path, .int .i64 e.kind, .int .i64 e.mode, .int .i64 e.time, .slice a1 e.data.length cap1, .string e.link] 30)).drew:=⟨_,rfl⟩;rw[<-hW];have HWL:=aa (show Below wr.heap.size wr W by rw[hW]; exact((Below.refl _ _).alloc (Nat.le_refl _) _).drew)
      have HX:=aa (show W.heap[wr.heap.size]? =some (.cells #[.string e.path, .int .i64 e.kind, .int .i64 e.mode, .int .i64 e.time, .slice a1 e.data.length cap1, .string e.link] 30 (0,0)) by rw[hW]; exact cX wr _);have HBW:=aa (ac HBR.out HWL.out);clear hW;have c0:=ah (k:=0) HX.out;have c1:=ah (k:=1) HX.out;have c2:=ah (k:=2) HX.out;have c3:=ah (k:=3) HX.out
      have c4:=ah (k:=4) HX.out;have c5:=ah (k:=5) HX.out;simp only[eX]at c0 c1 c2 c3 c4 c5
      repeat (first | (refine aw rfl ?_; simp only[Act.put,aG,aH,aI]) | (refine aB rfl (fun K hK=> ?_); go_simp; refine hK _ ?_; clear hK K))
      refine aA ?_;refine bg rfl (fun K hK=> ?_);go_wp2_with (go_at_call 67; refine(fW S e (.slice a1 e.data.length cap1) true _ (HD.out.below HWL.out) HOK.out HPZ.out HVE.out).mono ?_; rintro e7 w7 ⟨rfl,hb7⟩; have HL7:=aa (HWL.out.trans (hb7.mono HWL.out.size)); have HX7:=aa ((hb7.block wr.heap.size (dM HX.out)).trans HX.out); clear hb7 c0 c1 c2 c3 c4 c5)
      repeat (first | (refine aw rfl ?_; simp only[Act.put,aG,aH,aI]) | (refine aB rfl (fun K hK=> ?_); go_simp; refine hK _ ?_; clear hK K))
      refine aA ?_;refine gm rfl ?_;simp only[Act.put,aG,aH,aI]
      repeat (first | (refine aw rfl ?_; simp only[Act.put,aG,aH,aI]) | (refine aB rfl (fun K hK=> ?_); go_simp; refine hK _ ?_; clear hK K))
      refine aA ?_;go_wp2_with fail;refine dW (fun w'=>w'.cell? ⟨wr.heap.size,0,none⟩=some (.string e.path)) (by kernel_rfl) ?_;obtain⟨V,hV⟩: ∃V:World,V=(w7).drew:=⟨_,rfl⟩;rw[<-hV];have HLV:=aa (show Below wr.heap.size wr V by rw[hV]; exact HL7.out.trans ((Below.refl (w7).heap.size (w7)).drew.mono HL7.out.size));have HXV:=aa (show V.heap[wr.heap.size]? =some (.cells #[.string e.path, .int .i64 e.kind, .int .i64 e.mode, .int .i64 e.time, .slice a1 e.data.length cap1, .string e.link] 30 (0,0)) by rw[hV]; exact HX7.out)
      clear hV;have hS1:=ah (k:=0) HXV.out;simp only[List.getElem?_toArray,List.getElem?_cons_zero]at hS1;refine ag 0 rfl (by kernel_rfl) (by kernel_rfl) (by kernel_rfl) (fun _ _ _ h=>h) rfl hS1 (by intro w' hw1; go_simp; rfl) ?_;simp only[Act.put,aG,aH,aI];refine ag 1 rfl (by kernel_rfl) (by kernel_rfl) (by kernel_rfl) (fun _ _ _ h=>h) rfl hS1 (by intro w' hw1; go_simp; rfl) ?_
      simp only[Act.put,aG,aH,aI];refine ag 2 rfl (by kernel_rfl) (by kernel_rfl) (by kernel_rfl) (fun _ _ _ h=>h) rfl hS1 (by intro w' hw1; go_simp; rfl) ?_;simp only[Act.put,aG,aH,aI];refine ag 3 rfl (by kernel_rfl) (by kernel_rfl) (by kernel_rfl) (fun _ _ _ h=>h) rfl hS1 (by intro w' hw1; go_simp; rfl) ?_;simp only[Act.put,aG,aH,aI];refine ag 4 rfl (by kernel_rfl) (by kernel_rfl) (by kernel_rfl) (fun _ _ _ h=>h) rfl hS1 (by intro w' hw1; go_simp; rfl) ?_
      simp only[Act.put,aG,aH,aI];refine aR 5 rfl (by kernel_rfl) rfl (fun K hK=> ?_);go_wp2_with (go_at_call 69; refine(lx e.path q _ HPP.out HQ.out).mono ?_; rintro e9 w9 ⟨rfl,hb9⟩);have HL9:=aa (HLV.out.trans (hb9.mono HLV.out.size));have hS2:=(hb9.cell (ay hS1)).trans hS1;clear hb9;refine⟨hS2, ?_⟩;refine aR 6 rfl (by kernel_rfl) rfl (fun K hK=> ?_);have HTK:=aa (show bG S w9 (.slice (some ⟨b,o,none⟩) (k) cap) (L.take (k))from aP.takeN jx.len (HV.out.below (ac HBR.out HL9.out)) HKN.out)
      go_wp2_with (go_at_call 68; refine(rL S (L.take (k)) (.slice (some ⟨b,o,none⟩) (k) cap) q x _ HTK.out HDX.out).mono ?_; rintro ea wa ⟨rfl,hba⟩);have HLA:=aa (HL9.out.trans (hba.mono HL9.out.size));have hS1:=(hba.cell (ay hS2)).trans hS2;clear hba;refine⟨hS1, ?_⟩;refine ag 7 rfl (by kernel_rfl) (by kernel_rfl) (by kernel_rfl) (fun _ _ _ h=>h) rfl hS1 (by intro w' hw1; go_simp; rfl) ?_
      simp only[Act.put,aG,aH,aI];refine bN (by kernel_rfl) ?_;have HBA:=aa (ac HBR.out HLA.out);clear hS1 hS2
      by_cases h0:x=0
      ·subst h0;have HTN:=aa (ey HTR.out HAT.out HCA.out);go_wp2_with fail
       go_roundw
       case rel=>exact⟨k+1,by omega,by go_num,HTN.out,HBA.out⟩
       case measure=>simp[intOf]; omega
      ·have e1:(x != 0)=true:=by simp[h0]
       have HX0:=aa h0;clear h0;go_wp2_with fail;go_ret;exact⟨bd (by rw[cI HL4.out HTR.out HAT.out (x:=x) HCA.out HX0.out]),HBA.out⟩
     ·obtain⟨j,rfl⟩: ∃j,k=j+1:=⟨k-1,by omega⟩;obtain⟨f,hf⟩: ∃f,L[j]? =some f:=⟨L[j]'(by rw[<-HN.out]; omega),by simp⟩;obtain⟨b',o',dv',he',-,-,-,hokf,-,p0,-⟩:=gE (HV.out.below HBR.out) hf;simp only[Option.some.injEq,Addr.mk.injEq,and_true]at he';obtain⟨rfl,rfl⟩:=he';have HPF:=aa (show f.path.size<=65536 from Nat.le_trans (pt (HTR.out.val f (List.mem_of_getElem? (i:=j) (by rw[List.getElem?_take,if_pos (Nat.lt_succ_self j)]; exact hf)))) (by omega))
      obtain⟨c,hc⟩: ∃c,bH (bl f.path) (bl e.path)=c:=⟨_,rfl⟩;have HC:=aa hc;have e9:decide (0<j+1)=true:=by simp
      have hjn:j<n:=by omega
      have hjn2:(j:Int)<(n:Int):=by omega
      have hjn3:decide (j<n)=true:=by simp; omega
      have hjc:0<=(j:Int)+1/\(j:Int)+1<=(cap:Int):=by omega
      have hwj:IntKind.i64.wrap (j:Int)=j:=by rw[IntKind.wrap_i64]; omega
      have HAF:=aa (show fw (L.take (j+1)) e=decide (c<0) by rw[qm hf,hc]);clear hf hokf hc hk0
      by_cases hneg:c<0
      ·have HCV:=aa (show(bR e && fw (L.take (j+1)) e)=true by rw[HVE.out,HAF.out,decide_eq_true hneg]; rfl);have e8:decide (0<=c)=false:=by simp; omega
       obtain⟨x,hx⟩: ∃x,fi (L.take (j+1)) (bl q)=x:=⟨_,rfl⟩;have HDX:=aa hx;have HCA:=aa (show bC (L.take (j+1)) e=x by unfold bC; rw[if_pos HCV.out,<-HBQ.out,hx]);clear hx;go_wp2_with fail;refine al [some 1,none,some 13,none,some 3] (by kernel_rfl) (by kernel_rfl) (by kernel_rfl) ?_;simp only[bc,List.take_succ_cons,List.take_zero,List.drop_succ_cons,List.drop_zero]
       obtain⟨W,hW⟩: ∃W:World,W=(wr.alloc (.cells #[.string e.path, .int .i64 e.kind, .int .i64 e.mode, .int .i64 e.time, .slice a1 e.data.length cap1, .string e.link] 30)).drew:=⟨_,rfl⟩;rw[<-hW];have HWL:=aa (show Below wr.heap.size wr W by rw[hW]; exact((Below.refl _ _).alloc (Nat.le_refl _) _).drew);have HX:=aa (show W.heap[wr.heap.size]? =some (.cells #[.string e.path, .int .i64 e.kind, .int .i64 e.mode, .int .i64 e.time, .slice a1 e.data.length cap1, .string e.link] 30 (0,0)) by rw[hW]; exact cX wr _)
       have HBW:=aa (ac HBR.out HWL.out);clear hW;have c0:=ah (k:=0) HX.out;have c1:=ah (k:=1) HX.out;have c2:=ah (k:=2) HX.out;have c3:=ah (k:=3) HX.out;have c4:=ah (k:=4) HX.out;have c5:=ah (k:=5) HX.out;simp only[eX]at c0 c1 c2 c3 c4 c5
       repeat (first | (refine aw rfl ?_; simp only[Act.put,aG,aH,aI]) | (refine aB rfl (fun K hK=> ?_); go_simp; refine hK _ ?_; clear hK K))
       refine aA ?_;refine bg rfl (fun K hK=> ?_);go_wp2_with (go_at_call 67; refine(fW S e (.slice a1 e.data.length cap1) true _ (HD.out.below HWL.out) HOK.out HPZ.out HVE.out).mono ?_; rintro e7 w7 ⟨rfl,hb7⟩; have HL7:=aa (HWL.out.trans (hb7.mono HWL.out.size)); have HX7:=aa ((hb7.block wr.heap.size (dM HX.out)).trans HX.out); clear hb7 c0 c1 c2 c3 c4 c5);have c0:=ah (k:=0) HX7.out
       have c1:=ah (k:=1) HX7.out;have c2:=ah (k:=2) HX7.out;have c3:=ah (k:=3) HX7.out;have c4:=ah (k:=4) HX7.out;have c5:=ah (k:=5) HX7.out;simp only[eX]at c0 c1 c2 c3 c4 c5;have y0:=(HL7.out.cell (ay p0)).trans p0
       repeat (first | (refine aw rfl ?_; simp only[Act.put,aG,aH,aI]) | (refine aB rfl (fun K hK=> ?_); go_simp; refine hK _ ?_; clear hK K))
       refine aA ?_;refine bg rfl (fun K hK=> ?_);go_wp2_with (go_at_call 45; refine(lw f.path e.path c _ HPF.out HC.out).mono ?_; rintro e8' w8 ⟨rfl,hb8⟩; have HL8:=aa (HL7.out.trans (hb8.mono HL7.out.size)); have HX8:=aa ((hb8.block wr.heap.size (dM HX7.out)).trans HX7.out); clear hb8 c0 c1 c2 c3 c4 c5 y0)
       repeat (first | (refine aw rfl ?_; simp only[Act.put,aG,aH,aI]) | (refine aB rfl (fun K hK=> ?_); go_simp; refine hK _ ?_; clear hK K))
       refine aA ?_;go_wp2_with fail;refine dW (fun w'=>w'.cell? ⟨wr.heap.size,0,none⟩=some (.string e.path)) (by kernel_rfl) ?_;obtain⟨V,hV⟩: ∃V:World,V=(w8).drew:=⟨_,rfl⟩;rw[<-hV];have HLV:=aa (show Below wr.heap.size wr V by rw[hV]; exact HL8.out.trans ((Below.refl (w8).heap.size (w8)).drew.mono HL8.out.size));have HXV:=aa (show V.heap[wr.heap.size]? =some (.cells #[.string e.path, .int .i64 e.kind, .int .i64 e.mode, .int .i64 e.time, .slice a1 e.data.length cap1, .string e.link] 30 (0,0)) by rw[hV]; exact HX8.out)
       clear hV;have hS1:=ah (k:=0) HXV.out;simp only[List.getElem?_toArray,List.getElem?_cons_zero]at hS1;refine ag 0 rfl (by kernel_rfl) (by kernel_rfl) (by kernel_rfl) (fun _ _ _ h=>h) rfl hS1 (by intro w' hw1; go_simp; rfl) ?_;simp only[Act.put,aG,aH,aI];refine ag 1 rfl (by kernel_rfl) (by kernel_rfl) (by kernel_rfl) (fun _ _ _ h=>h) rfl hS1 (by intro w' hw1; go_simp; rfl) ?_
       simp only[Act.put,aG,aH,aI];refine ag 2 rfl (by kernel_rfl) (by kernel_rfl) (by kernel_rfl) (fun _ _ _ h=>h) rfl hS1 (by intro w' hw1; go_simp; rfl) ?_;simp only[Act.put,aG,aH,aI];refine ag 3 rfl (by kernel_rfl) (by kernel_rfl) (by kernel_rfl) (fun _ _ _ h=>h) rfl hS1 (by intro w' hw1; go_simp; rfl) ?_;simp only[Act.put,aG,aH,aI];refine ag 4 rfl (by kernel_rfl) (by kernel_rfl) (by kernel_rfl) (fun _ _ _ h=>h) rfl hS1 (by intro w' hw1; go_simp; rfl) ?_
       simp only[Act.put,aG,aH,aI];refine aR 5 rfl (by kernel_rfl) rfl (fun K hK=> ?_);go_wp2_with (go_at_call 69; refine(lx e.path q _ HPP.out HQ.out).mono ?_; rintro e9 w9 ⟨rfl,hb9⟩);have HL9:=aa (HLV.out.trans (hb9.mono HLV.out.size));have hS2:=(hb9.cell (ay hS1)).trans hS1;clear hb9;refine⟨hS2, ?_⟩;refine aR 6 rfl (by kernel_rfl) rfl (fun K hK=> ?_);have HTK:=aa (show bG S w9 (.slice (some ⟨b,o,none⟩) (j+1) cap) (L.take (j+1))from aP.takeN jx.len (HV.out.below (ac HBR.out HL9.out)) HKN.out)
       go_wp2_with (go_at_call 68; refine(rL S (L.take (j+1)) (.slice (some ⟨b,o,none⟩) (j+1) cap) q x _ HTK.out HDX.out).mono ?_; rintro ea wa ⟨rfl,hba⟩);have HLA:=aa (HL9.out.trans (hba.mono HL9.out.size));have hS1:=(hba.cell (ay hS2)).trans hS2;clear hba;refine⟨hS1, ?_⟩;refine ag 7 rfl (by kernel_rfl) (by kernel_rfl) (by kernel_rfl) (fun _ _ _ h=>h) rfl hS1 (by intro w' hw1; go_simp; rfl) ?_
       simp only[Act.put,aG,aH,aI];refine bN (by kernel_rfl) ?_;have HBA:=aa (ac HBR.out HLA.out);clear hS1 hS2
       by_cases h0:x=0
       ·subst h0;have HTN:=aa (ey HTR.out HAT.out HCA.out);go_wp2_with fail
        go_roundw
        case rel=>exact⟨j+1+1,by omega,by go_num,HTN.out,HBA.out⟩
        case measure=>simp[intOf]; omega
       ·have e1:(x != 0)=true:=by simp[h0]
        have HX0:=aa h0;clear h0;go_wp2_with fail;go_ret;exact⟨bd (by rw[cI HL4.out HTR.out HAT.out (x:=x) HCA.out HX0.out]),HBA.out⟩
      ·have HCA:=aa (show bC (L.take (j+1)) e=1 by unfold bC; rw[HAF.out,decide_eq_false hneg]; simp);have e8:decide (0<=c)=true:=by simp; omega
       have e7:0<=c:=by omega
       go_wp2_with fail;refine al [some 1,none,some 13,none,some 3] (by kernel_rfl) (by kernel_rfl) (by kernel_rfl) ?_;simp only[bc,List.take_succ_cons,List.take_zero,List.drop_succ_cons,List.drop_zero];obtain⟨W,hW⟩: ∃W:World,W=(wr.alloc (.cells #[.string e.path, .int .i64 e.kind, .int .i64 e.mode, .int .i64 e.time, .slice a1 e.data.length cap1, .string e.link] 30)).drew:=⟨_,rfl⟩
       rw[<-hW];have HWL:=aa (show Below wr.heap.size wr W by rw[hW]; exact((Below.refl _ _).alloc (Nat.le_refl _) _).drew);have HX:=aa (show W.heap[wr.heap.size]? =some (.cells #[.string e.path, .int .i64 e.kind, .int .i64 e.mode, .int .i64 e.time, .slice a1 e.data.length cap1, .string e.link] 30 (0,0)) by rw[hW]; exact cX wr _);have HBW:=aa (ac HBR.out HWL.out);clear hW
       have c0:=ah (k:=0) HX.out;have c1:=ah (k:=1) HX.out;have c2:=ah (k:=2) HX.out;have c3:=ah (k:=3) HX.out;have c4:=ah (k:=4) HX.out;have c5:=ah (k:=5) HX.out;simp only[eX]at c0 c1 c2 c3 c4 c5
       repeat (first | (refine aw rfl ?_; simp only[Act.put,aG,aH,aI]) | (refine aB rfl (fun K hK=> ?_); go_simp; refine hK _ ?_; clear hK K))
       refine aA ?_;refine bg rfl (fun K hK=> ?_);go_wp2_with (go_at_call 67; refine(fW S e (.slice a1 e.data.length cap1) true _ (HD.out.below HWL.out) HOK.out HPZ.out HVE.out).mono ?_; rintro e7 w7 ⟨rfl,hb7⟩; have HL7:=aa (HWL.out.trans (hb7.mono HWL.out.size)); have HX7:=aa ((hb7.block wr.heap.size (dM HX.out)).trans HX.out); clear hb7 c0 c1 c2 c3 c4 c5);have c0:=ah (k:=0) HX7.out
       have c1:=ah (k:=1) HX7.out;have c2:=ah (k:=2) HX7.out;have c3:=ah (k:=3) HX7.out;have c4:=ah (k:=4) HX7.out;have c5:=ah (k:=5) HX7.out;simp only[eX]at c0 c1 c2 c3 c4 c5;have y0:=(HL7.out.cell (ay p0)).trans p0
       repeat (first | (refine aw rfl ?_; simp only[Act.put,aG,aH,aI]) | (refine aB rfl (fun K hK=> ?_); go_simp; refine hK _ ?_; clear hK K))
       refine aA ?_;refine bg rfl (fun K hK=> ?_);go_wp2_with (go_at_call 45; refine(lw f.path e.path c _ HPF.out HC.out).mono ?_; rintro e8' w8 ⟨rfl,hb8⟩; have HL8:=aa (HL7.out.trans (hb8.mono HL7.out.size)); clear hb8 c0 c1 c2 c3 c4 c5 y0)
       repeat (first | (refine aw rfl ?_; simp only[Act.put,aG,aH,aI]) | (refine aB rfl (fun K hK=> ?_); go_simp; refine hK _ ?_; clear hK K))
       refine aA ?_;have HB9:=aa (ac HBR.out HL8.out);go_wp2_with fail;go_ret;exact⟨bd (by rw[cI HL4.out HTR.out HAT.out (x:=1) HCA.out (by decide)]),HB9.out⟩
   ·have hk2:k=n:=by omega
    subst hk2;go_wp2_with fail;go_ret;exact⟨bd (by rw[mf HL4.out (by rw[<-HN.out]; exact HTR.out)]),HBR.out⟩
open Go Go.RowKit Go.Maps
def uO (f:au):Bool:=f.parts.all fP && (decide (f.size=ia f.parts) && decide (ia f.parts<=1048576)) && (decide (f.kind=1) || decide (f.parts=[]))
theorem rJ (f:au):cr f=uO f:=by
 unfold uO cr
 by_cases hk:f.kind=1
 ·rw[if_pos hk]; simp[hk]
 ·rw[if_neg hk]
  cases f.parts with
  | nil=>simp[hk,ia]; rfl
  | cons p l=>simp[hk]
theorem vS (S:Nat->Prop) (L:List bi) (v:Value) (x:Int) (w:World) (hv:bG S w v L) (hps: ∀e∈L,e.path.size<=16777216) (h:bL L=x):Calls Tryz.prog 35 #[v] w fun e w'=>e= .returned (.int .i64 x)/\Below w.heap.size w w':=by
 rw[<-h]; exact rK S L v w hv hps
theorem An (x:dn) (hall:x.files.all cr=true):cZ x=(decide (0<=x.tm) && decide (bL (x.files.map fj)=0)):=by
 rw[cl,hall]
 by_cases hc:bL (x.files.map fj)=0
 ·have h1:x.files.length<=4096:=by
   unfold bL at hc
   split at hc
   ·simp at hc
   ·rename_i h; rw[List.length_map]at h; omega
  simp[hc,h1]
 ·simp[hc]
theorem tL (S:Nat->Prop) (x:dn) (fv:Value) (w:World) (hx:aM S w fv x.files) (hps: ∀f∈x.files,f.path.size<=16777216) (hlen:x.files.length<=1048576) (hpl: ∀f∈x.files,f.parts.length<=1048576):Calls Tryz.prog 13 #[dY fv x.tm] w fun e w'=>e= .returned (.bool (cZ x))/\Below w.heap.size w w':=by
 obtain⟨a,cap,rfl,hc,hm,-⟩:=aP.shape hx dB.len;unfold maxLen at hm;have HX0:=aa hx;have HPS:=aa hps;have HPL:=aa hpl;clear hx hps hpl;obtain⟨n,hn⟩: ∃n,n=x.files.length:=⟨_,rfl⟩;rw[<-hn]at hc HX0 hlen ⊢;have HN:=aa hn;clear hn;unfold dY
 go_enter Tryz.func13,Tryz.ntmps13
 go_upto_region 1 with fail
 obtain⟨W,hW⟩: ∃W,W=w.alloc (.cells #[.int .i64 x.tm, .slice a n cap] 36):=⟨_,rfl⟩;rw[<-hW];have HBW:=aa (show Below w.heap.size w W by rw[hW]; exact(Below.refl _ _).alloc (Nat.le_refl _) _);have HBX:=aa (show W.heap[w.heap.size]? =some (.cells #[.int .i64 x.tm, .slice a n cap] 36 (0,0)) by rw[hW]; exact heap_alloc_new w _);have HSZ:=aa (show W.heap.size=w.heap.size+1 by rw[hW]; simp)
 clear hW;have HMO:=aa (World.ownsRow_made (base:=W.heap.size) (e:=30) (size:=6) W #[] 0 (Nat.le_refl _) (by unfold maxLen; omega) rfl);have HBM:=aa (show Below W.heap.size W (W.alloc (.cells #[] 30))from(Below.refl _ _).alloc (Nat.le_refl _) _);have HV:=aa (show aM S W (.slice a n cap) x.files from aM.below HX0.out HBW.out);go_wp2_with fail
 go_loopw [3,4] (fun v i wr=> ∃k:Nat,k<=n/\i= .int .i64 k/\(x.files.take k).all cr=true/\wr.ownsRow W.heap.size 30 6 v k (jp ((x.files.take k).map lY))/\Below W.heap.size W wr) (fun _ i _=>n-(intOf i).toNat)
 case atStart=>exact⟨0,Nat.zero_le _,rfl,rfl,HMO.out,HBM.out⟩
 case round=>
  obtain⟨k,hk,rfl,hal,hown,hb⟩:=hrel;have HB:=aa hb;have HA:=aa hal;have HOWN:=aa hown;obtain⟨av,cv,hsv,hvn,hvm⟩:=aj hown;subst hsv;unfold maxLen at hvm;have HZR:=aa hb.size;have HBXr:=aa ((hb.block w.heap.size (by have:=HSZ.out; omega)).trans HBX.out);have x0:=af (k:=0) HBXr.out;have x1:=af (k:=1) HBXr.out;simp only[eX]at x0 x1;clear hb hal hown
  by_cases hlt:k<n
  ·obtain⟨f,hf⟩: ∃f,x.files[k]? =some f:=⟨_,List.getElem?_eq_getElem (show k<x.files.length by rw[<-HN.out]; exact hlt)⟩;obtain⟨b,o,pa,pc,rfl,hok,hpa,hblt,-,hcl⟩:=cW HV.out (Below.refl _ _) hf;have hcl: ∀j,j<7->wr.cell? ⟨b,o+k*7+j,none⟩=(bI (.slice pa f.parts.length pc) f)[j]? :=fun j hj=>(HB.out.cell (p:=⟨b,o+k*7+j,none⟩) hblt).trans (hcl j hj)
   have q0:=hcl 0 (by omega);have q1:=hcl 1 (by omega);have q2:=hcl 2 (by omega);have q3:=hcl 3 (by omega);have q4:=hcl 4 (by omega);have q5:=hcl 5 (by omega);have q6:=hcl 6 (by omega);simp only[bI,cj,Nat.add_zero]at q0 q1 q2 q3 q4 q5 q6;have HFK:=aa hf;have hplm:=HPL.out f (List.mem_of_getElem? hf);obtain⟨m,hmm⟩: ∃m,m=f.parts.length:=⟨_,rfl⟩;obtain⟨-,hmc,hpm⟩:=oW hpa
   unfold maxLen at hpm;rw[<-hmm]at q6 hpa hmc hplm;have HPA:=aa hpa;have HM:=aa hmm;clear hf hpa hcl hok hmm;obtain⟨W3,hW3⟩: ∃W3,W3=wr.alloc (.cells #[.string f.path, .int .i64 f.kind, .int .i64 f.mode, .int .i64 f.time, .int .i64 f.size, .string f.link, .slice pa m pc] 42):=⟨_,rfl⟩;have HB3:=aa (show Below wr.heap.size wr W3 by rw[hW3]; exact(Below.refl _ _).alloc (Nat.le_refl _) _)
   have HX3:=aa (show W3.heap[wr.heap.size]? =some (.cells #[.string f.path, .int .i64 f.kind, .int .i64 f.mode, .int .i64 f.time, .int .i64 f.size, .string f.link, .slice pa m pc] 42 (0,0)) by rw[hW3]; exact heap_alloc_new wr _);have HZ3:=aa (show W3.heap.size=wr.heap.size+1 by rw[hW3]; simp)
   go_upto_region 6 with fail
   rw[<-hW3];clear hW3;have d0:=af (k:=0) HX3.out;have d1:=af (k:=1) HX3.out;have d2:=af (k:=2) HX3.out;have d3:=af (k:=3) HX3.out;have d5:=af (k:=5) HX3.out;simp only[List.getElem?_toArray,cj]at d0 d1 d2 d3 d5;have HAL:=aa ((Below.refl W3.heap.size W3).alloc (Nat.le_refl _) (.cells (gD (.slice none 0 0) (fj f)).toArray 30));have HOA:=aa (aK (aK HOWN.out HB3.out) HAL.out)
   have HRL:=aa (fX (n:=1) (sz:=6) (cells:=gD (.slice none 0 0) (fj f)) (heap_alloc_new W3 (.cells (gD (.slice none 0 0) (fj f)).toArray 30)) rfl (by decide));have HZ:=aa (show W.heap.size<=(W3.alloc (.cells (gD (.slice none 0 0) (fj f)).toArray 30)).heap.size by have:=HZR.out; have:=HZ3.out; simp; omega);go_wp2_with (at_builtin; go_must (refine bD Tryz.appEnts rfl _ _ rfl W.heap.size (.slice av k cv) k (jp ((x.files.take k).map lY)) rfl HOA.out _ 1 (gD (.slice none 0 0) (fj f)) rfl HRL.out qP (by omega) HZ.out ?_); intro v9 w9 hown9 hg9; obtain⟨a9,c9,rfl,-,-⟩:=aj hown9; have HO9:=aa hown9; have HG9:=aa hg9; clear hown9 hg9)
   have HX9:=aa ((HG9.out.block wr.heap.size (by have:=HZ3.out; simp; omega) (fun e1=>by
    have:=(HOWN.out.lt _ e1.symm).2
    omega)).trans ((heap_alloc_old _ _ (by have:=HZ3.out; omega)).trans HX3.out))
   have HB9:=aa (show Below W.heap.size W w9 from aZ ((ac HB.out HB3.out).trans (HAL.out.mono (by have:=HZR.out; have:=HZ3.out; omega))) HOA.out HG9.out (Nat.le_refl _) HZ.out);have HLT9:=aa (lt_of_block HX9.out);clear x0 x1 q0 q1 q2 q3 q4 q5 q6 d0 d1 d2 d3 d5
   go_loopw [6,7] (fun t i wq=> ∃j:Nat,j<=m/\i= .int .i64 j/\t= .int .i64 (ia (f.parts.take j))/\(f.parts.take j).all fP=true/\Below w9.heap.size w9 wq) (fun _ i _=>m-(intOf i).toNat)
   case atStart=>exact⟨0,Nat.zero_le _,rfl,rfl,rfl,Below.refl _ _⟩
   case round=>
    obtain⟨j,hj,rfl,rfl,hal,hb⟩:=hrel;have HBQ:=aa hb;have HAP:=aa hal;have HXq:=aa ((hb.block _ HLT9.out).trans HX9.out);have d1:=af (k:=1) HXq.out;have d4:=af (k:=4) HXq.out;have d6:=af (k:=6) HXq.out;simp only[List.getElem?_toArray,cj]at d1 d4 d6;have HBE:=aa (HBW.out.trans ((ac HB9.out HBQ.out).mono (by have:=HSZ.out; omega)));clear hb hal
    by_cases hjm:j<m
    ·obtain⟨p,hp⟩: ∃p,f.parts[j]? =some p:=⟨_,List.getElem?_eq_getElem (show j<f.parts.length by rw[<-HM.out]; exact hjm)⟩;obtain⟨b2,o2,rfl,-,-,hpok,q0,q1⟩:=dN HPA.out (ac HB9.out HBQ.out) hp;have HP:=aa hp;have hsum:=hpok.sm;unfold maxLen at hsum;clear hp hpok
     by_cases hv:fP p=true
     case neg=>
      have HVN:=aa (show cr f=false by
       rw[rJ]; unfold uO;rw[gz HP.out (by simpa using hv)]; rfl)
      have hv2:p.sum.size=32->1<=p.size-> ¬p.size<=32768:=fun h1 h2 h3=>hv (by unfold fP; simp[h1,h2,h3])
      have HV2:=aa hv2;clear hv hv2
      by_cases h1:p.sum.size=32
      case neg=>
       have h1': ¬(p.sum.size:Int)=32:=by omega
       have HBAD:=aa (show cZ x=false by rw[cl,gz HFK.out HVN.out]; simp);go_wp2_with fail;go_ret;exact⟨ak (by rw[HBAD.out]),HBE.out⟩
      by_cases h2:p.size<1
      case pos=>
       have HBAD:=aa (show cZ x=false by rw[cl,gz HFK.out HVN.out]; simp);go_wp2_with fail;go_ret;exact⟨ak (by rw[HBAD.out]),HBE.out⟩
      have h3:32768<p.size:=by have:=HV2.out h1 (by omega); omega
      have HBAD:=aa (show cZ x=false by rw[cl,gz HFK.out HVN.out]; simp);go_wp2_with fail;go_ret;exact⟨ak (by rw[HBAD.out]),HBE.out⟩
     obtain⟨h1,h2,h3⟩:=(show p.sum.size=32/\1<=p.size/\p.size<=32768 by unfold fP at hv; simpa [and_assoc]using hv);have HVP:=aa hv;have hn2: ¬p.size<1:=by omega
     have hn3: ¬32768<p.size:=by omega
     clear hv;go_wp2_with fail
     go_roundw
     case rel=>
      refine⟨j+1,by omega,rfl, ?_,il HAP.out HP.out HVP.out,HBQ.out⟩;rw[aS HP.out,pn]
     case measure=>simp only[intOf,Int.toNat_natCast]; omega
    ·have htk:f.parts.take j=f.parts:=List.take_of_length_le (by rw[<-HM.out]; omega);have hall:f.parts.all fP=true:=by rw[<-htk]; exact HAP.out
     rw[htk];have HALL:=aa hall;obtain⟨t,ht⟩: ∃t,t=ia f.parts:=⟨_,rfl⟩;rw[<-ht];have HT:=aa ht;clear hall htk ht;have HRS:=aa (show cr f=((decide (f.size=t) && decide (t<=1048576)) && (decide (f.kind=1) || decide (f.parts=[]))) by
      rw[rJ]; unfold uO; rw[HALL.out,<-HT.out]; rfl)
     by_cases h1:f.size=t
     case neg=>
      have HVN:=aa (show cr f=false by rw[HRS.out]; simp[h1]);have HBAD:=aa (show cZ x=false by rw[cl,gz HFK.out HVN.out]; simp);go_wp2_with fail;go_ret;exact⟨ak (by rw[HBAD.out]),HBE.out⟩
     by_cases h2:1048576<t
     case pos=>
      have HVN:=aa (show cr f=false by rw[HRS.out,show decide (t<=1048576)=false by simp; omega]; simp);have HBAD:=aa (show cZ x=false by rw[cl,gz HFK.out HVN.out]; simp);go_wp2_with fail;go_ret;exact⟨ak (by rw[HBAD.out]),HBE.out⟩
     by_cases h3:f.kind=1
     case pos=>
      have HVY:=aa (show cr f=true by rw[HRS.out]; simp[h1,h3]; omega);go_wp2_with fail
      go_roundw
      case rel=>
       refine⟨k+1,by omega,rfl,il HA.out HFK.out HVY.out, ?_,ac HB9.out HBQ.out⟩;rw[aS HFK.out,List.map_append,List.map_singleton,jB];exact aK HO9.out HBQ.out
      case measure=>simp only[intOf,Int.toNat_natCast]; omega
     by_cases h4:m=0
     case neg=>
      have HVN:=aa (show cr f=false by
       rw[HRS.out];have:f.parts≠[]:=fun e=>h4 (by rw[HM.out,e]; rfl)
       simp[h3,this])
      have h5:0<m:=by omega
      have HBAD:=aa (show cZ x=false by rw[cl,gz HFK.out HVN.out]; simp);go_wp2_with fail;go_ret;exact⟨ak (by rw[HBAD.out]),HBE.out⟩
     have h5:f.parts=[]:=List.eq_nil_of_length_eq_zero (by rw[<-HM.out]; exact h4);have HVY:=aa (show cr f=true by rw[HRS.out]; simp[h1,h5]; omega);have h6: ¬0<m:=by omega
     clear h5;go_wp2_with fail
     go_roundw
     case rel=>
      refine⟨k+1,by omega,rfl,il HA.out HFK.out HVY.out, ?_,ac HB9.out HBQ.out⟩;rw[aS HFK.out,List.map_append,List.map_singleton,jB];exact aK HO9.out HBQ.out
     case measure=>simp only[intOf,Int.toNat_natCast]; omega
  ·have hkn:k=n:=by omega
   subst hkn;have htk:x.files.take k=x.files:=List.take_of_length_le (by rw[<-HN.out]; exact Nat.le_refl _);have HALL:=aa (show x.files.all cr=true by rw[<-htk]; exact HA.out);rw[htk]at HOWN;clear htk;have HEA:=aa (show bG (fun i=>W.heap.size<=i/\(Value.slice av k cv).ownBlock=some i) wr (.slice av k cv) (x.files.map fj) by
    have h1:=ba HOWN.out;have h2:=mG (S:=fun i=>W.heap.size<=i/\(Value.slice av k cv).ownBlock=some i) (w:=wr) (ys:=x.files.map lY) (fun y hy=>by
     obtain⟨f,hf,rfl⟩:=List.mem_map.1 hy;exact⟨bU.nil _ _,xN (qR HV.out f hf)⟩)
    rw[qn]at h2;have h3:(x.files.map fj).length=k:=by rw[List.length_map,HN.out]
    exact⟨_,by rw[h3]; exact h1,h2⟩)
   have HPE:=aa (show ∀e∈x.files.map fj,e.path.size<=16777216 from fun e he=>by
    obtain⟨f,hf,rfl⟩:=List.mem_map.1 he;exact HPS.out f hf)
   obtain⟨z,hz⟩: ∃z,bL (x.files.map fj)=z:=⟨_,rfl⟩;have HZ:=aa hz;have HEB:=aa (show Below w.heap.size w wr from HBW.out.trans (HB.out.mono (by have:=HSZ.out; omega)));have HR:=aa (show cZ x=(decide (0<=x.tm) && decide (z=0)) by rw[An x HALL.out,hz]);clear hz
   by_cases ht:0<=x.tm
   case neg=>
    have HF:=aa (show cZ x=false by rw[HR.out,decide_eq_false ht]; rfl);have ht2:x.tm<0:=by omega
    go_wp2_with fail;go_ret;exact⟨ak (by rw[HF.out]),HEB.out⟩
   have HF:=aa (show cZ x=decide (z=0) by rw[HR.out,decide_eq_true ht]; rfl);go_wp2_with (go_at_call 35; refine(vS _ _ _ z _ HEA.out HPE.out HZ.out).mono ?_; rintro e w1 ⟨rfl,hb1⟩; have HB2:=aa (ac HEB.out hb1); clear hb1);go_ret;exact⟨ak (by rw[HF.out]; rfl),HB2.out⟩
theorem iL (l:List ByteArray): ∀u∈l.map Value.string,u.oneCell'=true:=by
 intro u hu;obtain⟨x,_,rfl⟩:=List.mem_map.1 hu
 rfl
theorem yB {w:World} {z:Nat} {x:Value} {t:TypeId} (h:w.heap[z]? =some (.cells #[x] t (0,0))):aD (fun k=>k=z) w 1 (.slice (some ⟨z,0,none⟩) 1 1) 1 [x]:=
 ⟨rfl,_,1,rfl,Nat.le_refl _,by unfold maxLen; omega, .inr ⟨z,0,rfl,rfl,fun j u hj=>by
  rw[Nat.zero_add,ah h]
  simpa [List.getElem?_toArray]using hj⟩⟩
theorem ni {S:Nat->Prop} {w:World} {sz n c k:Nat} {a:Option Addr} {cells:List Value} (h:aD S w sz (.slice a n c) n cells) (hk:k<=n):aD S w sz (.slice a k c) k (cells.take (k*sz)):=by
 obtain⟨hl,a',cap,he,hn,hm,h0⟩:=h
 cases he
 refine⟨by rw[List.length_take,hl]; exact Nat.min_eq_left (Nat.mul_le_mul_right _ hk),a,c,rfl,by omega,hm, ?_⟩
 rcases h0 with h0 | ⟨b,o,ha,hb,hc⟩
 ·exact .inl (by omega)
 ·refine .inr ⟨b,o,ha,hb,fun j u hj=>hc j u ?_⟩;rw[List.getElem?_take]at hj
  split at hj
  ·exact hj
  ·cases hj
theorem yA {S:Nat->Prop} {w:World} {sz n c k b o:Nat} {cells:List Value} (h:aD S w sz (.slice (some ⟨b,o,none⟩) n c) n cells) (hk:k<=n):aD S w sz (.slice (some ⟨b,o+k*sz,none⟩) (n-k) (c-k)) (n-k) (cells.drop (k*sz)):=by
 obtain⟨hl,a',cap,he,hn,hm,h0⟩:=h
 cases he
 refine⟨by rw[List.length_drop,hl,Nat.sub_mul],_,_,rfl,by omega,by omega, ?_⟩
 rcases h0 with h0 | ⟨b',o',ha,hb,hc⟩
 ·exact .inl (by omega)
 ·cases ha
  refine .inr ⟨b,_,rfl,hb,fun j u hj=> ?_⟩;rw[List.getElem?_drop]at hj;rw[Nat.add_assoc];exact hc _ u hj
theorem rS {S:Nat->Prop} {w:World} {sz c:Nat} {a:Option Addr} (hc:c<=maxLen):aD S w sz (.slice a 0 c) 0 []:=⟨by simp,a,c,rfl,Nat.zero_le _,hc, .inl rfl⟩
structure jk (W wr : World) (v : Value) (P : List ByteArray) : Prop where
 row:wr.ownsRow W.heap.size 9 1 v P.length (P.map Value.string)
 shp: ∃pb pc,v= .slice (some ⟨pb,0,none⟩) P.length pc
 below:Below W.heap.size W wr
theorem jk.one {w:World} {B n:Nat} {v:Value} {P:List Value} (h:w.ownsRow B 9 1 v n P) (hn:0<n): ∃pb pc,v= .slice (some ⟨pb,0,none⟩) n pc:=by
 rcases h.2 with⟨-,h0⟩ | ⟨gb,cap,cur,rfl,-⟩
 ·omega
 ·exact⟨_,_,rfl⟩
theorem jk.later {W W0 w8:World} {v:Value} {L:List ByteArray} (h:jk W W0 v L) (hb:Below W0.heap.size W0 w8):jk W w8 v L:=⟨aK h.row hb,h.shp,h.below.trans (hb.mono h.below.size)⟩
end Go.Proofs.YtnjkpcalgoefhaaGreatDoor
namespace Go.Proofs.YtnjkpcalgoefhaaGreatDoor
open Go.RowKit
def nY (a b:ByteArray):Bool:=decide (bl a<bl b)
theorem AR (a b c:ByteArray) (h1:nY a b=true) (h2:nY b c=true):nY a c=true:=by
 unfold nY at *;rw[decide_eq_true_eq]at *;exact List.lt_trans h1 h2
theorem AQ (a b:ByteArray) (h1:nY a b=false) (h2:a≠b):nY b a=true:=by
 unfold nY at *;rw[decide_eq_true_eq];rw[decide_eq_false_iff_not]at h1;have h3:bl b<=bl a:=List.not_lt.1 h1
 rcases List.le_iff_lt_or_eq.1 h3 with h4 | h4
 ·exact h4
 ·exact absurd (fC h4).symm h2
theorem um {α:Type} {lt:α->α->Prop} (ht: ∀a b c,lt a b->lt b c->lt a c) (hi: ∀a,¬lt a a): ∀ {l r:List α},l.Pairwise lt->r.Pairwise lt->(∀x,x∈l<->x∈r)->l=r
 | [],r,_,_,h=>(List.eq_nil_iff_forall_not_mem.2 fun x hx=>by simpa using (h x).2 hx).symm
 | a::l,[],_,_,h=>absurd ((h a).1 (by simp)) (by simp)
 | a::l,b::r,hl,hr,h=>by
  have hl2:=List.pairwise_cons.1 hl;have hr2:=List.pairwise_cons.1 hr;have hab:a=b:=by
   rcases List.mem_cons.1 ((h a).1 (by simp))with e | h1
   ·exact e
   ·rcases List.mem_cons.1 ((h b).2 (by simp))with e | h2
    ·exact e.symm
    ·exact absurd (ht _ _ _ (hl2.1 b h2) (hr2.1 a h1)) (hi a)
  subst hab;rw[um ht hi hl2.2 hr2.2 fun x=>⟨fun hx=> ?_,fun hx=> ?_⟩]
  ·rcases List.mem_cons.1 ((h x).1 (by simp[hx]))with e | h1
   ·subst e; exact absurd (hl2.1 x hx) (hi x)
   ·exact h1
  ·rcases List.mem_cons.1 ((h x).2 (by simp[hx]))with e | h1
   ·subst e; exact absurd (hr2.1 x hx) (hi x)
   ·exact h1
def cH (ps:List aY):List ByteArray:=(ps.map aY.sum).foldl (ge nY) []
theorem pm {ps:List aY} {q:ByteArray} :q∈cH ps<-> ∃p∈ps,p.sum=q:=by
 unfold cH;rw[uF];simp
theorem wQ (ps:List aY):(cH ps).Pairwise fun a b=>nY a b=true:=rm AR AQ _ [] List.Pairwise.nil
theorem tZ (ps:List aY) (p:aY):cH (ps++[p])=ge nY (cH ps) p.sum:=by
 unfold cH;rw[List.map_append,List.foldl_append]; rfl
theorem oS {α:Type} [DecidableEq α]: ∀ {l r:List α},l.Nodup->(∀x∈l,x∈r)->l.length<=r.length
 | [],_,_,_=>Nat.zero_le _
 | a::l,r,hn,h=>by
  have hn2:=List.nodup_cons.1 hn;have h1:=oS (r:=r.erase a) hn2.2 fun x hx=>by
   have hxa:x≠a:=fun e=>hn2.1 (e▸hx)
   exact(List.mem_erase_of_ne hxa).2 (h x (by simp[hx]))
  have h2:=List.length_erase_of_mem (h a (by simp));have h3:=List.length_pos_of_mem (h a (by simp));rw[List.length_cons]; omega
theorem rZ {ps:List aY} {ss:List (List UInt8)} (hn:ss.Nodup) (hm: ∀q,q∈ss<-> ∃p∈ps,bl p.sum=q):ss.mergeSort (fun x y=>decide (x<=y))=(cH ps).map bl:=by
 have hp:=List.mergeSort_perm ss (fun x y=>decide (x<=y));refine um (lt:=fun a b=>a<b) (fun _ _ _ h1 h2=>List.lt_trans h1 h2) (fun a h=>List.lt_irrefl a h) ?_ ?_ (fun x=> ?_)
 ·have h1:(ss.mergeSort (fun x y=>decide (x<=y))).Pairwise fun a b=>decide (a<=b)=true:=List.pairwise_mergeSort (fun a b c h1 h2=>by
    rw[decide_eq_true_eq]at *; exact List.le_trans h1 h2) (fun a b=>by
    rw[Bool.or_eq_true,decide_eq_true_eq,decide_eq_true_eq]; exact List.le_total a b) ss
  have h2:(ss.mergeSort (fun x y=>decide (x<=y))).Nodup:=hp.nodup_iff.2 hn;refine(h1.and h2).imp fun {a b} h=> ?_
  rcases List.le_iff_lt_or_eq.1 (of_decide_eq_true h.1)with h4 | h4
  ·exact h4
  ·exact absurd h4 h.2
 ·rw[List.pairwise_map];exact(wQ ps).imp fun h=>of_decide_eq_true h
 ·rw[hp.mem_iff,hm,List.mem_map]
  constructor
  ·rintro⟨p,h1,h2⟩;exact⟨p.sum,pm.2 ⟨p,h1,rfl⟩,h2⟩
  ·rintro⟨q,h1,h2⟩;obtain⟨p,h3,rfl⟩:=pm.1 h1;exact⟨p,h3,h2⟩
open Go Go.RowKit Go.Maps
theorem uH : ∀(x y:List UInt8),Op.bytesLess x y=decide (x<y)
 | [],[]=>by simp[Op.bytesLess]
 | _::_,[]=>by simp[Op.bytesLess]
 | [],_::_=>by simp[Op.bytesLess]
 | a::x,b::y=>by
  rw[Op.bytesLess,uH x y];simp only[List.cons_lt_cons_iff]
  by_cases h1:a<b<;> by_cases h2:a=b<;> by_cases h3:x<y<;> simp[h1,h2,h3]
theorem ry (a b:ByteArray):Op.bytesLess a.toList b.toList=nY a b:=by rw[uH,aX,aX]; rfl
theorem pR {L:List ByteArray} {p:ByteArray} {j:Nat} (h: ∀f∈L.take j,nY f p=true): ∀(i:Nat) (q:ByteArray),i<j->L[i]? =some q->nY q p=true:=fun i q hi hq=>h q (List.mem_of_getElem? (i:=i) (by rw[List.getElem?_take,if_pos hi]; exact hq))
theorem oO {lt:ByteArray->ByteArray->Bool} {p:ByteArray} : ∀ {P:List ByteArray},(ge lt P p).length<=P.length+1
 | []=>by simp[ge]
 | x::P=>by
  simp only[ge]
  split
  ·have:=oO (lt:=lt) (p:=p) (P:=P);simp only[List.length_cons]; omega
  ·split<;> simp
theorem wR (ps:List aY):(cH ps).length<=ps.length:=by
 have key: ∀(l P:List ByteArray),(l.foldl (ge nY) P).length<=P.length+l.length:=by
  intro l
  induction l with
  | nil=>intro P; simp
  | cons x l ih=>
   intro P;have h1:=ih (ge nY P x);have h2:=oO (lt:=nY) (p:=x) (P:=P);rw[List.foldl_cons,List.length_cons]; omega
 have h:=key (ps.map aY.sum) [];rw[List.length_nil,List.length_map,Nat.zero_add]at h;exact h
def dj (x:dn) (i:Nat) (ps:List aY):List aY:=(x.files.take i).flatMap au.parts++ps
theorem mX {x:dn} {i n:Nat} {f:au} (hf:x.files[i]? =some f):(dj x i (f.parts.take n)).length<=(x.files.flatMap au.parts).length:=by
 have h1:(x.files.take (i+1)).flatMap au.parts=(x.files.take i).flatMap au.parts++f.parts:=by
  rw[aS hf,List.flatMap_append]; simp
 have h2:x.files.flatMap au.parts=(x.files.take (i+1)).flatMap au.parts++(x.files.drop (i+1)).flatMap au.parts:=by
  rw[<-List.flatMap_append,List.take_append_drop]
 have h3:(f.parts.take n).length<=f.parts.length:=List.length_take_le' _ _;rw[h2,h1];unfold dj;simp only[List.length_append];omega
theorem od (S:Nat->Prop) (x:dn) (fv:Value) (w:World) (hx:aM S w fv x.files) (hpb:(x.files.flatMap au.parts).length<=8000):
  Calls Tryz.prog 31 #[dY fv x.tm] w fun e w'=> ∃v,e= .returned v/\w'.ownsRow w.heap.size 9 1 v (cH (x.files.flatMap au.parts)).length ((cH (x.files.flatMap au.parts)).map Value.string)/\Below w.heap.size w w':=by
 obtain⟨a,cap,rfl,hc,hm,-⟩:=aP.shape hx dB.len;have HX0:=aa hx;have HPB:=aa hpb;obtain⟨nf,hnf⟩: ∃n,n=x.files.length:=⟨_,rfl⟩;rw[<-hnf]at HX0 hc ⊢;have HNF:=aa hnf;unfold maxLen at hm;have hnfm:nf<=9223372036854775807:=by omega
 clear hx hpb hnf hc hm;unfold dY
 go_enter Tryz.func31,Tryz.ntmps31
 go_upto_region 1 with fail
 obtain⟨W,hW⟩: ∃W,W=w.alloc (.cells #[.int .i64 x.tm, .slice a nf cap] 36):=⟨_,rfl⟩;rw[<-hW];have HBW:=aa (show Below w.heap.size w W by rw[hW]; exact(Below.refl _ _).alloc (Nat.le_refl _) _);have HX:=aa (show W.heap[w.heap.size]? =some (.cells #[.int .i64 x.tm, .slice a nf cap] 36 (0,0)) by rw[hW]; exact heap_alloc_new w _);have HSZ:=aa (show W.heap.size=w.heap.size+1 by rw[hW]; simp)
 clear hW;have HS0:=aa (show jk W (W.alloc (.cells #[] 9)) (.slice (some ⟨W.heap.size,0,none⟩) 0 0) (cH (dj x 0 []))from⟨World.ownsRow_made (base:=W.heap.size) (e:=9) (size:=1) W #[] 0 (Nat.le_refl _) (by unfold maxLen; omega) rfl,⟨_,_,rfl⟩,(Below.refl _ _).alloc (Nat.le_refl _) _⟩);have HV:=aa (HX0.out.below HBW.out);go_wp2_with fail
 go_loopw [3,4] (fun v i wr=> ∃k:Nat,k<=nf/\i= .int .i64 k/\jk W wr v (cH (dj x k []))) (fun _ i _=>nf-(intOf i).toNat)
 case atStart=>exact⟨0,Nat.zero_le _,rfl,HS0.out⟩
 case round=>
  obtain⟨k,hk,rfl,hso⟩:=hrel;have HSO:=aa hso;obtain⟨pb,pc,rfl⟩:=hso.shp;have hbx:=hso.below;have x1:=(hbx.cell (p:=⟨w.heap.size,1,none⟩) (by show w.heap.size<W.heap.size; have:=HSZ.out; omega)).trans (af (k:=1) HX.out);simp only[List.getElem?_toArray,cj]at x1;clear hso hbx
  by_cases hlt:k<nf
  ·obtain⟨f,hf⟩: ∃f,x.files[k]? =some f:=⟨_,List.getElem?_eq_getElem (show k<x.files.length by rw[<-HNF.out]; exact hlt)⟩;have HF:=aa hf;obtain⟨b1,o1,pa1,pc1,rfl,-,hpa1,hbl1,-,hcl⟩:=cW HV.out (Below.refl _ _) hf;have HPA:=aa hpa1;have HCL:=aa (show ∀u:World,Below W.heap.size W u->u.cell? ⟨w.heap.size,1,none⟩=some (.slice (some ⟨b1,o1,none⟩) nf cap)/\u.cell? ⟨b1,o1+k*7+6,none⟩=some (.slice pa1 f.parts.length pc1)from fun u hu=>⟨(hu.cell (p:=⟨w.heap.size,1,none⟩) (by show w.heap.size<W.heap.size; have:=HSZ.out; omega)).trans (af (k:=1) HX.out),(hu.cell (p:=⟨b1,o1+k*7+6,none⟩) hbl1).trans (hcl 6 (by omega))⟩)
   obtain⟨nm,hnm⟩: ∃n,n=f.parts.length:=⟨_,rfl⟩;rw[<-hnm]at HCL HPA;have hnm8:nm<=8000:=by
    have h2:=mX (n:=nm) hf;have h3:=HPB.out;unfold dj at h2;rw[List.length_append,hnm,List.take_length]at h2;omega
   have HNM:=aa hnm;have HSK:=aa (show jk W wr (.slice (some ⟨pb,0,none⟩) (cH (dj x k [])).length pc) (cH (dj x k (f.parts.take 0))) by rw[List.take_zero]; exact HSO.out);clear hf hpa1 hbl1 hcl hnm;go_wp2_with fail;clear x1
   go_loopw [3,5] (fun v i wq=> ∃n:Nat,n<=nm/\i= .int .i64 n/\jk W wq v (cH (dj x k (f.parts.take n)))) (fun _ i _=>nm-(intOf i).toNat)
   case atStart=>exact⟨0,Nat.zero_le _,rfl,HSK.out⟩
   case round=>
    obtain⟨n,hn,rfl,hsn⟩:=hrel;have HSN:=aa hsn;obtain⟨W0,hW0⟩: ∃y:World,y=wr:=⟨_,rfl⟩;subst hW0;obtain⟨qb,qc,rfl⟩:=hsn.shp;obtain⟨x1,f6⟩:=HCL.out W0 hsn.below;clear hsn
    by_cases hlm:n<nm
    ·obtain⟨pp,hp⟩: ∃p,f.parts[n]? =some p:=⟨_,List.getElem?_eq_getElem (show n<f.parts.length by rw[<-HNM.out]; exact hlm)⟩;obtain⟨b2,o2,rfl,-,-,hpok,r0,r1⟩:=dN HPA.out HSN.out.below hp;obtain⟨p,hpp⟩: ∃p,p=pp.sum:=⟨_,rfl⟩;rw[<-hpp]at r0;obtain⟨L,hL⟩: ∃L,L=cH (dj x k (f.parts.take n)):=⟨_,rfl⟩;obtain⟨L',hL'⟩: ∃L',L'=ge nY L p:=⟨_,rfl⟩
     have HL':=aa hL';obtain⟨m,hm0⟩: ∃m,m=L.length:=⟨_,rfl⟩;have HM0:=aa hm0;have HSL:=aa (show jk W W0 (.slice (some ⟨qb,0,none⟩) (cH (dj x k (f.parts.take n))).length qc) L by rw[hL]; exact HSN.out);have HEND:=aa (show L'=cH (dj x k (f.parts.take (n+1))) by
      rw[hL',hL,hpp]; unfold dj;rw[aS hp,<-List.append_assoc,tZ])
     have hmn:m<=8000:=by
      have h1:=wR (dj x k (f.parts.take n));have h2:=mX (n:=n) HF.out;have h3:=HPB.out;rw[<-hL,<-hm0]at h1;omega
     rw[<-hL,<-hm0]at HSL;rw[<-hL,<-hm0];have HRW:=aa (show aD (fun _=>True) W0 1 (.slice (some ⟨qb,0,none⟩) m qc) m (L.map Value.string) by
      have h1:=ba HSL.out.row;rw[<-hm0]at h1;exact h1.weak fun _ _=>trivial)
     obtain⟨hcv,hmv⟩:m<=qc/\qc<=maxLen:=by
      obtain⟨_,a2,c2,h1,h2,h3,_⟩:=HRW.out
      cases h1
      exact⟨h2,h3⟩
     unfold maxLen at hmv;have HES:=aa (show bK (fun _=>True) W0 (.slice (some ⟨qb,0,none⟩) m qc) L by unfold bK; rw[<-hm0]; exact HRW.out);clear hL hL' hm0 hpp hp hpok;go_wp2_with fail;clear x1 f6 r0 r1
     go_loopw [7] (fun j wq=> ∃j':Nat,j= .int .i64 j'/\j'<=m/\(∀f∈L.take j',nY f p=true)/\W0=wq) (fun j _=>m-(intOf j).toNat)
     case atStart=>exact⟨0,rfl,Nat.zero_le _,by simp,rfl⟩
     case round=>
      obtain⟨j,rfl,hjm,hji,rfl⟩:=hrel;have HIX:=aa hji;clear hji
      by_cases hjl:j<m
      case' pos=>
       obtain⟨g,hg⟩: ∃f,L[j]? =some f:=⟨L[j]'(by rw[<-HM0.out]; omega),by simp⟩;obtain⟨_,_,he,_,_,hcell⟩:=bK.shape HES.out;obtain⟨b3,o3,hab,-,p0⟩:=hcell j g hg;simp only[Value.slice.injEq]at he;obtain⟨rfl,-,rfl⟩:=he;simp only[Option.some.injEq,Addr.mk.injEq,and_true]at hab;obtain⟨rfl,rfl⟩:=hab;rw[Nat.zero_add]at p0;have e9:decide (j<m)=true:=by simp; omega
       have hjn2:(j:Int)<(m:Int):=by omega
       have HG:=aa hg;clear hg hcell;have e7:((j:Int) == (m:Int))=false:=by rw[beq_eq_false_iff_ne]; omega
       by_cases hneg:nY g p=true
       case pos=>
        have e8:Op.bytesLess g.toList p.toList=true:=by rw[ry]; exact hneg
        have HIN:=aa (show ∀f∈L.take (j+1),nY f p=true from fun y hy=>by
         rw[List.take_add_one,HG.out]at hy
         rcases List.mem_append.1 hy with hy | hy
         ·exact HIX.out y hy
         ·rw[show y=g by simpa using hy]; exact hneg)
        go_wp2_with fail;exact⟨⟨j+1,by go_num,by omega,HIN.out,trivial⟩,by simp[intOf]; omega⟩
       case' neg=>
        have e8:Op.bytesLess g.toList p.toList=false:=by rw[ry]; simpa using hneg
        have HNEG:=aa (show nY g p=false by simpa using hneg)
        by_cases hfp:g=p
        case pos=>
         have e2:(g.toList == p.toList)=true:=by rw[hfp]; simp
         have HR:=aa (show L'=L by rw[HL'.out,lP (k:=j) (by rw[<-HM0.out]; omega) (pR HIX.out) (fun q hq=>by rw[HG.out]at hq; rw[<-Option.some.inj hq]; exact HNEG.out),HG.out,if_pos (by rw[hfp])]);clear hfp;go_wp2_with fail;refine⟨⟨n+1,by omega,by go_num, ?_⟩,by simp[intOf]; omega⟩;rw[<-HEND.out,HR.out];exact HSL.out
        case' neg=>
         have e2:(g.toList == p.toList)=false:=by rw[beq_eq_false_iff_ne]; intro h; exact hfp (fC (by rw[<-aX,<-aX]; exact h))
         have HJ:=aa (show L'=L.take j++[p]++L.drop j by rw[HL'.out,lP (k:=j) (by rw[<-HM0.out]; omega) (pR HIX.out) (fun q hq=>by rw[HG.out]at hq; rw[<-Option.some.inj hq]; exact HNEG.out),HG.out,if_neg (fun h=>hfp (Option.some.inj h))]);clear hfp
         go_upto_region 13 with fail
         have HBQ:=aa (Below.refl W0.heap.size W0);clear e8 e2 p0 hjn2 e9 hneg e7;refine dW (fun _=>True) (by kernel_rfl) ?_;obtain⟨V,hV⟩: ∃V:World,V=(W0).drew:=⟨_,rfl⟩;rw[<-hV];have HBV:=aa (show Below W0.heap.size W0 V by rw[hV]; exact ac HBQ.out ((Below.refl _ _).drew));clear hV;have hrw:=HRW.out;obtain⟨J,hJJ⟩: ∃J,J=j:=⟨_,rfl⟩;obtain⟨N,hNN⟩: ∃N,N=L.length-J:=⟨_,rfl⟩
         have HJL:=aa (show J<=L.length by rw[hJJ,<-HM0.out]; exact hjm);have hJN:J+N<=8200:=by have:=HM0.out; have:=HJL.out; omega
         have HIJ:=aa (show L'=L.take J++[p]++L.drop J by rw[hJJ]; exact HJ.out);have HP:=aa (show aD (fun _=>True) W0 1 _ J ((L.take J).map Value.string)from by
          have h1:=ni (sz:=1) hrw hjm;rw[Nat.mul_one,<-List.map_take]at h1;rw[hJJ]; exact h1)
         have HQ:=aa (show aD (fun _=>True) W0 1 (.slice (some ⟨qb,j,none⟩) (m-j) (qc-j)) N ((L.drop J).map Value.string)from by
          have h1:=yA (sz:=1) hrw hjm;rw[Nat.mul_one,<-List.map_drop,Nat.zero_add]at h1;rw[hNN,hJJ,<-HM0.out];exact h1)
         have hjc2:j<qc:=by omega
         have hjc3:j<=qc:=by omega
         have HNN:=aa hNN;clear hrw hJJ hNN;refine ag 1 rfl (by kernel_rfl) (by kernel_rfl) (by kernel_rfl) (fun _ _ _ h=>h) rfl trivial (by intro w' _; go_simp; rfl) ?_;simp only[Act.put,aG,aH,aI];refine ag 2 rfl (by kernel_rfl) (by kernel_rfl) (by kernel_rfl) (fun _ _ _ h=>h) rfl trivial (by intro w' _; go_simp; rfl) ?_;simp only[Act.put,aG,aH,aI];refine ag 3 rfl (by kernel_rfl) (by kernel_rfl) (by kernel_rfl) (fun _ _ _ h=>h) rfl trivial (by intro w' _; go_simp; rfl) ?_
         simp only[Act.put,aG,aH,aI];refine ag 5 rfl (by kernel_rfl) (by kernel_rfl) (by kernel_rfl) (fun _ _ _ h=>h) rfl trivial (by intro w' _; go_simp; rfl) ?_;simp only[Act.put,aG,aH,aI];refine ag 8 rfl (by kernel_rfl) (by kernel_rfl) (by kernel_rfl) (fun _ _ _ h=>h) rfl trivial (by intro w' _; go_simp; rfl) ?_;simp only[Act.put,aG,aH,aI];refine ag 9 rfl (by kernel_rfl) (by kernel_rfl) (by kernel_rfl) (fun _ _ _ h=>h) rfl trivial (by intro w' _; go_simp; rfl) ?_
         simp only[Act.put,aG,aH,aI];refine ag 10 rfl (by kernel_rfl) (by kernel_rfl) (by kernel_rfl) (fun _ _ _ h=>h) rfl trivial (by intro w' _; go_simp; rfl) ?_;simp only[Act.put,aG,aH,aI]
      case' neg=>
       have hj2:m=j:=by omega
       subst hj2;have HJ:=aa (show L'=L.take m++[p]++L.drop m by rw[HL'.out,lP (k:=m) (by rw[<-HM0.out]; omega) (pR HIX.out) (fun q hq=>by rw[HM0.out,List.getElem?_eq_none (Nat.le_refl _)]at hq; cases hq),HM0.out,List.getElem?_eq_none (Nat.le_refl _),if_neg (by simp)])
       go_upto_region 13 with(fail)
       have HBQ:=aa (Below.refl W0.heap.size W0);refine dW (fun _=>True) (by kernel_rfl) ?_;obtain⟨V,hV⟩: ∃V:World,V=(W0).drew:=⟨_,rfl⟩;rw[<-hV];have HBV:=aa (show Below W0.heap.size W0 V by rw[hV]; exact ac HBQ.out ((Below.refl _ _).drew));clear hV;have hrw:=HRW.out
       by_cases hjc:m=qc
       case' pos=>
        subst hjc;obtain⟨J,hJJ⟩: ∃J,J=m:=⟨_,rfl⟩;obtain⟨N,hNN⟩: ∃N,N=L.length-J:=⟨_,rfl⟩;have HJL:=aa (show J<=L.length by rw[hJJ,<-HM0.out]; exact hjm);have hJN:J+N<=8200:=by have:=HM0.out; have:=HJL.out; omega
        have HIJ:=aa (show L'=L.take J++[p]++L.drop J by rw[hJJ]; exact HJ.out);have HP:=aa (show aD (fun _=>True) W0 1 _ J ((L.take J).map Value.string)from by
         have h1:=ni (sz:=1) hrw hjm;rw[Nat.mul_one,<-List.map_take]at h1;rw[hJJ]; exact h1)
        have HQ:=aa (show aD (fun _=>True) W0 1 (.slice (some ⟨qb,0,none⟩) 0 0) N ((L.drop J).map Value.string)from by
         have h1:L.length<=J:=by have:=HM0.out; omega
         rw[List.drop_eq_nil_of_le h1,hNN,Nat.sub_eq_zero_of_le h1];exact rS (by unfold maxLen; omega))
        have HNN:=aa hNN;clear hrw hJJ hNN;refine ag 1 rfl (by kernel_rfl) (by kernel_rfl) (by kernel_rfl) (fun _ _ _ h=>h) rfl trivial (by intro w' _; go_simp; rfl) ?_;simp only[Act.put,aG,aH,aI];refine ag 2 rfl (by kernel_rfl) (by kernel_rfl) (by kernel_rfl) (fun _ _ _ h=>h) rfl trivial (by intro w' _; go_simp; rfl) ?_;simp only[Act.put,aG,aH,aI];refine ag 3 rfl (by kernel_rfl) (by kernel_rfl) (by kernel_rfl) (fun _ _ _ h=>h) rfl trivial (by intro w' _; go_simp; rfl) ?_
        simp only[Act.put,aG,aH,aI];refine ag 5 rfl (by kernel_rfl) (by kernel_rfl) (by kernel_rfl) (fun _ _ _ h=>h) rfl trivial (by intro w' _; go_simp; rfl) ?_;simp only[Act.put,aG,aH,aI];refine ag 8 rfl (by kernel_rfl) (by kernel_rfl) (by kernel_rfl) (fun _ _ _ h=>h) rfl trivial (by intro w' _; go_simp; rfl) ?_;simp only[Act.put,aG,aH,aI];refine ag 9 rfl (by kernel_rfl) (by kernel_rfl) (by kernel_rfl) (fun _ _ _ h=>h) rfl trivial (by intro w' _; go_simp; rfl) ?_
        simp only[Act.put,aG,aH,aI];refine ag 10 rfl (by kernel_rfl) (by kernel_rfl) (by kernel_rfl) (fun _ _ _ h=>h) rfl trivial (by intro w' _; go_simp; rfl) ?_;simp only[Act.put,aG,aH,aI]
       case' neg=>
        obtain⟨J,hJJ⟩: ∃J,J=m:=⟨_,rfl⟩;obtain⟨N,hNN⟩: ∃N,N=L.length-J:=⟨_,rfl⟩;have HJL:=aa (show J<=L.length by rw[hJJ,<-HM0.out]; exact hjm);have hJN:J+N<=8200:=by have:=HM0.out; have:=HJL.out; omega
        have HIJ:=aa (show L'=L.take J++[p]++L.drop J by rw[hJJ]; exact HJ.out);have HP:=aa (show aD (fun _=>True) W0 1 _ J ((L.take J).map Value.string)from by
         have h1:=ni (sz:=1) hrw hjm;rw[Nat.mul_one,<-List.map_take]at h1;rw[hJJ]; exact h1)
        have HQ:=aa (show aD (fun _=>True) W0 1 (.slice (some ⟨qb,m,none⟩) 0 (qc-m)) N ((L.drop J).map Value.string)from by
         have h1:L.length<=J:=by have:=HM0.out; omega
         rw[List.drop_eq_nil_of_le h1,hNN,Nat.sub_eq_zero_of_le h1];exact rS (by unfold maxLen; omega))
        have hjc2:m<qc:=by omega
        have hjc3:m<=qc:=by omega
        clear hjc;have HNN:=aa hNN;clear hrw hJJ hNN;refine ag 1 rfl (by kernel_rfl) (by kernel_rfl) (by kernel_rfl) (fun _ _ _ h=>h) rfl trivial (by intro w' _; go_simp; rfl) ?_;simp only[Act.put,aG,aH,aI];refine ag 2 rfl (by kernel_rfl) (by kernel_rfl) (by kernel_rfl) (fun _ _ _ h=>h) rfl trivial (by intro w' _; go_simp; rfl) ?_;simp only[Act.put,aG,aH,aI];refine ag 3 rfl (by kernel_rfl) (by kernel_rfl) (by kernel_rfl) (fun _ _ _ h=>h) rfl trivial (by intro w' _; go_simp; rfl) ?_
        simp only[Act.put,aG,aH,aI];refine ag 5 rfl (by kernel_rfl) (by kernel_rfl) (by kernel_rfl) (fun _ _ _ h=>h) rfl trivial (by intro w' _; go_simp; rfl) ?_;simp only[Act.put,aG,aH,aI];refine ag 8 rfl (by kernel_rfl) (by kernel_rfl) (by kernel_rfl) (fun _ _ _ h=>h) rfl trivial (by intro w' _; go_simp; rfl) ?_;simp only[Act.put,aG,aH,aI];refine ag 9 rfl (by kernel_rfl) (by kernel_rfl) (by kernel_rfl) (fun _ _ _ h=>h) rfl trivial (by intro w' _; go_simp; rfl) ?_
        simp only[Act.put,aG,aH,aI];refine ag 10 rfl (by kernel_rfl) (by kernel_rfl) (by kernel_rfl) (fun _ _ _ h=>h) rfl trivial (by intro w' _; go_simp; rfl) ?_;simp only[Act.put,aG,aH,aI]
      all_goals
       skip
       refine nM.of (wpAnyH_all (rs:=[0,6]) (by kernel_rfl) (by simp) fun jj hjj=> ?_);simp only[List.mem_cons,List.not_mem_nil,or_false]at hjj
       rcases hjj with rfl | rfl
       case' inr=>
        refine lO 6 rfl rfl (fun K hK=> ?_);go_wp2_with fail;obtain⟨U1,hU⟩: ∃u:World,u=(V).alloc (.cells #[.string p] 9):=⟨_,rfl⟩;rw[<-hU];have hbu:Below (V).heap.size V U1:=by rw[hU]; exact(Below.refl _ _).alloc (Nat.le_refl _) _
        have HZ1:=aa (show(U1).heap[(V).heap.size]? =some (.cells #[.string p] 9 (0,0)) by rw[hU]; exact cX _ _);have HBU1:=aa (HBV.out.trans (hbu.mono HBV.out.size));clear hU
        try refine⟨trivial, ?_⟩
        try simp only[Act.put,aG,aH,aI]
        clear hbu;refine aR 0 rfl (by kernel_rfl) rfl (fun K hK=> ?_);go_wp2_with fail;obtain⟨U2,hU⟩: ∃u:World,u=(U1).alloc (.cells #[] 9):=⟨_,rfl⟩;rw[<-hU];have hbu:Below (U1).heap.size U1 U2:=by rw[hU]; exact(Below.refl _ _).alloc (Nat.le_refl _) _
        have HO2:=aa (show(U2).ownsRow W0.heap.size 9 1 (.slice (some ⟨(U1).heap.size,0,none⟩) 0 0) 0 [] by rw[hU]; exact World.ownsRow_lit (base:=W0.heap.size) U1 #[] 0 HBU1.out.size (Nat.zero_le _) (by simp));have HBU2:=aa (HBU1.out.trans (hbu.mono HBU1.out.size));clear hU
        try refine⟨trivial, ?_⟩
        try simp only[Act.put,aG,aH,aI]
        have HZ2:=aa ((hbu.block _ (dM HZ1.out)).trans HZ1.out);have HLT:=aa (show V.heap.size<U1.heap.size from dM HZ1.out);clear hbu;refine aR 4 rfl (by kernel_rfl) rfl (fun K hK=> ?_);go_wp2_with (at_builtin; go_must (refine bD Tryz.appStrings rfl _ _ rfl W0.heap.size _ 0 [] rfl HO2.out _ J ((L.take J).map Value.string) rfl (HP.out.below (by omega) HBU2.out) (iL _) (by omega) HBU2.out.size ?_); intro v1 U3 hown1 hg1)
        have HBU3:=aa (aZ HBU2.out HO2.out hg1 (Nat.le_refl _) HBU2.out.size);have HO3:=aa (show(U3).ownsRow W0.heap.size 9 1 v1 J ((L.take J).map Value.string) by rw[Nat.zero_add,List.nil_append]at hown1; exact hown1);have HG1:=aa hg1;obtain⟨g1,k1,rfl,-,-⟩:=aj HO3.out;clear hown1 hg1
        try refine⟨trivial, ?_⟩
        try simp only[Act.put,aG,aH,aI]
        have HZ3:=aa ((HG1.out.block _ (dM HZ2.out) (fun e'=>by have h1:V.heap.size=U1.heap.size:=Option.some.inj e'; have h2:=HLT.out; omega)).trans HZ2.out)
       case' inl=>
        refine lO 0 rfl rfl (fun K hK=> ?_);go_wp2_with fail;obtain⟨U1,hU⟩: ∃u:World,u=(V).alloc (.cells #[] 9):=⟨_,rfl⟩;rw[<-hU];have hbu:Below (V).heap.size V U1:=by rw[hU]; exact(Below.refl _ _).alloc (Nat.le_refl _) _
        have HO1:=aa (show(U1).ownsRow W0.heap.size 9 1 (.slice (some ⟨(V).heap.size,0,none⟩) 0 0) 0 [] by rw[hU]; exact World.ownsRow_lit (base:=W0.heap.size) V #[] 0 HBV.out.size (Nat.zero_le _) (by simp));have HBU1:=aa (HBV.out.trans (hbu.mono HBV.out.size));clear hU
        try refine⟨trivial, ?_⟩
        try simp only[Act.put,aG,aH,aI]
        refine nM.of (wpAnyH_all (rs:=[4,6]) (by kernel_rfl) (by simp) fun jj hjj=> ?_);simp only[List.mem_cons,List.not_mem_nil,or_false]at hjj
        rcases hjj with rfl | rfl
        case' inr=>
         refine lO 6 rfl rfl (fun K hK=> ?_);go_wp2_with fail;obtain⟨U2,hU⟩: ∃u:World,u=(U1).alloc (.cells #[.string p] 9):=⟨_,rfl⟩;rw[<-hU];have hbu:Below (U1).heap.size U1 U2:=by rw[hU]; exact(Below.refl _ _).alloc (Nat.le_refl _) _
         have HZ2:=aa (show(U2).heap[(U1).heap.size]? =some (.cells #[.string p] 9 (0,0)) by rw[hU]; exact cX _ _);have HBU2:=aa (HBU1.out.trans (hbu.mono HBU1.out.size));clear hU
         try refine⟨trivial, ?_⟩
         try simp only[Act.put,aG,aH,aI]
         have HO2:=aa (aK HO1.out hbu);have HLT:=aa (show V.heap.size<U1.heap.size from(HO1.out.lt _ rfl).2);clear hbu;refine aR 4 rfl (by kernel_rfl) rfl (fun K hK=> ?_);go_wp2_with (at_builtin; go_must (refine bD Tryz.appStrings rfl _ _ rfl W0.heap.size _ 0 [] rfl HO2.out _ J ((L.take J).map Value.string) rfl (HP.out.below (by omega) HBU2.out) (iL _) (by omega) HBU2.out.size ?_); intro v1 U3 hown1 hg1)
         have HBU3:=aa (aZ HBU2.out HO2.out hg1 (Nat.le_refl _) HBU2.out.size);have HO3:=aa (show(U3).ownsRow W0.heap.size 9 1 v1 J ((L.take J).map Value.string) by rw[Nat.zero_add,List.nil_append]at hown1; exact hown1);have HG1:=aa hg1;obtain⟨g1,k1,rfl,-,-⟩:=aj HO3.out;clear hown1 hg1
         try refine⟨trivial, ?_⟩
         try simp only[Act.put,aG,aH,aI]
         have HZ3:=aa ((HG1.out.block _ (dM HZ2.out) (fun e'=>by have h1:U1.heap.size=V.heap.size:=Option.some.inj e'; have h2:=HLT.out; omega)).trans HZ2.out)
        case' inl=>
         refine lO 4 rfl rfl (fun K hK=> ?_);go_wp2_with (at_builtin; go_must (refine bD Tryz.appStrings rfl _ _ rfl W0.heap.size _ 0 [] rfl HO1.out _ J ((L.take J).map Value.string) rfl (HP.out.below (by omega) HBU1.out) (iL _) (by omega) HBU1.out.size ?_); intro v1 U2 hown1 hg1);have HBU2:=aa (aZ HBU1.out HO1.out hg1 (Nat.le_refl _) HBU1.out.size);have HO2:=aa (show(U2).ownsRow W0.heap.size 9 1 v1 J ((L.take J).map Value.string) by rw[Nat.zero_add,List.nil_append]at hown1; exact hown1)
         have HG1:=aa hg1;obtain⟨g1,k1,rfl,-,-⟩:=aj HO2.out;clear hown1 hg1
         try refine⟨trivial, ?_⟩
         try simp only[Act.put,aG,aH,aI]
         refine aR 6 rfl (by kernel_rfl) rfl (fun K hK=> ?_);go_wp2_with fail;obtain⟨U3,hU⟩: ∃u:World,u=(U2).alloc (.cells #[.string p] 9):=⟨_,rfl⟩;rw[<-hU];have hbu:Below (U2).heap.size U2 U3:=by rw[hU]; exact(Below.refl _ _).alloc (Nat.le_refl _) _
         have HZ3:=aa (show(U3).heap[(U2).heap.size]? =some (.cells #[.string p] 9 (0,0)) by rw[hU]; exact cX _ _);have HBU3:=aa (HBU2.out.trans (hbu.mono HBU2.out.size));clear hU
         try refine⟨trivial, ?_⟩
         try simp only[Act.put,aG,aH,aI]
         have HO3:=aa (aK HO2.out hbu);clear hbu
       all_goals
        skip
        refine aR 7 rfl (by kernel_rfl) rfl (fun K hK=> ?_);go_wp2_with (at_builtin; go_must (refine bD Tryz.appStrings rfl _ _ rfl W0.heap.size _ J ((L.take J).map Value.string) rfl HO3.out _ 1 [Value.string p] rfl (yB HZ3.out) (iL [p]) (by omega) HBU3.out.size ?_); intro v2 U8 hown2 hg2);have HBU8:=aa (aZ HBU3.out HO3.out hg2 (Nat.le_refl _) HBU3.out.size);have HO8:=aa hown2
        obtain⟨g2,k2,rfl,-,-⟩:=aj HO8.out;clear hown2 hg2
        try refine⟨trivial, ?_⟩
        try simp only[Act.put,aG,aH,aI]
        refine aR 11 rfl (by kernel_rfl) rfl (fun K hK=> ?_);go_wp2_with (at_builtin; go_must (refine bD Tryz.appStrings rfl _ _ rfl W0.heap.size _ (J+1) ((L.take J).map Value.string++[Value.string p]) rfl HO8.out _ N ((L.drop J).map Value.string) rfl (HQ.out.below (by omega) HBU8.out) (iL _) (by omega) HBU8.out.size ?_); intro v3 U9 hown3 hg3);have HBU9:=aa (aZ HBU8.out HO8.out hg3 (Nat.le_refl _) HBU8.out.size)
        have HO9:=aa (show(U9).ownsRow W0.heap.size 9 1 v3 (L.take J++[p]++L.drop J).length ((L.take J++[p]++L.drop J).map Value.string) by
         have hc:((L.take J).map Value.string++[Value.string p])++(L.drop J).map Value.string=(L.take J++[p]++L.drop J).map Value.string:=by simp
         have hn2:J+1+N=(L.take J++[p]++L.drop J).length:=by simp only[List.length_append,List.length_take,List.length_drop,List.length_singleton]; have:=HJL.out; rw[HNN.out]; omega
         rw[<-hc,<-hn2]; exact hown3)
        clear hown3 hg3
        try refine⟨trivial, ?_⟩
        try simp only[Act.put,aG,aH,aI]
        refine ag 12 rfl (by kernel_rfl) (by kernel_rfl) (by kernel_rfl) (fun _ _ _ h=>h) rfl trivial (by intro w' _; go_simp; rfl) ?_;simp only[Act.put,aG,aH,aI];refine bN (by kernel_rfl) ?_;rw[<-HIJ.out]at HO9
      all_goals
       go_wp2_with fail;refine⟨⟨n+1,by omega,by go_num, ?_⟩,by simp[intOf]; omega⟩;rw[<-HEND.out];exact⟨bz HO9.out HSN.out.below.size,jk.one HO9.out (by rw[HIJ.out]; simp; omega),HSN.out.below.trans (HBU9.out.mono HSN.out.below.size)⟩
    ·have hnn:n=nm:=by omega
     subst hnn;have HTK:=aa (show dj x k (f.parts.take n)=dj x (k+1) [] by
      unfold dj;rw[List.take_of_length_le (l:=f.parts) (by rw[<-HNM.out]; exact Nat.le_refl _),aS HF.out,List.flatMap_append]; simp)
     go_wp2_with fail;refine⟨⟨k+1,by omega,by go_num, ?_⟩,by simp[intOf]; omega⟩;rw[<-HTK.out];exact HSN.out
  ·have hkn:k=nf:=by omega
   subst hkn;have HTK:=aa (show dj x k []=x.files.flatMap au.parts by
    unfold dj;rw[List.take_of_length_le (by rw[<-HNF.out]; exact Nat.le_refl _),List.append_nil])
   rw[HTK.out]at HSO ⊢;go_wp2_with fail;go_ret;exact⟨_,rfl,bz HSO.out.row HBW.out.size,HBW.out.trans (HSO.out.below.mono HBW.out.size)⟩
open Go Go.RowKit Go.Maps Go.Sort Go.WideElems Go.MapKept
theorem zF {p:ByteArray} (h:p.size<=maxLen):keyOf Tryz.prog 9 (.string p)=some (.string p.data.toList):=by
 simp[keyOf,mapKey,Tryz.underlying9,h]
theorem yw {x:MapEntry} {p:ByteArray} (hk:x.key= .string p) (hv:x.val= .bool true) (h:p.size<=maxLen):WideElems.rd (H:=Unit) Tryz.prog 9 (plainElem Tryz.prog 4) x=some (.string p.data.toList, .lit (.bool true)):=by
 unfold WideElems.rd;rw[hk,hv,zF h];simp[plainElem,Tryz.underlying4]
def Bx :Value->List UInt8
 | .string p=>bl p
 | _=>[]
theorem eo.owns {w:World} {mb:Nat} {L:List ByteArray} (h:eo w mb L) (hL:L.length<=maxLen): ∃D0:DataW Unit,w.ownsMap Tryz.prog 9 (plainElem Tryz.prog 4) mb L.length D0/\Maps.size D0<=L.length/\(strKeys D0).Nodup/\ ∀q,q∈strKeys D0<-> ∃p∈L,bl p=q:=by
 obtain⟨ps,hm,h2,h3⟩:=h;have hnd:ps.Nodup:=by
  have h4:=hm.nodup;rw[List.map_map]at h4;exact(List.pairwise_map.1 h4).imp fun h e=>h (by rw[e])
 have hlen:ps.length<=L.length:=oS hnd fun x hx=>of_decide_eq_true ((h3 x).1 hx)
 obtain⟨es,clock,hb,he,hst,hk⟩:=hm;have hx: ∀x∈es.toList,∃p∈ps,x.key= .string p/\x.val= .bool true:=fun x hx=>by
  have h5:(x.key,x.val)∈ps.map qp:=he▸List.mem_map.2 ⟨x,hx,rfl⟩;obtain⟨p,hp,e⟩:=List.mem_map.1 h5;simp only[qp,Prod.mk.injEq]at e;exact⟨p,hp,e.1.symm,e.2.symm⟩
 have hsz:es.size=ps.length:=by
  have h5:=congrArg List.length he
  simpa using h5
 have hkeys:(es.toList.map (WideElems.rg (H:=Unit) Tryz.prog 9 (plainElem Tryz.prog 4))).map (fun p=>strOf p.1)=ps.map bl:=by
  have e1:(es.toList.map (WideElems.rg (H:=Unit) Tryz.prog 9 (plainElem Tryz.prog 4))).map (fun p=>strOf p.1)=(es.toList.map (fun e=>(e.key,e.val))).map (fun q=>Bx q.1):=by
   rw[List.map_map,List.map_map];refine List.map_congr_left fun x hx'=> ?_
   obtain⟨p,hp,h6,h7⟩:=hx x hx';have h8:WideElems.rg (H:=Unit) Tryz.prog 9 (plainElem Tryz.prog 4) x=(.string p.data.toList, .lit (.bool true)):=by
    unfold WideElems.rg;rw[yw h6 h7 (h2 p hp)]; rfl
   simp only[Function.comp_apply,h8,h6]; rfl
  rw[e1,he,List.map_map]; rfl
 have hperm:(strKeys (H:=Unit) (.map ((es.toList.map (WideElems.rg Tryz.prog 9 (plainElem Tryz.prog 4))).foldr DataW.insert []))).Perm (ps.map bl):=by
  rw[<-hkeys];exact(WideShapes.sorted_perm _).map _
 have hndb:(ps.map bl).Nodup:=List.pairwise_map.2 (hnd.imp fun h e=>h (fC e));refine⟨.map ((es.toList.map (WideElems.rg Tryz.prog 9 (plainElem Tryz.prog 4))).foldr DataW.insert []),⟨es,clock,hb,⟨by omega,hst,fun x hx'=> ?_⟩,by omega,rfl⟩, ?_,hperm.nodup_iff.2 hndb,fun q=> ?_⟩
 ·obtain⟨p,hp,h6,h7⟩:=hx x hx';exact⟨_,yw h6 h7 (h2 p hp)⟩
 ·show List.length _<=_
  rw[length_sorted,List.length_map]
  simpa [hsz]using hlen
 ·rw[hperm.mem_iff,List.mem_map];exact⟨fun⟨p,h6,h7⟩=>⟨p,of_decide_eq_true ((h3 p).1 h6),h7⟩,fun⟨p,h6,h7⟩=>⟨p,(h3 p).2 (decide_eq_true h6),h7⟩⟩
end Go.Proofs.YtnjkpcalgoefhaaGreatDoor
namespace Go.Proofs.YtnjkpcalgoefhaaGreatDoor
open Go Go.RowKit Go.Maps Go.Sort
theorem xZ (mb:Nat) (W:World):Calls Tryz.prog 63 #[.map (some mb)] W fun e w'=>e= .returned (.func (.func 97) #[] #[.pointer (some ⟨W.heap.size,0,none⟩)])/\w'=W.alloc (.cells #[.map (some mb)] 92):=
 (callsIn_wide (n:=5)).1 (Tryz.maps_Keys_63 (some mb) W)
theorem AJ (l:List ByteArray):(l.map bl).map encStr=l.map Value.string:=by
 rw[List.map_map];refine List.map_congr_left fun p _=> ?_
 show Value.string ⟨(bl p).toArray⟩= .string p
 rw[lp]
theorem tS (mb n:Nat) (D0:DataW Unit) (W:World) (hown:W.ownsMap Tryz.prog 9 (plainElem Tryz.prog 4) mb n D0) (hmax:Maps.size D0<=1048576):
  Calls Tryz.prog 62 #[.func (.func 97) #[] #[.pointer (some ⟨W.heap.size,0,none⟩)]] (W.alloc (.cells #[.map (some mb)] 92)) fun e w'=> ∃(v:Value) (ss:List (List UInt8)),e= .returned v/\ss.Perm (strKeys D0)/\w'.ownsRow (W.alloc (.cells #[.map (some mb)] 92)).heap.size 9 1 v ss.length ((ss.mergeSort (fun x y=>decide (x<=y))).map encStr)/\(v= .slice none 0 0<->ss=[])/\Below (W.alloc (.cells #[.map (some mb)] 92)).heap.size (W.alloc (.cells #[.map (some mb)] 92)) w':=
 (callsIn_wide (n:=5)).1 (Tryz.slices_Sorted_keys_62_63 mb n D0 _ W hown (by unfold maxLen; omega) (by omega))
theorem xY (l:List ByteArray) (x:ByteArray):(kI l x).length<=l.length+1:=by unfold kI; split<;> simp
theorem oP : ∀(ps:List aY) (l:List ByteArray),(ps.foldl (fun l p=>kI l p.sum) l).length<=l.length+ps.length
 | [],l=>by simp
 | p::ps,l=>by
  have h1:=oP ps (kI l p.sum);have h2:=xY l p.sum;rw[List.foldl_cons,List.length_cons]; omega
def cF (x:dn):List aY:=x.files.flatMap au.parts
theorem xF (x:dn):(jn x.files).length<=(cF x).length:=by
 have h:=oP (cF x) [];unfold jn;rw[List.length_nil,Nat.zero_add]at h;exact h
theorem kv (S:Nat->Prop) (x:dn) (fv:Value) (b:Bool) (w:World) (hx:aM S w fv x.files) (henv:ie w) (h:cZ x=b):Calls Tryz.prog 12 #[dY fv x.tm] w fun e w'=>e= .returned (.bool b)/\Below w.heap.size w w':=by
 rw[<-h]; exact ku S x fv w hx henv
theorem nt (S:Nat->Prop) (x:dn) (fv:Value) (w:World) (hx:aM S w fv x.files) (he:ie w) (hv:cZ x=false):Calls Tryz.prog 30 #[dY fv x.tm] w fun e w'=>e= .returned (.slice none 0 0)/\Below w.heap.size w w':=by
 obtain⟨a,cap,rfl,hc,hm,-⟩:=aP.shape hx dB.len;have HB:=aa ((Below.refl w.heap.size w).alloc (Nat.le_refl _) (.cells #[.int .i64 x.tm, .slice a x.files.length cap] 24));have HX:=aa (hx.below HB.out);have HE:=aa (he.below HB.out);have HV:=aa hv;obtain⟨n,hn⟩: ∃n,n=x.files.length:=⟨_,rfl⟩;rw[<-hn]at HB HX HE ⊢;clear hx he hv hn hc hm;unfold dY
 go_enter Tryz.func30,Tryz.ntmps30
 go_wp2_with (refine(kv _ x _ false _ HX.out HE.out HV.out).mono ?_; rintro e w1 ⟨rfl,hb1⟩; have HB1:=aa (ac HB.out hb1); clear hb1);go_ret;exact⟨rfl,HB1.out⟩
theorem nu (S:Nat->Prop) (x:dn) (fv:Value) (w:World) (hx:aM S w fv x.files) (he:ie w) (hv:cZ x=true) (hn2:(cF x).length<=1048576):Calls Tryz.prog 30 #[dY fv x.tm] w fun e w'=> ∃v,e= .returned v/\w'.ownsRow w.heap.size 9 1 v (cH (cF x)).length ((cH (cF x)).map Value.string)/\Below w.heap.size w w':=by
 obtain⟨a,cap,rfl,hc,hm,-⟩:=aP.shape hx dB.len;have HX0:=aa hx;obtain⟨n,hn⟩: ∃n,n=x.files.length:=⟨_,rfl⟩;rw[<-hn]at HX0 ⊢;have HE0:=aa he;have HV:=aa hv;have HN:=aa hn2;clear hx he hv hn hc hm hn2;unfold dY
 go_enter Tryz.func30,Tryz.ntmps30
 go_upto_region 1 with fail
 obtain⟨W,hW⟩: ∃W,W=w.alloc (.cells #[.int .i64 x.tm, .slice a n cap] 24):=⟨_,rfl⟩;rw[<-hW];have HB:=aa (show Below w.heap.size w W by rw[hW]; exact(Below.refl _ _).alloc (Nat.le_refl _) _);have HBX:=aa (show W.heap[w.heap.size]? =some (.cells #[.int .i64 x.tm, .slice a n cap] 24 (0,0)) by rw[hW]; exact heap_alloc_new w _);clear hW;have HX:=aa (HX0.out.below HB.out);have HE:=aa (HE0.out.below HB.out)
 have k0:=af (k:=0) HBX.out;have k1:=af (k:=1) HBX.out;simp only[eX]at k0 k1
 go_upto_region 3 with(go_at_call 12; refine(kv _ x _ true _ HX.out HE.out HV.out).mono ?_; rintro e w1 ⟨rfl,hb1⟩; have HB1:=aa (ac HB.out hb1); have HY1:=aa ((hb1.block w.heap.size (lt_of_block HBX.out)).trans HBX.out); clear hb1)
 clear k0 k1;have k0:=af (k:=0) HY1.out;have k1:=af (k:=1) HY1.out;simp only[eX]at k0 k1;have HX1:=aa (HX0.out.below HB1.out);go_wp2_with (go_at_call 39; refine(jY _ x _ _ HX1.out).mono ?_; rintro e w2 ⟨mb,rfl,hmb,hset,hb2⟩);have HMB:=aa hmb;have HB2:=aa (ac HB1.out hb2);have hlen:=xF x;obtain⟨D0,hown,hsz,hnd,hmem⟩:=hset.owns (by have:=HN.out; unfold maxLen; omega)
 have HOWN:=aa hown;have HSZ:=aa (show Maps.size D0<=1048576 by have:=HN.out; omega);have HND:=aa hnd;have HMEM:=aa hmem;clear hmb hb2 hset hown hsz hnd hmem hlen k0 k1;refine(xZ mb _).mono ?_;rintro e w3 ⟨rfl,rfl⟩;go_wp2_with (go_at_call 62; refine(tS mb _ D0 _ HOWN.out HSZ.out).mono ?_; rintro e w4 ⟨v,ss,rfl,hp,hrow,-,hb4⟩);go_ret;have h1:ss.mergeSort (fun x y=>decide (x<=y))=(cH (cF x)).map bl:=rZ (hp.nodup_iff.2 HND.out) (fun q=>by
  rw[hp.mem_iff,HMEM.out]
  constructor
  ·rintro⟨p,h2,h3⟩;obtain⟨f,h4,p2,h5,h6⟩:=qE.1 h2;exact⟨p2,List.mem_flatMap.2 ⟨f,h4,h5⟩,by rw[h6]; exact h3⟩
  ·rintro⟨p,h2,h3⟩;obtain⟨f,h4,h5⟩:=List.mem_flatMap.1 h2;exact⟨p.sum,qE.2 ⟨f,h4,p,h5,rfl⟩,h3⟩)
 have h2:ss.length=(cH (cF x)).length:=by
  have h3:=congrArg List.length h1
  rwa [List.length_mergeSort,List.length_map]at h3
 rw[h1,AJ,h2]at hrow;have h3:w.heap.size<=(w2.alloc (.cells #[.map (some mb)] 92)).heap.size:=by have:=HB2.out.size; simp; omega
 exact⟨v,rfl,bz hrow h3,(HB2.out.alloc HB2.out.size _).trans (hb4.mono h3)⟩
end Go.Proofs.YtnjkpcalgoefhaaGreatDoor
namespace Go.Proofs.YtnjkpcalgoefhaaGreatDoor
open Go.RowKit
def iu :dV:=⟨4,8,4,20,0⟩
theorem ka :ep iu=true:=by decide
def xb (l:List UInt8):ByteArray:=⟨l.toArray⟩
def zx :bi:=⟨xb [100],2,0,0,[],xb []⟩
def lg (d:List UInt8):bi:=⟨xb [100,47,102],1,0,5,d,xb []⟩
def du (d:List UInt8):List bi:=[zx,lg d]
def bY (ps:List aY):List au:=[⟨xb [100],2,0,0,0,xb [],[]⟩,⟨xb [100,47,102],1,0,5,3,xb [],ps⟩]
theorem qG :bM iu [97,98,99]=[[97,98,99]]:=by decide+kernel
theorem iM (d:List UInt8) (h:d=[97,98,99]\/d=[97,98,100]):bL (du d)=0:=by
 rcases h with rfl | rfl<;> decide+kernel
theorem eD :bS []=([],0,0):=by kernel_rfl
theorem uD (T:List bi):cC [] T=T:=by
 have h: ∀(f n:Nat) (d:Bool) (p:List (List UInt8)),bT d p [] f n=false:=by
  intro f
  induction f with
  | zero=>intros; rfl
  | succ f ih=>intro n d p; simp[bT,eu,ih]
 unfold cC;rw[List.filter_eq_self];intro e _;unfold nU cN
 split
 ·rfl
 ·simp[aO,h]
def Ay :aN:=⟨[100],false,true,false⟩
theorem uN :bS [100,47]=([Ay],0,0):=by kernel_rfl
theorem Bh (d:List UInt8) (h:d=[97,98,100]):cC [Ay] (du d)=[]:=by
 subst h; decide+kernel
theorem Az :el ⟨0,[]⟩ 10 (du [97,98,99]) [] iu= .ok ⟨⟨10,bY [bw [97,98,99]]⟩,[(xb [100],1),(xb [100,47,102],1)],[[97,98,99]],1,0⟩:=by
 unfold el;rw[if_pos ⟨by decide+kernel,by decide,ka⟩,if_pos (by rw[eD]),if_pos (iM _ (.inl rfl)),eD,uD];have hk:oX 0 [] (lg [97,98,99])=true:=rfl;have hd: ∀d,oX 0 [] zx=false/\nD 0 [] zx=false/\nD 0 [] (lg d)=false:=fun d=>⟨rfl,rfl,rfl⟩
 have h1:cV 0 [] iu (du [97,98,99])=⟨bY [bw [97,98,99]],[gZ [97,98,99]],[[97,98,99]],1,0⟩:=by
  have e1:dt 0 [] iu (lg [97,98,99])=[bw [97,98,99]]:=by
   rw[mY hk]
   show(bM iu [97,98,99]).map bw=_
   rw[qG]; rfl
  have e2:(du [97,98,99]).filter (oX 0 [])=[lg [97,98,99]]:=rfl;have e3:(du [97,98,99]).filter (nD 0 [])=[]:=rfl;unfold cV;rw[e2,e3];have e4:(du [97,98,99]).map (et 0 [] iu)=bY [bw [97,98,99]]:=by
   unfold du;simp only[List.map_cons,List.map_nil];unfold et;rw[e1]; rfl
  rw[e4];simp only[List.flatMap_cons,List.flatMap_nil,List.append_nil];rw[show bM iu (lg [97,98,99]).data=[[97,98,99]]from qG]
  rfl
 rw[h1]
 generalize [bw [97,98,99]]=ps
 rfl
theorem uC :cZ ⟨10,bY [bw [97,98,99]]⟩=true:=by
 have h:=AN (rules:=[]) (T:=du [97,98,99]) (prev:=⟨0,[]⟩) (tm:=10) (c:=iu) eD (iM _ (.inl rfl)) (by decide+kernel) (by decide) ka;have h2:=Az;unfold el at h2;rw[if_pos ⟨by decide+kernel,by decide,ka⟩,if_pos (by rw[eD]),if_pos (iM _ (.inl rfl)),eD]at h2;have h3:(cV 0 [] iu (cC [] (du [97,98,99]))).files=bY [bw [97,98,99]]:=by
  have:=Except.ok.inj h2;exact congrArg (fun r=>r.idx.files) this
 have h4:(cC [] (du [97,98,99])).map (et 0 [] iu)=bY [bw [97,98,99]]:=h3;rw[<-h4]; exact h
theorem Bl :el ⟨10,bY [bw [97,98,99]]⟩ 20 (du [97,98,100]) [] iu= .ok ⟨⟨20,bY [bw [97,98,99]]⟩,[],[],0,1⟩:=by
 have hi:=uC
 revert hi
 generalize [bw [97,98,99]]=ps
 intro hi;unfold el;rw[if_pos ⟨hi,show(10:Int)<=20 by decide,ka⟩,if_pos (by rw[eD]),if_pos (iM _ (.inr rfl)),eD,uD];have e4:(du [97,98,100]).map (et 10 (bY ps) iu)=bY ps:=rfl;have e2:(du [97,98,100]).filter (oX 10 (bY ps))=[]:=rfl;have e3:((du [97,98,100]).filter (nD 10 (bY ps))).length=1:=rfl;unfold cV
 simp only;rw[e2,e3,e4,show nO (bY ps) (bY ps)=[]from qz _ _]
 rfl
theorem Bm :el ⟨10,bY [bw [97,98,99]]⟩ 20 (du [97,98,100]) [100,47] iu= .ok ⟨⟨20,[]⟩,[(xb [100],4),(xb [100,47,102],4)],[],0,0⟩:=by
 have hi:=uC
 revert hi
 generalize [bw [97,98,99]]=ps
 intro hi;unfold el;rw[if_pos ⟨hi,show(10:Int)<=20 by decide,ka⟩,if_pos (by rw[uN]),if_pos (iM _ (.inr rfl)),uN,Bh _ rfl]
 rfl
open Go Go.RowKit Go.Maps
theorem Bg (r r':aY) (w:World):(Op.equalIn 10000 82 (lu r) (lu r')).run Tryz.prog w= .ok (decide (r=r')) w:=by
 have u1:=Tryz.underlying9;have u2:=Tryz.underlying3;have hS:Tryz.prog.underlying 82=some (.struct (Tryz.prog.fieldsOf 82)):=by kernel_rfl
 rw[show(10000:Nat)=9999+1 from rfl];unfold lu;rw[run_equalIn_struct w 9999 82 _ _ hS (by kernel_rfl)];simp only[Program.fieldsOf,Tryz.underlying82]
 go_simp
 obtain⟨n,s⟩:=r;obtain⟨n',s'⟩:=r';have hn:n.toList=n'.toList<->n=n':=⟨fun h=>fC (by rw[<-aX,<-aX,h]),fun h=>by rw[h]⟩;simp only[aY.mk.injEq,hn]
 by_cases h1:n=n'<;> by_cases h3:s=s'<;> simp[h1,h3]
theorem rU (S T:Nat->Prop) (v u:Value) (rs ss:List aY) (w:World) (hv:aE S w v rs) (hu:aE T w u ss):
  Calls Tryz.prog 24 #[v,u] w fun e w'=>e= .returned (.bool (decide (rs=ss)))/\Below w.heap.size w w':=by
 obtain⟨a,cap,rfl,hc,hm,-⟩:=aP.shape hv dk.len;obtain⟨a2,cap2,rfl,hc2,hm2,-⟩:=aP.shape hu dk.len;unfold maxLen at hm hm2;have HV:=aa hv;have HU:=aa hu;clear hv hu
 by_cases hl:rs.length=ss.length
 ·have HL:=aa hl;have hl2:ss.length=rs.length:=hl.symm;rw[hl2]at HU hc2 ⊢;clear hl hl2
  go_enter Tryz.func24,Tryz.ntmps24
  go_wp2_with fail
  go_loopw [5] (fun i wr=> ∃k:Nat,k<=rs.length/\i= .int .i64 k/\rs.take k=ss.take k/\Below w.heap.size w wr) (fun i _=>rs.length-(intOf i).toNat)
  case atStart=>exact⟨0,Nat.zero_le _,rfl,by simp,Below.refl _ _⟩
  case round=>
   obtain⟨k,hk,rfl,hn,hb⟩:=hrel;have HN:=aa hn;have HB:=aa hb;clear hn hb
   by_cases hlt:k<rs.length
   ·obtain⟨r,hr⟩: ∃r,rs[k]? =some r:=⟨rs[k],by simp[hlt]⟩;obtain⟨x,hx⟩: ∃x,ss[k]? =some x:=⟨ss[k]'(by have:=HL.out; omega),by simp⟩;have HR:=aa hr;have HX:=aa hx;have heq:=Bg r x;obtain⟨W,hW⟩: ∃W:World,W=wr.drew:=⟨_,rfl⟩;have HBW:=aa (show Below w.heap.size w W by rw[hW]; exact HB.out.drew);obtain⟨b,o,rfl,-,-,-,q0,q1⟩:=dN HV.out HBW.out hr
    obtain⟨b2,o2,rfl,-,-,-,p0,p1⟩:=dN (by have:=HU.out; rw[HL.out]at this; exact this) HBW.out hx;unfold lu at heq;clear hr hx
    by_cases hm:r=x
    ·have e1:decide (r=x)=true:=by simp[hm]
     rw[e1]at heq;have HT:=aa (show rs.take (k+1)=ss.take (k+1) by rw[aS HR.out,aS HX.out,HN.out,hm]);clear e1 hm;go_wp2_with fail;refine al [some 9] (by kernel_rfl) (by kernel_rfl) (by kernel_rfl) ?_;simp only[bc,List.take_succ_cons,List.take_zero];rw[<-hW];clear hW
     repeat (first | (refine aw rfl ?_; simp only[Act.put,aG,aH,aI]) | (refine aB rfl (fun K hK=> ?_); go_simp; refine hK _ ?_; clear hK K))
     refine aA ?_;go_wp2_with fail
     go_roundw
     case rel=>exact⟨k+1,by omega,rfl,HT.out,HBW.out⟩
     case measure=>simp only[intOf,Int.toNat_natCast]; omega
    ·have e1:decide (r=x)=false:=by simp[hm]
     rw[e1]at heq;have HT:=aa (show decide (rs=ss)=false by
      rw[decide_eq_false_iff_not];intro e;have h1:=HR.out;rw[e,HX.out]at h1;exact hm (Option.some.inj h1).symm)
     clear e1 hm;go_wp2_with fail;refine al [some 9] (by kernel_rfl) (by kernel_rfl) (by kernel_rfl) ?_;simp only[bc,List.take_succ_cons,List.take_zero];rw[<-hW];clear hW
     repeat (first | (refine aw rfl ?_; simp only[Act.put,aG,aH,aI]) | (refine aB rfl (fun K hK=> ?_); go_simp; refine hK _ ?_; clear hK K))
     refine aA ?_;go_wp2_with fail;go_ret;exact⟨ak HT.out.symm,HBW.out⟩
   ·obtain rfl:k=rs.length:=by omega
    have HT:=aa (show decide (rs=ss)=true by
     have:=HN.out;rw[List.take_of_length_le (Nat.le_refl _),List.take_of_length_le (by rw[HL.out]; exact Nat.le_refl _)]at this;simp[this])
    go_wp2_with fail;go_ret;exact⟨ak HT.out.symm,HB.out⟩
 ·have HT:=aa (show decide (rs=ss)=false by rw[decide_eq_false_iff_not]; intro e; exact hl (by rw[e]));have e1:((rs.length:Int) != (ss.length:Int))=true:=by simp; omega
  clear hl
  go_enter Tryz.func24,Tryz.ntmps24
  go_wp2_with fail;go_ret;exact⟨ak HT.out.symm,Below.refl _ _⟩
def qf (l:List Nat):Nat:=l.foldl (· + ·) 0
theorem wP (l:List Nat) (n:Nat):qf (l++[n])=qf l+n:=by unfold qf; rw[List.foldl_append]; rfl
theorem Aj {l:List Nat} {B:Nat} (h: ∀n∈l,n<=B):qf l<=l.length*B:=by
 have key: ∀(l:List Nat) (a:Nat),(∀n∈l,n<=B)->l.foldl (· + ·) a<=a+l.length*B:=by
  intro l
  induction l with
  | nil=>intro a _; simp
  | cons x l ih=>
   intro a h;rw[List.foldl_cons,List.length_cons];have h1:=ih (a+x) fun n hn=>h n (by simp[hn])
   have h2:=h x (by simp);rw[Nat.add_mul];omega
 have:=key l 0 h;unfold qf;omega
def tR (x:dn):Nat:=qf ((x.files.take 20).map fun f=>f.parts.length)
def iK (x:dn):Bool:=decide (x.files.length<=16) && decide (tR x<=60)
theorem wH (S:Nat->Prop) (x:dn) (fv:Value) (w:World) (hx:aM S w fv x.files) (hw: ∀f∈x.files,f.parts.length<=1125899906842624):Calls Tryz.prog 10 #[dY fv x.tm] w fun e w'=>e= .returned (.bool (iK x))/\Below w.heap.size w w':=by
 obtain⟨a,cap,rfl,hc,hm,-⟩:=aP.shape hx dB.len;unfold maxLen at hm;have HX:=aa hx;have HWT:=aa hw;clear hx hw;obtain⟨n,hn⟩: ∃n,n=x.files.length:=⟨_,rfl⟩;rw[<-hn]at hc HX ⊢;have HN:=aa hn;clear hn;unfold dY
 go_enter Tryz.func10,Tryz.ntmps10
 go_upto_region 1 with fail
 obtain⟨W,hW⟩: ∃W,W=w.alloc (.cells #[.int .i64 x.tm, .slice a n cap] 24):=⟨_,rfl⟩;rw[<-hW];have HBW:=aa (show Below w.heap.size w W by rw[hW]; exact(Below.refl _ _).alloc (Nat.le_refl _) _);have HBX:=aa (show W.heap[w.heap.size]? =some (.cells #[.int .i64 x.tm, .slice a n cap] 24 (0,0)) by rw[hW]; exact heap_alloc_new w _);have HV:=aa (show aM S W (.slice a n cap) x.files from aM.below HX.out HBW.out)
 clear hW;have k1:=af (k:=1) HBX.out;simp only[List.getElem?_toArray,cj]at k1;go_wp2_with fail
 go_loopw [3,4] (fun s i wr=> ∃k:Nat,k<=n/\k<=20/\i= .int .i64 k/\s= .int .i64 ((qf ((x.files.take k).map fun f=>f.parts.length):Nat):Int)/\wr=W) (fun _ i _=>20-(intOf i).toNat)
 case atStart=>exact⟨0,Nat.zero_le _,by omega,rfl,rfl,rfl⟩
 case round=>
  obtain⟨k,hk,hk2,rfl,rfl,rfl⟩:=hrel;obtain⟨m,hm2⟩: ∃m,m=qf ((x.files.take k).map fun f=>f.parts.length):=⟨_,rfl⟩;have HM:=aa hm2;have hmb:m<=k*1125899906842624:=by
   rw[hm2];refine Nat.le_trans (Aj (B:=1125899906842624) (fun y hy=> ?_)) ?_
   ·obtain⟨f,hf,rfl⟩:=List.mem_map.1 hy;exact HWT.out f (List.take_subset _ _ hf)
   ·rw[List.length_map];exact Nat.mul_le_mul_right _ (List.length_take_le _ _)
  rw[<-hm2];clear hm2
  by_cases hlt:k<n
  ·by_cases h20:k<20
   ·obtain⟨f,hf⟩: ∃f,x.files[k]? =some f:=⟨_,List.getElem?_eq_getElem (show k<x.files.length by rw[<-HN.out]; exact hlt)⟩;obtain⟨b,o,pa,pc,rfl,-,-,-,-,hcl⟩:=cW HV.out (Below.refl _ _) hf;have q6:=hcl 6 (by omega);simp only[bI,cj]at q6;have hpl:=HWT.out f (List.mem_of_getElem? hf);have HF:=aa hf;obtain⟨p,hp⟩: ∃p,p=f.parts.length:=⟨_,rfl⟩;rw[<-hp]at q6 hpl
    have HP:=aa hp;clear hf hcl hp;have hadd:IntKind.i64.wrap ((m:Int)+(p:Int))=((m+p:Nat):Int):=by rw[IntKind.wrap_i64]; omega
    go_wp2_with fail
    go_roundw
    case rel=>
     refine⟨k+1,by omega,by omega,rfl, ?_,trivial⟩;rw[aS HF.out,List.map_append,List.map_singleton,wP,<-HM.out,<-HP.out]
     first | rfl | (rw[hadd])
    case measure=>simp only[intOf,Int.toNat_natCast]; omega
   ·have hk20:k=20:=by omega
    subst hk20;have HR:=aa (show iK x=false by
     unfold iK;rw[show decide (x.files.length<=16)=false by rw[decide_eq_false_iff_not,<-HN.out]; omega]; rfl)
    have hn16: ¬(n:Int)<=16:=by omega
    go_wp2_with fail;go_ret;exact⟨ak (by rw[HR.out]),HBW.out⟩
  ·have hkn:k=n:=by omega
   subst hkn;have htk:x.files.take k=x.files.take 20:=by rw[List.take_of_length_le (by rw[<-HN.out]; exact Nat.le_refl _),List.take_of_length_le (by rw[<-HN.out]; exact hk2)]
   have HR:=aa (show iK x=(decide (k<=16) && decide (m<=60)) by
    unfold iK tR;rw[<-HN.out,<-htk,<-HM.out])
   by_cases h16:k<=16
   ·have h16':(k:Int)<=16:=by omega
    go_wp2_with fail;go_ret;exact⟨ak (by rw[HR.out]; simp[h16]; omega),HBW.out⟩
   ·have h16': ¬(k:Int)<=16:=by omega
    go_wp2_with fail;go_ret;exact⟨ak (by rw[HR.out]; simp[h16]),HBW.out⟩
def fQ (w:World) (v:Value) (L:List (List UInt8)):Prop:= ∃ys:List Value,aD (fun _=>True) w 1 v L.length ys/\ ∀(k:Nat) y pl,ys[k]? =some y->L[k]? =some pl->bp (fun _=>True) w y pl
theorem fQ.below {w w':World} {v:Value} {L:List (List UInt8)} (h:fQ w v L) (hb:Below w.heap.size w w'):fQ w' v L:=by
 obtain⟨ys,h1,h2⟩:=h;exact⟨ys,aD.below h1 (by omega) hb,fun k y pl hy hp=>aD.below (h2 k y pl hy hp) (by omega) hb⟩
theorem tC {B:Nat} {v:Value} {L:List (List UInt8)} {w:World} (h:ci B v L w):fQ w v L:=by
 obtain⟨ys,h1,h2,h3⟩:=h;have hl:ys.length=L.length:=by rw[<-h1,List.length_map]
 refine⟨ys.map Prod.fst, ?_,fun k y pl hy hp=> ?_⟩
 ·rw[<-hl];exact(ba h2).weak (fun _ _=>trivial)
 ·rw[List.getElem?_map,Option.map_eq_some_iff]at hy;obtain⟨z,hz,rfl⟩:=hy;rw[<-h1,List.getElem?_map,hz]at hp
  cases hp
  exact(ba (h3 z (List.mem_of_getElem? hz))).weak (fun _ _=>trivial)
theorem xx {w:World} {a:Option Addr} {n cap:Nat} {L:List (List UInt8)} (h:fQ w (.slice a n cap) L) {k:Nat} {pl:List UInt8} (hk:L[k]? =some pl):
  ∃b o ya yc,a=some ⟨b,o,none⟩/\w.cell? ⟨b,o+k,none⟩=some (.slice ya pl.length yc)/\bp (fun _=>True) w (.slice ya pl.length yc) pl:=by
 obtain⟨ys,⟨hl,a',cap',hv,_,_,h0⟩,h2⟩:=h
 cases hv
 have hlt:=(List.getElem?_eq_some_iff.1 hk).1
 rcases h0 with h0 | ⟨b,o,rfl,_,hc⟩
 ·omega
 ·obtain⟨y,hy⟩: ∃y,ys[k]? =some y:=⟨_,List.getElem?_eq_getElem (show k<ys.length by omega)⟩;have h3:=h2 k y pl hy hk;obtain⟨_,ya,yc,rfl,_,_,_⟩:=id h3;exact⟨b,o,ya,yc,rfl,hc k _ hy,h3⟩
theorem tM (v u:Value) (L M:List (List UInt8)) (w:World) (hv:fQ w v L) (hu:fQ w u M):
  Calls Tryz.prog 32 #[v,u] w fun e w'=>e= .returned (.bool (decide (L=M)))/\Below w.heap.size w w':=by
 obtain⟨_,⟨_,a,cap,rfl,hc,hm,_⟩,_⟩:=id hv;obtain⟨_,⟨_,a2,cap2,rfl,hc2,hm2,_⟩,_⟩:=id hu;unfold maxLen at hm hm2;have HV:=aa hv;have HU:=aa hu;clear hv hu
 by_cases hl:L.length=M.length
 ·have HL:=aa hl;have hl2:M.length=L.length:=hl.symm;rw[hl2]at HU hc2 ⊢;clear hl hl2
  go_enter Tryz.func32,Tryz.ntmps32
  go_wp2_with fail
  go_loopw [5] (fun i wr=> ∃k:Nat,k<=L.length/\i= .int .i64 k/\L.take k=M.take k/\Below w.heap.size w wr) (fun i _=>L.length-(intOf i).toNat)
  case atStart=>exact⟨0,Nat.zero_le _,rfl,by simp,Below.refl _ _⟩
  case round=>
   obtain⟨k,hk,rfl,hn,hb⟩:=hrel;have HN:=aa hn;have HB:=aa hb;clear hn hb
   by_cases hlt:k<L.length
   ·obtain⟨r,hr⟩: ∃r,L[k]? =some r:=⟨L[k],by simp[hlt]⟩;obtain⟨x,hx⟩: ∃x,M[k]? =some x:=⟨M[k]'(by have:=HL.out; omega),by simp⟩;have HR:=aa hr;have HX:=aa hx;obtain⟨W,hW⟩: ∃W:World,W=wr.drew:=⟨_,rfl⟩;have HBW:=aa (show Below w.heap.size w W by rw[hW]; exact HB.out.drew);obtain⟨b,o,ya,yc,rfl,q0,hy⟩:=xx (HV.out.below HBW.out) hr;obtain⟨b2,o2,za,zc,rfl,p0,hy2⟩:=xx (by have:=HU.out.below HBW.out; rw[HL.out]at this; exact this) hx
    have hc1:=mw (bs:=r) hy;have hc2:=mw (bs:=x) hy2;clear hr hx hy hy2
    by_cases hm:r=x
    ·have HT:=aa (show L.take (k+1)=M.take (k+1) by rw[aS HR.out,aS HX.out,HN.out,hm]);subst hm;go_wp2_with fail;refine al [some 11] (by kernel_rfl) (by kernel_rfl) (by kernel_rfl) ?_;simp only[bc,List.take_succ_cons,List.take_zero];rw[<-hW];clear hW
     repeat (first | (refine aw rfl ?_; simp only[Act.put,aG,aH,aI]) | (refine aB rfl (fun K hK=> ?_); go_simp; refine hK _ ?_; clear hK K))
     refine aA ?_;go_wp2_with fail
     all_goals exact⟨⟨k+1,by omega,rfl,HT.out,HBW.out⟩,by simp only[intOf,Int.toNat_natCast]; omega⟩
    ·have HT:=aa (show decide (L=M)=false by
      rw[decide_eq_false_iff_not];intro e;have h1:=HR.out;rw[e,HX.out]at h1;exact hm (Option.some.inj h1).symm)
     have hm4:(r == x)=false:=by simpa using hm
     have hm3: ¬(⟨r.toArray⟩:ByteArray).toList=(⟨x.toArray⟩:ByteArray).toList:=fun h=>hm (by rw[aX,aX,jR,jR]at h; exact h)
     go_wp2_with fail;refine al [some 11] (by kernel_rfl) (by kernel_rfl) (by kernel_rfl) ?_;simp only[bc,List.take_succ_cons,List.take_zero];rw[<-hW];clear hW
     repeat (first | (refine aw rfl ?_; simp only[Act.put,aG,aH,aI]) | (refine aB rfl (fun K hK=> ?_); go_simp; refine hK _ ?_; clear hK K))
     refine aA ?_;go_wp2_with fail;go_ret;exact⟨ak HT.out.symm,HBW.out⟩
   ·obtain rfl:k=L.length:=by omega
    have HT:=aa (show decide (L=M)=true by
     have:=HN.out;rw[List.take_of_length_le (Nat.le_refl _),List.take_of_length_le (by rw[HL.out]; exact Nat.le_refl _)]at this;simp[this])
    go_wp2_with fail;go_ret;exact⟨ak HT.out.symm,HB.out⟩
 ·have HT:=aa (show decide (L=M)=false by rw[decide_eq_false_iff_not]; intro e; exact hl (by rw[e]));have e1:((L.length:Int) != (M.length:Int))=true:=by simp; omega
  clear hl
  go_enter Tryz.func32,Tryz.ntmps32
  go_wp2_with fail;go_ret;exact⟨ak HT.out.symm,Below.refl _ _⟩
def nE (b:Nat):List Value:=[.string ⟨#[100]⟩, .int .i64 2, .int .i64 0, .int .i64 0, .slice none 0 0, .string ⟨#[]⟩, .string ⟨#[100,47,102]⟩, .int .i64 1, .int .i64 0, .int .i64 5, .slice (some ⟨b,0,none⟩) 3 3, .string ⟨#[]⟩]
theorem xz {w:World} {b k:Nat} {cs:Array Value} {t:TypeId} {z:Nat×Nat} (h:w.heap[b]? =some (.cells cs t z)):w.cell? ⟨b,k,none⟩=cs[k]? :=by
 simp[World.cell?,h]
theorem kq {W:World} {b n sz:Nat} {cells:List Value} {t:TypeId} {z:Nat×Nat} (h:W.heap[b]? =some (.cells cells.toArray t z)) (hl:cells.length=n*sz) (hn:n<=maxLen):aD (fun _=>True) W sz (.slice (some ⟨b,0,none⟩) n n) n cells:=
 ⟨hl,some ⟨b,0,none⟩,n,rfl,Nat.le_refl _,hn, .inr ⟨b,0,rfl,trivial,fun j u hj=>by rw[xz h,Nat.zero_add,List.getElem?_toArray]; exact hj⟩⟩
theorem qg {w:World} {rb b:Nat} {d:List UInt8} {t u:TypeId} {z:Nat×Nat} (h:w.heap[rb]? =some (.cells (nE b).toArray t (0,0))) (hb:w.heap[b]? =some (.cells (d.map aW).toArray u z)) (hd:d.length=3):bG (fun _=>True) w (.slice (some ⟨rb,0,none⟩) 2 2) (du d):=by
 refine⟨nE b,kq (n:=2) (sz:=6) (cells:=nE b) h rfl (by unfold maxLen; omega), ?_⟩;have hda:bU (fun _=>True) w (.slice (some ⟨b,0,none⟩) 3 3) d:=by
  have h1:=kq (n:=d.length) (sz:=1) (cells:=d.map aW) hb (by simp) (by rw[hd]; unfold maxLen; omega);rw[show Value.slice (some ⟨b,0,none⟩) 3 3= .slice (some ⟨b,0,none⟩) d.length d.length by rw[hd]];exact h1
 refine⟨gD (.slice none 0 0) zx,gD (.slice (some ⟨b,0,none⟩) 3 3) (lg d),rfl,⟨_,rfl,bU.nil _ _, ?_⟩,⟨gD (.slice (some ⟨b,0,none⟩) 3 3) (lg d),[],rfl,⟨_,rfl,hda, ?_⟩,rfl⟩⟩
 ·exact⟨by show(1:Nat)<=_; unfold maxLen; omega,by show(0:Nat)<=_; omega,rfl,rfl,rfl⟩
 ·exact⟨by show(3:Nat)<=_; unfold maxLen; omega,by show(0:Nat)<=_; omega,rfl,rfl,rfl⟩
def uT (p:ByteArray×Int):aY:=⟨p.1,p.2⟩
theorem mi (l:List (ByteArray×Int)):fd l=aV (l.map uT):=by
 induction l with
 | nil=>rfl
 | cons p l ih=>
  unfold fd aV at *;rw[List.flatMap_cons,List.map_cons,List.flatMap_cons,ih]; rfl
theorem zT {w:World} {base:Nat} {v:Value} {l:List (ByteArray×Int)} (h:w.ownsRow base 60 2 v l.length (fd l)) (hok: ∀p∈l,di (uT p)):aE (fun _=>True) w v (l.map uT):=by
 rw[mi]at h;refine⟨_, ?_,eP (fun p hp=> ?_)⟩
 ·rw[List.length_map];exact(ba h).weak (fun _ _=>trivial)
 ·obtain⟨q,hq,rfl⟩:=List.mem_map.1 hp;exact hok q hq
theorem uI {w:World} {b:Nat} {l:List (ByteArray×Int)} {t:TypeId} (h:w.heap[b]? =some (.cells (fd l).toArray t (0,0))) (hl:l.length<=maxLen) (hok: ∀p∈l,di (uT p)):aE (fun _=>True) w (.slice (some ⟨b,0,none⟩) l.length l.length) (l.map uT):=by
 rw[mi]at h;refine⟨_, ?_,eP (fun p hp=> ?_)⟩
 ·have h1:=(fX (n:=l.length) (sz:=2) (cells:=aV (l.map uT)) h (by rw[mW,List.length_map]) hl).weak (T:=fun _=>True) (fun _ _=>trivial);rw[List.length_map];exact h1
 ·obtain⟨q,hq,rfl⟩:=List.mem_map.1 hp;exact hok q hq
theorem uJ (x:Int):([(⟨#[100]⟩,x),(⟨#[100,47,102]⟩,x)]:List (ByteArray×Int)).length<=maxLen:=by show 2<=maxLen; unfold maxLen; omega
def mg (x:Int):List (ByteArray×Int):=[(⟨#[100]⟩,x),(⟨#[100,47,102]⟩,x)]
theorem lL {x:Int} (h:x=1\/x=4): ∀p∈mg x,di (uT p):=by
 intro p hp;simp only[mg,List.mem_cons,List.not_mem_nil,or_false]at hp
 rcases h with rfl | rfl<;> rcases hp with rfl | rfl
 all_goals exact⟨by first | (show(1:Nat)<=_; unfold maxLen; omega) | (show(3:Nat)<=_; unfold maxLen; omega),rfl⟩
theorem no (S T:Nat->Prop) (v u:Value) (rs ss:List aY) (b:Bool) (w:World) (hv:aE S w v rs) (hu:aE T w u ss) (h:decide (rs=ss)=b):Calls Tryz.prog 24 #[v,u] w fun e w'=>e= .returned (.bool b)/\Below w.heap.size w w':=by
 rw[<-h]; exact rU S T v u rs ss w hv hu
theorem kG (w:World) (C:Array Value) (n c:Nat):(convert 28 28 (.slice (some ⟨w.heap.size,0,none⟩) n c)).run Tryz.prog (w.alloc (.cells C 5))= .ok (.slice (some ⟨w.heap.size,0,none⟩) n c) (w.alloc (.cells C 5 (C.size,C.size+1))):=
 Lib.run_convert_bytes_const w 28 5 C n c Tryz.underlying28 Tryz.underlying5
theorem wt (v u:Value) (L M:List (List UInt8)) (b:Bool) (w:World) (hv:fQ w v L) (hu:fQ w u M) (h:decide (L=M)=b):Calls Tryz.prog 32 #[v,u] w fun e w'=>e= .returned (.bool b)/\Below w.heap.size w w':=by
 rw[<-h]; exact tM v u L M w hv hu
theorem wv (tv:Value) (w:World) (ht:bG (fun _=>True) w tv (du [97,98,99])) (he:gX w):Calls Tryz.prog 20 #[.agg #[.int .i64 0, .slice none 0 0], .int .i64 10,tv, .string ⟨#[]⟩, .agg #[.int .i64 4, .int .i64 8, .int .i64 4, .int .i64 20, .int .u64 0]] w (jO (.ok ⟨⟨10,bY [bw [97,98,99]]⟩,mg 1,[[97,98,99]],1,0⟩) w):=by
 have h:=np (fun _=>True) (fun _=>True) ⟨0,[]⟩ (.slice none 0 0) tv 10 (du [97,98,99]) ⟨#[]⟩ iu w (aM.nil _ _) ht he (by decide) (by simp);rw[show bl ⟨#[]⟩=[]from rfl,Az]at h;exact h
theorem xT : ∀f∈bY [bw [97,98,99]],f.parts.length<=1048576:=by
 intro f hf;simp only[bY,List.mem_cons,List.not_mem_nil,or_false]at hf
 rcases hf with rfl | rfl<;> simp
theorem ww (S:Nat->Prop) (fv tv:Value) (w:World) (hf:aM S w fv (bY [bw [97,98,99]])) (ht:bG (fun _=>True) w tv (du [97,98,100])) (he:gX w):Calls Tryz.prog 20 #[.agg #[.int .i64 10,fv], .int .i64 20,tv, .string ⟨#[]⟩, .agg #[.int .i64 4, .int .i64 8, .int .i64 4, .int .i64 20, .int .u64 0]] w (jO (.ok ⟨⟨20,bY [bw [97,98,99]]⟩,[],[],0,1⟩) w):=by
 have h:=np S (fun _=>True) ⟨10,bY [bw [97,98,99]]⟩ fv tv 20 (du [97,98,100]) ⟨#[]⟩ iu w hf ht he (by decide) xT;rw[show bl ⟨#[]⟩=[]from rfl,Bl]at h;exact h
theorem wx (S:Nat->Prop) (fv tv:Value) (w:World) (hf:aM S w fv (bY [bw [97,98,99]])) (ht:bG (fun _=>True) w tv (du [97,98,100])) (he:gX w):Calls Tryz.prog 20 #[.agg #[.int .i64 10,fv], .int .i64 20,tv, .string ⟨#[100,47]⟩, .agg #[.int .i64 4, .int .i64 8, .int .i64 4, .int .i64 20, .int .u64 0]] w (jO (.ok ⟨⟨20,[]⟩,mg 4,[],0,0⟩) w):=by
 have h:=np S (fun _=>True) ⟨10,bY [bw [97,98,99]]⟩ fv tv 20 (du [97,98,100]) ⟨#[100,47]⟩ iu w hf ht he (by decide) xT;rw[show bl ⟨#[100,47]⟩=[100,47]from rfl,Bm]at h;exact h
theorem fO (w:World) (o:Obj):(w.alloc o).heap.size=w.heap.size+1:=by simp
theorem kK {w:World} {o x:Obj} {k:Nat} (h:w.heap[k]? =some x):(w.alloc o).heap[k]? =some x:=by
 rw[heap_alloc_old _ _ (lt_of_block h)]; exact h
theorem ua {w W:World} {n:Nat} (o p:Obj) (h:Below n w W) (hn:n<=W.heap.size):Below n w ((W.alloc o).alloc p):=
 (h.alloc hn _).alloc (by rw[fO]; omega) _
theorem uL (W:World) (o p:Obj):((W.alloc o).alloc p).heap[W.heap.size+1]? =some p:=by
 rw[<-fO W o]; exact heap_alloc_new _ _
theorem yR {w:World} {rb b c:Nat} {t:TypeId} (h:w.heap[rb]? =some (.cells (nE b).toArray t (0,0))):(w.setCell ⟨rb,10,none⟩ (.slice (some ⟨c,0,none⟩) 3 3)).heap[rb]? =some (.cells (nE c).toArray t (0,0)):=by
 rw[heap_setCell_same _ _ _ _ _ _ h]
 rfl
theorem zR (w:World) (a:Addr) (v:Value) (o:Obj):((w.setCell a v).alloc o).heap[w.heap.size]? =some o:=by
 have h:=heap_alloc_new (w.setCell a v) o;have e:(w.setCell a v).heap.size=w.heap.size:=by simp
 rw[e]at h; exact h
theorem uM {w:World} {a:Addr} {v:Value} {o x:Obj} {k:Nat} (h:w.heap[k]? =some x) (hk:k≠a.block):((w.setCell a v).alloc o).heap[k]? =some x:=
 kK ((heap_setCell_other _ _ _ _ hk).trans h)
theorem AM {w:World} {base b j:Nat} {v fv:Value} {o:Obj} {fs:List au} (h:bF w base fv fs) (hb:b<base):bF ((w.setCell ⟨b,j,none⟩ v).alloc o) base fv fs:=
 bF.below (h.same fun k _ _ _ hB _ _=>heap_setCell_other _ _ _ _ (by show k≠b; omega)) ((Below.refl _ _).alloc (Nat.le_refl _) _)
theorem AW {w W:World} {n:Nat} {a:Addr} (v:Value) (o:Obj) (h:Below n w W) (hn:n<=a.block) (hz:n<=W.heap.size):Below n w ((W.setCell a v).alloc o):=
 (h.setCell hn _).alloc (by simpa using hz) _
theorem tt {r:xl} {w w':World} {e:Ending} (h:jO (.ok r) w e w') (hok: ∀p∈r.chg,di (uT p)): ∃fa fn fc ca cn cc na nc,e= .returned (.tuple #[.agg #[.int .i64 r.idx.tm, .slice fa fn fc, .slice ca cn cc, .slice na r.news.length nc, .int .i64 (r.read:Int), .int .i64 (r.kept:Int)], .int .i64 0])/\Below w.heap.size w w'/\bF w' w.heap.size (.slice fa fn fc) r.idx.files/\aE (fun _=>True) w' (.slice ca cn cc) (r.chg.map uT)/\fQ w' (.slice na r.news.length nc) r.news/\cn=r.chg.length:=by
 obtain⟨hb,fv,cv,nv,rfl,hf,hc,hn⟩:=h;obtain⟨zs,-,hz,-⟩:=hf.row;obtain⟨fa,fc,rfl,-,-⟩:=aj hz;have hc':=zT hc hok;obtain⟨ca,cc,rfl,-,-⟩:=aj hc;obtain⟨ys,hys,hn1,-⟩:=id hn;have hl:ys.length=r.news.length:=by rw[<-hys,List.length_map]
 have hn':=tC hn;obtain⟨na,nc,rfl,-,-⟩:=aj hn1;rw[hl]at hn' ⊢;exact⟨fa,_,fc,ca,_,cc,na,nc,rfl,hb,hf,hc',hn',rfl⟩
theorem zp {w:World} {rb b:Nat} {d:List UInt8} {t u:TypeId} {z z':Nat×Nat} (h:w.heap[rb]? =some (.cells #[.slice (some ⟨b,0,none⟩) 3 3] t z')) (hb:w.heap[b]? =some (.cells (d.map aW).toArray u z)) (hd:d.length=3):fQ w (.slice (some ⟨rb,0,none⟩) 1 1) [d]:=by
 refine⟨[.slice (some ⟨b,0,none⟩) 3 3],kq (n:=1) (sz:=1) (cells:=[.slice (some ⟨b,0,none⟩) 3 3]) h rfl (by unfold maxLen; omega),fun k y pl hy hp=> ?_⟩
 rcases k with _ | k
 ·cases hy; cases hp
  have h1:=kq (n:=d.length) (sz:=1) (cells:=d.map aW) hb (by simp) (by rw[hd]; unfold maxLen; omega);rw[show Value.slice (some ⟨b,0,none⟩) 3 3= .slice (some ⟨b,0,none⟩) d.length d.length by rw[hd]];exact h1
 ·simp at hy
theorem fQ.two {w:World} {v:Value} {L:List (List UInt8)} {o p:Obj} (h:fQ w v L):fQ ((w.alloc o).alloc p) v L:=h.below (ua _ _ (Below.refl _ _) (Nat.le_refl _))
theorem aE.below' {w w':World} {v:Value} {ps:List aY} (h:aE (fun _=>True) w v ps) (hb:Below w.heap.size w w'):aE (fun _=>True) w' v ps:=by
 obtain⟨cells,h1,h2⟩:=h;exact⟨cells,aD.below h1 (by omega) hb,h2⟩
theorem im (w:World) (he:gX w):Calls Tryz.prog 11 #[] w fun e w'=>e= .returned (.bool true)/\Below w.heap.size w w':=by
 have HE:=aa he;have h6:=he.six;clear he
 go_enter Tryz.func11,Tryz.ntmps11
 go_upto_region 2 with fail
 obtain⟨W1,hW1⟩: ∃W1,W1=w.alloc (.cells #[.int .i64 4, .int .i64 8, .int .i64 4, .int .i64 20, .int .u64 0] 48):=⟨_,rfl⟩;rw[<-hW1];have HB1:=aa (show Below w.heap.size w W1 by rw[hW1]; exact(Below.refl _ _).alloc (Nat.le_refl _) _);have HC1:=aa (show W1.heap[w.heap.size]? =some (.cells #[.int .i64 4, .int .i64 8, .int .i64 4, .int .i64 20, .int .u64 0] 48 (0,0)) by rw[hW1]; exact heap_alloc_new w _)
 have hz1:w.heap.size<W1.heap.size:=lt_of_block HC1.out;clear hW1;have hcv:=kG W1 #[.int .u8 97, .int .u8 98, .int .u8 99] 3 3
 go_upto_region 3 with fail
 obtain⟨W3,hW3⟩: ∃W3,W3=(W1.alloc (.cells #[.int .u8 97, .int .u8 98, .int .u8 99] 5 (3,4))).alloc (.cells #[.string ⟨#[100]⟩, .int .i64 2, .int .i64 0, .int .i64 0, .slice none 0 0, .string ⟨#[]⟩, .string ⟨#[100,47,102]⟩, .int .i64 1, .int .i64 0, .int .i64 5, .slice (some ⟨W1.heap.size,0,none⟩) 3 3, .string ⟨#[]⟩] 30):=⟨_,rfl⟩;rw[<-hW3];have HB3:=aa (show Below w.heap.size w W3 by rw[hW3]; exact ua _ _ HB1.out (by omega))
 have HC3:=aa (show W3.heap[w.heap.size]? =some (.cells #[.int .i64 4, .int .i64 8, .int .i64 4, .int .i64 20, .int .u64 0] 48 (0,0)) by rw[hW3]; exact kK (kK HC1.out));have HD3:=aa (show W3.heap[W1.heap.size]? =some (.cells ([97,98,99].map aW).toArray 5 (3,4)) by rw[hW3]; exact kK (heap_alloc_new W1 _));have HT3:=aa (show W3.heap[W1.heap.size+1]? =some (.cells (nE W1.heap.size).toArray 30 (0,0)) by rw[hW3]; exact uL W1 _ _)
 clear hW3;have c0:=af (k:=0) HC3.out;have c1:=af (k:=1) HC3.out;have c2:=af (k:=2) HC3.out;have c3:=af (k:=3) HC3.out;have c4:=af (k:=4) HC3.out;simp only[List.getElem?_toArray,cj]at c0 c1 c2 c3 c4;have ht3:=aa (qg HT3.out HD3.out rfl);go_wp2_with (refine(wv _ _ ht3.out (HE.out.below HB3.out)).mono ?_);intro e w4 h4;obtain⟨fa,fn,fc,ca,cn,cc,na,nc,rfl,hb4,hf4,hc4,hn4,-⟩:=tt h4 (lL (.inl rfl))
 have HB4:=aa hb4;have HF4:=aa hf4;have HP4:=aa hc4;have HN4:=aa hn4;have hz4:=hb4.size;clear h4 hb4 hf4 hc4 hn4
 go_upto_region 4 with fail
 obtain⟨W5,hW5⟩: ∃W5,W5=w4.alloc (.cells #[.int .i64 10, .slice fa fn fc, .slice ca cn cc, .slice na 1 nc, .int .i64 1, .int .i64 0] 54):=⟨_,rfl⟩;rw[<-hW5];have HX5:=aa (show W5.heap[w4.heap.size]? =some (.cells #[.int .i64 10, .slice fa fn fc, .slice ca cn cc, .slice na 1 nc, .int .i64 1, .int .i64 0] 54 (0,0)) by rw[hW5]; exact heap_alloc_new w4 _);have HB5:=aa (show Below w4.heap.size w4 W5 by rw[hW5]; exact(Below.refl _ _).alloc (Nat.le_refl _) _)
 have hz5:W5.heap.size=w4.heap.size+1:=by rw[hW5]; exact fO _ _
 clear hW5;have hcv5:=kG W5 #[.int .u8 97, .int .u8 98, .int .u8 99] 3 3;have HZ5:=aa hz5;clear hz5;have x0:=af (k:=0) HX5.out;have x1:=af (k:=1) HX5.out;have x2:=af (k:=2) HX5.out;have x3:=af (k:=3) HX5.out;have x4:=af (k:=4) HX5.out;have x5:=af (k:=5) HX5.out;simp only[List.getElem?_toArray,cj]at x0 x1 x2 x3 x4 x5;go_wp2_with (refine(wt _ _ [[97,98,99]] [[97,98,99]] true _ (HN4.out.below HB5.out).two (zp (uL _ _ _) (kK (heap_alloc_new _ _)) rfl) (by decide)).mono ?_)
 rintro e w6 ⟨rfl,hb6⟩;have HB6:=aa (show Below W5.heap.size W5 w6 from(ua _ _ (Below.refl _ _) (Nat.le_refl _)).trans (hb6.mono (by rw[fO,fO]; omega)));clear hb6;have HX6:=aa ((HB6.out.block _ (lt_of_block HX5.out)).trans HX5.out);have hz6:=HB6.out.size;have HP6:=aa ((HP4.out.below' HB5.out).below' HB6.out);clear x0 x1 x2 x3 x4 x5;have x0:=af (k:=0) HX6.out;have x1:=af (k:=1) HX6.out
 have x2:=af (k:=2) HX6.out;have x3:=af (k:=3) HX6.out;have x4:=af (k:=4) HX6.out;have x5:=af (k:=5) HX6.out;simp only[List.getElem?_toArray,cj]at x0 x1 x2 x3 x4 x5;go_wp2_with (refine(no _ _ _ _ ((mg 1).map uT) ((mg 1).map uT) true _ (HP6.out.below' ((Below.refl _ _).alloc (Nat.le_refl _) _)) (uI (l:=mg 1) (heap_alloc_new _ _) (uJ 1) (lL (.inl rfl))) (decide_eq_true rfl)).mono ?_)
 rintro e w7 ⟨rfl,hb7⟩;have HB7:=aa (show Below w6.heap.size w6 w7 from((Below.refl _ _).alloc (Nat.le_refl _) _).trans (hb7.mono (by rw[fO]; omega)));clear hb7;have HX7:=aa ((HB7.out.block _ (lt_of_block HX6.out)).trans HX6.out);have hz7:=HB7.out.size;clear x0 x1 x2 x3 x4 x5 hcv5
 go_upto_region 6 with fail
 have hz4s:W3.heap.size<=w7.heap.size:=by have:=HZ5.out; omega
 have HB37:=aa (show Below W3.heap.size W3 w7 from((HB4.out.trans (HB5.out.mono hz4)).trans (HB6.out.mono (by have:=HZ5.out; omega))).trans (HB7.out.mono (by have:=HZ5.out; omega)));have HT7:=aa ((HB37.out.block _ (lt_of_block HT3.out)).trans HT3.out);have HC7:=aa ((HB37.out.block _ (lt_of_block HC3.out)).trans HC3.out);have HF7:=aa (((HF4.out.below HB5.out).below HB6.out).below HB7.out)
 have hcv7:=kG w7 #[.int .u8 97, .int .u8 98, .int .u8 100] 3 3;have hz17:W1.heap.size+1<w7.heap.size:=lt_of_block HT7.out;have f10:w7.frozen? ⟨W1.heap.size+1,10,none⟩=false:=ai HT7.out;have t10:w7.cell? ⟨W1.heap.size+1,10,none⟩=some (.slice (some ⟨W1.heap.size,0,none⟩) 3 3):=xz (k:=10) HT7.out;have hw37:w.heap.size<=W3.heap.size:=HB3.out.size
 clear hz4s
 go_upto_region 7 with fail
 obtain⟨W8,hW8⟩: ∃W8,W8=(w7.setCell ⟨W1.heap.size+1,10,none⟩ (.slice (some ⟨w7.heap.size,0,none⟩) 3 3)).alloc (.cells #[.int .u8 97, .int .u8 98, .int .u8 100] 5 (3,4)):=⟨_,rfl⟩;rw[<-hW8];have HT8:=aa (show W8.heap[W1.heap.size+1]? =some (.cells (nE w7.heap.size).toArray 30 (0,0)) by rw[hW8]; exact kK (yR HT7.out));have HD8:=aa (show W8.heap[w7.heap.size]? =some (.cells ([97,98,100].map aW).toArray 5 (3,4)) by rw[hW8]; exact zR _ _ _ _)
 have hl3:W1.heap.size+1<W3.heap.size:=lt_of_block HT3.out;have HC8:=aa (show W8.heap[w.heap.size]? =some (.cells #[.int .i64 4, .int .i64 8, .int .i64 4, .int .i64 20, .int .u64 0] 48 (0,0)) by rw[hW8]; exact uM HC7.out (by show w.heap.size≠W1.heap.size+1; omega));have HX8:=aa (show W8.heap[w4.heap.size]? =some (.cells #[.int .i64 10, .slice fa fn fc, .slice ca cn cc, .slice na 1 nc, .int .i64 1, .int .i64 0] 54 (0,0)) by rw[hW8]; exact uM HX7.out (by show w4.heap.size≠W1.heap.size+1; omega))
 have HF8:=aa (show bF W8 W3.heap.size (.slice fa fn fc) (bY [bw [97,98,99]]) by rw[hW8]; exact AM HF7.out hl3);have HB8:=aa (show Below w.heap.size w W8 by rw[hW8]; exact AW _ _ (HB3.out.trans (HB37.out.mono hw37)) (by show w.heap.size<=W1.heap.size+1; omega) (by omega));have HE8:=aa (HE.out.keep HB8.out h6);have hz8:w.heap.size<=W8.heap.size:=HB8.out.size
 clear hW8 hcv7 t10 f10 c0 c1 c2 c3 c4;have x0:=af (k:=0) HX8.out;have x1:=af (k:=1) HX8.out;have x2:=af (k:=2) HX8.out;have x3:=af (k:=3) HX8.out;have x4:=af (k:=4) HX8.out;have x5:=af (k:=5) HX8.out;simp only[List.getElem?_toArray,cj]at x0 x1 x2 x3 x4 x5;have c0:=af (k:=0) HC8.out;have c1:=af (k:=1) HC8.out;have c2:=af (k:=2) HC8.out
 have c3:=af (k:=3) HC8.out;have c4:=af (k:=4) HC8.out;simp only[List.getElem?_toArray,cj]at c0 c1 c2 c3 c4;have ht8:=aa (qg HT8.out HD8.out rfl);go_wp2_with (refine(ww (fun k=>W3.heap.size<=k) _ _ _ HF8.out.at ht8.out HE8.out).mono ?_);intro e w9 h9;obtain⟨fa2,fn2,fc2,ca2,cn2,cc2,na2,nc2,rfl,hb9,-,-,-,hcn2⟩:=tt h9 (fun p hp=>absurd hp (by simp))
 dsimp only at hcn2
 subst hcn2;have HB9:=aa hb9;have hz9:=hb9.size;clear h9 hb9
 go_upto_region 8 with fail
 obtain⟨WA,hWA⟩: ∃WA,WA=w9.alloc (.cells #[.int .i64 20, .slice fa2 fn2 fc2, .slice ca2 0 cc2, .slice na2 0 nc2, .int .i64 0, .int .i64 1] 54):=⟨_,rfl⟩;rw[<-hWA];have HYA:=aa (show WA.heap[w9.heap.size]? =some (.cells #[.int .i64 20, .slice fa2 fn2 fc2, .slice ca2 0 cc2, .slice na2 0 nc2, .int .i64 0, .int .i64 1] 54 (0,0)) by rw[hWA]; exact heap_alloc_new w9 _);have HBA:=aa (show Below W8.heap.size W8 WA by rw[hWA]; exact HB9.out.alloc hz9 _)
 have HTA:=aa ((HBA.out.block _ (lt_of_block HT8.out)).trans HT8.out);have HDA:=aa ((HBA.out.block _ (lt_of_block HD8.out)).trans HD8.out);have HCA:=aa ((HBA.out.block _ (lt_of_block HC8.out)).trans HC8.out);have HXA:=aa ((HBA.out.block _ (lt_of_block HX8.out)).trans HX8.out);have HFA:=aa (HF8.out.below HBA.out);have HEA:=aa (HE8.out.below HBA.out);have hzA:=HBA.out.size;clear hWA c0 c1 c2 c3 c4 x0 x1 x2 x3 x4 x5
 have x0:=af (k:=0) HXA.out;have x1:=af (k:=1) HXA.out;have x2:=af (k:=2) HXA.out;have x3:=af (k:=3) HXA.out;have x4:=af (k:=4) HXA.out;have x5:=af (k:=5) HXA.out;simp only[List.getElem?_toArray,cj]at x0 x1 x2 x3 x4 x5;have c0:=af (k:=0) HCA.out;have c1:=af (k:=1) HCA.out;have c2:=af (k:=2) HCA.out;have c3:=af (k:=3) HCA.out
 have c4:=af (k:=4) HCA.out;simp only[List.getElem?_toArray,cj]at c0 c1 c2 c3 c4;have htA:=aa (qg HTA.out HDA.out rfl);go_wp2_with (refine(wx (fun k=>W3.heap.size<=k) _ _ _ HFA.out.at htA.out HEA.out).mono ?_);intro e wb hb;obtain⟨fa3,fn3,fc3,ca3,cn3,cc3,na3,nc3,rfl,hbb,-,hcb,-,-⟩:=tt hb (lL (.inr rfl));have HBB:=aa hbb;have HPB:=aa hcb;have hzb:=hbb.size
 clear hb hbb hcb
 go_upto_region 9 with fail
 obtain⟨WC,hWC⟩: ∃WC,WC=wb.alloc (.cells #[.int .i64 20, .slice fa3 fn3 fc3, .slice ca3 cn3 cc3, .slice na3 0 nc3, .int .i64 0, .int .i64 0] 54):=⟨_,rfl⟩;rw[<-hWC];have HZC:=aa (show WC.heap[wb.heap.size]? =some (.cells #[.int .i64 20, .slice fa3 fn3 fc3, .slice ca3 cn3 cc3, .slice na3 0 nc3, .int .i64 0, .int .i64 0] 54 (0,0)) by rw[hWC]; exact heap_alloc_new wb _);have HBC:=aa (show Below WA.heap.size WA WC by rw[hWC]; exact HBB.out.alloc hzb _)
 have HPC:=aa (show aE (fun _=>True) WC (.slice ca3 cn3 cc3) ((mg 4).map uT) by rw[hWC]; exact HPB.out.below' ((Below.refl _ _).alloc (Nat.le_refl _) _));have HYC:=aa ((HBC.out.block _ (lt_of_block HYA.out)).trans HYA.out);have hzC:=HBC.out.size;clear hWC c0 c1 c2 c3 c4 x0 x1 x2 x3 x4 x5;have x0:=af (k:=0) HYC.out;have x1:=af (k:=1) HYC.out;have x2:=af (k:=2) HYC.out
 have x3:=af (k:=3) HYC.out;have x4:=af (k:=4) HYC.out;have x5:=af (k:=5) HYC.out;simp only[List.getElem?_toArray,cj]at x0 x1 x2 x3 x4 x5;have y0:=af (k:=0) HZC.out;have y1:=af (k:=1) HZC.out;have y2:=af (k:=2) HZC.out;have y3:=af (k:=3) HZC.out;have y4:=af (k:=4) HZC.out;have y5:=af (k:=5) HZC.out;simp only[List.getElem?_toArray,cj]at y0 y1 y2 y3 y4 y5
 go_wp2_with (refine(no _ _ _ _ ((mg 4).map uT) ((mg 4).map uT) true _ (HPC.out.below' ((Below.refl _ _).alloc (Nat.le_refl _) _)) (uI (l:=mg 4) (heap_alloc_new _ _) (uJ 4) (lL (.inr rfl))) (decide_eq_true rfl)).mono ?_);rintro e wd ⟨rfl,hbd⟩;have HBD:=aa (show Below w.heap.size w wd from((HB8.out.trans (HBA.out.mono hz8)).trans (HBC.out.mono (by omega))).trans (((Below.refl WC.heap.size WC).alloc (Nat.le_refl _) _).mono (by omega) |>.trans (hbd.mono (by rw[fO]; omega))))
 clear hbd;go_wp2_with fail;go_ret
 first | exact HBD.out | exact⟨rfl,HBD.out⟩
theorem oJ : ∀(l:List Nat) (a:Nat),l.foldl (· + ·) a=a+l.sum
 | [],a=>by simp
 | x::l,a=>by rw[List.foldl_cons,oJ l,List.sum_cons]; omega
theorem rW {x:dn} (h:iK x=true):(cF x).length<=60:=by
 unfold iK tR at h;simp only[Bool.and_eq_true,decide_eq_true_eq]at h;rw[List.take_of_length_le (by omega)]at h;unfold qf at h;rw[oJ,Nat.zero_add]at h;unfold cF;rw[List.length_flatMap];exact h.2
theorem nl (S:Nat->Prop) (x:dn) (fv:Value) (b:Bool) (w:World) (hx:aM S w fv x.files) (hps: ∀f∈x.files,f.path.size<=16777216) (hlen:x.files.length<=1048576) (hpl: ∀f∈x.files,f.parts.length<=1048576) (h:cZ x=b):Calls Tryz.prog 13 #[dY fv x.tm] w fun e w'=>e= .returned (.bool b)/\Below w.heap.size w w':=by
 rw[<-h]; exact tL S x fv w hx hps hlen hpl
theorem sq {w:World} {base:Nat} {v:Value} {L:List ByteArray} (h:w.ownsRow base 9 1 v L.length (L.map Value.string)):bK (fun _=>True) w v L:=(ba h).weak fun _ _=>trivial
theorem xE (fv:Value) (x:dn) (w:World) (he:gX w) (hf:aM (fun _=>True) w fv x.files) (hps: ∀f∈x.files,f.path.size<=1048576) (hpl: ∀f∈x.files,f.parts.length<=1048576) (hfl:x.files.length<=1048576):
  Calls Tryz.prog 9 #[dY fv x.tm] w fun e w'=>e= .returned (.bool true)/\Below w.heap.size w w':=by
 obtain⟨fa,fc,rfl,hfc,hfm,-⟩:=aP.shape hf dB.len;have HE:=aa he;have h6:=he.six;have HF:=aa hf;have HPS:=aa (show ∀f∈x.files,f.path.size<=16777216 from fun f h=>by have:=hps f h; omega);have HPL:=aa hpl;have HFB:=aa (show ∀f∈x.files,f.parts.length<=1125899906842624 from fun f h=>by have:=hpl f h; omega);have HFPO:=aa (show ∀f∈x.files,∀p∈f.parts,di p from fun g hg=>by
  obtain⟨k,hk⟩:=List.getElem?_of_mem hg;obtain⟨_,_,_,_,_,_,h3,_⟩:=cW hf (Below.refl _ _) hk;exact rF h3)
 have HFL:=aa hfl;obtain⟨fl,hfl'⟩: ∃n,n=x.files.length:=⟨_,rfl⟩;rw[<-hfl']at HF ⊢;clear he hf hps hpl hfl hfl' hfc hfm;unfold dY
 go_enter Tryz.func9,Tryz.ntmps9
 go_upto_region 1 with fail
 obtain⟨W,hW⟩: ∃W,W=w.alloc (.cells #[.int .i64 x.tm, .slice fa fl fc] 24):=⟨_,rfl⟩;rw[<-hW];have HB:=aa (show Below w.heap.size w W by rw[hW]; exact(Below.refl _ _).alloc (Nat.le_refl _) _);have HBX:=aa (show W.heap[w.heap.size]? =some (.cells #[.int .i64 x.tm, .slice fa fl fc] 24 (0,0)) by rw[hW]; exact heap_alloc_new w _);clear hW;have k0:=af (k:=0) HBX.out;have k1:=af (k:=1) HBX.out
 simp only[eX]at k0 k1;have HFW:=aa (HF.out.below HB.out);go_wp2_with (go_at_call 10; refine(wH _ x _ _ HFW.out HFB.out).mono ?_);rintro e w1 ⟨rfl,hb1⟩;have HB1:=aa (ac HB.out hb1);have HX1:=aa ((hb1.block _ (lt_of_block HBX.out)).trans HBX.out);clear hb1 k0 k1
 cases hsh:iK x
 case false=>
  go_wp2_with fail;refine(im _ (HE.out.keep HB1.out h6)).mono ?_;rintro e wz ⟨rfl,hbz⟩;have HBZ:=aa (ac HB1.out hbz);clear hbz;go_wp2_with fail;go_ret;exact⟨rfl,HBZ.out⟩
 have HTOT:=aa (rW hsh);have k0:=af (k:=0) HX1.out;have k1:=af (k:=1) HX1.out;simp only[eX]at k0 k1;have HF1:=aa (HF.out.below HB1.out);have HE1:=aa (HE.out.keep HB1.out h6).env
 cases hvx:cZ x
 case false=>
  have HVX:=aa hvx
  go_upto_region 4 with(go_at_call 30; refine(nt _ x _ _ HF1.out HE1.out HVX.out).mono ?_; rintro e w2 ⟨rfl,hb2⟩; have HB2:=aa (ac HB1.out hb2); have HX2:=aa ((hb2.block _ (lt_of_block HX1.out)).trans HX1.out); clear hb2 k0 k1)
  obtain⟨W2,hW2⟩: ∃u:World,u=w2.alloc (.cells #[] 9):=⟨_,rfl⟩;have HB3:=aa (show Below w.heap.size w W2 by rw[hW2]; exact HB2.out.alloc HB2.out.size _);have HX3:=aa (show W2.heap[w.heap.size]? =some (.cells #[.int .i64 x.tm, .slice fa fl fc] 24 (0,0)) by rw[hW2,heap_alloc_old _ _ (lt_of_block HX2.out)]; exact HX2.out)
  go_upto_region 5 with fail
  rw[<-hW2];clear hW2;have k0:=af (k:=0) HX3.out;have k1:=af (k:=1) HX3.out;simp only[eX]at k0 k1;have HF3:=aa (HF.out.below HB3.out);go_wp2_with (go_at_call 14; refine(iz _ x _ _ HF3.out HFL.out HPL.out HFPO.out).mono ?_);rintro e w4 ⟨fv2,rfl,hfo,hb4⟩;have HFO:=aa hfo.at
  have HB4:=aa (ac HB3.out hb4);clear hfo hb4 k0 k1;go_wp2_with (go_at_call 13; refine(nl _ x fv2 false _ HFO.out HPS.out HFL.out HPL.out HVX.out).mono ?_);rintro e w5 ⟨rfl,hb5⟩;have HB5:=aa (ac HB4.out hb5);clear hb5;go_wp2_with fail
  go_loopw [5] (fun i wr=>i= .int .i64 0/\w5=wr) (fun _ _=>0)
  case atStart=>exact⟨rfl,rfl⟩
  case round=>
   obtain⟨rfl,rfl⟩:=hrel;go_wp2_with fail;refine(im _ (HE.out.keep HB5.out h6)).mono ?_;rintro e wz ⟨rfl,hbz⟩;have HBZ:=aa (ac HB5.out hbz);clear hbz;go_wp2_with fail;go_ret;exact⟨rfl,HBZ.out⟩
 case true=>
  have HVX:=aa hvx;have HTB:=aa (show(cF x).length<=1048576 by have:=HTOT.out; omega)
  go_upto_region 4 with(go_at_call 30; refine(nu _ x _ _ HF1.out HE1.out HVX.out HTB.out).mono ?_; rintro e w2 ⟨lv,rfl,hlo,hb2⟩; obtain⟨la,lc,rfl,-,-⟩:=aj hlo; have HB2:=aa (ac HB1.out hb2); have HX2:=aa ((hb2.block _ (lt_of_block HX1.out)).trans HX1.out); have HL:=aa (sq hlo); clear hb2 k0 k1 hlo)
  obtain⟨W2,hW2⟩: ∃u:World,u=w2.alloc (.cells #[] 9):=⟨_,rfl⟩;have hbw:Below w2.heap.size w2 W2:=by rw[hW2]; exact(Below.refl _ _).alloc (Nat.le_refl _) _
  have HB3:=aa (ac HB2.out hbw);have HX3:=aa ((hbw.block _ (lt_of_block HX2.out)).trans HX2.out)
  replace HL:=aa (aD.below HL.out (by omega) hbw)
  clear hbw
  go_upto_region 5 with fail
  rw[<-hW2];clear hW2;have k0:=af (k:=0) HX3.out;have k1:=af (k:=1) HX3.out;simp only[eX]at k0 k1;have HF3:=aa (HF.out.below HB3.out);go_wp2_with (go_at_call 14; refine(iz _ x _ _ HF3.out HFL.out HPL.out HFPO.out).mono ?_);rintro e w4 ⟨fv2,rfl,hfo,hb4⟩;have HFO:=aa hfo.at
  have HB4:=aa (ac HB3.out hb4);have HX4:=aa ((hb4.block _ (lt_of_block HX3.out)).trans HX3.out)
  replace HL:=aa (aD.below HL.out (by omega) hb4)
  clear hfo hb4 k0 k1;go_wp2_with (go_at_call 13; refine(nl _ x fv2 true _ HFO.out HPS.out HFL.out HPL.out HVX.out).mono ?_);rintro e w5 ⟨rfl,hb5⟩;have HB5:=aa (ac HB4.out hb5);have HX5:=aa ((hb5.block _ (lt_of_block HX4.out)).trans HX4.out)
  replace HL:=aa (aD.below HL.out (by omega) hb5)
  clear hb5 HFO;have k0:=af (k:=0) HX5.out;have k1:=af (k:=1) HX5.out;simp only[eX]at k0 k1;have HF5:=aa (HF.out.below HB5.out);go_wp2_with (go_at_call 14; refine(iz _ x _ _ HF5.out HFL.out HPL.out HFPO.out).mono ?_);rintro e w6 ⟨fv6,rfl,hfo,hb6⟩;have HFO:=aa hfo.at
  have HB6:=aa (ac HB5.out hb6)
  replace HL:=aa (aD.below HL.out (by omega) hb6)
  clear hfo hb6 k0 k1;go_wp2_with (go_at_call 31; refine(od _ x fv6 _ HFO.out (by have:=HTOT.out; unfold cF at this; omega)).mono ?_);rintro e w7 ⟨rv,rfl,hro,hb7⟩;obtain⟨ra,rc,rfl,-,-⟩:=aj hro;have HB7:=aa (ac HB6.out hb7)
  replace HL:=aa (show bK (fun _=>True) w7 _ (cH (cF x))from aD.below HL.out (by omega) hb7)
  have HR:=aa (show bK (fun _=>True) w7 _ (cH (cF x))from sq hro);have HEQ:=aa (show(cH (x.files.flatMap au.parts)).length=(cH (cF x)).length from rfl);clear hb7 hro HFO;rw[HEQ.out];obtain⟨m,hm0⟩: ∃m,m=(cH (cF x)).length:=⟨_,rfl⟩;have HM0:=aa hm0;obtain⟨_,_,heL,hlc,hlm,hcellL⟩:=bK.shape HL.out;obtain⟨_,_,heR,hrc,hrm,hcellR⟩:=bK.shape HR.out
  simp only[Value.slice.injEq]at heL heR;obtain⟨rfl,-,rfl⟩:=heL;obtain⟨rfl,-,rfl⟩:=heR;have HCL:=aa hcellL;have HCR:=aa hcellR;rw[<-hm0]at hlc hrc ⊢;unfold maxLen at hlm hrm;clear hm0 hcellL hcellR;go_wp2_with fail
  go_loopw [5] (fun i wr=> ∃k:Nat,k<=m/\i= .int .i64 k/\Below w7.heap.size w7 wr) (fun i _=>m-(intOf i).toNat)
  case atStart=>exact⟨0,Nat.zero_le _,rfl,Below.refl _ _⟩
  case round=>
   obtain⟨k,hk,rfl,hbr⟩:=hrel;have HBR:=aa hbr;clear hbr
   by_cases hlt:k<m
   ·obtain⟨s,hs⟩: ∃s,(cH (cF x))[k]? =some s:=⟨_,List.getElem?_eq_getElem (show k<(cH (cF x)).length by rw[<-HM0.out]; exact hlt)⟩;obtain⟨b1,o1,rfl,-,r0⟩:=HCL.out k s hs;obtain⟨b2,o2,rfl,-,r1⟩:=HCR.out k s hs;obtain⟨V,hV⟩: ∃V:World,V=wr.drew:=⟨_,rfl⟩;have HBV:=aa (show Below w7.heap.size w7 V by rw[hV]; exact HBR.out.drew);have q0:=(HBV.out.cell (ay r0)).trans r0
    have q1:=(HBV.out.cell (ay r1)).trans r1;clear r0 r1 hs;go_wp2_with fail;refine al [some 9] (by kernel_rfl) (by kernel_rfl) (by kernel_rfl) ?_;simp only[bc,List.take_succ_cons,List.take_zero];rw[<-hV];clear hV
    repeat (first | (refine aw rfl ?_; simp only[Act.put,aG,aH,aI]) | (refine aB rfl (fun K hK=> ?_); go_simp; refine hK _ ?_; clear hK K))
    refine aA ?_;clear q0 q1;go_wp2_with fail
    go_roundw
    case rel=>exact⟨k+1,by omega,rfl,HBV.out⟩
    case measure=>simp only[intOf,Int.toNat_natCast]; omega
   ·have HBF:=aa (ac HB7.out HBR.out);go_wp2_with fail;refine(im _ (HE.out.keep HBF.out h6)).mono ?_;rintro e wz ⟨rfl,hbz⟩;have HBZ:=aa (ac HBF.out hbz);clear hbz;go_wp2_with fail;go_ret;exact⟨rfl,HBZ.out⟩
end Go.Proofs.YtnjkpcalgoefhaaGreatDoor
namespace Go.Proofs.YtnjkpcalgoefhaaGreatDoor
open Go.ChangeShapes Go.WideShapes Go.ChangeAt Go.RowKit Go.Lib Go.Shelf
open Go.ChangeMaps (open_string shut_string)
section
variable {H : Type} {enc : TypeId × Value → H}
end
def Au :List (String×DataW Unit):=[("math/bits.deBruijn64tab",Rows.laid_math_bits_deBruijn64tab),("kinkeep/sha256.initial",Rows.laid_kinkeep_sha256_initial),("kinkeep/sha256.constants",Rows.laid_kinkeep_sha256_constants),("unicode/utf8.acceptRanges",Rows.laid_unicode_utf8_acceptRanges),("unicode/utf8.first",Rows.laid_unicode_utf8_first)]
theorem own :ownKnob Tryz.prog.godebug=none:=by kernel_rfl
theorem ve :(Rows.laid_unicode_utf8_acceptRanges:DataW Unit)=acceptData:=by kernel_rfl
theorem vh :(Rows.laid_math_bits_deBruijn64tab:DataW Unit)=tabData .u8 (Lib.deBruijn64tab.map fun(n:Nat)=>(n:Int)):=by kernel_rfl
theorem th :(Rows.laid_kinkeep_sha256_initial:DataW Unit)=tabData .u32 (kV.list.map fun(n:Nat)=>(n:Int)):=by kernel_rfl
theorem pL :(Rows.laid_kinkeep_sha256_constants:DataW Unit)=tabData .u32 (kc.map fun(n:Nat)=>(n:Int)):=by kernel_rfl
theorem kU {P:Program} {w:World} {n:String} {k:IntKind} {zs:List Int} {g:Nat} {t e:TypeId} {N:Nat} (hg:P.globalNamed n=some g) (hty:(P.globals[g]?).map (·.type)=some t)
  (ht:P.underlying t=some (.array N e)) (he:P.underlying e=some (.int k)) (hce:P.cellsOf e=1) (hct:P.cellsOf t=N) (h:VarReads P w n (tabData k zs)) (j:Nat):w.cell? ⟨g,j,none⟩=(zs.map fun z=>Value.int k z)[j]? :=by
 obtain⟨g',t',cs,fuel,p,hg',hty',hvar,hd⟩:=h;obtain rfl:=Option.some.inj (hg.symm.trans hg');obtain rfl:=Option.some.inj (hty.symm.trans hty');rw[World.var?_cell hg hvar j,<-Array.getElem?_toList,cells_of_tab ht he hce hct hd]
theorem pK {w:World} {b k:Nat} {v:Value} (h:w.cell? ⟨b,k,none⟩=some v):b<w.heap.size:=by
 by_cases hb:b<w.heap.size
 ·exact hb
 ·exfalso
  have:w.heap[b]? =none:=Array.getElem?_eq_none (by omega);simp[World.cell?,this]at h
theorem AK {W:World} (hL:laidMetH Tryz.prog Au W) (hsh:W.ShapedOpen Tryz.prog):gX W:=by
 rw[MakeChecks.laidMetH_plain _ _ _ (by kernel_rfl)]at hL;have h1:=Lib.laidMet.reads hL (.head _);have h2:=Lib.laidMet.reads hL (.tail _ (.head _));have h3:=Lib.laidMet.reads hL (.tail _ (.tail _ (.head _)));have h4:=Lib.laidMet.reads hL (.tail _ (.tail _ (.tail _ (.head _))));have h5:=Lib.laidMet.reads hL (.tail _ (.tail _ (.tail _ (.tail _ (.head _)))));rw[vh]at h1;rw[th]at h2
 rw[pL]at h3;rw[ve]at h4;have c1:=kU (g:=5) (t:=240) (e:=5) (N:=64) (by kernel_rfl) (by kernel_rfl) (by kernel_rfl) (by kernel_rfl) (by kernel_rfl) (by kernel_rfl) h1;have c2:=kU (g:=1) (t:=101) (e:=100) (N:=8) (by kernel_rfl) (by kernel_rfl) (by kernel_rfl) (by kernel_rfl) (by kernel_rfl) (by kernel_rfl) h2;have c3:=kU (g:=4) (t:=156) (e:=100) (N:=64) (by kernel_rfl) (by kernel_rfl) (by kernel_rfl) (by kernel_rfl) (by kernel_rfl) (by kernel_rfl) h3
 have hI:ij W:=fun j x hj=>by
  rw[c2 j];simp[hj,eQ]
 have hK:ft W:=fun j x hj=>by
  rw[c3 j];simp[hj,eQ]
 have hD:TabAt 5 Lib.deBruijn64tab W:=fun j hj=>by
  rw[c1 j];simp[hj]
 have hi0:=hI 0 0x6a09e667 rfl;have hk0:=hK 0 0x428a2f98 rfl;have hd0:=hD 0 (by decide);refine⟨⟨?_, ?_⟩,hI,hK,pK hi0,pK hk0,⟨hD,pK hd0⟩⟩
 ·exact cell_of_shapedOpen_int (zero:= #[.int .i64 0]) (t:=3) hsh (of_decide_eq_true (by kernel_rfl)) (by kernel_rfl) rfl (by kernel_rfl) (by kernel_rfl) Tryz.underlying3
 ·exact utf8Tabs_of_readsT (U8Types.of196 Tryz.laysValid) ⟨by kernel_rfl,by kernel_rfl,by kernel_rfl,by kernel_rfl,by kernel_rfl,by kernel_rfl,by kernel_rfl⟩ (Pinned.utf8First_eq▸h5) h4
end Go.Proofs.YtnjkpcalgoefhaaGreatDoor
namespace Go.Proofs.YtnjkpcalgoefhaaGreatDoor
open Go.ChangeShapes Go.WideShapes Go.ChangeAt Go.RowKit Go.Lib Go.Shelf
section
variable {H : Type} {enc : TypeId × Value → H} {P : Program} {W : World} {base b0 : Nat} {spare : Nat → Bool} {held : Bool} {v : Value} {d : DataW H} {ps : List MemPlace}
theorem zj (a:Addr) (i j:Nat):(a.add i).add j=a.add (i+j):=by
 unfold Addr.add
 by_cases hi:i=0
 ·simp[hi]
 ·by_cases hj:j=0
  ·simp[hi,hj]
  ·simp[hi,hj]; omega
end
section
variable {H : Type} {enc : TypeId × Value → H} {W : World} {base b0 : Nat} {spare : Nat → Bool} {held : Bool} {v : Value} {d : DataW H} {ps : List MemPlace}
theorem eA {P:Program} {t:TypeId} {fs:Array Field} {fuel:Nat} {cs:List Value} {x:DataW H×List MemPlace} (ht:P.underlying t=some (.struct fs)) (h:DataW.trod enc P W base spare held fuel t cs=some x) (i:Nat) {f:Field} (hf:fs[i]? =some f):
  ∃n y,DataW.trod enc P W base spare held n f.type ((cs.drop f.offset).take (P.cellsOf f.type))=some y:=by
 obtain⟨xs,n,_,_,_,hlen,hF⟩:=DataW.trod_struct ht h;have hi:i<xs.length:=by rw[hlen]; exact(Array.getElem?_eq_some_iff.1 hf).1
 exact⟨n,xs[i],by rw[hF i f hf]; simp[hi]⟩
theorem jM {P:Program} {t:TypeId} {fs:Array Field} {fuel:Nat} {cs:List Value} {x:DataW H×List MemPlace} (ht:P.underlying t=some (.struct fs)) (h:DataW.trod enc P W base spare held fuel t cs=some x):cs.length=P.cellsOf t:=by
 obtain⟨xs,n,_,_,hl,_,_⟩:=DataW.trod_struct ht h;exact hl
theorem qu :Tryz.prog.cellsOf 9=1:=by kernel_rfl
theorem ma :Tryz.prog.cellsOf 3=1:=by kernel_rfl
theorem AF {v:Value} {l:List Value} (h:v.cells.toList=l) (hl:1<l.length):v= .agg l.toArray:=by
 cases v
 case agg cs=>simp only[Value.cells]at h; rw[<-h]
 all_goals (exfalso; simp only[Value.cells]at h; rw[<-h]at hl; simp at hl)
theorem ov :Tryz.prog.cellsOf 62=2:=by kernel_rfl
theorem sQ :Tryz.prog.cellsOf 25=1:=by kernel_rfl
theorem ou :Tryz.prog.cellsOf 27=7:=by kernel_rfl
theorem sP :Tryz.prog.cellsOf 22=1:=by kernel_rfl
theorem xA :Tryz.prog.cellsOf 24=2:=by kernel_rfl
theorem Av {α:Type} {cs:List α} (h:cs.length=2): ∃c0 c1,cs=[c0,c1]:=by
 match cs,h with
 | [c0,c1],_=>exact⟨c0,c1,rfl⟩
theorem Bi {α:Type} {cs:List α} (h:cs.length=7): ∃c0 c1 c2 c3 c4 c5 c6,cs=[c0,c1,c2,c3,c4,c5,c6]:=by
 match cs,h with
 | [c0,c1,c2,c3,c4,c5,c6],_=>exact⟨c0,c1,c2,c3,c4,c5,c6,rfl⟩
theorem nj {α:Type} {R:List Value->α->Prop} {X:α->Prop} : ∀ {xs:List α} {cells:List Value},bb (fun c x=>R c x/\X x) cells xs->bb R cells xs/\ ∀x∈xs,X x
 | [],_,h=>⟨h,by simp⟩
 | x::xs,_,⟨c,rest,e,hx,hr⟩=>by
  obtain⟨h1,h2⟩:=nj hr;refine⟨⟨c,rest,e,hx.1,h1⟩,fun y hy=> ?_⟩
  rcases List.mem_cons.1 hy with rfl | hy
  ·exact hx.2
  ·exact h2 y hy
end
section
variable {H : Type} {enc : TypeId × Value → H} {P : Program} {w : World} {base : Nat} {spare : Nat → Bool} {held : Bool}
end
section
variable {H : Type} {enc : TypeId × Value → H}
theorem BB {C:Checked} {os:Os} {f:FuncId} {fn:Func} {s:OpenSpec} {conds:List PathCond} {apart:Bool} {laid:List (String×DataW Unit)} (modest:Bool) (w0:World) (args:Array Value) (fuel:Nat) (hos:w0.os=os)
  (hsh:(w0.forCall (fun _ _=>0) ⟨#[],args,[]⟩).Shaped C.prog)
  (hok:Input.okWideB C.prog (w0.forCall (fun _ _=>0) ⟨#[],args,[]⟩) f ⟨#[],args,[]⟩=true)
  (hs:(DataW.whole enc C.prog (w0.forCall (fun _ _=>0) ⟨#[],args,[]⟩).memory fn.params.toList s.vars apart args.toList fuel).isSome=true)
  (hconds:conds.all (PathCond.test C.prog ⟨fn.params.toList,(Option.get _ hs).1,s.bare.plain.varTypes C.prog,(Option.get _ hs).2.1⟩)=true) (hkk: ∀k,s.cond=some k->k H ((Option.get _ hs).1++(Option.get _ hs).2.1)=true)
  (hsz:s.bare.sizedB enc C.prog fn apart (w0.forCall (fun _ _=>0) ⟨#[],args,[]⟩).memory args fuel=true) (hl:laidMetH C.prog laid (w0.forCall (fun _ _=>0) ⟨#[],args,[]⟩).memory):
  ∃(w:World) (tape:Tape) (i:Input),w.os=os/\(w.forCall tape i).Shaped C.prog/\i.vars=[]/\Input.okWide C.prog (w.forCall tape i) .any w.heap.size f i/\
   s.preRow enc C.prog fn conds apart laid (w.forCall tape i).memory i.args/\({modest:=modest} :Assume).holds C.prog (lone (Frame.enter C.prog f i.args .normal) [] (w.forCall tape i)):=
 ⟨w0,fun _ _=>0,⟨#[],args,[]⟩,hos,hsh,(Input.okWide_of_okWideB (base:=0) hok).1,(Input.okWide_of_okWideB hok).2,OpenSpec.preRow_of_cond fuel (Option.some_get hs).symm hconds hkk hsz hl,by
  simp only[Assume.holds];exact⟨by simp,by simp,fun _=>Modest.zero,by simp,by simp⟩⟩
end
theorem kE {H:Type} {d:DataW H} {l:List (DataW H)} (h:d∈l):Rows.uptoBulk d<=Rows.uptoBulkAll l:=by
 induction l with
 | nil=>cases h
 | cons x r ih=>
  simp only[Rows.uptoBulkAll]
  cases List.mem_cons.1 h with
  | inl e=>subst e; omega
  | inr e=>have:=ih e; omega
theorem sO {H:Type} {l:List (DataW H)} (hk:Rows.uptoSmall H l=true):Rows.uptoBulkAll l<=1048576:=of_decide_eq_true hk
section
variable {H : Type} {enc : TypeId × Value → H} {P : Program} {W : World} {base b0 : Nat} {spare : Nat → Bool} {held : Bool} {v : Value} {d : DataW H} {ps : List MemPlace}
def qj (d:DataW H):Prop:=Rows.uptoBulk d<=1048576
theorem xy (d:DataW H):1<=Rows.uptoBulk d:=by
 cases d
 case lit l=>cases l<;> simp[Rows.uptoBulk]
 all_goals simp[Rows.uptoBulk]
theorem qr : ∀(l:List (DataW H)),l.length<=Rows.uptoBulkAll l
 | []=>by simp[Rows.uptoBulkAll]
 | d::l=>by
  have h1:=qr l;have h2:=xy d;simp only[Rows.uptoBulkAll,List.length_cons]; omega
theorem xS {l:List (DataW H)} (h:Rows.uptoSmall H l=true) {d:DataW H} (hd:d∈l):qj d:=Nat.le_trans (kE hd) (sO h)
theorem wK {es rest:List (DataW H)} (h:qj (.slice es rest)):es.length<=1048576/\ ∀d∈es,qj d:=by
 unfold qj at h;simp only[Rows.uptoBulk]at h;have h1:=qr es;refine⟨by omega,fun d hd=> ?_⟩;have:=kE hd;unfold qj; omega
theorem zk {ds:List (DataW H)} (h:qj (.agg ds)): ∀d∈ds,qj d:=fun d hd=>by
 unfold qj at h;simp only[Rows.uptoBulk]at h;have:=kE hd;unfold qj; omega
theorem gp {P:Program} {t:TypeId} {fs:Array Field} {fuel:Nat} {cs:List Value} {x:DataW H×List MemPlace} (ht:P.underlying t=some (.struct fs)) (h:DataW.trod enc P W base spare held fuel t cs=some x) (hL:qj x.1) (i:Nat) {f:Field} (hf:fs[i]? =some f):
  ∃n y,DataW.trod enc P W base spare held n f.type ((cs.drop f.offset).take (P.cellsOf f.type))=some y/\qj y.1:=by
 obtain⟨xs,n,_,hx,_,hlen,hF⟩:=DataW.trod_struct ht h;have hi:i<xs.length:=by rw[hlen]; exact(Array.getElem?_eq_some_iff.1 hf).1
 refine⟨n,xs[i],by rw[hF i f hf]; simp[hi], ?_⟩;rw[hx]at hL;exact zk hL _ (List.mem_map.2 ⟨_,List.getElem_mem hi,rfl⟩)
theorem uS {α:Type} {P:Program} {R:List Value->α->Prop} {t e:TypeId} {sz:Nat} {fuel:Nat} {cs0:List Value} {y0:DataW H×List MemPlace} (ht:P.underlying t=some (.slice e)) (hc:P.cellsOf e=sz) (hpos:0<sz)
  (hR: ∀n cs y,DataW.trod enc P W base spare held n e cs=some y->qj y.1-> ∃x,R cs x) (hs: ∀c x,R c x->c.length=sz)
  (hf:DataW.trod enc P W base spare held fuel t cs0=some y0) (hL:qj y0.1): ∃v,cs0=[v]/\ ∃xs:List α,aP (fun _=>True) W sz R v xs/\xs.length<=1048576:=by
 rcases DataW.trod_slice ht hf with⟨hcs,_⟩ | ⟨a,len0,cap0,elems,rest,n,_,hcs,hy0,hb,hl,hm,hlen,hel,_,_⟩
 ·exact⟨_,hcs,[],aP.nil,by simp⟩
 ·refine⟨_,hcs, ?_⟩;rw[hc]at hel;rw[hy0]at hL;obtain⟨hL1,hL2⟩:=wK hL;rw[List.length_map,hlen]at hL1;have each: ∀i,i<len0-> ∃cs x,R cs x/\cs.length=sz/\ ∀j,j<sz->W.cell? (a.add (i*sz+j))=cs[j]? :=by
   intro i hi;have h1:=hel i hi;rw[List.getElem?_eq_getElem (by omega),Option.bind_eq_some_iff]at h1;obtain⟨cs,hcs,hy⟩:=h1;obtain⟨x,hx⟩:=hR n cs _ hy (hL2 _ (List.mem_map.2 ⟨_,List.getElem_mem (by omega),rfl⟩));refine⟨cs,x,hx,hs cs x hx,fun j hj=> ?_⟩;have h3:=World.cells?_some hcs;rw[<-zj];exact h3.2.2 j hj
  have main: ∀m,m<=len0-> ∃(cells:List Value) (xs:List α),xs.length=m/\cells.length=m*sz/\bb R cells xs/\ ∀(j:Nat) u,cells[j]? =some u->W.cell? (a.add j)=some u:=by
   intro m
   induction m with
   | zero=>intro _; exact⟨[],[],rfl,by simp,rfl,fun j u hj=>by simp at hj⟩
   | succ m ih=>
    intro hm;obtain⟨cells,xs,h1,h2,h3,h4⟩:=ih (by omega);obtain⟨cs,x,hx,hcl,hcc⟩:=each m (by omega);refine⟨cells++cs,xs++[x],by simp[h1],by rw[List.length_append,h2,hcl,Nat.add_mul]; omega,bb.snoc h3 hx,fun j u hj=> ?_⟩
    rcases Nat.lt_or_ge j cells.length with hj2 | hj2
    ·rw[List.getElem?_append_left hj2]at hj; exact h4 j u hj
    ·rw[List.getElem?_append_right hj2]at hj;have hlt:=(List.getElem?_eq_some_iff.1 hj).1;have:=hcc (j-cells.length) (by omega);rw[h2,show m*sz+(j-m*sz)=j by omega]at this;rw[this,<-h2]; exact hj
  obtain⟨cells,xs,h1,h2,h3,h4⟩:=main len0 (Nat.le_refl _);subst h1;refine⟨xs,⟨cells,⟨h2,some a,cap0,rfl,hl,hm, ?_⟩,h3⟩,hL1⟩
  rcases Nat.eq_zero_or_pos xs.length with h0 | h0
  ·exact .inl h0
  ·right
   have hpl:0<cells.length:=by rw[h2]; exact Nat.mul_pos h0 hpos
   have hc0:=h4 0 cells[0] (by simp[hpl]);have hsp:a.spot=none:=by simpa [Addr.add]using World.cell?_spot hc0
   obtain⟨b,o,sp⟩:=a;simp only at hsp;subst hsp;refine⟨b,o,rfl,trivial,fun j u hj=> ?_⟩;have:=h4 j u hj;rw[pF]at this; exact this
end
section
variable {H : Type} {enc : TypeId × Value → H} {W : World} {base b0 : Nat} {spare : Nat → Bool} {held : Bool} {v : Value} {d : DataW H} {ps : List MemPlace}
theorem jK {n:Nat} {t:TypeId} {cs:List Value} {x:DataW H×List MemPlace} {P:Program} (ht:P.underlying t=some .string) (h:DataW.trod enc P W base spare held n t cs=some x) (hL:qj x.1): ∃s:ByteArray,cs=[.string s]/\s.size<=maxLen/\s.size<=1048576:=by
 obtain⟨s,e,hx,hw⟩:=DataW.trod_string ht h;refine⟨s,e,hw, ?_⟩;rw[hx]at hL;unfold qj at hL;simp only[Rows.uptoBulk]at hL;have h4:s.data.toList.length=s.size:=rfl;omega
structure xf (f : au) : Prop where
 pth:f.path.size<=1048576
 lnk:f.link.size<=1048576
 len:f.parts.length<=1048576
 sum: ∀p∈f.parts,p.sum.size<=1048576
theorem tG {n:Nat} {cs:List Value} {y:DataW H×List MemPlace} (h:DataW.trod enc Tryz.prog W base spare held n 62 cs=some y) (hL:qj y.1): ∃p,dk cs p/\p.sum.size<=1048576:=by
 have hl:=jM Tryz.underlying62 h;rw[ov]at hl;obtain⟨c0,c1,rfl⟩:=Av hl;obtain⟨n0,y0,h0,hL0⟩:=gp Tryz.underlying62 h hL 0 rfl;obtain⟨n1,y1,h1⟩:=eA Tryz.underlying62 h 1 rfl;simp only[List.getElem_toArray,List.getElem_cons_zero,List.getElem_cons_succ,qu,ma]at h0 h1;obtain⟨a0,e0,g0,gb⟩:=jK Tryz.underlying9 h0 hL0;obtain⟨a1,e1,_,g1⟩:=DataW.trod_int Tryz.underlying3 h1
 simp at e0 e1;subst e0 e1;exact⟨⟨a0,a1⟩,⟨rfl,⟨g0,g1⟩⟩,gb⟩
theorem tF {n:Nat} {cs:List Value} {y:DataW H×List MemPlace} (h:DataW.trod enc Tryz.prog W base spare held n 27 cs=some y) (hL:qj y.1): ∃f,dB (fun _=>True) W cs f/\xf f:=by
 have hl:=jM Tryz.underlying27 h;rw[ou]at hl;obtain⟨c0,c1,c2,c3,c4,c5,c6,rfl⟩:=Bi hl;obtain⟨n0,y0,h0,hL0⟩:=gp Tryz.underlying27 h hL 0 rfl;obtain⟨n1,y1,h1⟩:=eA Tryz.underlying27 h 1 rfl;obtain⟨n2,y2,h2⟩:=eA Tryz.underlying27 h 2 rfl;obtain⟨n3,y3,h3⟩:=eA Tryz.underlying27 h 3 rfl;obtain⟨n4,y4,h4⟩:=eA Tryz.underlying27 h 4 rfl
 obtain⟨n5,y5,h5,hL5⟩:=gp Tryz.underlying27 h hL 5 rfl;obtain⟨n6,y6,h6,hL6⟩:=gp Tryz.underlying27 h hL 6 rfl;simp only[List.getElem_toArray,List.getElem_cons_zero,List.getElem_cons_succ,qu,ma,sQ]at h0 h1 h2 h3 h4 h5 h6;obtain⟨a0,e0,g0,k0⟩:=jK Tryz.underlying9 h0 hL0;obtain⟨a5,e5,g5,k5⟩:=jK Tryz.underlying9 h5 hL5;obtain⟨a1,e1,_,g1⟩:=DataW.trod_int Tryz.underlying3 h1
 obtain⟨a2,e2,_,g2⟩:=DataW.trod_int Tryz.underlying3 h2;obtain⟨a3,e3,_,g3⟩:=DataW.trod_int Tryz.underlying3 h3;obtain⟨a4,e4,_,g4⟩:=DataW.trod_int Tryz.underlying3 h4;obtain⟨a6,e6,ps,⟨cells,g6,g7⟩,gb⟩:=uS (R:=fun c p=>dk c p/\p.sum.size<=1048576) Tryz.underlying25 ov (by omega) (fun n cs y hy hf=>tG hy hf) (fun c x hx=>dk.len c x hx.1) h6 hL6
 obtain⟨g8,g9⟩:=nj g7;simp at e0 e1 e2 e3 e4 e5 e6;subst e0 e1 e2 e3 e4 e5 e6;exact⟨⟨a0,a1,a2,a3,a4,a5,ps⟩,⟨_,rfl,⟨cells,g6,g8⟩,⟨g0,g5,g1,g2,g3,g4⟩⟩,⟨k0,k5,gb,g9⟩⟩
theorem vI (h:DataW.Trod enc Tryz.prog W base spare held 24 v d ps) (hL:qj d): ∃(fv:Value) (x:dn),v=dY fv x.tm/\aM (fun _=>True) W fv x.files/\(∀f∈x.files,xf f)/\x.files.length<=1048576/\(Lit.int .i64 x.tm).wf=true:=by
 obtain⟨fuel,h⟩:=h;have hl:=jM Tryz.underlying24 h;rw[xA]at hl;obtain⟨c0,c1,hcs⟩:=Av hl;rw[hcs]at h;obtain⟨n0,y0,h0⟩:=eA Tryz.underlying24 h 0 rfl;obtain⟨n1,y1,h1,hL1⟩:=gp Tryz.underlying24 h hL 1 rfl;simp only[List.getElem_toArray,List.getElem_cons_zero,List.getElem_cons_succ,sP,ma]at h0 h1;obtain⟨a0,e0,_,g0⟩:=DataW.trod_int Tryz.underlying3 h0
 obtain⟨a1,e1,xs,⟨cells,h2,h3⟩,hn⟩:=uS (R:=fun c f=>dB (fun _=>True) W c f/\xf f) Tryz.underlying22 ou (by omega) (fun n cs y hy hy2=>tF hy hy2) (fun c x hx=>dB.len c x hx.1) h1 hL1;simp at e0 e1;subst e0 e1;obtain⟨h4,h5⟩:=nj h3;exact⟨_,⟨a0,xs⟩,AF hcs (by simp),⟨cells,h2,h4⟩,h5,hn,g0⟩
end
end Go.Proofs.YtnjkpcalgoefhaaGreatDoor
