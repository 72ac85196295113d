/- Texts of this proof, one after the other: Same, SItem, LawLuk, Frame, OpM, FrameU. -/
import Derived.Test.YtpffpjbkbaleiaaGreatDoorCLookupsH
set_option maxRecDepth 100000
set_option maxHeartbeats 8000000
namespace Go.Proofs.YtpffpjbkbaleiaaGreatDoor
open Go.RowKit
theorem tt (S T:Nat->Prop) (v u:Value) (rs ss:List aI) (w:World) (hv:aM S w v rs) (hu:aM T w u ss):
  Calls Tryz.prog 44 #[v,u] w fun e w'=>e= .returned (.bool (decide (rs=ss)))/\Below w.heap.size w w':=by
 obtain⟨a,cap,rfl,hc,hm,-⟩:=aP.shape hv gH.len;obtain⟨a2,cap2,rfl,hc2,hm2,-⟩:=aP.shape hu gH.len;unfold maxLen at hm hm2;have HV:=ab hv;have HU:=ab hu;clear hv hu
 by_cases hl:rs.length=ss.length
 ·have HL:=ab hl;have hl2:ss.length=rs.length:=hl.symm;rw[hl2]at HU hc2 ⊢;clear hl hl2
  go_enter Tryz.func44,Tryz.ntmps44
  go_wp2_with fail
  go_loopw [5] (fun i wr=> ∃k:Nat,k<=rs.length/\i= .int .i64 k/\rs.take k=ss.take k/\Below w.heap.size w wr) (fun i _=>rs.length-(intOf i).toNat)
  case atStart=>exact⟨0,Nat.zero_le _,rfl,by simp,Below.refl _ _⟩
  case round=>
   obtain⟨k,hk,rfl,hn,hb⟩:=hrel;have HN:=ab hn;have HB:=ab hb;clear hn hb
   by_cases hlt:k<rs.length
   ·obtain⟨r,hr⟩: ∃r,rs[k]? =some r:=⟨rs[k],by simp[hlt]⟩;obtain⟨x,hx⟩: ∃x,ss[k]? =some x:=⟨ss[k]'(by have:=HL.out; omega),by simp⟩;have HR:=ab hr;have HX:=ab hx;have heq:=BN r x;obtain⟨W,hW⟩: ∃W:World,W=wr.drew:=⟨_,rfl⟩;have HBW:=ab (show Below w.heap.size w W by rw[hW]; exact HB.out.drew);obtain⟨b,o,rfl,hrok,q0,q1,q2⟩:=fy HV.out HBW.out hr
    obtain⟨b2,o2,rfl,hrok2,p0,p1,p2⟩:=fy (by have:=HU.out; rw[HL.out]at this; exact this) HBW.out hx;unfold bt at heq;clear hr hrok hx hrok2
    by_cases hm:r=x
    ·have e1:decide (r=x)=true:=by simp[hm]
     rw[e1]at heq;have HT:=ab (show rs.take (k+1)=ss.take (k+1) by rw[bB HR.out,bB HX.out,HN.out,hm]);clear e1 hm;go_wp2_with fail;refine an [some 9] (by kernel_rfl) (by kernel_rfl) (by kernel_rfl) ?_;simp only[bi,List.take_succ_cons,List.take_zero];rw[<-hW];clear hW
     repeat (first | (refine aF rfl ?_; simp only[Act.put,aB,aC,aD]) | (refine aL rfl (fun K hK=> ?_); go_simp; refine hK _ ?_; clear hK K))
     refine aK ?_;go_wp2_with fail
     go_roundw
     case rel=>exact⟨k+1,by omega,by go_num,HT.out,HBW.out⟩
     case measure=>simp[intOf]; omega
    ·have e1:decide (r=x)=false:=by simp[hm]
     rw[e1]at heq;have HT:=ab (show decide (rs=ss)=false by
      rw[decide_eq_false_iff_not];intro e;have h1:=HR.out;rw[e,HX.out]at h1;exact hm (Option.some.inj h1).symm)
     clear e1 hm;go_wp2_with fail;refine an [some 9] (by kernel_rfl) (by kernel_rfl) (by kernel_rfl) ?_;simp only[bi,List.take_succ_cons,List.take_zero];rw[<-hW];clear hW
     repeat (first | (refine aF rfl ?_; simp only[Act.put,aB,aC,aD]) | (refine aL rfl (fun K hK=> ?_); go_simp; refine hK _ ?_; clear hK K))
     refine aK ?_;go_wp2_with fail;go_ret;exact⟨am HT.out.symm,HBW.out⟩
   ·obtain rfl:k=rs.length:=by omega
    have HT:=ab (show decide (rs=ss)=true by
     have:=HN.out;rw[List.take_of_length_le (Nat.le_refl _),List.take_of_length_le (by rw[HL.out]; exact Nat.le_refl _)]at this;simp[this])
    go_wp2_with fail;go_ret;exact⟨am HT.out.symm,HB.out⟩
 ·have HT:=ab (show decide (rs=ss)=false by rw[decide_eq_false_iff_not]; intro e; exact hl (by rw[e]));have e1:((rs.length:Int) != (ss.length:Int))=true:=by simp; omega
  clear hl
  go_enter Tryz.func44,Tryz.ntmps44
  go_wp2_with fail;go_ret;exact⟨am HT.out.symm,Below.refl _ _⟩
end Go.Proofs.YtpffpjbkbaleiaaGreatDoor
namespace Go.Proofs.YtpffpjbkbaleiaaGreatDoor
open Go.RowKit
theorem vE (S T:Nat->Prop) (v u:Value) (rs ss:List aI) (b:Bool) (w:World) (hv:aM S w v rs) (hu:aM T w u ss) (h:decide (rs=ss)=b):
  Calls Tryz.prog 44 #[v,u] w fun e w'=>e= .returned (.bool b)/\Below w.heap.size w w':=by
 rw[<-h]; exact tt S T v u rs ss w hv hu
theorem tr (S T:Nat->Prop) (x y:az) (cv cu:Value) (w:World) (hv:aM S w cv x.chunks) (hu:aM T w cu y.chunks):
  Calls Tryz.prog 30 #[dT cv x,dT cu y] w fun e w'=>e= .returned (.bool (decide (x=y)))/\Below w.heap.size w w':=by
 obtain⟨a,cap,rfl,-,-,-⟩:=aP.shape hv gH.len;obtain⟨a2,cap2,rfl,-,-,-⟩:=aP.shape hu gH.len;have HV:=ab hv;have HU:=ab hu;clear hv hu;unfold dT;have HN:=ab (show ∀x y:ByteArray,x.toList=y.toList->x=y from fun x y h=>eN (by rw[<-bS,<-bS]; exact h));obtain⟨b,hcb⟩: ∃b,b=decide (x.chunks=y.chunks):=⟨_,rfl⟩;have HCB:=ab hcb
 clear hcb
 go_enter Tryz.func30,Tryz.ntmps30
 go_wp2_with fail
 ·have y0:x.name=y.name:=HN.out _ _ (by assumption);have y1:x.kind=y.kind:=by assumption
  have y2:x.mode=y.mode:=by assumption
  have y3:x.time=y.time:=by assumption
  have y4:x.size=y.size:=by assumption
  have y5:x.link=y.link:=HN.out _ _ (by assumption);have y6:x.node.name=y.node.name:=HN.out _ _ (by assumption);have y7:x.node.gen=y.node.gen:=by assumption
  have y8:x.node.size=y.node.size:=by assumption
  have HF:=ab (show decide (x=y)=b by
   rw[HCB.out];have y9:x.node=y.node:=by
    cases hxn:x.node
    cases hyn:y.node
    rw[hxn,hyn]at y6 y7 y8;simp only at y6 y7 y8;rw[y6,y7,y8]
   cases x
   cases y
   simp only at y0 y1 y2 y3 y4 y5 y9;simp[y0,y1,y2,y3,y4,y5,y9])
  clear y0 y1 y2 y3 y4 y5 y6 y7 y8;have HB:=ab (((Below.refl w.heap.size w).alloc (Nat.le_refl _) (.cells #[.string x.name, .int .i64 y.kind, .int .i64 y.mode, .int .i64 y.time, .int .i64 y.size, .string x.link, .slice a x.chunks.length cap, .string x.node.name, .int .i64 y.node.gen, .int .i64 y.node.size] 28)).alloc (by simp) (.cells #[.string y.name, .int .i64 y.kind, .int .i64 y.mode, .int .i64 y.time, .int .i64 y.size, .string y.link, .slice a2 y.chunks.length cap2, .string y.node.name, .int .i64 y.node.gen, .int .i64 y.node.size] 28))
  refine(vE _ _ _ _ x.chunks y.chunks b _ (aP.below HV.out (by omega) HB.out (fun _ _ _ h=>h)) (aP.below HU.out (by omega) HB.out (fun _ _ _ h=>h)) HCB.out.symm).mono ?_;rintro e w1 ⟨rfl,hb1⟩;have HB1:=ab (ah HB.out hb1);clear hb1;go_wp2_with fail;go_ret;exact⟨am HF.out.symm,HB1.out⟩
 all_goals (
  go_ret;refine⟨am ?_,((Below.refl _ _).alloc (Nat.le_refl _) _).alloc (by simp) _⟩
  symm
  rw[decide_eq_false_iff_not];rintro rfl;exact absurd rfl (by assumption))
theorem vD (S T:Nat->Prop) (x y:az) (cv cu:Value) (b:Bool) (w:World) (hv:aM S w cv x.chunks) (hu:aM T w cu y.chunks) (h:decide (x=y)=b):
  Calls Tryz.prog 30 #[dT cv x,dT cu y] w fun e w'=>e= .returned (.bool b)/\Below w.heap.size w w':=by
 rw[<-h]; exact tr S T x y cv cu w hv hu
end Go.Proofs.YtpffpjbkbaleiaaGreatDoor
namespace Go.Proofs.YtpffpjbkbaleiaaGreatDoor
open Go Go.RowKit
def Gd (r:Except Int az):az×Int:=match r with
 | .error x=>(Dz,x)
 | .ok it=>(it,0)
theorem nF.flat {cs:List (ByteArray×List UInt8)} {root:aI} {path:ByteArray} {it:az} {x:Int} {w w':World} {e:Ending} (h:nF cs root path w e w') (he:Gd (bW cs root path)=(it,x)):
  Below w.heap.size w w'/\ ∃a cap,e= .returned (.tuple #[dT (.slice a it.chunks.length cap) it, .int .i64 x])/\aM (fun _=>True) w' (.slice a it.chunks.length cap) it.chunks/\it.chunks.length<=cap/\cap<=maxLen:=by
 obtain⟨hb,h⟩:=h;refine⟨hb, ?_⟩
 cases hl:bW cs root path with
 | error y=>
  rw[hl]at h he;obtain⟨rfl,-⟩:=h
  cases he
  exact⟨none,0,rfl,aP.nil,Nat.le_refl _,Nat.zero_le _⟩
 | ok rs=>
  rw[hl]at h he;obtain⟨v,rfl,hv,-⟩:=h
  cases he
  obtain⟨a,cap,rfl,h1,h2,-⟩:=aP.shape hv gH.len;exact⟨a,cap,rfl,aM.same hv (fun _ _ _=>⟨trivial,rfl⟩),h1,h2⟩
theorem qy (S T:Nat->Prop) (x:az) (cv cu:Value) (w:World) (hv:aM S w cv x.chunks) (hu:aM T w cu x.chunks):
  Calls Tryz.prog 30 #[dT cv x,dT cu x] w fun e w'=>e= .returned (.bool true)/\Below w.heap.size w w':=
 vD S T x x cv cu true w hv hu (decide_eq_true rfl)
theorem Cg (cv:Value) (root:aI) (path:ByteArray) (cs:List (ByteArray×List UInt8)) (w:World) (he:kI w) (hr:bg root) (hs:path.size<=16777216) (hc:gm (fun _=>True) w cv cs):
  Calls Tryz.prog 7 #[bt root,cv, .string path] w fun e w'=>e= .returned (.bool true)/\Below w.heap.size w w':=by
 have HE:=ab he;have HR:=ab hr;have HS:=ab hs;have HC:=ab hc;clear he hr hs hc;obtain⟨W0,hW0⟩: ∃W0:World,W0=w.alloc (.cells #[.string root.name, .int .i64 root.gen, .int .i64 root.size] 26):=⟨_,rfl⟩;have HB0:=ab (show Below w.heap.size w W0 by rw[hW0]; exact(Below.refl _ _).alloc (Nat.le_refl _) _);have HX0:=ab (show W0.heap[w.heap.size]? =some (.cells #[.string root.name, .int .i64 root.gen, .int .i64 root.size] 26 (0,0)) by rw[hW0]; exact bQ w _)
 unfold bt
 go_enter Tryz.func7,Tryz.ntmps7
 go_wp2_with fail;rw[<-hW0];clear hW0;refine(tP _ (HE.out.below HB0.out)).mono ?_;rintro e w1 ⟨rfl,hb1⟩;have HB1:=ab (ah HB0.out hb1);have HX1:=ab ((hb1.block _ (lt_of_block HX0.out)).trans HX0.out);clear hb1;go_wp2_with fail;refine(zp _ cv cs _ (HC.out.below HB1.out)).mono ?_;rintro e w2 ⟨fb,rfl,hb2,-⟩;have HB2:=ab (ah HB1.out hb2);have HX2:=ab ((hb2.block _ (lt_of_block HX1.out)).trans HX1.out)
 clear hb2
 cases fb
 ·go_wp2_with fail;go_ret;exact⟨rfl,HB2.out⟩
 ·obtain⟨⟨it,x⟩,hlx⟩: ∃p,Gd (bW cs root path)=p:=⟨_,rfl⟩;have HLX:=ab hlx;have p0:=aa (k:=0) HX2.out;have p1:=aa (k:=1) HX2.out;have p2:=aa (k:=2) HX2.out;simp only[aJ]at p0 p1 p2;have hca:=ir (fun _=>True) cv cs root path w2 (HC.out.at.below HB2.out) (HE.out.below HB2.out).env HR.out;have HCA:=ab hca;unfold bt at HCA;clear hca hlx;go_wp2_with fail
  refine HCA.out.mono ?_;rintro e w3 hr;obtain⟨hb3,a,cap,rfl,hv3,hc1,hc2⟩:=hr.flat HLX.out;unfold maxLen at hc2;have HB3:=ab (ah HB2.out hb3);have HX3:=ab ((hb3.block _ (lt_of_block HX2.out)).trans HX2.out);have HV3:=ab hv3;unfold dT;clear hr hb3 hv3 p0 p1 p2
  go_upto_region 6 with(fail)
  obtain⟨W3,hW3⟩: ∃W3:World,W3=w3.alloc (.cells #[.string it.name, .int .i64 it.kind, .int .i64 it.mode, .int .i64 it.time, .int .i64 it.size, .string it.link, .slice a it.chunks.length cap, .string it.node.name, .int .i64 it.node.gen, .int .i64 it.node.size] 28):=⟨_,rfl⟩;have HBW3:=ab (show Below w3.heap.size w3 W3 by rw[hW3]; exact(Below.refl _ _).alloc (Nat.le_refl _) _);have HY3:=ab (show W3.heap[w3.heap.size]? =some (.cells #[.string it.name, .int .i64 it.kind, .int .i64 it.mode, .int .i64 it.time, .int .i64 it.size, .string it.link, .slice a it.chunks.length cap, .string it.node.name, .int .i64 it.node.gen, .int .i64 it.node.size] 28 (0,0)) by rw[hW3]; exact bQ w3 _)
  have HBX3:=ab (ah HB3.out HBW3.out);have HXW3:=ab ((HBW3.out.block _ (lt_of_block HX3.out)).trans HX3.out);have HVW3:=ab (aP.below HV3.out (by omega) HBW3.out (fun _ _ _ h=>h));rw[<-hW3];clear hW3;have p0:=aa (k:=0) HXW3.out;have p1:=aa (k:=1) HXW3.out;have p2:=aa (k:=2) HXW3.out;simp only[aJ]at p0 p1 p2;have hca:=sT (fun _=>True) cv cs root path W3 (HC.out.at.below HBX3.out) HR.out HS.out
  have HCB:=ab hca;unfold bt at HCB;clear hca;go_wp2_with fail;refine HCB.out.mono ?_;rintro e w4 hr;obtain⟨hb4,a2,cap2,rfl,hv4,hd1,hd2⟩:=hr.flat HLX.out;unfold maxLen at hd2;have HB4:=ab (ah HBX3.out hb4);have HY4:=ab ((hb4.block _ (lt_of_block HY3.out)).trans HY3.out);have HVA4:=ab (aP.below HVW3.out (by omega) hb4 (fun _ _ _ h=>h));have HV4:=ab hv4;unfold dT
  clear hr hb4 hv4 p0 p1 p2
  go_upto_region 7 with(fail)
  obtain⟨W4,hW4⟩: ∃W4:World,W4=w4.alloc (.cells #[.string it.name, .int .i64 it.kind, .int .i64 it.mode, .int .i64 it.time, .int .i64 it.size, .string it.link, .slice a2 it.chunks.length cap2, .string it.node.name, .int .i64 it.node.gen, .int .i64 it.node.size] 28):=⟨_,rfl⟩;have hbw:=show Below w4.heap.size w4 W4 by rw[hW4]; exact(Below.refl _ _).alloc (Nat.le_refl _) _
  have HZ4:=ab (show W4.heap[w4.heap.size]? =some (.cells #[.string it.name, .int .i64 it.kind, .int .i64 it.mode, .int .i64 it.time, .int .i64 it.size, .string it.link, .slice a2 it.chunks.length cap2, .string it.node.name, .int .i64 it.node.gen, .int .i64 it.node.size] 28 (0,0)) by rw[hW4]; exact bQ w4 _);have HBX4:=ab (ah HB4.out hbw);have HYW4:=ab ((hbw.block _ (lt_of_block HY4.out)).trans HY4.out)
  have hca:=qy _ _ it _ _ W4 (aP.below HVA4.out (by omega) hbw (fun _ _ _ h=>h)) (aP.below HV4.out (by omega) hbw (fun _ _ _ h=>h));have HCC:=ab hca;unfold dT at HCC;rw[<-hW4];clear hW4 hbw hca;have p0:=aa (k:=0) HYW4.out;have p1:=aa (k:=1) HYW4.out;have p2:=aa (k:=2) HYW4.out;have p3:=aa (k:=3) HYW4.out;have p4:=aa (k:=4) HYW4.out
  have p5:=aa (k:=5) HYW4.out;have p6:=aa (k:=6) HYW4.out;have p7:=aa (k:=7) HYW4.out;have p8:=aa (k:=8) HYW4.out;have p9:=aa (k:=9) HYW4.out;simp only[aJ]at p0 p1 p2 p3 p4 p5 p6 p7 p8 p9;have q0:=aa (k:=0) HZ4.out;have q1:=aa (k:=1) HZ4.out;have q2:=aa (k:=2) HZ4.out;have q3:=aa (k:=3) HZ4.out;have q4:=aa (k:=4) HZ4.out
  have q5:=aa (k:=5) HZ4.out;have q6:=aa (k:=6) HZ4.out;have q7:=aa (k:=7) HZ4.out;have q8:=aa (k:=8) HZ4.out;have q9:=aa (k:=9) HZ4.out;simp only[aJ]at q0 q1 q2 q3 q4 q5 q6 q7 q8 q9;go_wp2_with fail;refine HCC.out.mono ?_;rintro e w5 ⟨rfl,hb5⟩;have HB5:=ab (ah HBX4.out hb5);clear hb5;go_wp2_with fail;go_ret;exact⟨rfl,HB5.out⟩
end Go.Proofs.YtpffpjbkbaleiaaGreatDoor
namespace Go.Proofs.YtpffpjbkbaleiaaGreatDoor
open Go.ChangeShapes Go.WideShapes Go.ChangeAt Go.RowKit Go.Lib Go.Shelf
open Go.ChangeMaps (open_string shut_string)
section
variable {H : Type} {enc : TypeId × Value → H}
end
def EW :List (String×DataW Unit):=[("math/bits.deBruijn64tab",Rows.laid_math_bits_deBruijn64tab),("kinkeep/sha256.initial",Rows.laid_kinkeep_sha256_initial),("kinkeep/sha256.constants",Rows.laid_kinkeep_sha256_constants),("kinkeep/hmac.pads",Rows.laid_kinkeep_hmac_pads),("unicode/utf8.acceptRanges",Rows.laid_unicode_utf8_acceptRanges),("unicode/utf8.first",Rows.laid_unicode_utf8_first)]
theorem own :ownKnob Tryz.prog.godebug=none:=by kernel_rfl
theorem yP :(Rows.laid_unicode_utf8_acceptRanges:DataW Unit)=acceptData:=by kernel_rfl
theorem zb :(Rows.laid_math_bits_deBruijn64tab:DataW Unit)=tabData .u8 (Lib.deBruijn64tab.map fun(n:Nat)=>(n:Int)):=by kernel_rfl
theorem wJ :(Rows.laid_kinkeep_sha256_initial:DataW Unit)=tabData .u32 (mD.list.map fun(n:Nat)=>(n:Int)):=by kernel_rfl
theorem sI :(Rows.laid_kinkeep_sha256_constants:DataW Unit)=tabData .u32 (kc.map fun(n:Nat)=>(n:Int)):=by kernel_rfl
theorem Ew :(Rows.laid_kinkeep_hmac_pads:DataW Unit)=tabData .u8 [54,92]:=by kernel_rfl
theorem kx {P:Program} {w:World} {n:String} {k:IntKind} {zs:List Int} {g:Nat} {t e:TypeId} {N:Nat} (hg:P.globalNamed n=some g) (hty:(P.globals[g]?).map (·.type)=some t)
  (ht:P.underlying t=some (.array N e)) (he:P.underlying e=some (.int k)) (hce:P.cellsOf e=1) (hct:P.cellsOf t=N) (h:VarReads P w n (tabData k zs)) (j:Nat):w.cell? ⟨g,j,none⟩=(zs.map fun z=>Value.int k z)[j]? :=by
 obtain⟨g',t',cs,fuel,p,hg',hty',hvar,hd⟩:=h;obtain rfl:=Option.some.inj (hg.symm.trans hg');obtain rfl:=Option.some.inj (hty.symm.trans hty');rw[World.var?_cell hg hvar j,<-Array.getElem?_toList,cells_of_tab ht he hce hct hd]
theorem nI {w:World} {b k:Nat} {v:Value} (h:w.cell? ⟨b,k,none⟩=some v):b<w.heap.size:=by
 by_cases hb:b<w.heap.size
 ·exact hb
 ·exfalso
  have:w.heap[b]? =none:=Array.getElem?_eq_none (by omega);simp[World.cell?,this]at h
theorem Fr {W:World} (hL:laidMetH Tryz.prog EW W) (hsh:W.ShapedOpen Tryz.prog):kI W:=by
 rw[MakeChecks.laidMetH_plain _ _ _ (by kernel_rfl)]at hL;have h1:=Lib.laidMet.reads hL (.head _);have h2:=Lib.laidMet.reads hL (.tail _ (.head _));have h3:=Lib.laidMet.reads hL (.tail _ (.tail _ (.head _)));have h4:=Lib.laidMet.reads hL (.tail _ (.tail _ (.tail _ (.head _))));have h5:=Lib.laidMet.reads hL (.tail _ (.tail _ (.tail _ (.tail _ (.head _)))));have h6:=Lib.laidMet.reads hL (.tail _ (.tail _ (.tail _ (.tail _ (.tail _ (.head _))))))
 rw[zb]at h1;rw[wJ]at h2;rw[sI]at h3;rw[Ew]at h4;rw[yP]at h5;have c1:=kx (g:=6) (t:=213) (e:=5) (N:=64) (by kernel_rfl) (by kernel_rfl) (by kernel_rfl) (by kernel_rfl) (by kernel_rfl) (by kernel_rfl) h1;have c2:=kx (g:=2) (t:=216) (e:=215) (N:=8) (by kernel_rfl) (by kernel_rfl) (by kernel_rfl) (by kernel_rfl) (by kernel_rfl) (by kernel_rfl) h2
 have c3:=kx (g:=5) (t:=252) (e:=215) (N:=64) (by kernel_rfl) (by kernel_rfl) (by kernel_rfl) (by kernel_rfl) (by kernel_rfl) (by kernel_rfl) h3;have c4:=kx (g:=0) (t:=221) (e:=5) (N:=2) (by kernel_rfl) (by kernel_rfl) (by kernel_rfl) (by kernel_rfl) (by kernel_rfl) (by kernel_rfl) h4;have hp0:W.cell? ⟨0,0,none⟩=some (.int .u8 54):=c4 0;have hp1:W.cell? ⟨0,1,none⟩=some (.int .u8 92):=c4 1
 have hI:ij W:=fun j x hj=>by
  rw[c2 j];simp[hj,fJ]
 have hK:fj W:=fun j x hj=>by
  rw[c3 j];simp[hj,fJ]
 have hD:TabAt 6 Lib.deBruijn64tab W:=fun j hj=>by
  rw[c1 j];simp[hj]
 have hi0:=hI 0 0x6a09e667 rfl;have hk0:=hK 0 0x428a2f98 rfl;have hd0:=hD 0 (by decide);refine⟨⟨?_, ?_⟩,⟨hI,hK,⟨hp0,hp1⟩,nI hi0,nI hk0,nI hp0⟩,⟨hD,nI hd0⟩⟩
 ·exact cell_of_shapedOpen_int (zero:= #[.int .i64 0]) (t:=3) hsh (of_decide_eq_true (by kernel_rfl)) (by kernel_rfl) rfl (by kernel_rfl) (by kernel_rfl) Tryz.underlying3
 ·exact utf8Tabs_of_readsT (U8Types.of196 Tryz.laysValid) ⟨by kernel_rfl,by kernel_rfl,by kernel_rfl,by kernel_rfl,by kernel_rfl,by kernel_rfl,by kernel_rfl⟩ (Pinned.utf8First_eq▸h6) h5
end Go.Proofs.YtpffpjbkbaleiaaGreatDoor
namespace Go.Proofs.YtpffpjbkbaleiaaGreatDoor
open Go.ChangeShapes Go.WideShapes Go.ChangeAt Go.RowKit Go.Lib Go.Shelf
section
variable {H : Type} {enc : TypeId × Value → H} {P : Program} {W : World} {base : Nat}
theorem DP (a:Addr) (i j:Nat):(a.add i).add j=a.add (i+j):=by
 unfold Addr.add
 by_cases hi:i=0
 ·simp[hi]
 ·by_cases hj:j=0
  ·simp[hi,hj]
  ·simp[hi,hj]; omega
theorem CU {α:Type} {R:List Value->α->Prop} {t e:TypeId} {sz:Nat} {spare:Nat->Bool} {held:Bool} {fuel:Nat} {cs0:List Value} {y0:DataW H×List MemPlace} (ht:P.underlying t=some (.slice e)) (hc:P.cellsOf e=sz) (hpos:0<sz)
  (hR: ∀n cs y,DataW.trod enc P W base spare held n e cs=some y-> ∃x,R cs x) (hs: ∀c x,R c x->c.length=sz)
  (hf:DataW.trod enc P W base spare held fuel t cs0=some y0): ∃v,cs0=[v]/\ ∃xs:List α,aP (fun _=>True) W sz R v xs:=by
 rcases DataW.trod_slice ht hf with⟨hcs,_⟩ | ⟨a,len0,cap0,elems,rest,n,_,hcs,_,hb,hl,hm,hlen,hel,_,_⟩
 ·exact⟨_,hcs,[],aP.nil⟩
 ·refine⟨_,hcs, ?_⟩;rw[hc]at hel;have each: ∀i,i<len0-> ∃cs x,R cs x/\cs.length=sz/\ ∀j,j<sz->W.cell? (a.add (i*sz+j))=cs[j]? :=by
   intro i hi;have h1:=hel i hi;rw[List.getElem?_eq_getElem (by omega),Option.bind_eq_some_iff]at h1;obtain⟨cs,hcs,hy⟩:=h1;obtain⟨x,hx⟩:=hR n cs _ hy;refine⟨cs,x,hx,hs cs x hx,fun j hj=> ?_⟩;have h3:=World.cells?_some hcs;rw[<-DP];exact h3.2.2 j hj
  have main: ∀m,m<=len0-> ∃(cells:List Value) (xs:List α),xs.length=m/\cells.length=m*sz/\bN R cells xs/\ ∀(j:Nat) u,cells[j]? =some u->W.cell? (a.add j)=some u:=by
   intro m
   induction m with
   | zero=>intro _; exact⟨[],[],rfl,by simp,rfl,fun j u hj=>by simp at hj⟩
   | succ m ih=>
    intro hm;obtain⟨cells,xs,h1,h2,h3,h4⟩:=ih (by omega);obtain⟨cs,x,hx,hcl,hcc⟩:=each m (by omega);refine⟨cells++cs,xs++[x],by simp[h1],by rw[List.length_append,h2,hcl,Nat.add_mul]; omega,bN.snoc h3 hx,fun j u hj=> ?_⟩
    rcases Nat.lt_or_ge j cells.length with hj2 | hj2
    ·rw[List.getElem?_append_left hj2]at hj; exact h4 j u hj
    ·rw[List.getElem?_append_right hj2]at hj;have hlt:=(List.getElem?_eq_some_iff.1 hj).1;have:=hcc (j-cells.length) (by omega);rw[h2,show m*sz+(j-m*sz)=j by omega]at this;rw[this,<-h2]; exact hj
  obtain⟨cells,xs,h1,h2,h3,h4⟩:=main len0 (Nat.le_refl _);subst h1;refine⟨xs,cells,⟨h2,some a,cap0,rfl,hl,hm, ?_⟩,h3⟩
  rcases Nat.eq_zero_or_pos xs.length with h0 | h0
  ·exact .inl h0
  ·right
   have hpl:0<cells.length:=by rw[h2]; exact Nat.mul_pos h0 hpos
   have hc0:=h4 0 cells[0] (by simp[hpl]);have hsp:a.spot=none:=by simpa [Addr.add]using World.cell?_spot hc0
   obtain⟨b,o,sp⟩:=a;simp only at hsp;subst hsp;refine⟨b,o,rfl,trivial,fun j u hj=> ?_⟩;have:=h4 j u hj;rw[nH]at this; exact this
end
section
variable {H : Type} {enc : TypeId × Value → H} {W : World} {base b0 : Nat} {spare : Nat → Bool} {held : Bool} {v : Value} {d : DataW H} {ps : List MemPlace}
theorem kU {P:Program} {t:TypeId} {fs:Array Field} {fuel:Nat} {cs:List Value} {x:DataW H×List MemPlace} (ht:P.underlying t=some (.struct fs)) (h:DataW.trod enc P W base spare held fuel t cs=some x) (i:Nat) {f:Field} (hf:fs[i]? =some f):
  ∃n y,DataW.trod enc P W base spare held n f.type ((cs.drop f.offset).take (P.cellsOf f.type))=some y:=by
 obtain⟨xs,n,_,_,_,hlen,hF⟩:=DataW.trod_struct ht h;have hi:i<xs.length:=by rw[hlen]; exact(Array.getElem?_eq_some_iff.1 hf).1
 exact⟨n,xs[i],by rw[hF i f hf]; simp[hi]⟩
theorem xx {P:Program} {t:TypeId} {fs:Array Field} {fuel:Nat} {cs:List Value} {x:DataW H×List MemPlace} (ht:P.underlying t=some (.struct fs)) (h:DataW.trod enc P W base spare held fuel t cs=some x):cs.length=P.cellsOf t:=by
 obtain⟨xs,n,_,_,hl,_,_⟩:=DataW.trod_struct ht h;exact hl
theorem Bz :Tryz.prog.cellsOf 9=1:=by kernel_rfl
theorem Bx :Tryz.prog.cellsOf 3=1:=by kernel_rfl
theorem DT :Tryz.prog.cellsOf 5=1:=by kernel_rfl
theorem FV {α:Type} {cs:List α} (h:cs.length=3): ∃c0 c1 c2,cs=[c0,c1,c2]:=by
 match cs,h with
 | [c0,c1,c2],_=>exact⟨c0,c1,c2,rfl⟩
theorem CK {n:Nat} {cs:List Value} {y:DataW H×List MemPlace} (h:DataW.trod enc Tryz.prog W base spare held n 26 cs=some y): ∃r,gH cs r:=by
 have hl:=xx Tryz.underlying26 h;rw[og]at hl;obtain⟨c0,c1,c2,rfl⟩:=FV hl;obtain⟨n0,y0,h0⟩:=kU Tryz.underlying26 h 0 rfl;obtain⟨n1,y1,h1⟩:=kU Tryz.underlying26 h 1 rfl;obtain⟨n2,y2,h2⟩:=kU Tryz.underlying26 h 2 rfl;simp only[List.getElem_toArray,List.getElem_cons_zero,List.getElem_cons_succ,Bz,Bx]at h0 h1 h2;obtain⟨s,e0,_,hs⟩:=DataW.trod_string Tryz.underlying9 h0
 obtain⟨g,e1,_,hg⟩:=DataW.trod_int Tryz.underlying3 h1;obtain⟨z,e2,_,hz⟩:=DataW.trod_int Tryz.underlying3 h2;simp at e0 e1 e2;subst e0 e1 e2;exact⟨⟨s,g,z⟩,rfl,⟨hs,hg,hz⟩⟩
def tK (c:List Value) (b:UInt8):Prop:=c=[au b]
theorem Ab {n:Nat} {cs:List Value} {y:DataW H×List MemPlace} (h:DataW.trod enc Tryz.prog W base spare held n 5 cs=some y): ∃b,tK cs b:=by
 obtain⟨a,e,_,hw⟩:=DataW.trod_int Tryz.underlying5 h;have h1:0<=a/\a<=255:=by
  simp only[Lit.wf,Bool.and_eq_true,decide_eq_true_eq]at hw;exact⟨hw.1,hw.2⟩
 refine⟨UInt8.ofNat a.toNat, ?_⟩;unfold tK;rw[iI (by omega),e,Int.toNat_of_nonneg h1.1]
theorem sH {S:Nat->Prop} {w:World} {v:Value} {bs:List UInt8} (h:aP S w 1 tK v bs):ay S w v bs:=by
 obtain⟨cells,h1,h2⟩:=h;have: ∀(bs:List UInt8) (cells:List Value),bN tK cells bs->cells=bs.map au:=by
  intro bs
  induction bs with
  | nil=>intro cells h; exact h
  | cons x bs ih=>
   rintro cells ⟨c,rest,rfl,hc,hr⟩;rw[ih rest hr,show c=[au x]from hc]; rfl
 rw[this bs cells h2]at h1;exact h1
theorem xn {n:Nat} {cs:List Value} {y:DataW H×List MemPlace} (h:DataW.trod enc Tryz.prog W base spare held n 29 cs=some y): ∃v,cs=[v]/\ ∃bs,ay (fun _=>True) W v bs:=by
 obtain⟨v,h1,bs,h2⟩:=CU (R:=tK) Tryz.underlying29 DT (by omega) (fun n cs y hy=>Ab hy) (fun c x hc=>by rw[show c=[au x]from hc]; rfl) h;exact⟨v,h1,bs,sH h2⟩
theorem yg {n:Nat} {sp:Nat->Bool} : ∀ {es:List MapEntry},(∀x∈es,∃y,WideElems.rd Tryz.prog 9 (WideElems.elemAt enc Tryz.prog W base sp held n 29) x=some y)-> ∃cs,bq (fun _=>True) W (es.map fun e=>(e.key,e.val)) cs
 | [],_=>⟨[],trivial⟩
 | x::es,h=>by
  obtain⟨cs,hcs⟩:=yg (es:=es) (fun y hy=>h y (by simp[hy]));obtain⟨y,hy⟩:=h x (by simp);have hk:=WideElems.rd_key hy;obtain⟨z,hz,_⟩:=WideElems.rd_val hy;have hkey: ∃s,x.key= .string s:=by
   cases hx:x.key<;> rw[hx]at hk<;> simp[keyOf,Tryz.underlying9,mapKey]at hk
   exact⟨_,rfl⟩
  obtain⟨s,hs⟩:=hkey;unfold WideElems.elemAt at hz
  split at hz
  ·obtain⟨v,h1,bs,h2⟩:=xn hz;have hv:x.val=v:=by
    rename_i hfm
    cases hxv:x.val<;> rw[hxv]at h1 hfm<;> simp_all [Value.cells,Value.formed,Tryz.underlying29]
   exact⟨(s,bs)::cs,hs,by rw[hv]; exact h2,hcs⟩
  ·cases hz
theorem zR (hval:Value.okWide Tryz.prog W .any b0 55 v) (h:DataW.Trod enc Tryz.prog W base spare held 55 v d ps): ∃cs,gm (fun _=>True) W v cs:=by
 obtain⟨a,rfl⟩:=okWide_map Tryz.underlying55 hval;obtain⟨fuel,hf⟩:=h
 rcases WideElems.open_map Tryz.underlying55 hf with⟨hcs,_⟩ | ⟨b,es,clock,n,_,hcs,hb,_,hF,_⟩
 ·simp[Value.cells]at hcs;subst hcs;exact⟨[], .inl ⟨rfl,rfl⟩⟩
 ·simp[Value.cells]at hcs;subst hcs;obtain⟨cs,hents⟩:=yg hF.reads;exact⟨cs, .inr ⟨b,es,clock,rfl,trivial,hb,hF.size,hF.stamped,fun x hx=>by
   obtain⟨y,hy⟩:=hF.reads x hx;exact⟨y.1,WideElems.rd_key hy⟩,hents⟩⟩
theorem Fl {v:Value} {l:List Value} (h:v.cells.toList=l) (hl:1<l.length):v= .agg l.toArray:=by
 cases v
 case agg cs=>simp only[Value.cells]at h; rw[<-h]
 all_goals (exfalso; simp only[Value.cells]at h; rw[<-h]at hl; simp at hl)
theorem Cz (h:DataW.Trod enc Tryz.prog W base spare held 26 v d ps): ∃r,v=bt r/\bg r:=by
 obtain⟨fuel,hf⟩:=h;obtain⟨r,h1,h2⟩:=CK hf;exact⟨r,Fl h1 (by simp),h2⟩
end
end Go.Proofs.YtpffpjbkbaleiaaGreatDoor
namespace Go.Proofs.YtpffpjbkbaleiaaGreatDoor
open Go.ChangeShapes Go.WideShapes Go.ChangeAt Go.RowKit Go.Lib Go.Shelf
section
variable {H : Type} {enc : TypeId × Value → H}
theorem Gx {C:Checked} {os:Os} {f:FuncId} {fn:Func} {s:OpenSpec} {conds:List PathCond} {apart:Bool} {laid:List (String×DataW Unit)} (modest:Bool) (w0:World) (args:Array Value) (fuel:Nat) (hos:w0.os=os)
  (hsh:(w0.forCall (fun _ _=>0) ⟨#[],args,[]⟩).Shaped C.prog)
  (hok:Input.okWideB C.prog (w0.forCall (fun _ _=>0) ⟨#[],args,[]⟩) f ⟨#[],args,[]⟩=true)
  (hs:(DataW.whole enc C.prog (w0.forCall (fun _ _=>0) ⟨#[],args,[]⟩).memory fn.params.toList s.vars apart args.toList fuel).isSome=true)
  (hconds:conds.all (PathCond.test C.prog ⟨fn.params.toList,(Option.get _ hs).1,s.bare.plain.varTypes C.prog,(Option.get _ hs).2.1⟩)=true) (hkk: ∀k,s.cond=some k->k H ((Option.get _ hs).1++(Option.get _ hs).2.1)=true)
  (hsz:s.bare.sizedB enc C.prog fn apart (w0.forCall (fun _ _=>0) ⟨#[],args,[]⟩).memory args fuel=true) (hl:laidMetH C.prog laid (w0.forCall (fun _ _=>0) ⟨#[],args,[]⟩).memory):
  ∃(w:World) (tape:Tape) (i:Input),w.os=os/\(w.forCall tape i).Shaped C.prog/\i.vars=[]/\Input.okWide C.prog (w.forCall tape i) .any w.heap.size f i/\
   s.preRow enc C.prog fn conds apart laid (w.forCall tape i).memory i.args/\({modest:=modest} :Assume).holds C.prog (lone (Frame.enter C.prog f i.args .normal) [] (w.forCall tape i)):=
 ⟨w0,fun _ _=>0,⟨#[],args,[]⟩,hos,hsh,(Input.okWide_of_okWideB (base:=0) hok).1,(Input.okWide_of_okWideB hok).2,OpenSpec.preRow_of_cond fuel (Option.some_get hs).symm hconds hkk hsz hl,by
  simp only[Assume.holds];exact⟨by simp,by simp,fun _=>Modest.zero,by simp,by simp⟩⟩
end
theorem ze {H:Type} {d:DataW H} {l:List (DataW H)} (h:d∈l):Rows.uptoBulk d<=Rows.uptoBulkAll l:=by
 induction l with
 | nil=>cases h
 | cons x r ih=>
  simp only[Rows.uptoBulkAll]
  cases List.mem_cons.1 h with
  | inl e=>subst e; omega
  | inr e=>have:=ih e; omega
theorem wn {H:Type} {l:List (DataW H)} (hk:Rows.uptoSmall H l=true):Rows.uptoBulkAll l<=1048576:=of_decide_eq_true hk
theorem Bw {H:Type} {s:ByteArray} {l:List (DataW H)} (hk:Rows.uptoSmall H l=true) (h:DataW.lit (.string s.data.toList)∈l):s.size<=1048576:=by
 have h1:=ze h;have h2:=wn hk;have h3:Rows.uptoBulk (DataW.lit (H:=H) (.string s.data.toList))=s.data.toList.length+1:=by simp[Rows.uptoBulk]
 have h4:s.data.toList.length=s.size:=rfl;omega
end Go.Proofs.YtpffpjbkbaleiaaGreatDoor
