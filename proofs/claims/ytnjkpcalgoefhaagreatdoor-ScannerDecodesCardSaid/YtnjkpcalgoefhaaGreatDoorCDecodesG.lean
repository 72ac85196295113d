/- Texts of this proof, one after the other: ScnX, IdxQ, RefI, RefJ, RfA, RefA, RefB, RfD, RfE, RfF, RcT, RfG, RefK, RefO, RefEnc, ScnY. -/
import Derived.Test.YtnjkpcalgoefhaaGreatDoorCDecodesF
set_option maxRecDepth 100000
set_option maxHeartbeats 8000000
namespace Go.Proofs.YtnjkpcalgoefhaaGreatDoor
open Go Go.RowKit Go.Maps
theorem EL (r r':bd) (w:World):(Op.equalIn 10000 82 (nf r) (nf r')).run Tryz.prog w= .ok (decide (r=r')) w:=by
 have u1:=Tryz.underlying9;have u2:=Tryz.underlying3;have hS:Tryz.prog.underlying 82=some (.struct (Tryz.prog.fieldsOf 82)):=by kernel_rfl
 rw[show(10000:Nat)=9999+1 from rfl];unfold nf;rw[run_equalIn_struct w 9999 82 _ _ hS (by kernel_rfl)];simp only[Program.fieldsOf,Tryz.underlying82]
 go_simp
 obtain⟨n,s⟩:=r;obtain⟨n',s'⟩:=r';have hn:n.toList=n'.toList<->n=n':=⟨fun h=>jr (by rw[<-bA,<-bA,h]),fun h=>by rw[h]⟩;simp only[bd.mk.injEq,hn]
 by_cases h1:n=n'<;> by_cases h3:s=s'<;> simp[h1,h3]
theorem uI (S T:Nat->Prop) (v u:Value) (rs ss:List bd) (w:World) (hv:aM S w v rs) (hu:aM T w u ss):
  Calls Tryz.prog 24 #[v,u] w fun e w'=>e= .returned (.bool (decide (rs=ss)))/\Below w.heap.size w w':=by
 obtain⟨a,cap,rfl,hc,hm,-⟩:=aY.shape hv el.len;obtain⟨a2,cap2,rfl,hc2,hm2,-⟩:=aY.shape hu el.len;unfold maxLen at hm hm2;have HV:=aa hv;have HU:=aa hu;clear hv hu
 by_cases hl:rs.length=ss.length
 ·have HL:=aa hl;have hl2:ss.length=rs.length:=hl.symm;rw[hl2]at HU hc2 ⊢;clear hl hl2
  go_enter Tryz.func24,Tryz.ntmps24
  go_wp2_with fail
  go_loopw [5] (fun i wr=> ∃k:Nat,k<=rs.length/\i= .int .i64 k/\rs.take k=ss.take k/\Below w.heap.size w wr) (fun i _=>rs.length-(intOf i).toNat)
  case atStart=>exact⟨0,Nat.zero_le _,rfl,by simp,Below.refl _ _⟩
  case round=>
   obtain⟨k,hk,rfl,hn,hb⟩:=hrel;have HN:=aa hn;have HB:=aa hb;clear hn hb
   by_cases hlt:k<rs.length
   ·obtain⟨r,hr⟩: ∃r,rs[k]? =some r:=⟨rs[k],by simp[hlt]⟩;obtain⟨x,hx⟩: ∃x,ss[k]? =some x:=⟨ss[k]'(by have:=HL.out; omega),by simp⟩;have HR:=aa hr;have HX:=aa hx;have heq:=EL r x;obtain⟨W,hW⟩: ∃W:World,W=wr.drew:=⟨_,rfl⟩;have HBW:=aa (show Below w.heap.size w W by rw[hW]; exact HB.out.drew);obtain⟨b,o,rfl,-,-,-,q0,q1⟩:=dO HV.out HBW.out hr
    obtain⟨b2,o2,rfl,-,-,-,p0,p1⟩:=dO (by have:=HU.out; rw[HL.out]at this; exact this) HBW.out hx;unfold nf at heq;clear hr hx
    by_cases hm:r=x
    ·have e1:decide (r=x)=true:=by simp[hm]
     rw[e1]at heq;have HT:=aa (show rs.take (k+1)=ss.take (k+1) by rw[bc HR.out,bc HX.out,HN.out,hm]);clear e1 hm;go_wp2_with fail;refine aw [some 9] (by kernel_rfl) (by kernel_rfl) (by kernel_rfl) ?_;simp only[bq,List.take_succ_cons,List.take_zero];rw[<-hW];clear hW
     repeat (first | (refine az rfl ?_; simp only[Act.put,aD,aE,aF]) | (refine aI rfl (fun K hK=> ?_); go_simp; refine hK _ ?_; clear hK K))
     refine aH ?_;go_wp2_with fail
     go_roundw
     case rel=>exact⟨k+1,by omega,rfl,HT.out,HBW.out⟩
     case measure=>simp only[intOf,Int.toNat_natCast]; omega
    ·have e1:decide (r=x)=false:=by simp[hm]
     rw[e1]at heq;have HT:=aa (show decide (rs=ss)=false by
      rw[decide_eq_false_iff_not];intro e;have h1:=HR.out;rw[e,HX.out]at h1;exact hm (Option.some.inj h1).symm)
     clear e1 hm;go_wp2_with fail;refine aw [some 9] (by kernel_rfl) (by kernel_rfl) (by kernel_rfl) ?_;simp only[bq,List.take_succ_cons,List.take_zero];rw[<-hW];clear hW
     repeat (first | (refine az rfl ?_; simp only[Act.put,aD,aE,aF]) | (refine aI rfl (fun K hK=> ?_); go_simp; refine hK _ ?_; clear hK K))
     refine aH ?_;go_wp2_with fail;go_ret;exact⟨au HT.out.symm,HBW.out⟩
   ·obtain rfl:k=rs.length:=by omega
    have HT:=aa (show decide (rs=ss)=true by
     have:=HN.out;rw[List.take_of_length_le (Nat.le_refl _),List.take_of_length_le (by rw[HL.out]; exact Nat.le_refl _)]at this;simp[this])
    go_wp2_with fail;go_ret;exact⟨au HT.out.symm,HB.out⟩
 ·have HT:=aa (show decide (rs=ss)=false by rw[decide_eq_false_iff_not]; intro e; exact hl (by rw[e]));have e1:((rs.length:Int) != (ss.length:Int))=true:=by simp; omega
  clear hl
  go_enter Tryz.func24,Tryz.ntmps24
  go_wp2_with fail;go_ret;exact⟨au HT.out.symm,Below.refl _ _⟩
def gK (w:World) (v:Value) (L:List (List UInt8)):Prop:= ∃ys:List Value,aO (fun _=>True) w 1 v L.length ys/\ ∀(k:Nat) y pl,ys[k]? =some y->L[k]? =some pl->aX (fun _=>True) w y pl
theorem gK.below {w w':World} {v:Value} {L:List (List UInt8)} (h:gK w v L) (hb:Below w.heap.size w w'):gK w' v L:=by
 obtain⟨ys,h1,h2⟩:=h;exact⟨ys,aO.below h1 (by omega) hb,fun k y pl hy hp=>aO.below (h2 k y pl hy hp) (by omega) hb⟩
theorem wv {B:Nat} {v:Value} {L:List (List UInt8)} {w:World} (h:cK B v L w):gK w v L:=by
 obtain⟨ys,h1,h2,h3⟩:=h;have hl:ys.length=L.length:=by rw[<-h1,List.length_map]
 refine⟨ys.map Prod.fst, ?_,fun k y pl hy hp=> ?_⟩
 ·rw[<-hl];exact(bi h2).weak (fun _ _=>trivial)
 ·rw[List.getElem?_map,Option.map_eq_some_iff]at hy;obtain⟨z,hz,rfl⟩:=hy;rw[<-h1,List.getElem?_map,hz]at hp
  cases hp
  exact(bi (h3 z (List.mem_of_getElem? hz))).weak (fun _ _=>trivial)
theorem Ay {w:World} {a:Option Addr} {n cap:Nat} {L:List (List UInt8)} (h:gK w (.slice a n cap) L) {k:Nat} {pl:List UInt8} (hk:L[k]? =some pl):
  ∃b o ya yc,a=some ⟨b,o,none⟩/\w.cell? ⟨b,o+k,none⟩=some (.slice ya pl.length yc)/\aX (fun _=>True) w (.slice ya pl.length yc) pl:=by
 obtain⟨ys,⟨hl,a',cap',hv,_,_,h0⟩,h2⟩:=h
 cases hv
 have hlt:=(List.getElem?_eq_some_iff.1 hk).1
 rcases h0 with h0 | ⟨b,o,rfl,_,hc⟩
 ·omega
 ·obtain⟨y,hy⟩: ∃y,ys[k]? =some y:=⟨_,List.getElem?_eq_getElem (show k<ys.length by omega)⟩;have h3:=h2 k y pl hy hk;obtain⟨_,ya,yc,rfl,_,_,_⟩:=id h3;exact⟨b,o,ya,yc,rfl,hc k _ hy,h3⟩
theorem wH (v u:Value) (L M:List (List UInt8)) (w:World) (hv:gK w v L) (hu:gK w u M):
  Calls Tryz.prog 32 #[v,u] w fun e w'=>e= .returned (.bool (decide (L=M)))/\Below w.heap.size w w':=by
 obtain⟨_,⟨_,a,cap,rfl,hc,hm,_⟩,_⟩:=id hv;obtain⟨_,⟨_,a2,cap2,rfl,hc2,hm2,_⟩,_⟩:=id hu;unfold maxLen at hm hm2;have HV:=aa hv;have HU:=aa hu;clear hv hu
 by_cases hl:L.length=M.length
 ·have HL:=aa hl;have hl2:M.length=L.length:=hl.symm;rw[hl2]at HU hc2 ⊢;clear hl hl2
  go_enter Tryz.func32,Tryz.ntmps32
  go_wp2_with fail
  go_loopw [5] (fun i wr=> ∃k:Nat,k<=L.length/\i= .int .i64 k/\L.take k=M.take k/\Below w.heap.size w wr) (fun i _=>L.length-(intOf i).toNat)
  case atStart=>exact⟨0,Nat.zero_le _,rfl,by simp,Below.refl _ _⟩
  case round=>
   obtain⟨k,hk,rfl,hn,hb⟩:=hrel;have HN:=aa hn;have HB:=aa hb;clear hn hb
   by_cases hlt:k<L.length
   ·obtain⟨r,hr⟩: ∃r,L[k]? =some r:=⟨L[k],by simp[hlt]⟩;obtain⟨x,hx⟩: ∃x,M[k]? =some x:=⟨M[k]'(by have:=HL.out; omega),by simp⟩;have HR:=aa hr;have HX:=aa hx;obtain⟨W,hW⟩: ∃W:World,W=wr.drew:=⟨_,rfl⟩;have HBW:=aa (show Below w.heap.size w W by rw[hW]; exact HB.out.drew);obtain⟨b,o,ya,yc,rfl,q0,hy⟩:=Ay (HV.out.below HBW.out) hr;obtain⟨b2,o2,za,zc,rfl,p0,hy2⟩:=Ay (by have:=HU.out.below HBW.out; rw[HL.out]at this; exact this) hx
    have hc1:=cr (bs:=r) hy;have hc2:=cr (bs:=x) hy2;clear hr hx hy hy2
    by_cases hm:r=x
    ·have HT:=aa (show L.take (k+1)=M.take (k+1) by rw[bc HR.out,bc HX.out,HN.out,hm]);subst hm;go_wp2_with fail;refine aw [some 11] (by kernel_rfl) (by kernel_rfl) (by kernel_rfl) ?_;simp only[bq,List.take_succ_cons,List.take_zero];rw[<-hW];clear hW
     repeat (first | (refine az rfl ?_; simp only[Act.put,aD,aE,aF]) | (refine aI rfl (fun K hK=> ?_); go_simp; refine hK _ ?_; clear hK K))
     refine aH ?_;go_wp2_with fail
     all_goals exact⟨⟨k+1,by omega,rfl,HT.out,HBW.out⟩,by simp only[intOf,Int.toNat_natCast]; omega⟩
    ·have HT:=aa (show decide (L=M)=false by
      rw[decide_eq_false_iff_not];intro e;have h1:=HR.out;rw[e,HX.out]at h1;exact hm (Option.some.inj h1).symm)
     have hm4:(r == x)=false:=by simpa using hm
     have hm3: ¬(⟨r.toArray⟩:ByteArray).toList=(⟨x.toArray⟩:ByteArray).toList:=fun h=>hm (by rw[bA,bA,io,io]at h; exact h)
     go_wp2_with fail;refine aw [some 11] (by kernel_rfl) (by kernel_rfl) (by kernel_rfl) ?_;simp only[bq,List.take_succ_cons,List.take_zero];rw[<-hW];clear hW
     repeat (first | (refine az rfl ?_; simp only[Act.put,aD,aE,aF]) | (refine aI rfl (fun K hK=> ?_); go_simp; refine hK _ ?_; clear hK K))
     refine aH ?_;go_wp2_with fail;go_ret;exact⟨au HT.out.symm,HBW.out⟩
   ·obtain rfl:k=L.length:=by omega
    have HT:=aa (show decide (L=M)=true by
     have:=HN.out;rw[List.take_of_length_le (Nat.le_refl _),List.take_of_length_le (by rw[HL.out]; exact Nat.le_refl _)]at this;simp[this])
    go_wp2_with fail;go_ret;exact⟨au HT.out.symm,HB.out⟩
 ·have HT:=aa (show decide (L=M)=false by rw[decide_eq_false_iff_not]; intro e; exact hl (by rw[e]));have e1:((L.length:Int) != (M.length:Int))=true:=by simp; omega
  clear hl
  go_enter Tryz.func32,Tryz.ntmps32
  go_wp2_with fail;go_ret;exact⟨au HT.out.symm,Below.refl _ _⟩
end Go.Proofs.YtnjkpcalgoefhaaGreatDoor
namespace Go.Proofs.YtnjkpcalgoefhaaGreatDoor
open Go.RowKit
theorem pS {f:al} (h: ∀p∈f.parts,cP p=true):33*f.parts.length<=(ew f).length:=by
 have h1:=lB h;unfold ew;simp only[List.length_append];omega
theorem jz : ∀ {l:List al},(∀f∈l,∀p∈f.parts,cP p=true)->33*(l.flatMap al.parts).length<=(l.flatMap ew).length
 | [],_=>by simp
 | f::l,h=>by
  rw[List.flatMap_cons,List.flatMap_cons,List.length_append,List.length_append];have h1:=pS (h f (by simp));have h2:=jz (l:=l) (fun q hq=>h q (by simp[hq]));omega
theorem uX {f:al} (h:cj f=true): ∀p∈f.parts,cP p=true:=by
 unfold cj at h
 split at h
 ·simp only[Bool.and_eq_true]at h;exact List.all_eq_true.1 h.1
 ·simp only[Bool.and_eq_true,decide_eq_true_eq]at h;rw[h.2]; simp
structure DX (x : dh) : Prop where
 tm:0<=x.tm
 num:x.files.length<=4096
 tot:(x.files.flatMap al.parts).length<=8000
 each: ∀f∈x.files,f.parts.length<=8000
theorem yw {x:dh} (h:di x=true) (hl:(fS x).length<=32768):DX x:=by
 obtain⟨h0,h1,h2⟩:=mj h;have h3:=jz (l:=x.files) fun f hf=>uX (h2 f hf).2
 unfold fS at hl;simp only[List.length_append]at hl;refine⟨h0,h1,by omega,fun f hf=> ?_⟩;have h4:f.parts.length<=(x.files.flatMap al.parts).length:=by
  obtain⟨s,t,e⟩:=List.append_of_mem hf;rw[e,List.flatMap_append,List.flatMap_cons,List.length_append,List.length_append];omega
 omega
open Go Go.RowKit Go.Maps
theorem Tryz.appParts22 :cJ Tryz.prog 40 85 2 24:=cJ.mk' (z:= .agg #[.string ⟨#[]⟩, .int .i64 0]) Tryz.underlying40 (by kernel_rfl) rfl (by decide) (by decide)
theorem Fe {w:World} {b:Nat} {a0 a1 a2 a3 a4 a5 a6 x0 x1 x2 x3 x4 x5 x6:Value} {t:TypeId} (h:w.heap[b]? =some (.cells #[a0,a1,a2,a3,a4,a5,a6] t (0,0))):(((((((w.setCell ⟨b,0,none⟩ x0).setCell ⟨b,1,none⟩ x1).setCell ⟨b,2,none⟩ x2).setCell ⟨b,3,none⟩ x3).setCell ⟨b,4,none⟩ x4).setCell ⟨b,5,none⟩ x5).setCell ⟨b,6,none⟩ x6).heap[b]? =some (.cells #[x0,x1,x2,x3,x4,x5,x6] t (0,0)):=by
 have h7:=(heap_setCell_same _ b 6 _ _ x6 (heap_setCell_same _ b 5 _ _ x5 (heap_setCell_same _ b 4 _ _ x4 (heap_setCell_same _ b 3 _ _ x3 (heap_setCell_same _ b 2 _ _ x2 (heap_setCell_same _ b 1 _ _ x1 (heap_setCell_same _ b 0 _ _ x0 h)))))))
 simpa using h7
theorem yv {b k:Nat} {w:World} {x0 x1 x2 x3 x4 x5 x6:Value} (hk:k≠b):(((((((w.setCell ⟨b,0,none⟩ x0).setCell ⟨b,1,none⟩ x1).setCell ⟨b,2,none⟩ x2).setCell ⟨b,3,none⟩ x3).setCell ⟨b,4,none⟩ x4).setCell ⟨b,5,none⟩ x5).setCell ⟨b,6,none⟩ x6).heap[k]? =w.heap[k]? :=
 (Below.heap_setCell _ _ _ _ hk).trans ((Below.heap_setCell _ _ _ _ hk).trans ((Below.heap_setCell _ _ _ _ hk).trans ((Below.heap_setCell _ _ _ _ hk).trans ((Below.heap_setCell _ _ _ _ hk).trans ((Below.heap_setCell _ _ _ _ hk).trans (Below.heap_setCell _ _ _ _ hk))))))
theorem vB {B b:Nat} {a w:World} {x0 x1 x2 x3 x4 x5 x6:Value} (h:Below B a w) (hb:B<=b):Below B a (((((((w.setCell ⟨b,0,none⟩ x0).setCell ⟨b,1,none⟩ x1).setCell ⟨b,2,none⟩ x2).setCell ⟨b,3,none⟩ x3).setCell ⟨b,4,none⟩ x4).setCell ⟨b,5,none⟩ x5).setCell ⟨b,6,none⟩ x6):=
 (Below.setCell (Below.setCell (Below.setCell (Below.setCell (Below.setCell (Below.setCell (Below.setCell h hb _) hb _) hb _) hb _) hb _) hb _) hb _)
theorem uo (l:List bd) (p:bd):aV (l++[p])=aV l++lI p:=by simp[aV]
structure Fa (w W2 wr : World) (b : Nat) (f : al) (v : Value) (k : Nat) : Prop where
 below:Below b W2 wr
 box:wr.heap[b]? =some (.cells (bQ v f).toArray 42 (0,0))
 own:wr.ownsRow w.heap.size 85 2 v k (aV (f.parts.take k))
theorem vN (S:Nat->Prop) (f:al) (pv:Value) (w:World) (hp:aM S w pv f.parts) (hn2:f.parts.length<=1048576):Calls Tryz.prog 17 #[dV pv f] w fun e w'=> ∃pv2,e= .returned (dV pv2 f)/\w'.ownsRow w.heap.size 85 2 pv2 f.parts.length (aV f.parts)/\Below w.heap.size w w':=by
 obtain⟨a,cap,rfl,hc,hm,-⟩:=aY.shape hp el.len;have HP:=aa hp;clear hp;obtain⟨n,hn⟩: ∃n,n=f.parts.length:=⟨_,rfl⟩;rw[<-hn]at HP hn2 ⊢;have HN:=aa hn;clear hn hc hm;unfold dV
 go_enter Tryz.func17,Tryz.ntmps17
 go_upto_region 2 with fail
 obtain⟨W2,hW2⟩: ∃W2,W2=((w.alloc (.cells #[.string f.path, .int .i64 f.kind, .int .i64 f.mode, .int .i64 f.time, .int .i64 f.size, .string f.link, .slice a n cap] 27)).alloc (.cells #[.string ⟨#[]⟩, .int .i64 0, .int .i64 0, .int .i64 0, .int .i64 0, .string ⟨#[]⟩, .slice none 0 0] 42)).alloc (.cells #[.string f.path, .int .i64 f.kind, .int .i64 f.mode, .int .i64 f.time, .int .i64 f.size, .string f.link, .slice none 0 0] 42):=⟨_,rfl⟩
 rw[<-hW2];have hzw:W2.heap.size=w.heap.size+3:=by rw[hW2]; simp
 have HBW:=aa (show Below w.heap.size w W2 by rw[hW2]; exact(((Below.refl _ _).alloc (Nat.le_refl _) _).alloc (by simp) _).alloc (by simp; omega) _);have HX:=aa (show W2.heap[w.heap.size]? =some (.cells #[.string f.path, .int .i64 f.kind, .int .i64 f.mode, .int .i64 f.time, .int .i64 f.size, .string f.link, .slice a n cap] 27 (0,0)) by
  rw[hW2,heap_alloc_old _ _ (by simp; omega),heap_alloc_old _ _ (by simp)]; exact heap_alloc_new w _)
 have HR:=aa (show W2.heap[w.heap.size+1]? =some (.cells #[.string ⟨#[]⟩, .int .i64 0, .int .i64 0, .int .i64 0, .int .i64 0, .string ⟨#[]⟩, .slice none 0 0] 42 (0,0)) by
  rw[hW2,heap_alloc_old _ _ (by simp)];have h:=heap_alloc_new (w.alloc (.cells #[.string f.path, .int .i64 f.kind, .int .i64 f.mode, .int .i64 f.time, .int .i64 f.size, .string f.link, .slice a n cap] 27)) (.cells #[.string ⟨#[]⟩, .int .i64 0, .int .i64 0, .int .i64 0, .int .i64 0, .string ⟨#[]⟩, .slice none 0 0] 42);rw[show(w.alloc (.cells #[.string f.path, .int .i64 f.kind, .int .i64 f.mode, .int .i64 f.time, .int .i64 f.size, .string f.link, .slice a n cap] 27)).heap.size=w.heap.size+1 by simp]at h; exact h)
 have HY:=aa (show W2.heap[w.heap.size+1+1]? =some (.cells (bQ (.slice none 0 0) f).toArray 42 (0,0)) by
  rw[hW2];have h:=heap_alloc_new ((w.alloc (.cells #[.string f.path, .int .i64 f.kind, .int .i64 f.mode, .int .i64 f.time, .int .i64 f.size, .string f.link, .slice a n cap] 27)).alloc (.cells #[.string ⟨#[]⟩, .int .i64 0, .int .i64 0, .int .i64 0, .int .i64 0, .string ⟨#[]⟩, .slice none 0 0] 42)) (.cells #[.string f.path, .int .i64 f.kind, .int .i64 f.mode, .int .i64 f.time, .int .i64 f.size, .string f.link, .slice none 0 0] 42)
  rw[show((w.alloc (.cells #[.string f.path, .int .i64 f.kind, .int .i64 f.mode, .int .i64 f.time, .int .i64 f.size, .string f.link, .slice a n cap] 27)).alloc (.cells #[.string ⟨#[]⟩, .int .i64 0, .int .i64 0, .int .i64 0, .int .i64 0, .string ⟨#[]⟩, .slice none 0 0] 42)).heap.size=w.heap.size+1+1 by simp]at h; exact h)
 have HP2:=aa (HP.out.below HBW.out);have hzl:=hzw;clear hW2 hzw;go_wp2_with fail
 go_loopw [4] (fun i wr=> ∃(k:Nat) (v:Value),k<=n/\i= .int .i64 k/\Fa w W2 wr (w.heap.size+1+1) f v k) (fun i _=>n-(intOf i).toNat)
 case atStart=>exact⟨0, .slice none 0 0,Nat.zero_le _,rfl,⟨Below.refl _ _,HY.out,World.ownsRow_nil _ _ _ _⟩⟩
 case round=>
  obtain⟨k,v,hk,rfl,hfo⟩:=hrel;have HFO:=aa hfo;have p6:=(hfo.below.cell (p:=⟨w.heap.size,6,none⟩) (by show w.heap.size<w.heap.size+1+1; omega)).trans (ah (k:=6) HX.out);have hzr:=hfo.below.size;simp only[List.getElem?_toArray,ci]at p6;clear hfo
  by_cases hlt:k<n
  ·obtain⟨p,hpk⟩: ∃p,f.parts[k]? =some p:=⟨_,List.getElem?_eq_getElem (show k<f.parts.length by rw[<-HN.out]; exact hlt)⟩;obtain⟨va,vc,rfl,-,-⟩:=ak HFO.out.own
   go_upto_region 5 with fail
   obtain⟨W5,hW5⟩: ∃W5:World,W5=wr.drew:=⟨_,rfl⟩;have HB5:=aa (show Below wr.heap.size wr W5 by rw[hW5]; exact(Below.refl _ _).drew);have HBr:=aa (show Below w.heap.size w wr from HBW.out.trans (HFO.out.below.mono (by omega)));obtain⟨pb,po,hpa,-,hpb,hpok,q0,q1⟩:=dO HP.out (HBr.out.trans (HB5.out.mono HBr.out.size)) hpk;subst hpa;have hb2:w.heap.size+1+1<wr.heap.size:=lt_of_block HFO.out.box
   have k6:=(HB5.out.cell (p:=⟨w.heap.size+1+1,6,none⟩) hb2).trans (ah (k:=6) HFO.out.box);have p6':=(HB5.out.cell (p:=⟨w.heap.size,6,none⟩) (by show w.heap.size<wr.heap.size; omega)).trans p6;have e6:(bQ (.slice va k vc) f).toArray[6]? =some (.slice va k vc):=rfl;rw[e6]at k6;have S5:=aa (And.intro k6 (And.intro p6' (And.intro q0 q1)));have HO5:=aa (aT HFO.out.own HB5.out)
   have HY5:=aa ((HB5.out.block _ hb2).trans HFO.out.box);have hz5:=HB5.out.size;have HPK:=aa hpk;clear e6 k6 p6 p6' q0 q1 hpk;refine cA (fun w'=>w'.cell? ⟨w.heap.size+1+1,6,none⟩=some (.slice va k vc)/\w'.cell? ⟨w.heap.size,6,none⟩=some (.slice (some ⟨pb,po,none⟩) n cap)/\w'.cell? ⟨pb,po+k*2,none⟩=some (.string p.sum)/\w'.cell? ⟨pb,po+k*2+1,none⟩=some (.int .i64 p.size)) (by kernel_rfl) (by kernel_rfl) ?_
   simp only[List.dropLast_cons_cons,List.dropLast_singleton,List.length_cons,List.length_nil,Nat.reduceAdd,Nat.reduceSub];rw[<-hW5];clear hW5;refine ab 0 rfl (by kernel_rfl) (by kernel_rfl) (by kernel_rfl) (fun _ _ _ h=>h) rfl S5.out (by rintro w' ⟨hw1,hw2,hw3,hw4⟩; go_simp; rfl) ?_;simp only[Act.put,aD,aE,aF];refine ab 1 rfl (by kernel_rfl) (by kernel_rfl) (by kernel_rfl) (fun _ _ _ h=>h) rfl S5.out (by rintro w' ⟨hw1,hw2,hw3,hw4⟩; go_simp; rfl) ?_
   simp only[Act.put,aD,aE,aF];refine ab 2 rfl (by kernel_rfl) (by kernel_rfl) (by kernel_rfl) (fun _ _ _ h=>h) rfl S5.out (by rintro w' ⟨hw1,hw2,hw3,hw4⟩; go_simp; rfl) ?_;simp only[Act.put,aD,aE,aF];refine ab 3 rfl (by kernel_rfl) (by kernel_rfl) (by kernel_rfl) (fun _ _ _ h=>h) rfl S5.out (by rintro w' ⟨hw1,hw2,hw3,hw4⟩; go_simp; rfl) ?_;simp only[Act.put,aD,aE,aF]
   refine ab 4 rfl (by kernel_rfl) (by kernel_rfl) (by kernel_rfl) (fun _ _ _ h=>h) rfl S5.out (by rintro w' ⟨hw1,hw2,hw3,hw4⟩; go_simp; rfl) ?_;simp only[Act.put,aD,aE,aF];refine ab 5 rfl (by kernel_rfl) (by kernel_rfl) (by kernel_rfl) (fun _ _ _ h=>h) rfl S5.out (by rintro w' ⟨hw1,hw2,hw3,hw4⟩; go_simp; rfl) ?_;simp only[Act.put,aD,aE,aF];refine ab 6 rfl (by kernel_rfl) (by kernel_rfl) (by kernel_rfl) (fun _ _ _ h=>h) rfl S5.out (by rintro w' ⟨hw1,hw2,hw3,hw4⟩; go_simp; rfl) ?_
   simp only[Act.put,aD,aE,aF];refine ax 7 rfl (by kernel_rfl) rfl (fun K hK=> ?_);go_wp2_with fail;have hal:=(Below.refl W5.heap.size W5).alloc (Nat.le_refl _) (.cells #[.string p.sum, .int .i64 p.size] 85);refine⟨⟨(hal.cell (p:=⟨w.heap.size+1+1,6,none⟩) (by show w.heap.size+1+1<W5.heap.size; omega)).trans S5.out.1,(hal.cell (p:=⟨w.heap.size,6,none⟩) (by show w.heap.size<W5.heap.size; omega)).trans S5.out.2.1,(hal.cell (p:=⟨pb,po+k*2,none⟩) (by show pb<W5.heap.size; omega)).trans S5.out.2.2.1,(hal.cell (p:=⟨pb,po+k*2+1,none⟩) (by show pb<W5.heap.size; omega)).trans S5.out.2.2.2⟩, ?_⟩
   refine ax 8 rfl (by kernel_rfl) rfl (fun K hK=> ?_);go_wp2_with (at_builtin; go_must (refine bK Tryz.appParts22 rfl _ _ rfl w.heap.size (.slice va k vc) k (aV (f.parts.take k)) rfl W5 [.string p.sum, .int .i64 p.size] _ rfl rfl (by simp[Value.oneCell']) HO5.out (by omega) (by omega) ?_); intro vp wc hown3 hg3 _ hpl3; obtain⟨ea,ec,rfl,-,-⟩:=ak hown3);have HX5:=aa ((HB5.out.block _ (by omega)).trans ((HFO.out.below.block w.heap.size (by omega)).trans HX.out))
   have HR5:=aa ((HB5.out.block _ (by omega)).trans ((HFO.out.below.block (w.heap.size+1) (by omega)).trans HR.out));have n0:(Value.slice va k vc).ownBlock≠some w.heap.size:=fun e1=>by
    obtain⟨cs2,hc2⟩:=aC HO5.out e1;exact absurd (aK HX5.out hc2) (by decide)
   have n1:(Value.slice va k vc).ownBlock≠some (w.heap.size+1):=fun e1=>by
    obtain⟨cs2,hc2⟩:=aC HO5.out e1;exact absurd (aK HR5.out hc2) (by decide)
   have n2:(Value.slice va k vc).ownBlock≠some (w.heap.size+1+1):=fun e1=>by
    obtain⟨cs2,hc2⟩:=aC HO5.out e1;exact absurd (aK HY5.out hc2) (by decide)
   have n3:(Value.slice va k vc).ownBlock≠some pb:=fun e1=>by
    have:=(HO5.out.lt pb e1).1;omega
   have wcell: ∀i j,i<W5.heap.size->(Value.slice va k vc).ownBlock≠some i->wc.cell? ⟨i,j,none⟩=W5.cell? ⟨i,j,none⟩:=fun i j hi hne=>World.cell?_of_block (hg3.block i hi (fun e1=>hne e1.symm))
   have HYc:=aa ((hg3.block _ (lt_of_block HY5.out) (fun e1=>n2 e1.symm)).trans HY5.out);have hzc:=hg3.size;have HBc:=aa (show Below (w.heap.size+1+1) W2 wc from(HFO.out.below.trans (HB5.out.mono (by omega))).grown hg3 (by omega) (fun i e1=>by
    have h1:=(HO5.out.lt i e1).1;have h2:i≠w.heap.size:=fun e2=>n0 (e2▸e1)
    have h3:i≠w.heap.size+1:=fun e2=>n1 (e2▸e1)
    omega))
   have HOc:=aa (show wc.ownsRow w.heap.size 85 2 (.slice ea (k+1) ec) (k+1) (aV (f.parts.take (k+1))) by
    rw[bc HPK.out,uo]; exact hown3)
   have SC:=aa (show wc.cell? ⟨w.heap.size+1+1,6,none⟩=some (.slice va k vc)/\wc.cell? ⟨w.heap.size,6,none⟩=some (.slice (some ⟨pb,po,none⟩) n cap)/\wc.cell? ⟨pb,po+k*2,none⟩=some (.string p.sum)/\wc.cell? ⟨pb,po+k*2+1,none⟩=some (.int .i64 p.size)from
    ⟨(wcell _ _ (by omega) n2).trans S5.out.1,(wcell _ _ (by omega) n0).trans S5.out.2.1,(wcell _ _ (by omega) n3).trans S5.out.2.2.1,(wcell _ _ (by omega) n3).trans S5.out.2.2.2⟩)
   have k6:=SC.out.1;have f6:wc.frozen? ⟨w.heap.size+1+1,6,none⟩=false:=aG (k:=6) HYc.out;clear hown3 hg3 hpl3 n0 n1 n2 n3 wcell hal;refine⟨SC.out, ?_⟩;refine ab 9 rfl (by kernel_rfl) (by kernel_rfl) (by kernel_rfl) (fun _ _ _ h=>h) rfl SC.out (by rintro w' ⟨hw1,hw2,hw3,hw4⟩; go_simp; rfl) ?_;simp only[Act.put,aD,aE,aF];refine bh (by kernel_rfl) ?_;refine cL rfl rfl (fun K hK=> ?_)
   go_wp2_with fail
   go_roundw
   case rel=>
    refine⟨k+1, .slice ea (k+1) ec,by omega,rfl,⟨HBc.out.setCell (by show w.heap.size+1+1<=w.heap.size+1+1; omega) _, ?_,bm HOc.out (fun i hi hv=> ?_)⟩⟩
    ·rw[heap_setCell_same _ _ _ _ _ _ HYc.out]; rfl
    ·refine heap_setCell_other _ _ _ _ (fun e1=> ?_);obtain⟨cs2,hc2⟩:=aC HOc.out hv;rw[show i=w.heap.size+1+1 from e1]at hc2;exact absurd (aK HYc.out hc2) (by decide)
   case measure=>simp only[intOf,Int.toNat_natCast]; omega
  ·have hkn:k=n:=by omega
   subst hkn;obtain⟨va,vc,rfl,-,-⟩:=ak HFO.out.own;have HYr:=aa HFO.out.box;have HRr:=aa ((HFO.out.below.block (w.heap.size+1) (by omega)).trans HR.out);have y0:=ah (k:=0) HYr.out;have y1:=ah (k:=1) HYr.out;have y2:=ah (k:=2) HYr.out;have y3:=ah (k:=3) HYr.out;have y4:=ah (k:=4) HYr.out;have y5:=ah (k:=5) HYr.out;have y6:=ah (k:=6) HYr.out
   simp only[bQ,List.getElem?_toArray,ci]at y0 y1 y2 y3 y4 y5 y6;have r0:=ah (k:=0) HRr.out;have r1:=ah (k:=1) HRr.out;have r2:=ah (k:=2) HRr.out;have r3:=ah (k:=3) HRr.out;have r4:=ah (k:=4) HRr.out;have r5:=ah (k:=5) HRr.out;have r6:=ah (k:=6) HRr.out;simp only[List.getElem?_toArray,ci]at r0 r1 r2 r3 r4 r5 r6;have f0:wr.frozen? ⟨w.heap.size+1,0,none⟩=false:=aG (k:=0) HRr.out
   have f1:wr.frozen? ⟨w.heap.size+1,1,none⟩=false:=aG (k:=1) HRr.out;have f2:wr.frozen? ⟨w.heap.size+1,2,none⟩=false:=aG (k:=2) HRr.out;have f3:wr.frozen? ⟨w.heap.size+1,3,none⟩=false:=aG (k:=3) HRr.out;have f4:wr.frozen? ⟨w.heap.size+1,4,none⟩=false:=aG (k:=4) HRr.out;have f5:wr.frozen? ⟨w.heap.size+1,5,none⟩=false:=aG (k:=5) HRr.out
   have f6:wr.frozen? ⟨w.heap.size+1,6,none⟩=false:=aG (k:=6) HRr.out;go_wp2_with fail;have hn1:(Value.slice va k vc).ownBlock≠some (w.heap.size+1):=fun e1=>by
    obtain⟨cs2,hc2⟩:=aC HFO.out.own e1;exact absurd (aK HRr.out hc2) (by decide)
   have HFIN:=aa (bm HFO.out.own (fun i _ hv=>yv (b:=w.heap.size+1) (x0:= .string f.path) (x1:= .int .i64 f.kind) (x2:= .int .i64 f.mode) (x3:= .int .i64 f.time) (x4:= .int .i64 f.size) (x5:= .string f.link) (x6:= .slice va k vc) (fun e1=>hn1 (e1▸hv))));have HBF:=aa (HBW.out.trans (HFO.out.below.mono (show w.heap.size<=w.heap.size+1+1 by omega)));have htk:f.parts.take k=f.parts:=List.take_of_length_le (by rw[<-HN.out]; exact Nat.le_refl _)
   rw[htk]at HFIN;refine bodyPost_ret (results_cell_row rfl _ _ (w.heap.size+1) _ _ _ _ rfl (Fe HRr.out) Tryz.underlying42 rfl (by kernel_rfl)) rfl ?_;exact⟨_,rfl,HFIN.out,vB HBF.out (by omega)⟩
structure bO (w : World) (base : Nat) (fv : Value) (fs : List al) : Prop where
 row: ∃zs:List jn,zs.map Prod.snd=fs/\w.ownsRow base 42 7 fv zs.length (cD zs)/\ ∀z∈zs,w.ownsRow base 85 2 z.1 z.2.parts.length (aV z.2.parts)/\cQ z.2/\ ∀p∈z.2.parts,de p
theorem bO.nil (w:World) (base:Nat):bO w base (.slice none 0 0) []:=⟨[],rfl,World.ownsRow_nil _ _ _ _,by simp⟩
theorem bO.at {w:World} {base:Nat} {fv:Value} {fs:List al} (h:bO w base fv fs):aZ (fun k=>base<=k) w fv fs:=by
 obtain⟨zs,rfl,h2,h3⟩:=h.row;refine⟨cD zs, ?_,jA fun z hz=>⟨?_,(h3 z hz).2.1⟩⟩
 ·rw[List.length_map];exact(bi h2).weak fun k hk=>hk.1
 ·exact⟨_,(bi (h3 z hz).1).weak fun k hk=>hk.1,fL (h3 z hz).2.2⟩
theorem bO.same {w w':World} {base:Nat} {fv:Value} {fs:List al} (h:bO w base fv fs) (hs: ∀k cs t,k<w.heap.size->base<=k->w.heap[k]? =some (.cells cs t (0,0))->((t=42/\fv.ownBlock=some k)\/t=85)->w'.heap[k]? =w.heap[k]?):bO w' base fv fs:=by
 obtain⟨zs,h1,h2,h3⟩:=h.row;refine⟨zs,h1,bm h2 (fun k hk hv=> ?_),fun z hz=>⟨bm (h3 z hz).1 (fun k hk hv=> ?_),(h3 z hz).2⟩⟩
 ·obtain⟨cs,hc⟩:=aC h2 hv;exact hs k cs _ hk (h2.lt k hv).1 hc (.inl ⟨rfl,hv⟩)
 ·obtain⟨cs,hc⟩:=aC (h3 z hz).1 hv;exact hs k cs _ hk ((h3 z hz).1.lt k hv).1 hc (.inr rfl)
theorem bO.below {w w':World} {base:Nat} {fv:Value} {fs:List al} (h:bO w base fv fs) (hb:Below w.heap.size w w'):bO w' base fv fs:=h.same fun k _ _ hk _ _ _=>hb.block k hk
theorem bO.le {w:World} {base B:Nat} {fv:Value} {fs:List al} (h:bO w base fv fs) (hb:B<=base):bO w B fv fs:=by
 obtain⟨zs,h1,h2,h3⟩:=h.row;exact⟨zs,h1,bP h2 hb,fun z hz=>⟨bP (h3 z hz).1 hb,(h3 z hz).2⟩⟩
theorem Tryz.appFiles22 :cJ Tryz.prog 34 42 7 88:=cJ.mk' (z:=lV) Tryz.underlying34 (by kernel_rfl) rfl (by decide) (by decide)
theorem Cd {w:World} (o p q:Obj):Below w.heap.size w (((w.alloc o).alloc p).alloc q)/\(((w.alloc o).alloc p).alloc q).heap.size=w.heap.size+3/\(((w.alloc o).alloc p).alloc q).heap[w.heap.size]? =some o/\(((w.alloc o).alloc p).alloc q).heap[w.heap.size+1]? =some p/\(((w.alloc o).alloc p).alloc q).heap[w.heap.size+1+1]? =some q:=by
 have e1:(w.alloc o).heap.size=w.heap.size+1:=by simp
 have e2:((w.alloc o).alloc p).heap.size=w.heap.size+1+1:=by simp
 refine⟨(((Below.refl _ _).alloc (Nat.le_refl _) _).alloc (by omega) _).alloc (by omega) _,by simp, ?_, ?_, ?_⟩
 ·rw[heap_alloc_old _ _ (by omega),heap_alloc_old _ _ (by omega)]; exact heap_alloc_new w _
 ·rw[heap_alloc_old _ _ (by omega),<-e1]; exact heap_alloc_new _ _
 ·rw[<-e2]; exact heap_alloc_new _ _
theorem ES {w:World} {b:Nat} {a0 a1 x0 x1:Value} {t:TypeId} (h:w.heap[b]? =some (.cells #[a0,a1] t (0,0))):((w.setCell ⟨b,0,none⟩ x0).setCell ⟨b,1,none⟩ x1).heap[b]? =some (.cells #[x0,x1] t (0,0)):=by
 have h2:=heap_setCell_same _ b 1 _ _ x1 (heap_setCell_same _ b 0 _ _ x0 h)
 simpa using h2
structure Fb (w W2 wr : World) (b : Nat) (x : dh) (v : Value) (k : Nat) : Prop where
 below:Below b W2 wr
 box:wr.heap[b]? =some (.cells #[.int .i64 x.tm,v] 36 (0,0))
 own:bO wr w.heap.size v (x.files.take k)
theorem mV (S:Nat->Prop) (x:dh) (fv:Value) (w:World) (hx:aZ S w fv x.files) (hlen:x.files.length<=1048576) (hpl: ∀f∈x.files,f.parts.length<=1048576) (hpo: ∀f∈x.files,∀p∈f.parts,de p):Calls Tryz.prog 14 #[gd fv x.tm] w fun e w'=> ∃fv2,e= .returned (gd fv2 x.tm)/\bO w' w.heap.size fv2 x.files/\Below w.heap.size w w':=by
 obtain⟨a,cap,rfl,hc,hm,-⟩:=aY.shape hx fF.len;have HX0:=aa hx;have HPL:=aa hpl;have HPO:=aa hpo;clear hx hpl hpo;obtain⟨n,hn⟩: ∃n,n=x.files.length:=⟨_,rfl⟩;rw[<-hn]at HX0 hlen ⊢;have HN:=aa hn;clear hn hc hm;unfold gd
 go_enter Tryz.func14,Tryz.ntmps14
 go_upto_region 2 with fail
 obtain⟨W2,hW2⟩: ∃W2,W2=((w.alloc (.cells #[.int .i64 x.tm, .slice a n cap] 24)).alloc (.cells #[.int .i64 0, .slice none 0 0] 36)).alloc (.cells #[.int .i64 x.tm, .slice none 0 0] 36):=⟨_,rfl⟩;rw[<-hW2];obtain⟨hb,hzl,hX,hR,hY⟩:=Cd (w:=w) (.cells #[.int .i64 x.tm, .slice a n cap] 24) (.cells #[.int .i64 0, .slice none 0 0] 36) (.cells #[.int .i64 x.tm, .slice none 0 0] 36)
 rw[<-hW2]at hb hzl hX hR hY;have HBW:=aa hb;have HX:=aa hX;have HR:=aa hR;have HY:=aa hY;clear hW2 hb hX hR hY;go_wp2_with fail
 go_loopw [4] (fun i wr=> ∃(k:Nat) (v:Value),k<=n/\i= .int .i64 k/\Fb w W2 wr (w.heap.size+1+1) x v k) (fun i _=>n-(intOf i).toNat)
 case atStart=>exact⟨0, .slice none 0 0,Nat.zero_le _,rfl,⟨Below.refl _ _,HY.out,bO.nil _ _⟩⟩
 case round=>
  obtain⟨k,v,hk,rfl,hfo⟩:=hrel;have HFO:=aa hfo;have p1:=(hfo.below.cell (p:=⟨w.heap.size,1,none⟩) (by show w.heap.size<w.heap.size+1+1; omega)).trans (ah (k:=1) HX.out);have hzr:=hfo.below.size;simp only[List.getElem?_toArray,ci]at p1;clear hfo
  by_cases hlt:k<n
  ·obtain⟨f,hfk⟩: ∃f,x.files[k]? =some f:=⟨_,List.getElem?_eq_getElem (show k<x.files.length by rw[<-HN.out]; exact hlt)⟩;obtain⟨zs,hzs,hzo,hzp⟩:=HFO.out.own.row;have hzl2:zs.length=k:=by
    have h1:=congrArg List.length hzs;rw[List.length_map,List.length_take,<-HN.out]at h1; omega
   have HZS:=aa hzs;have HZP:=aa hzp;rw[hzl2]at hzo;obtain⟨va,vc,rfl,-,-⟩:=ak hzo;have HZO:=aa hzo;clear hzs hzp hzo
   go_upto_region 5 with fail
   obtain⟨W5,hW5⟩: ∃W5:World,W5=wr.drew:=⟨_,rfl⟩;have HB5:=aa (show Below wr.heap.size wr W5 by rw[hW5]; exact(Below.refl _ _).drew);have HBr:=aa (show Below w.heap.size w wr from HBW.out.trans (HFO.out.below.mono (by omega)));have HB05:=aa (HBr.out.trans (HB5.out.mono HBr.out.size));obtain⟨pb,po,pa,pc,hpa,hfok,hpp,hpb,-,hcl⟩:=dK HX0.out HB05.out hfk;subst hpa
   have HPP:=aa hpp;have hb2:w.heap.size+1+1<wr.heap.size:=lt_of_block HFO.out.box;have k1:=(HB5.out.cell (p:=⟨w.heap.size+1+1,1,none⟩) hb2).trans (ah (k:=1) HFO.out.box);have p1':=(HB5.out.cell (p:=⟨w.heap.size,1,none⟩) (by show w.heap.size<wr.heap.size; omega)).trans p1;simp only[List.getElem?_toArray,ci]at k1;have S5:=aa (And.intro k1 (And.intro p1' hcl))
   have HO5:=aa (aT HZO.out HB5.out);have HY5:=aa ((HB5.out.block _ hb2).trans HFO.out.box);have hz5:=HB5.out.size;have HFK:=aa hfk;have HOK:=aa hfok;clear k1 p1 p1' hcl hfk hfok hpp;refine cA (fun w'=>w'.cell? ⟨w.heap.size+1+1,1,none⟩=some (.slice va k vc)/\w'.cell? ⟨w.heap.size,1,none⟩=some (.slice (some ⟨pb,po,none⟩) n cap)/\ ∀j,j<7->w'.cell? ⟨pb,po+k*7+j,none⟩=(bQ (.slice pa f.parts.length pc) f)[j]?) (by kernel_rfl) (by kernel_rfl) ?_
   simp only[List.dropLast_cons_cons,List.dropLast_singleton,List.length_cons,List.length_nil,Nat.reduceAdd,Nat.reduceSub];rw[<-hW5];clear hW5;refine ab 0 rfl (by kernel_rfl) (by kernel_rfl) (by kernel_rfl) (fun _ _ _ h=>h) rfl S5.out (by rintro w' ⟨hw1,hw2,hw3⟩; go_simp; rfl) ?_;simp only[Act.put,aD,aE,aF];refine ab 1 rfl (by kernel_rfl) (by kernel_rfl) (by kernel_rfl) (fun _ _ _ h=>h) rfl S5.out (by rintro w' ⟨hw1,hw2,hw3⟩; go_simp; rfl) ?_
   simp only[Act.put,aD,aE,aF];refine ab 2 rfl (by kernel_rfl) (by kernel_rfl) (by kernel_rfl) (fun _ _ _ h=>h) rfl S5.out (by rintro w' ⟨hw1,hw2,hw3⟩; go_simp; rfl) ?_;simp only[Act.put,aD,aE,aF];refine ab 3 rfl (by kernel_rfl) (by kernel_rfl) (by kernel_rfl) (fun _ _ _ h=>h) rfl S5.out (by rintro w' ⟨hw1,hw2,hw3⟩; go_simp; rfl) ?_;simp only[Act.put,aD,aE,aF]
   refine ab 4 rfl (by kernel_rfl) (by kernel_rfl) (by kernel_rfl) (fun _ _ _ h=>h) rfl S5.out (by rintro w' ⟨hw1,hw2,hw3⟩; go_simp; rfl) ?_;simp only[Act.put,aD,aE,aF];refine ab 5 rfl (by kernel_rfl) (by kernel_rfl) (by kernel_rfl) (fun _ _ _ h=>h) rfl S5.out (by rintro w' ⟨hw1,hw2,hw3⟩; go_simp; rfl) ?_;simp only[Act.put,aD,aE,aF];refine ab 6 rfl (by kernel_rfl) (by kernel_rfl) (by kernel_rfl) (fun _ _ _ h=>h) rfl S5.out (by rintro w' ⟨hw1,hw2,hw3⟩; have o0:=hw3 0 (by omega); have o1:=hw3 1 (by omega); have o2:=hw3 2 (by omega); have o3:=hw3 3 (by omega); have o4:=hw3 4 (by omega); have o5:=hw3 5 (by omega); have o6:=hw3 6 (by omega); simp only[bQ,ci,Nat.add_zero]at o0 o1 o2 o3 o4 o5 o6; clear hw3; go_simp; rfl) ?_
   simp only[Act.put,aD,aE,aF];refine ax 7 rfl (by kernel_rfl) rfl (fun K hK=> ?_);go_wp2_with (refine(vN _ f (.slice pa f.parts.length pc) _ (HPP.out) (HPL.out f (List.mem_of_getElem? HFK.out))).mono ?_; rintro e w6 ⟨pv2,rfl,ho6,hb6⟩; obtain⟨qa,qc,rfl,-,-⟩:=ak ho6; unfold dV; have HO6:=aa ho6; have HB6:=aa hb6; clear ho6 hb6);have hb6:=HB6.out;have hz6:=hb6.size
   have hb3:w.heap.size+1+1<W5.heap.size:=by omega
   have S6:=aa (show w6.cell? ⟨w.heap.size+1+1,1,none⟩=some (.slice va k vc)/\w6.cell? ⟨w.heap.size,1,none⟩=some (.slice (some ⟨pb,po,none⟩) n cap)/\ ∀j,j<7->w6.cell? ⟨pb,po+k*7+j,none⟩=(bQ (.slice pa f.parts.length pc) f)[j]? from
    ⟨(hb6.cell (p:=⟨w.heap.size+1+1,1,none⟩) hb3).trans S5.out.1,(hb6.cell (p:=⟨w.heap.size,1,none⟩) (by show w.heap.size<W5.heap.size; omega)).trans S5.out.2.1,fun j hj=>(hb6.cell (p:=⟨pb,po+k*7+j,none⟩) (by show pb<W5.heap.size; omega)).trans (S5.out.2.2 j hj)⟩)
   clear hb6;refine⟨S6.out, ?_⟩;refine ax 8 rfl (by kernel_rfl) rfl (fun K hK=> ?_);go_wp2_with fail;have hal:=(Below.refl w6.heap.size w6).alloc (Nat.le_refl _) (.cells #[.string f.path, .int .i64 f.kind, .int .i64 f.mode, .int .i64 f.time, .int .i64 f.size, .string f.link, .slice qa f.parts.length qc] 42);refine⟨⟨(hal.cell (p:=⟨w.heap.size+1+1,1,none⟩) (by show w.heap.size+1+1<w6.heap.size; omega)).trans S6.out.1,(hal.cell (p:=⟨w.heap.size,1,none⟩) (by show w.heap.size<w6.heap.size; omega)).trans S6.out.2.1,fun j hj=>(hal.cell (p:=⟨pb,po+k*7+j,none⟩) (by show pb<w6.heap.size; omega)).trans (S6.out.2.2 j hj)⟩, ?_⟩
   refine ax 9 rfl (by kernel_rfl) rfl (fun K hK=> ?_);have HZ6:=aa (aT HO5.out HB6.out);go_wp2_with (at_builtin; go_must (refine bK Tryz.appFiles22 rfl _ _ rfl w.heap.size (.slice va k vc) k (cD zs) rfl w6 [.string f.path, .int .i64 f.kind, .int .i64 f.mode, .int .i64 f.time, .int .i64 f.size, .string f.link, .slice qa f.parts.length qc] _ rfl rfl (gk (f:=f)) HZ6.out (by omega) (by omega) ?_); intro vp wc hown3 hg3 _ hpl3; obtain⟨ea,ec,rfl,-,-⟩:=ak hown3)
   have HX6:=aa ((HB6.out.block _ (by omega)).trans ((HB5.out.block _ (by omega)).trans ((HFO.out.below.block w.heap.size (by omega)).trans HX.out)));have HR6:=aa ((HB6.out.block _ (by omega)).trans ((HB5.out.block _ (by omega)).trans ((HFO.out.below.block (w.heap.size+1) (by omega)).trans HR.out)));have HY6:=aa ((HB6.out.block _ hb3).trans HY5.out);have n0:(Value.slice va k vc).ownBlock≠some w.heap.size:=fun e1=>by
    obtain⟨cs2,hc2⟩:=aC HZ6.out e1;exact absurd (aK HX6.out hc2) (by decide)
   have n1:(Value.slice va k vc).ownBlock≠some (w.heap.size+1):=fun e1=>by
    obtain⟨cs2,hc2⟩:=aC HZ6.out e1;exact absurd (aK HR6.out hc2) (by decide)
   have n2:(Value.slice va k vc).ownBlock≠some (w.heap.size+1+1):=fun e1=>by
    obtain⟨cs2,hc2⟩:=aC HZ6.out e1;exact absurd (aK HY6.out hc2) (by decide)
   have n3:(Value.slice va k vc).ownBlock≠some pb:=fun e1=>by
    have:=(HZ6.out.lt pb e1).1;omega
   have wcell: ∀i j,i<w6.heap.size->(Value.slice va k vc).ownBlock≠some i->wc.cell? ⟨i,j,none⟩=w6.cell? ⟨i,j,none⟩:=fun i j hi hne=>World.cell?_of_block (hg3.block i hi (fun e1=>hne e1.symm))
   have HYc:=aa ((hg3.block _ (lt_of_block HY6.out) (fun e1=>n2 e1.symm)).trans HY6.out);have hzc:=hg3.size;have HBc:=aa (show Below (w.heap.size+1+1) W2 wc from((HFO.out.below.trans (HB5.out.mono (by omega))).trans (HB6.out.mono (by omega))).grown hg3 (by omega) (fun i e1=>by
    have h1:=(HZ6.out.lt i e1).1;have h2:i≠w.heap.size:=fun e2=>n0 (e2▸e1)
    have h3:i≠w.heap.size+1:=fun e2=>n1 (e2▸e1)
    omega))
   have keep: ∀(u:Value) (m:Nat) (cs:List Value),w6.ownsRow w.heap.size 85 2 u m cs->wc.ownsRow w.heap.size 85 2 u m cs:=fun u m cs hu=>bm hu (fun i hi hv=>hg3.block i hi (fun e1=>by
    obtain⟨cs2,hc2⟩:=aC hu hv;obtain⟨cs3,hc3⟩:=aC HZ6.out e1.symm;exact absurd (aK hc2 hc3) (by decide)))
   have HOc:=aa (show bO wc w.heap.size (.slice ea (k+1) ec) (x.files.take (k+1))from by
    refine⟨zs++[(.slice qa f.parts.length qc,f)], ?_, ?_, ?_⟩
    ·rw[bc HFK.out,List.map_append,HZS.out]; rfl
    ·rw[List.length_append,List.length_singleton,hzl2,jB]; exact hown3
    ·intro z hz
     rcases List.mem_append.1 hz with hz | hz
     ·obtain⟨h1,h2⟩:=HZP.out z hz;exact⟨keep _ _ _ (aT (aT h1 HB5.out) HB6.out),h2⟩
     ·obtain rfl:=List.mem_singleton.1 hz;exact⟨keep _ _ _ (bP HO6.out (by omega)),HOK.out,HPO.out f (List.mem_of_getElem? HFK.out)⟩)
   have SC:=aa (show wc.cell? ⟨w.heap.size+1+1,1,none⟩=some (.slice va k vc)/\wc.cell? ⟨w.heap.size,1,none⟩=some (.slice (some ⟨pb,po,none⟩) n cap)/\ ∀j,j<7->wc.cell? ⟨pb,po+k*7+j,none⟩=(bQ (.slice pa f.parts.length pc) f)[j]? from
    ⟨(wcell _ _ (by omega) n2).trans S6.out.1,(wcell _ _ (by omega) n0).trans S6.out.2.1,fun j hj=>(wcell _ _ (by omega) n3).trans (S6.out.2.2 j hj)⟩)
   have k1:=SC.out.1;have f1:wc.frozen? ⟨w.heap.size+1+1,1,none⟩=false:=aG (k:=1) HYc.out;clear hown3 hg3 hpl3 n0 n1 n2 n3 wcell hal keep;refine⟨SC.out, ?_⟩;refine ab 10 rfl (by kernel_rfl) (by kernel_rfl) (by kernel_rfl) (fun _ _ _ h=>h) rfl SC.out (by rintro w' ⟨hw1,hw2,hw3⟩; go_simp; rfl) ?_;simp only[Act.put,aD,aE,aF];refine bh (by kernel_rfl) ?_;refine cL rfl rfl (fun K hK=> ?_)
   go_wp2_with fail
   go_roundw
   case rel=>
    refine⟨k+1, .slice ea (k+1) ec,by omega,rfl,⟨HBc.out.setCell (by show w.heap.size+1+1<=w.heap.size+1+1; omega) _, ?_,HOc.out.same (fun i cs t hi hB hc ht=> ?_)⟩⟩
    ·rw[heap_setCell_same _ _ _ _ _ _ HYc.out]; rfl
    ·refine heap_setCell_other _ _ _ _ (fun e1=> ?_);rw[show i=w.heap.size+1+1 from e1]at hc;have h1:=aK HYc.out hc
     rcases ht with ht | ht
     ·rw[ht.1]at h1; exact absurd h1 (by decide)
     ·rw[ht]at h1; exact absurd h1 (by decide)
   case measure=>simp only[intOf,Int.toNat_natCast]; omega
  ·have hkn:k=n:=by omega
   subst hkn;obtain⟨va,vc,hv⟩: ∃va vc,v= .slice va k vc:=by
    obtain⟨zs,hzs,hz,-⟩:=HFO.out.own.row;obtain⟨va,vc,rfl,-,-⟩:=ak hz;have h1:=congrArg List.length hzs;rw[List.length_map,List.length_take,<-HN.out,Nat.min_self]at h1;rw[h1];exact⟨va,vc,rfl⟩
   subst hv;have HYr:=aa HFO.out.box;have HRr:=aa ((HFO.out.below.block (w.heap.size+1) (by omega)).trans HR.out);have y0:=ah (k:=0) HYr.out;have y1:=ah (k:=1) HYr.out;simp only[List.getElem?_toArray,ci]at y0 y1;have r0:=ah (k:=0) HRr.out;have r1:=ah (k:=1) HRr.out;simp only[List.getElem?_toArray,ci]at r0 r1;have f0:wr.frozen? ⟨w.heap.size+1,0,none⟩=false:=aG (k:=0) HRr.out
   have f1:wr.frozen? ⟨w.heap.size+1,1,none⟩=false:=aG (k:=1) HRr.out;go_wp2_with fail;have HFIN:=aa (show bO ((wr.setCell ⟨w.heap.size+1,0,none⟩ (.int .i64 x.tm)).setCell ⟨w.heap.size+1,1,none⟩ (.slice va k vc)) w.heap.size (.slice va k vc) (x.files.take k)from HFO.out.own.same (fun i cs t hi hB hc ht=>by
    have hne:i≠w.heap.size+1:=fun e1=>by
     rw[e1]at hc;have h1:=aK HRr.out hc
     rcases ht with ht | ht
     ·rw[ht.1]at h1; exact absurd h1 (by decide)
     ·rw[ht]at h1; exact absurd h1 (by decide)
    exact(Below.heap_setCell _ _ _ _ hne).trans (Below.heap_setCell _ _ _ _ hne)))
   have HBF:=aa (HBW.out.trans (HFO.out.below.mono (show w.heap.size<=w.heap.size+1+1 by omega)));have htk:x.files.take k=x.files:=List.take_of_length_le (by rw[<-HN.out]; exact Nat.le_refl _);rw[htk]at HFIN;refine bodyPost_ret (results_cell_row rfl _ _ (w.heap.size+1) _ _ _ _ rfl (ES HRr.out) Tryz.underlying36 rfl (by kernel_rfl)) rfl ?_;exact⟨_,rfl,HFIN.out,(HBF.out.setCell (by show w.heap.size<=w.heap.size+1; omega) _).setCell (by show w.heap.size<=w.heap.size+1; omega) _⟩
end Go.Proofs.YtnjkpcalgoefhaaGreatDoor
namespace Go.Proofs.YtnjkpcalgoefhaaGreatDoor
open Go.RowKit Go.Maps
def dL :List bu->ByteArray->Nat->Int
 | [],_,_=> -1
 | e::L,p,i=>if e.path=p then(i:Int)else dL L p (i+1)
theorem tL {L:List bu} {p:ByteArray} {k:Nat} {e:bu} (h:L[k]? =some e):dL (L.drop k) p k=if e.path=p then(k:Int)else dL (L.drop (k+1)) p (k+1):=by
 obtain⟨hk,he⟩:=List.getElem?_eq_some_iff.1 h;rw[List.drop_eq_getElem_cons hk,dL,he]
theorem mS {p:ByteArray} : ∀(L:List bu) (i:Nat),(dW L p=none/\dL L p i= -1)\/ ∃j e,dW L p=some e/\L[j]? =some e/\dL L p i=((i+j:Nat):Int)
 | [],i=> .inl ⟨rfl,rfl⟩
 | e::L,i=>by
  by_cases h:e.path=p
  ·right
   refine⟨0,e, ?_,rfl, ?_⟩
   ·unfold dW; rw[List.find?_cons_of_pos (by simp[h])]
   ·rw[dL,if_pos h]; simp
  ·have hf:dW (e::L) p=dW L p:=by unfold dW; rw[List.find?_cons_of_neg (by simp[h])]
   rw[dL,if_neg h,hf]
   rcases mS L (i+1)with h1 | ⟨j,f,h1,h2,h3⟩
   ·exact .inl h1
   ·exact .inr ⟨j+1,f,h1,by simpa using h2,by rw[h3]; congr 1; omega⟩
theorem ww (S:Nat->Prop) (L:List bu) (v:Value) (p:ByteArray) (w:World) (hv:bR S w v L):
  Calls Tryz.prog 104 #[v, .string p] w fun e w'=>e= .returned (.int .i64 (dL L p 0))/\Below w.heap.size w w':=by
 have HV:=aa hv;obtain⟨a,cap,rfl,hc,hm,-⟩:=aY.shape hv kJ.len;obtain⟨n,hn⟩: ∃n,n=L.length:=⟨_,rfl⟩;have HN:=aa hn;rw[<-hn]at HV hc ⊢;unfold maxLen at hm;clear hv hn
 go_enter Tryz.func104,Tryz.ntmps104
 go_wp2_with fail
 go_loopw [5,9] (fun _ i wr=> ∃k:Nat,k<=n/\i= .int .i64 k/\dL L p 0=dL (L.drop k) p k/\Below w.heap.size w wr) (fun _ i _=>n-(intOf i).toNat)
 case atStart=>exact⟨0,Nat.zero_le _,rfl,rfl,Below.refl _ _⟩
 case round=>
  obtain⟨k,hk,rfl,hfi,hbr⟩:=hrel;have HFI:=aa hfi;have HBR:=aa hbr
  by_cases hlt:k<n
  ·obtain⟨e,he⟩: ∃e,L[k]? =some e:=⟨L[k]'(by rw[<-HN.out]; exact hlt),by simp⟩;obtain⟨b,o,dv,rfl,-,hb,hd,-,-,q0,q1,q2,q3,q4,q5⟩:=iI (HV.out.below hbr) he;obtain⟨_,ad,cd,rfl,hcd,hmd,-⟩:=hd;have HAT:=aa (tL (p:=p) he);clear he hfi hbr
   by_cases hp:e.path=p
   ·have e1:(e.path.toList == p.toList)=true:=by rw[hp]; simp
    have HR:=aa (show dL L p 0=(k:Int) by rw[HFI.out,HAT.out,if_pos hp]);clear hp;go_wp2_with fail;go_ret;exact⟨bp HR.out.symm,ag HBR.out ((Below.refl _ _).alloc (Nat.le_refl _) _)⟩
   ·have e1:(e.path.toList == p.toList)=false:=by
     rw[beq_eq_false_iff_ne]; intro h; exact hp (jr (by rw[<-bA,<-bA]; exact h))
    have HR:=aa (show dL L p 0=dL (L.drop (k+1)) p (k+1) by rw[HFI.out,HAT.out,if_neg hp]);clear hp;go_wp2_with fail
    go_roundw
    case rel=>exact⟨k+1,by omega,by go_num,HR.out,ag HBR.out ((Below.refl _ _).alloc (Nat.le_refl _) _)⟩
    case measure=>simp[intOf]; omega
  ·have HR:=aa (show dL L p 0= -1 by rw[HFI.out,List.drop_of_length_le (by rw[<-HN.out]; omega)]; rfl);clear hfi hbr;go_wp2_with fail;go_ret;exact⟨bp HR.out.symm,HBR.out⟩
end Go.Proofs.YtnjkpcalgoefhaaGreatDoor
namespace Go.Proofs.YtnjkpcalgoefhaaGreatDoor
open Go.RowKit
theorem Du (l:List UInt8):(sE l).length<=4*l.length:=by
 have h1:=er l;have: ∀rs:List Int,(rs.flatMap Lib.encodeRune).length<=4*rs.length:=by
  intro rs
  induction rs with
  | nil=>simp
  | cons r rs ih=>rw[List.flatMap_cons,List.length_append,List.length_cons]; have:=oq r; omega
 have h2:=this (bg l);unfold sE; omega
theorem tt (s:ByteArray) (pos:Nat):Lib.decodeL ((bl s).drop pos)=Utf8.decode s pos:=Lib.decodeL_drop s pos
theorem CO {s:ByteArray} {pos:Nat} (h:pos<s.size):(bl s).drop pos≠[]:=by
 intro e; have:=List.drop_eq_nil_iff.1 e; rw[<-am]at this; omega
theorem zV {s o:ByteArray} {pos:Nat} (hp:pos<s.size) (h:bl o++sE ((bl s).drop pos)=sE (bl s)):
  bl (o++Utf8.encode ((Utf8.decode s pos).1:Int))++sE ((bl s).drop (pos+(Utf8.decode s pos).2))=sE (bl s):=by
 rw[jY,<-h,uC _ (CO hp),tt,List.drop_drop,<-vK,xu,List.append_assoc]
theorem wy (s:ByteArray) (w:World) (hs:s.size<=16777216):
  Calls Tryz.prog 185 #[.string s] w fun e w'=>e= .returned (.bool (Lib.validD (bl s)))/\Below w.heap.size w w':=by
 go_enter Tryz.func185,Tryz.ntmps185
 go_wp2
 go_loopw [3] (fun v wr=> ∃(pos:Nat) (o:ByteArray),v= .string o/\wr=w.iter s pos/\o.size<=67108864/\bl o++sE ((bl s).drop pos)=sE (bl s)) (fun _ wr=>s.size-wr.iterPos w.heap.size)
 case atStart=>exact⟨0,⟨#[]⟩,rfl,rfl,by simp[ByteArray.size],by simp[bl]⟩
 case round=>
  obtain⟨pos,o,rfl,rfl,ho,hrel2⟩:=hrel;have HR:=aa hrel2;clear hrel2
  by_cases hp:pos<s.size
  ·have hnx: ∀ty,(Instr.next (.pointer (some ⟨w.heap.size,0,none⟩)) true ty).run Tryz.prog (w.iter s pos)=_:=fun ty=>run_next_any w s pos ty hp
   obtain⟨r,hr⟩: ∃r,r=(Utf8.decode s pos).1:=⟨_,rfl⟩;obtain⟨E,hE⟩: ∃E,E=Utf8.encode (r:Int):=⟨_,rfl⟩;have hcv: ∀w',(convert 21 9 (.int .i32 (r:Int))).run Tryz.prog w'= .ok (.string E) w':=fun w'=>by rw[hE]; exact run_convert_int_string w' _ _ .i32 _ (by rw[Tryz.underlying21]; rfl) Tryz.underlying9
   have hE4:E.size<=4:=by rw[hE]; exact encode_size_le _
   simp only[<-hr]at hnx;have HE:=aa hE;have HRR:=aa hr;clear hE hr
   go_wp2
   go_roundw
   case rel=>
    have hn:bl (o++E)++sE ((bl s).drop (pos+(Utf8.decode s pos).2))=sE (bl s):=by rw[HE.out,HRR.out]; exact zV hp HR.out
    refine⟨pos+(Utf8.decode s pos).2,o++E,rfl,rfl, ?_,hn⟩;have h1:=congrArg List.length hn;have h2:=Du (bl s);rw[List.length_append,<-am]at h1;rw[<-am]at h2;omega
   case measure=>
    rw[World.iterPos_iter,World.iterPos_iter];have:=Lib.width_pos s pos;omega
  ·have hnx: ∀ty,(Instr.next (.pointer (some ⟨w.heap.size,0,none⟩)) true ty).run Tryz.prog (w.iter s pos)=_:=fun ty=>run_next_end w s pos ty hp
   go_wp2
   go_ret;refine⟨au ?_,(Below.refl _ _).alloc (Nat.le_refl _) _⟩;have h1:bl o=sE (bl s):=by
    rw[<-HR.out,List.drop_eq_nil_of_le (by rw[<-am]; omega),sF,List.append_nil]
   rw[bA,bA,h1];exact yX (bl s)
theorem ue {s:ByteArray} {j:Nat} (hj:j<s.size) (h:(s[j].toNat:Int)<32):kj (bl s)=false:=by
 refine uf hj ?_;rw[kQ s j hj,<-eu s j hj]; omega
theorem uz (s:ByteArray) (w:World) (hs:s.size<=16777216):
  Calls Tryz.prog 163 #[.string s] w fun e w'=>e= .returned (.bool (kG (bl s)))/\Below w.heap.size w w':=by
 go_enter Tryz.func163,Tryz.ntmps163
 go_wp2
 go_loop [3] (fun i=> ∃k:Nat,k<=s.size/\i= .int .i64 k/\ ∀j,j<k->j<s.size->32<=(s.get! j).toNat) (fun i=>s.size-(intOf i).toNat)
 case atStart=>exact⟨0,Nat.zero_le _,rfl,fun j hj=>by omega⟩
 case round=>
  obtain⟨k,hk,rfl,hlow⟩:=hrel;have HL:=aa hlow;clear hlow
  by_cases hp:k<s.size
  ·go_wp2
   ·have hlt:(s[k].toNat:Int)<32:=by assumption
    go_ret;exact⟨au (by simp[kG,ue hp hlt]),Below.refl _ _⟩
   ·have hge:(32:Int)<=(s[k].toNat:Int):=by assumption
    go_round
    case rel=>
     refine⟨k+1,by omega,by go_num,fun j hj hjs=> ?_⟩
     rcases Nat.lt_or_ge j k with h | h
     ·exact HL.out j h hjs
     ·obtain rfl:j=k:=by omega
      rw[kQ s j hp,<-eu s j hp]; omega
    case measure=>simp[intOf]<;> omega
  ·go_wp2_with (go_at_call 185; refine(wy s _ hs).mono ?_; rintro e w' ⟨rfl,hb⟩);go_ret;refine⟨au ?_,hb⟩;simp only[kG,xI (fun j hj=>HL.out j (by omega) hj),Bool.true_and]
def Ae (c:UInt8) (s:ByteArray) (w:World) (e:Ending) (w':World):Prop:=
 ∃v xs,e= .returned v/\xs.map bl=aA c (bl s)/\dm (w.heap.size<= ·) w' v xs/\Below w.heap.size w w'
theorem tB {s:ByteArray} {c:UInt8} {ys:List ByteArray} {f k:Nat} (hk:k<s.size) (hf:f<=k) (h:aA c (bl s)=ys.map bl++aA c ((bl s).drop f)) (hn: ∀j,f<=j->j<k->(s.get! j)≠c) (hc:s[k]=c):
  aA c (bl s)=(ys++[s.extract f k]).map bl++aA c ((bl s).drop (k+1)):=by
 have hk2:k<(bl s).length:=by rw[<-am]; exact hk
 have e:(bl s).drop f=bl (s.extract f k)++c::(bl s).drop (k+1):=by
  rw[iF,<-hc,eu s k hk,List.getElem_cons_drop,List.drop_take];have h2:=List.take_append_drop (k-f) ((bl s).drop f);rw[List.drop_drop,show f+(k-f)=k by omega]at h2;exact h2.symm
 have hm:c∉bl (s.extract f k):=by
  intro hm;obtain⟨j,hj,ej⟩:=List.getElem_of_mem hm;simp only[iF]at hj ej;rw[List.length_drop,List.length_take]at hj;rw[List.getElem_drop,List.getElem_take]at ej;exact hn (f+j) (by omega) (by omega) (by rw[kQ s _ (by omega)]; exact ej)
 rw[h,e,fA _ _ _ hm]; simp
theorem tA {s:ByteArray} {c:UInt8} {ys:List ByteArray} {f:Nat} (hf:f<=s.size) (h:aA c (bl s)=ys.map bl++aA c ((bl s).drop f)) (hn: ∀j,f<=j->j<s.size->(s.get! j)≠c):
  aA c (bl s)=(ys++[s.extract f s.size]).map bl:=by
 have e:(bl s).drop f=bl (s.extract f s.size):=by rw[iF,am,List.take_length]
 have hm:c∉(bl s).drop f:=by
  intro hm;obtain⟨j,hj,ej⟩:=List.getElem_of_mem hm;rw[List.length_drop,<-am]at hj;rw[List.getElem_drop]at ej;exact hn (f+j) (by omega) (by omega) (by rw[kQ s _ (by omega)]; exact ej)
 rw[h,dT _ _ hm,e]; simp
theorem iN (s:ByteArray) (w:World) (hs:s.size<=16777216):Calls Tryz.prog 105 #[.string s] w (Ae 47 s w):=by
 go_enter Tryz.func105,Tryz.ntmps105
 go_wp2_with fail
 go_loopw [3,4,5] (fun v fr i wr=> ∃(k f:Nat) (ys:List ByteArray),k<=s.size+1/\f<=k/\ys.length<=k/\i= .int .i64 k/\fr= .int .i64 f/\wr.ownsRow w.heap.size 9 1 v ys.length (ys.map Value.string)/\Below w.heap.size w wr/\
   (k<=s.size->aA 47 (bl s)=ys.map bl++aA 47 ((bl s).drop f)/\ ∀j,f<=j->j<k->(s.get! j)≠47)/\(k=s.size+1->aA 47 (bl s)=ys.map bl)) (fun _ _ i _=>s.size+1-(intOf i).toNat)
 case atStart=>exact⟨0,0,[],Nat.zero_le _,Nat.le_refl _,Nat.le_refl _,rfl,rfl,World.ownsRow_nil _ _ _ _,Below.refl _ _,fun _=>⟨by simp,fun j _ hj=>by omega⟩,fun h=>by omega⟩
 case round=>
  obtain⟨k,f,ys,hk,hf,hy,rfl,rfl,hown,hb,hr1,hr2⟩:=hrel;have HO:=aa hown;have HB:=aa hb;have HR1:=aa hr1;have HR2:=aa hr2;have hsz:w.heap.size<=wr.heap.size:=hb.size;clear hown hb hr1 hr2
  by_cases hle:k<=s.size
  ·by_cases hlt:k<s.size
   ·have e1:((k:Int) == (s.size:Int))=false:=by rw[beq_eq_false_iff_ne]; omega
    by_cases hc:s[k]=47
    ·have e2:((s[k].toNat:Int) == (47:UInt8).toNat)=true:=by rw[hc]; rfl
     have e2':((s[k].toNat:Int) == 47)=true:=e2;have HCC:=aa hc;clear hc e2;go_wp2_with (at_builtin; go_must (refine dd Tryz.appStrings rfl _ _ rfl w.heap.size u3 ys.length (ys.map Value.string) rfl wr [.string (s.extract f k)] _ rfl rfl (by simp; rfl) HO.out (by omega) hsz ?_); intro v' w1 hown1 hgrow1 _);have HO1:=aa hown1;have HG1:=aa hgrow1;clear hown1 hgrow1;go_wp2_with fail
     go_roundw
     case rel=>
      refine⟨k+1,k+1,ys++[s.extract f k],by omega,Nat.le_refl _,by simp; omega,by go_num,by go_num, ?_,aR HB.out HO.out HG1.out (Nat.le_refl _) hsz,fun _=>⟨tB hlt hf (HR1.out hle).1 (HR1.out hle).2 HCC.out,fun j h1 h2=>by omega⟩,fun h=>by omega⟩;have:=HO1.out; simpa using this
     case measure=>simp[intOf]<;> omega
    ·have e2':((s[k].toNat:Int) == 47)=false:=by
      rw[beq_eq_false_iff_ne]; intro e; apply hc; apply UInt8.toNat_inj.1; have:s[k].toNat=47:=by omega
      rw[this]; rfl
     have HCC:=aa hc;clear hc;go_wp2_with fail
     go_roundw
     case rel=>
      refine⟨k+1,f,ys,by omega,by omega,by omega,by go_num,rfl,HO.out,HB.out,fun _=>⟨(HR1.out hle).1,fun j h1 h2=> ?_⟩,fun h=>by omega⟩
      rcases Nat.lt_or_ge j k with h | h
      ·exact(HR1.out hle).2 j h1 h
      ·obtain rfl:j=k:=by omega
       rw[kQ s j hlt,<-eu s j hlt]; exact HCC.out
     case measure=>simp[intOf]<;> omega
   ·obtain rfl:k=s.size:=by omega
    have e1:((s.size:Int) == (s.size:Int))=true:=by simp
    go_wp2_with (at_builtin; go_must (refine dd Tryz.appStrings rfl _ _ rfl w.heap.size u3 ys.length (ys.map Value.string) rfl wr [.string (s.extract f s.size)] _ rfl rfl (by simp; rfl) HO.out (by omega) hsz ?_); intro v' w1 hown1 hgrow1 _);have HO1:=aa hown1;have HG1:=aa hgrow1;clear hown1 hgrow1;go_wp2_with fail
    go_roundw
    case rel=>
     refine⟨s.size+1,s.size+1,ys++[s.extract f s.size],by omega,Nat.le_refl _,by simp; omega,by go_num,by go_num, ?_,aR HB.out HO.out HG1.out (Nat.le_refl _) hsz,fun h=>by omega,fun _=>tA hf (HR1.out hle).1 (HR1.out hle).2⟩;have:=HO1.out; simpa using this
    case measure=>simp[intOf]<;> omega
  ·obtain⟨a,cap,rfl,hn,hm⟩:=ak HO.out;go_wp2_with fail;go_ret;exact⟨_,ys,rfl,(HR2.out (by omega)).symm,(bi HO.out).weak (fun k hk=>hk.1),HB.out⟩
theorem pC {xs:List ByteArray} {k:Nat} {x:ByteArray} (hx:xs[k]? =some x):cT ((xs.take (k+1)).map bl)=if k=0 then bl x else cT ((xs.take k).map bl)++[47]++bl x:=by
 have hk:=(List.getElem?_eq_some_iff.1 hx).1;have e:(xs.take (k+1)).map bl=(xs.take k).map bl++[bl x]:=by rw[List.take_add_one,hx]; simp
 rw[e,nl]
 by_cases h:k=0
 ·subst h; simp
 ·have h2:(xs.take k).map bl≠[]:=by
   intro e; have:=congrArg List.length e; simp only[List.length_map,List.length_take,List.length_nil]at this; omega
  rw[if_neg h,if_neg h2]
theorem pH (xs:List ByteArray) (m:Nat) (h: ∀x∈xs,x.size<=m) (k:Nat):(cT ((xs.take k).map bl)).length<=xs.length*(m+1):=by
 have h1:=wU ((xs.take k).map bl) m (fun p hp=>by
  obtain⟨y,hy,rfl⟩:=List.mem_map.1 hp;have:=h y (List.mem_of_mem_take hy);rw[<-am]; exact this)
 have h2:((xs.take k).map bl).length<=xs.length:=by simp; omega
 exact Nat.le_trans h1 (Nat.mul_le_mul_right _ h2)
theorem uA (xs:List ByteArray) (S:Nat->Prop) (v:Value) (w:World) (hv:dm S w v xs) (hn:xs.length<=65536) (hsz: ∀x∈xs,x.size<=65536):
  Calls Tryz.prog 106 #[v] w fun e w'=>e= .returned (.string ⟨(cT (xs.map bl)).toArray⟩)/\w=w':=by
 obtain⟨a,cap,rfl,hc,hcm,hcell⟩:=hv.shape;have HC:=aa hcell;have HS:=aa hsz;clear hv hcell hsz;unfold maxLen at hcm
 go_enter Tryz.func106,Tryz.ntmps106
 go_wp2_with fail
 go_loop [3,8] (fun o i=> ∃(k:Nat) (t:ByteArray),k<=xs.length/\i= .int .i64 k/\o= .string t/\bl t=cT ((xs.take k).map bl)) (fun _ i=>xs.length-(intOf i).toNat)
 case atStart=>exact⟨0,⟨#[]⟩,Nat.zero_le _,rfl,rfl,by simp[bl,cT,Lib.join_nil]⟩
 case round=>
  obtain⟨k,t,hk,rfl,rfl,ht⟩:=hrel;have hts:t.size<=4295032832:=by
   rw[am,ht];have:=pH xs 65536 HS.out k;have h2:xs.length*(65536+1)<=65536*(65536+1):=Nat.mul_le_mul_right _ hn;omega
  have HT:=aa ht;clear ht
  by_cases hlt:k<xs.length
  ·obtain⟨x,hx⟩: ∃x,xs[k]? =some x:=⟨xs[k],by simp[hlt]⟩;obtain⟨b,o,rfl,_,hcl⟩:=HC.out k x hx;have hxs:=HS.out x (List.mem_of_getElem? hx);have HX:=aa hx;clear hx
   by_cases h0:k=0
   ·have e0:decide ((0:Int)<(k:Int))=false:=by simp[h0]
    have hle: ¬(0:Int)<(k:Int):=by omega
    have H0:=aa h0;clear h0;go_wp2_with fail
    go_round
    case rel=>
     refine⟨k+1,t++x,by omega,by go_num,rfl, ?_⟩;rw[pC HX.out,if_pos H0.out,jY,HT.out,H0.out]; simp[cT,Lib.join_nil]
    case measure=>simp[intOf]; omega
   ·have h1:(0:Int)<(k:Int):=by omega
    have h1':0<k:=by omega
    have H0:=aa h0;clear h0;go_wp2_with fail
    go_round
    case rel=>
     refine⟨k+1,(t++⟨#[47]⟩)++x,by omega,by go_num,rfl, ?_⟩;rw[pC HX.out,if_neg H0.out,jY,jY,HT.out]; rfl
    case measure=>simp[intOf]; omega
  ·go_wp2_with fail;go_ret;refine⟨?_,rfl⟩;have:cT (xs.map bl)=bl t:=by rw[HT.out,List.take_of_length_le (by omega)]
   rw[this,oN]; rfl
theorem xx {xs:List ByteArray} {s:ByteArray} (hx:xs.map bl=aA 47 (bl s)):((xs.length:Int) == 1)= !(bl s).contains 47:=by
 rw[<-tg,<-hx,List.length_map,Bool.eq_iff_iff,beq_iff_eq,beq_iff_eq]; omega
theorem jc (s:ByteArray) (w:World) (hs:s.size<=16777216):
  Calls Tryz.prog 132 #[.string s] w fun e w'=>e= .returned (.bool (eV (bl s)))/\Below w.heap.size w w':=by
 go_enter Tryz.func132,Tryz.ntmps132
 go_wp2_with (first
  | (go_at_call 163; refine(uz s _ hs).mono ?_; rintro e w1 ⟨rfl,hb1⟩)
  | (go_at_call 105; refine(iN s _ hs).mono ?_; rintro e w2 ⟨v2,xs2,rfl,hx2,hv2,hb2⟩; obtain⟨a2,c2,rfl,-,-,-⟩:=hv2.shape; have HX2:=aa hx2; clear hx2 hv2))
 all_goals (go_ret; refine⟨au ?_,by first | exact Below.refl _ _ | exact ag hb1 hb2 | exact hb1⟩)
 all_goals (rw[Bool.eq_iff_iff]; simp only[bA]at *)
 all_goals (first | (have hq:=xx HX2.out; simp_all [eV,am]; done) | (simp_all [eV,am]; done) | (simp_all [eV,am]; omega) | (have hq:=xx HX2.out; simp_all [eV,am]; intro _; omega))
theorem uB (s:ByteArray) (w:World) (hs:s.size<=16777216):
  Calls Tryz.prog 103 #[.string s] w fun e w'=>e= .returned (.bool (bB (bl s)))/\Below w.heap.size w w':=by
 go_enter Tryz.func103,Tryz.ntmps103
 go_wp2_with fail;refine(iN s w hs).mono ?_;rintro e w1 ⟨v,xs,rfl,hx,hv,hb1⟩;obtain⟨a,cap,rfl,hc,hcm,hcell⟩:=hv.shape;have hxl:xs.length<=16777217:=by
  have h1:(aA 47 (bl s)).length=xs.length:=by rw[<-hx]; simp
  have h2:=dE 47 (bl s);rw[<-am]at h2;omega
 have HX:=aa hx;have HC:=aa hcell;have HB1:=aa hb1;clear hx hcell hb1 hv;unfold maxLen at hcm;go_wp2_with fail
 go_loopw [10] (fun i wr=> ∃k:Nat,k<=xs.length/\i= .int .i64 k/\Below w1.heap.size w1 wr/\ ∀(j:Nat) x,j<k->xs[j]? =some x->eV (bl x)=true) (fun i _=>xs.length-(intOf i).toNat)
 case atStart=>exact⟨0,Nat.zero_le _,rfl,Below.refl _ _,fun j x hj=>by omega⟩
 case round=>
  obtain⟨k,hk,rfl,hb,hall⟩:=hrel;have HA:=aa hall;have HB:=aa hb;clear hall hb
  by_cases hlt:k<xs.length
  ·obtain⟨x,hx⟩: ∃x,xs[k]? =some x:=⟨xs[k],by simp[hlt]⟩;obtain⟨b,o,rfl,_,hcl⟩:=HC.out k x hx;have hcell:wr.cell? ⟨b,o+k,none⟩=some (.string x):=(HB.out.cell (p:=⟨b,o+k,none⟩) (ay hcl)).trans hcl;have HK:=aa hx;have hxs:x.size<=16777216:=by have:=ko HX.out hx; omega
   clear hx hcl
   cases hc:eV (bl x)
   ·have HCc:=aa hc;clear hc;go_wp2_with (go_at_call 132; refine(jc x wr hxs).mono ?_; rintro e w' ⟨rfl,hb2⟩; rw[HCc.out]);go_ret;exact⟨au (ru HX.out HK.out HCc.out).symm,ag (ag HB1.out HB.out) hb2⟩
   ·have HCc:=aa hc;clear hc;go_wp2_with (go_at_call 132; refine(jc x wr hxs).mono ?_; rintro e w' ⟨rfl,hb2⟩; rw[HCc.out])
    go_roundw
    case rel=>
     refine⟨k+1,by omega,by go_num,ag HB.out hb2,fun j x' hj hx'=> ?_⟩
     rcases Nat.lt_or_ge j k with h | h
     ·exact HA.out j x' h hx'
     ·obtain rfl:j=k:=by omega
      have:=HK.out.symm.trans hx'
      cases this
      exact HCc.out
    case measure=>simp[intOf]; omega
  ·go_wp2_with fail
   all_goals (go_ret; refine⟨au ?_,ag HB1.out HB.out⟩)
   all_goals (
    have ha:(aA 47 (bl s)).all eV=true:=by
     rw[<-HX.out,List.all_map,List.all_eq_true];intro x hm;obtain⟨j,hj,rfl⟩:=List.getElem_of_mem hm;exact HA.out j _ (by omega) (by simp)
    have hl:(aA 47 (bl s)).length=xs.length:=by rw[<-HX.out]; simp
    rw[bB,ha,hl,Bool.and_true,<-am,Bool.eq_iff_iff]
    simp_all<;> omega)
open Go.RowKit Go.Maps
theorem wQ {S:Nat->Prop} {w:World} {a:Option Addr} {n c:Nat} {xs:List ByteArray} (h:dm S w (.slice a n c) xs):dm S w (.slice a (n-1) c) xs.dropLast:=by
 obtain⟨hl,a',cap,he,hn,hm,h0⟩:=h;simp only[Value.slice.injEq]at he;obtain⟨rfl,rfl,rfl⟩:=he;refine⟨by simp,a,c,by rw[List.length_dropLast],by rw[List.length_dropLast]; omega,hm, ?_⟩
 rcases h0 with h0 | ⟨b,o,ha,hb,hc⟩
 ·left; rw[List.length_dropLast]; omega
 ·right
  refine⟨b,o,ha,hb,fun j u hj=>hc j u ?_⟩;rw[List.getElem?_map,List.getElem?_dropLast]at hj;rw[List.getElem?_map]
  split at hj
  ·exact hj
  ·simp at hj
theorem pg (s:ByteArray) (w:World) (hs:s.size<=65000):
  Calls Tryz.prog 69 #[.string s] w fun e w'=>e= .returned (.string ⟨(aS (bl s)).toArray⟩)/\Below w.heap.size w w':=by
 go_enter Tryz.func69,Tryz.ntmps69
 go_wp2_with (go_at_call 105; refine(iN s _ (by omega)).mono ?_; rintro e w1 ⟨v,xs,rfl,hx,hv,hb⟩; have HX:=aa hx; have HB:=aa hb; obtain⟨a,c,rfl,hc,hm,-⟩:=hv.shape; have HV:=aa hv; have hn1:1<=xs.length:=(by rw[<-List.length_map (f:=bl),hx]; exact kY 47 _); have hn2:xs.length<=65001:=(by rw[<-List.length_map (f:=bl),hx]; have:=dE 47 (bl s); rw[<-am]at this; omega); clear hx hv hb; unfold maxLen at hm)
 refine(uA xs.dropLast _ _ w1 (wQ HV.out) (by rw[List.length_dropLast]; omega) (fun x hx=> ?_)).mono ?_
 ·have h1:bl x∈aA 47 (bl s):=by rw[<-HX.out]; exact List.mem_map.2 ⟨x,List.dropLast_subset _ hx,rfl⟩
  have h2:=gh 47 (bl s) _ h1;rw[<-am,<-am]at h2;omega
 ·rintro e w2 ⟨rfl,rfl⟩;go_wp2_with fail;go_ret;refine⟨?_,HB.out⟩;unfold aS;rw[<-HX.out,<-List.map_dropLast]
  rfl
theorem mu (S:Nat->Prop) (L:List bu) (v:Value) (p:ByteArray) (x:Int) (w:World) (hv:bR S w v L) (hx:dL L p 0=x):
  Calls Tryz.prog 104 #[v, .string p] w fun e w'=>e= .returned (.int .i64 x)/\Below w.heap.size w w':=by
 rw[<-hx]; exact ww S L v p w hv
theorem nF (L:List bu) (p:ByteArray):gc L (bl p)=if bl p=[]then 0 else match dW L p with
 | none=>4
 | some e=>if e.kind=2 then 0 else 13:=by
 unfold gc;rw[oN]
 cases dW L p<;> rfl
theorem yV (S:Nat->Prop) (L:List bu) (v:Value) (p:ByteArray) (w:World) (hv:bR S w v L):
  Calls Tryz.prog 68 #[v, .string p] w fun e w'=>e= .returned (.int .i64 (gc L (bl p)))/\Below w.heap.size w w':=by
 have HV:=aa hv
 by_cases h0:bl p=[]
 ·have e1:p.toList.isEmpty=true:=by rw[gN,decide_eq_true h0]
  have HR:=aa (show gc L (bl p)=0 by rw[nF,if_pos h0]);clear h0 hv
  go_enter Tryz.func68,Tryz.ntmps68
  go_wp2_with fail;go_ret;exact⟨bp HR.out.symm,Below.refl _ _⟩
 ·have e1:p.toList.isEmpty=false:=by rw[gN,decide_eq_false h0]
  rcases mS (p:=p) L 0 with⟨h1,h2⟩ | ⟨j,f,h1,h2,h3⟩
  ·have HR:=aa (show gc L (bl p)=4 by rw[nF,if_neg h0,h1]);have HI:=aa h2;clear h0 h1 h2 hv
   go_enter Tryz.func68,Tryz.ntmps68
   go_wp2_with (go_at_call 104; refine(mu S L v p (-1) _ HV.out HI.out).mono ?_; rintro e w1 ⟨rfl,hb1⟩; have HB1:=aa hb1; clear hb1);go_ret;exact⟨bp HR.out.symm,HB1.out⟩
  ·have HI:=aa (show dL L p 0=(j:Int) by rw[h3]; simp);obtain⟨a,cap,rfl,hc,hm,-⟩:=aY.shape hv kJ.len;have hjl:j<L.length:=(List.getElem?_eq_some_iff.1 h2).1;obtain⟨n,hn⟩: ∃n,n=L.length:=⟨_,rfl⟩;rw[<-hn]at HV hc hjl ⊢;obtain⟨b,o,dv,rfl,-,hb,-,-,-,q0,q1,q2,q3,q4,q5⟩:=iI HV.out h2;unfold maxLen at hm
   by_cases hk:f.kind=2
   ·have HR:=aa (show gc L (bl p)=0 by rw[nF,if_neg h0,h1]; simp only[if_pos hk]);have e2:(f.kind != 2)=false:=by simp[hk]
    clear h0 h1 h2 h3 hv hk hn q0 q2 q3 q4 q5
    go_enter Tryz.func68,Tryz.ntmps68
    go_wp2_with (go_at_call 104; refine(mu S L _ p j _ HV.out HI.out).mono ?_; rintro e w1 ⟨rfl,hb1⟩; have q9:=(hb1.cell (ay q1)).trans q1; have HB1:=aa hb1; clear hb1);go_ret;exact⟨bp HR.out.symm,HB1.out⟩
   ·have HR:=aa (show gc L (bl p)=13 by rw[nF,if_neg h0,h1]; simp only[if_neg hk]);have e2:(f.kind != 2)=true:=by simp[hk]
    clear h0 h1 h2 h3 hv hk hn q0 q2 q3 q4 q5
    go_enter Tryz.func68,Tryz.ntmps68
    go_wp2_with (go_at_call 104; refine(mu S L _ p j _ HV.out HI.out).mono ?_; rintro e w1 ⟨rfl,hb1⟩; have q9:=(hb1.cell (ay q1)).trans q1; have HB1:=aa hb1; clear hb1);go_ret;exact⟨bp HR.out.symm,HB1.out⟩
theorem cw (s:ByteArray) (b:Bool) (w:World) (hs:s.size<=16777216) (h:bB (bl s)=b):Calls Tryz.prog 103 #[.string s] w fun e w'=>e= .returned (.bool b)/\Below w.heap.size w w':=by
 rw[<-h]; exact uB s w hs
theorem oO {l:List UInt8} :l.contains 0=false<-> ∀k:Nat,∀b,l[k]? =some b->b≠0:=by
 rw[Bool.eq_false_iff,ne_eq,List.contains_iff_mem,List.mem_iff_getElem?]
 constructor
 ·intro h k b hb e; subst e; exact h ⟨k,hb⟩
 ·rintro h ⟨k,hk⟩; exact h k 0 hk rfl
theorem uW {en:bu} (h:(en.kind=1\/en.kind=2\/en.kind=3)/\en.data.length<=1048576/\(en.kind=1\/en.data.length=0)) (hz:(bl en.link).contains 0=false):dZ en=((decide (en.kind=3) == decide (en.link.size≠0)) && decide (en.link.size<=512)):=by
 obtain⟨h1,h2,h3⟩:=h;unfold dZ iQ;rw[hz,<-am]
 rcases h1 with h1 | h1 | h1
 ·rw[if_pos h1,decide_eq_true h2,h1]
  by_cases hs:en.link.size=0
  ·simp[hs]
  ·simp[hs]
 ·have h4:en.data.length=0:=h3.resolve_left (by omega);rw[if_neg (by omega),if_pos h1,decide_eq_true h4,h1]
  by_cases hs:en.link.size=0
  ·simp[hs]
  ·simp[hs]
 ·have h4:en.data.length=0:=h3.resolve_left (by omega);rw[if_neg (by omega),if_neg (by omega),if_pos h1,decide_eq_true h4,h1]
  by_cases hs:en.link.size=0
  ·simp[hs]
  ·rw[decide_eq_true (by omega:1<=en.link.size)];simp[hs]
theorem sD (S:Nat->Prop) (en:bu) (v:Value) (w:World) (hd:cl S w v en.data) (hok:jk en) (hps:en.path.size<=16777216):Calls Tryz.prog 67 #[ox v en] w fun e w'=>e= .returned (.bool (bW en))/\Below w.heap.size w w':=by
 obtain⟨a,cap,rfl,hc,hm⟩:=hd.slice;unfold maxLen at hm;have HPS:=aa hps;have hlk:=hok.lnk;unfold maxLen at hlk;clear hok;unfold ox
 cases hv:bB (bl en.path)
 ·have HV:=aa hv;have HF:=aa (show bW en=false by unfold bW; rw[hv]; rfl);clear hv
  go_enter Tryz.func67,Tryz.ntmps67
  go_wp2_with fail;obtain⟨W,hW⟩: ∃W,W=w.alloc (.cells #[.string en.path, .int .i64 en.kind, .int .i64 en.mode, .int .i64 en.time, .slice a en.data.length cap, .string en.link] 30):=⟨_,rfl⟩;rw[<-hW];have HBW:=aa (show Below w.heap.size w W by rw[hW]; exact(Below.refl _ _).alloc (Nat.le_refl _) _);have HBX:=aa (show W.heap[w.heap.size]? =some (.cells #[.string en.path, .int .i64 en.kind, .int .i64 en.mode, .int .i64 en.time, .slice a en.data.length cap, .string en.link] 30 (0,0)) by rw[hW]; exact dY w _)
  clear hW;refine(cw en.path false _ HPS.out HV.out).mono ?_;rintro e w1 ⟨rfl,hb1⟩;have HB1:=aa (ag HBW.out hb1);clear hb1;go_wp2_with fail;go_ret;exact⟨au (by rw[HF.out]),HB1.out⟩
 have HV:=aa hv
 by_cases h1:en.mode<0
 ·have e1:decide (en.mode<0)=true:=by simp[h1]
  have HF:=aa (show bW en=false by unfold bW gZ; rw[decide_eq_false (by omega: ¬0<=en.mode)]; simp);clear hv
  go_enter Tryz.func67,Tryz.ntmps67
  go_wp2_with fail;obtain⟨W,hW⟩: ∃W,W=w.alloc (.cells #[.string en.path, .int .i64 en.kind, .int .i64 en.mode, .int .i64 en.time, .slice a en.data.length cap, .string en.link] 30):=⟨_,rfl⟩;rw[<-hW];have HBW:=aa (show Below w.heap.size w W by rw[hW]; exact(Below.refl _ _).alloc (Nat.le_refl _) _);have HBX:=aa (show W.heap[w.heap.size]? =some (.cells #[.string en.path, .int .i64 en.kind, .int .i64 en.mode, .int .i64 en.time, .slice a en.data.length cap, .string en.link] 30 (0,0)) by rw[hW]; exact dY w _)
  clear hW;refine(cw en.path true _ HPS.out HV.out).mono ?_;rintro e w1 ⟨rfl,hb1⟩;have HB1:=aa (ag HBW.out hb1);have HX1:=aa ((hb1.block w.heap.size (eS HBX.out)).trans HBX.out);clear hb1;have c0:=ai (k:=0) HX1.out;have c1:=ai (k:=1) HX1.out;have c2:=ai (k:=2) HX1.out;have c3:=ai (k:=3) HX1.out;have c4:=ai (k:=4) HX1.out;have c5:=ai (k:=5) HX1.out
  simp only[eB]at c0 c1 c2 c3 c4 c5;go_wp2_with fail;go_ret;exact⟨au (by rw[HF.out]),HB1.out⟩
 have e1:decide (en.mode<0)=false:=by simp[h1]
 by_cases h2:511<en.mode
 ·have e2:decide (511<en.mode)=true:=by simp[h2]
  have HF:=aa (show bW en=false by unfold bW gZ; rw[decide_eq_false (by omega: ¬en.mode<=511)]; simp);clear hv
  go_enter Tryz.func67,Tryz.ntmps67
  go_wp2_with fail;obtain⟨W,hW⟩: ∃W,W=w.alloc (.cells #[.string en.path, .int .i64 en.kind, .int .i64 en.mode, .int .i64 en.time, .slice a en.data.length cap, .string en.link] 30):=⟨_,rfl⟩;rw[<-hW];have HBW:=aa (show Below w.heap.size w W by rw[hW]; exact(Below.refl _ _).alloc (Nat.le_refl _) _);have HBX:=aa (show W.heap[w.heap.size]? =some (.cells #[.string en.path, .int .i64 en.kind, .int .i64 en.mode, .int .i64 en.time, .slice a en.data.length cap, .string en.link] 30 (0,0)) by rw[hW]; exact dY w _)
  clear hW;refine(cw en.path true _ HPS.out HV.out).mono ?_;rintro e w1 ⟨rfl,hb1⟩;have HB1:=aa (ag HBW.out hb1);have HX1:=aa ((hb1.block w.heap.size (eS HBX.out)).trans HBX.out);clear hb1;have c0:=ai (k:=0) HX1.out;have c1:=ai (k:=1) HX1.out;have c2:=ai (k:=2) HX1.out;have c3:=ai (k:=3) HX1.out;have c4:=ai (k:=4) HX1.out;have c5:=ai (k:=5) HX1.out
  simp only[eB]at c0 c1 c2 c3 c4 c5;go_wp2_with fail;go_ret;exact⟨au (by rw[HF.out]),HB1.out⟩
 have e2:decide (511<en.mode)=false:=by simp[h2]
 by_cases h3:en.time<0
 ·have e3:decide (en.time<0)=true:=by simp[h3]
  have HF:=aa (show bW en=false by unfold bW gZ; rw[decide_eq_false (by omega: ¬0<=en.time)]; simp);clear hv
  go_enter Tryz.func67,Tryz.ntmps67
  go_wp2_with fail;obtain⟨W,hW⟩: ∃W,W=w.alloc (.cells #[.string en.path, .int .i64 en.kind, .int .i64 en.mode, .int .i64 en.time, .slice a en.data.length cap, .string en.link] 30):=⟨_,rfl⟩;rw[<-hW];have HBW:=aa (show Below w.heap.size w W by rw[hW]; exact(Below.refl _ _).alloc (Nat.le_refl _) _);have HBX:=aa (show W.heap[w.heap.size]? =some (.cells #[.string en.path, .int .i64 en.kind, .int .i64 en.mode, .int .i64 en.time, .slice a en.data.length cap, .string en.link] 30 (0,0)) by rw[hW]; exact dY w _)
  clear hW;refine(cw en.path true _ HPS.out HV.out).mono ?_;rintro e w1 ⟨rfl,hb1⟩;have HB1:=aa (ag HBW.out hb1);have HX1:=aa ((hb1.block w.heap.size (eS HBX.out)).trans HBX.out);clear hb1;have c0:=ai (k:=0) HX1.out;have c1:=ai (k:=1) HX1.out;have c2:=ai (k:=2) HX1.out;have c3:=ai (k:=3) HX1.out;have c4:=ai (k:=4) HX1.out;have c5:=ai (k:=5) HX1.out
  simp only[eB]at c0 c1 c2 c3 c4 c5;go_wp2_with fail;go_ret;exact⟨au (by rw[HF.out]),HB1.out⟩
 have e3:decide (en.time<0)=false:=by simp[h3]
 by_cases h4:en.kind<1
 ·have e4:decide (en.kind<1)=true:=by simp[h4]
  have HF:=aa (show bW en=false by unfold bW dZ; rw[if_neg (by omega),if_neg (by omega),if_neg (by omega)]; simp);clear hv
  go_enter Tryz.func67,Tryz.ntmps67
  go_wp2_with fail;obtain⟨W,hW⟩: ∃W,W=w.alloc (.cells #[.string en.path, .int .i64 en.kind, .int .i64 en.mode, .int .i64 en.time, .slice a en.data.length cap, .string en.link] 30):=⟨_,rfl⟩;rw[<-hW];have HBW:=aa (show Below w.heap.size w W by rw[hW]; exact(Below.refl _ _).alloc (Nat.le_refl _) _);have HBX:=aa (show W.heap[w.heap.size]? =some (.cells #[.string en.path, .int .i64 en.kind, .int .i64 en.mode, .int .i64 en.time, .slice a en.data.length cap, .string en.link] 30 (0,0)) by rw[hW]; exact dY w _)
  clear hW;refine(cw en.path true _ HPS.out HV.out).mono ?_;rintro e w1 ⟨rfl,hb1⟩;have HB1:=aa (ag HBW.out hb1);have HX1:=aa ((hb1.block w.heap.size (eS HBX.out)).trans HBX.out);clear hb1;have c0:=ai (k:=0) HX1.out;have c1:=ai (k:=1) HX1.out;have c2:=ai (k:=2) HX1.out;have c3:=ai (k:=3) HX1.out;have c4:=ai (k:=4) HX1.out;have c5:=ai (k:=5) HX1.out
  simp only[eB]at c0 c1 c2 c3 c4 c5;go_wp2_with fail;go_ret;exact⟨au (by rw[HF.out]),HB1.out⟩
 have e4:decide (en.kind<1)=false:=by simp[h4]
 by_cases h5:3<en.kind
 ·have e5:decide (3<en.kind)=true:=by simp[h5]
  have HF:=aa (show bW en=false by unfold bW dZ; rw[if_neg (by omega),if_neg (by omega),if_neg (by omega)]; simp);clear hv
  go_enter Tryz.func67,Tryz.ntmps67
  go_wp2_with fail;obtain⟨W,hW⟩: ∃W,W=w.alloc (.cells #[.string en.path, .int .i64 en.kind, .int .i64 en.mode, .int .i64 en.time, .slice a en.data.length cap, .string en.link] 30):=⟨_,rfl⟩;rw[<-hW];have HBW:=aa (show Below w.heap.size w W by rw[hW]; exact(Below.refl _ _).alloc (Nat.le_refl _) _);have HBX:=aa (show W.heap[w.heap.size]? =some (.cells #[.string en.path, .int .i64 en.kind, .int .i64 en.mode, .int .i64 en.time, .slice a en.data.length cap, .string en.link] 30 (0,0)) by rw[hW]; exact dY w _)
  clear hW;refine(cw en.path true _ HPS.out HV.out).mono ?_;rintro e w1 ⟨rfl,hb1⟩;have HB1:=aa (ag HBW.out hb1);have HX1:=aa ((hb1.block w.heap.size (eS HBX.out)).trans HBX.out);clear hb1;have c0:=ai (k:=0) HX1.out;have c1:=ai (k:=1) HX1.out;have c2:=ai (k:=2) HX1.out;have c3:=ai (k:=3) HX1.out;have c4:=ai (k:=4) HX1.out;have c5:=ai (k:=5) HX1.out
  simp only[eB]at c0 c1 c2 c3 c4 c5;go_wp2_with fail;go_ret;exact⟨au (by rw[HF.out]),HB1.out⟩
 have e5:decide (3<en.kind)=false:=by simp[h5]
 have HHD:=aa (show bW en=dZ en by
  unfold bW gZ;rw[hv,decide_eq_true (by omega:0<=en.mode),decide_eq_true (by omega:en.mode<=511),decide_eq_true (by omega:0<=en.time)]; simp)
 by_cases h6:en.kind≠1/\0<en.data.length
 ·have e6:(en.kind != 1)=true:=by simp[h6.1]
  have e7:decide (0<en.data.length)=true:=by simp[h6.2]
  have e8:0<en.data.length:=h6.2;have HF:=aa (show bW en=false by
   rw[HHD.out]; unfold dZ; rw[if_neg h6.1,decide_eq_false (by omega: ¬en.data.length=0)]; simp)
  clear hv h6
  go_enter Tryz.func67,Tryz.ntmps67
  go_wp2_with fail;obtain⟨W,hW⟩: ∃W,W=w.alloc (.cells #[.string en.path, .int .i64 en.kind, .int .i64 en.mode, .int .i64 en.time, .slice a en.data.length cap, .string en.link] 30):=⟨_,rfl⟩;rw[<-hW];have HBW:=aa (show Below w.heap.size w W by rw[hW]; exact(Below.refl _ _).alloc (Nat.le_refl _) _);have HBX:=aa (show W.heap[w.heap.size]? =some (.cells #[.string en.path, .int .i64 en.kind, .int .i64 en.mode, .int .i64 en.time, .slice a en.data.length cap, .string en.link] 30 (0,0)) by rw[hW]; exact dY w _)
  clear hW;refine(cw en.path true _ HPS.out HV.out).mono ?_;rintro e w1 ⟨rfl,hb1⟩;have HB1:=aa (ag HBW.out hb1);have HX1:=aa ((hb1.block w.heap.size (eS HBX.out)).trans HBX.out);clear hb1;have c0:=ai (k:=0) HX1.out;have c1:=ai (k:=1) HX1.out;have c2:=ai (k:=2) HX1.out;have c3:=ai (k:=3) HX1.out;have c4:=ai (k:=4) HX1.out;have c5:=ai (k:=5) HX1.out
  simp only[eB]at c0 c1 c2 c3 c4 c5;go_wp2_with fail;go_ret;exact⟨au (by rw[HF.out]),HB1.out⟩
 by_cases h7:1048576<en.data.length
 ·have hk1:en.kind=1:=by
   by_cases hk:en.kind=1
   ·exact hk
   ·exact absurd ⟨hk,by omega⟩ h6
  have e6:(en.kind != 1)=false:=by simp[hk1]
  have e7:decide (1048576<en.data.length)=true:=by simp[h7]
  have HF:=aa (show bW en=false by
   rw[HHD.out]; unfold dZ; rw[if_pos hk1,decide_eq_false (by omega: ¬en.data.length<=1048576)]; simp)
  clear hv h6 hk1
  go_enter Tryz.func67,Tryz.ntmps67
  go_wp2_with fail;obtain⟨W,hW⟩: ∃W,W=w.alloc (.cells #[.string en.path, .int .i64 en.kind, .int .i64 en.mode, .int .i64 en.time, .slice a en.data.length cap, .string en.link] 30):=⟨_,rfl⟩;rw[<-hW];have HBW:=aa (show Below w.heap.size w W by rw[hW]; exact(Below.refl _ _).alloc (Nat.le_refl _) _);have HBX:=aa (show W.heap[w.heap.size]? =some (.cells #[.string en.path, .int .i64 en.kind, .int .i64 en.mode, .int .i64 en.time, .slice a en.data.length cap, .string en.link] 30 (0,0)) by rw[hW]; exact dY w _)
  clear hW;refine(cw en.path true _ HPS.out HV.out).mono ?_;rintro e w1 ⟨rfl,hb1⟩;have HB1:=aa (ag HBW.out hb1);have HX1:=aa ((hb1.block w.heap.size (eS HBX.out)).trans HBX.out);clear hb1;have c0:=ai (k:=0) HX1.out;have c1:=ai (k:=1) HX1.out;have c2:=ai (k:=2) HX1.out;have c3:=ai (k:=3) HX1.out;have c4:=ai (k:=4) HX1.out;have c5:=ai (k:=5) HX1.out
  simp only[eB]at c0 c1 c2 c3 c4 c5;go_wp2_with fail;go_ret;exact⟨au (by rw[HF.out]),HB1.out⟩
 have e7:decide (1048576<en.data.length)=false:=by simp; omega
 have HKD:=aa (show(en.kind=1\/en.kind=2\/en.kind=3)/\en.data.length<=1048576/\(en.kind=1\/en.data.length=0)from⟨by omega,by omega,by
  by_cases hk:en.kind=1
  ·exact .inl hk
  ·exact .inr (by rcases Nat.eq_zero_or_pos en.data.length with h | h; exact h; exact absurd ⟨hk,h⟩ h6)⟩)
 clear hv
 by_cases hk1:en.kind=1
 ·have e6:(en.kind != 1)=false:=by simp[hk1]
  clear h6 hk1
  go_enter Tryz.func67,Tryz.ntmps67
  go_wp2_with fail;obtain⟨W,hW⟩: ∃W,W=w.alloc (.cells #[.string en.path, .int .i64 en.kind, .int .i64 en.mode, .int .i64 en.time, .slice a en.data.length cap, .string en.link] 30):=⟨_,rfl⟩;rw[<-hW];have HBW:=aa (show Below w.heap.size w W by rw[hW]; exact(Below.refl _ _).alloc (Nat.le_refl _) _);have HBX:=aa (show W.heap[w.heap.size]? =some (.cells #[.string en.path, .int .i64 en.kind, .int .i64 en.mode, .int .i64 en.time, .slice a en.data.length cap, .string en.link] 30 (0,0)) by rw[hW]; exact dY w _)
  clear hW;refine(cw en.path true _ HPS.out HV.out).mono ?_;rintro e w1 ⟨rfl,hb1⟩;have HB1:=aa (ag HBW.out hb1);have HX1:=aa ((hb1.block w.heap.size (eS HBX.out)).trans HBX.out);clear hb1;have c0:=ai (k:=0) HX1.out;have c1:=ai (k:=1) HX1.out;have c2:=ai (k:=2) HX1.out;have c3:=ai (k:=3) HX1.out;have c4:=ai (k:=4) HX1.out;have c5:=ai (k:=5) HX1.out
  simp only[eB]at c0 c1 c2 c3 c4 c5;go_wp2_with fail
  go_loopw [3] (fun i wr=> ∃k:Nat,k<=en.link.size/\i= .int .i64 k/\(∀j b,j<k->(bl en.link)[j]? =some b->b≠0)/\Below w1.heap.size w1 wr) (fun i _=>en.link.size-(intOf i).toNat)
  case atStart=>exact⟨0,Nat.zero_le _,rfl,fun _ _ h=>absurd h (Nat.not_lt_zero _),Below.refl _ _⟩
  case round=>
   obtain⟨k,hk,rfl,hz,hbr⟩:=hrel;have HZ:=aa hz;have HBR:=aa hbr;have HXR:=aa ((hbr.block w.heap.size (eS HX1.out)).trans HX1.out);clear hz hbr c0 c1 c2 c3 c4 c5;have c0:=ai (k:=0) HXR.out;have c1:=ai (k:=1) HXR.out;have c2:=ai (k:=2) HXR.out;have c3:=ai (k:=3) HXR.out;have c4:=ai (k:=4) HXR.out;have c5:=ai (k:=5) HXR.out;simp only[eB]at c0 c1 c2 c3 c4 c5
   by_cases hlt:k<en.link.size
   ·have HBY:=aa (show(bl en.link)[k]? =some en.link[k] by rw[List.getElem?_eq_getElem (by rw[<-am]; exact hlt)]; rfl)
    by_cases h0:(en.link[k]'hlt).toNat=0
    ·have HF:=aa (show bW en=false by
      rw[HHD.out];unfold dZ;have hne: ¬en.link.size=0:=by omega
      have hct:(bl en.link).contains 0=true:=by
       have h9:en.link[k]'hlt=0:=UInt8.toNat_inj.1 h0;have:=HBY.out;rw[h9]at this;exact List.contains_iff_mem.2 (List.mem_of_getElem? this)
      rw[decide_eq_false hne];unfold iQ;rw[hct]
      simp)
     go_wp2_with fail;go_ret;exact⟨au (by rw[HF.out]),ag HB1.out HBR.out⟩
    ·have HNZ:=aa h0;go_wp2_with fail
     go_roundw
     case rel=>
      refine⟨k+1,by omega,by go_num,fun j b hj hb e=> ?_,HBR.out⟩
      by_cases hjk:j=k
      ·subst hjk;rw[HBY.out]at hb;have:=Option.some.inj hb;subst this;exact HNZ.out (by rw[e]; rfl)
      ·exact HZ.out j b (by omega) hb e
     case measure=>simp[intOf]; omega
   ·have hk2:k=en.link.size:=by omega
    have HNO:=aa (show(bl en.link).contains 0=false from oO.2 (fun j b hj e=>by
     have h1:=(List.getElem?_eq_some_iff.1 hj).1;exact HZ.out j b (by rw[hk2,am]; exact h1) hj e))
    have HVK:=aa (uW HKD.out HNO.out);have HEM:=aa (show en.link.toList.isEmpty= !decide (en.link.size≠0) by rw[gN]; by_cases h:en.link.size=0<;> simp[h,ks.1,<-ks]);obtain⟨b3,hb3⟩: ∃b,decide (en.kind=3)=b:=⟨_,rfl⟩;obtain⟨be,hbe⟩: ∃b,decide (en.link.size≠0)=b:=⟨_,rfl⟩;obtain⟨b5,hb5⟩: ∃b,decide (en.link.size<=512)=b:=⟨_,rfl⟩
    have f3:(en.kind == 3)=b3:=by rw[<-hb3]; rfl
    have fe:=HEM.out;rw[hbe]at fe;have HRS:=aa (show bW en=((b3 == be) && b5) by rw[HHD.out,HVK.out,hb3,hbe,hb5]);have HB5:=aa hb5;clear hbe hlt hk hb3 hb5
    cases b3<;> cases be<;> simp only[Bool.not_true,Bool.not_false]at fe<;> (go_wp2_with fail)<;> (go_ret)<;> exact⟨au (by rw[HRS.out,<-HB5.out]; simp[show(((en.link.size:Nat):Int)<=512<->en.link.size<=512)from by omega]),ag HB1.out HBR.out⟩
 ·have e6:(en.kind != 1)=true:=by simp[hk1]
  have e8:decide (0<en.data.length)=false:=by rw[decide_eq_false_iff_not]; exact fun h=>h6 ⟨hk1,h⟩
  clear h6 hk1
  go_enter Tryz.func67,Tryz.ntmps67
  go_wp2_with fail;obtain⟨W,hW⟩: ∃W,W=w.alloc (.cells #[.string en.path, .int .i64 en.kind, .int .i64 en.mode, .int .i64 en.time, .slice a en.data.length cap, .string en.link] 30):=⟨_,rfl⟩;rw[<-hW];have HBW:=aa (show Below w.heap.size w W by rw[hW]; exact(Below.refl _ _).alloc (Nat.le_refl _) _);have HBX:=aa (show W.heap[w.heap.size]? =some (.cells #[.string en.path, .int .i64 en.kind, .int .i64 en.mode, .int .i64 en.time, .slice a en.data.length cap, .string en.link] 30 (0,0)) by rw[hW]; exact dY w _)
  clear hW;refine(cw en.path true _ HPS.out HV.out).mono ?_;rintro e w1 ⟨rfl,hb1⟩;have HB1:=aa (ag HBW.out hb1);have HX1:=aa ((hb1.block w.heap.size (eS HBX.out)).trans HBX.out);clear hb1;have c0:=ai (k:=0) HX1.out;have c1:=ai (k:=1) HX1.out;have c2:=ai (k:=2) HX1.out;have c3:=ai (k:=3) HX1.out;have c4:=ai (k:=4) HX1.out;have c5:=ai (k:=5) HX1.out
  simp only[eB]at c0 c1 c2 c3 c4 c5;go_wp2_with fail
  go_loopw [3] (fun i wr=> ∃k:Nat,k<=en.link.size/\i= .int .i64 k/\(∀j b,j<k->(bl en.link)[j]? =some b->b≠0)/\Below w1.heap.size w1 wr) (fun i _=>en.link.size-(intOf i).toNat)
  case atStart=>exact⟨0,Nat.zero_le _,rfl,fun _ _ h=>absurd h (Nat.not_lt_zero _),Below.refl _ _⟩
  case round=>
   obtain⟨k,hk,rfl,hz,hbr⟩:=hrel;have HZ:=aa hz;have HBR:=aa hbr;have HXR:=aa ((hbr.block w.heap.size (eS HX1.out)).trans HX1.out);clear hz hbr c0 c1 c2 c3 c4 c5;have c0:=ai (k:=0) HXR.out;have c1:=ai (k:=1) HXR.out;have c2:=ai (k:=2) HXR.out;have c3:=ai (k:=3) HXR.out;have c4:=ai (k:=4) HXR.out;have c5:=ai (k:=5) HXR.out;simp only[eB]at c0 c1 c2 c3 c4 c5
   by_cases hlt:k<en.link.size
   ·have HBY:=aa (show(bl en.link)[k]? =some en.link[k] by rw[List.getElem?_eq_getElem (by rw[<-am]; exact hlt)]; rfl)
    by_cases h0:(en.link[k]'hlt).toNat=0
    ·have HF:=aa (show bW en=false by
      rw[HHD.out];unfold dZ;have hne: ¬en.link.size=0:=by omega
      have hct:(bl en.link).contains 0=true:=by
       have h9:en.link[k]'hlt=0:=UInt8.toNat_inj.1 h0;have:=HBY.out;rw[h9]at this;exact List.contains_iff_mem.2 (List.mem_of_getElem? this)
      rw[decide_eq_false hne];unfold iQ;rw[hct]
      simp)
     go_wp2_with fail;go_ret;exact⟨au (by rw[HF.out]),ag HB1.out HBR.out⟩
    ·have HNZ:=aa h0;go_wp2_with fail
     go_roundw
     case rel=>
      refine⟨k+1,by omega,by go_num,fun j b hj hb e=> ?_,HBR.out⟩
      by_cases hjk:j=k
      ·subst hjk;rw[HBY.out]at hb;have:=Option.some.inj hb;subst this;exact HNZ.out (by rw[e]; rfl)
      ·exact HZ.out j b (by omega) hb e
     case measure=>simp[intOf]; omega
   ·have hk2:k=en.link.size:=by omega
    have HNO:=aa (show(bl en.link).contains 0=false from oO.2 (fun j b hj e=>by
     have h1:=(List.getElem?_eq_some_iff.1 hj).1;exact HZ.out j b (by rw[hk2,am]; exact h1) hj e))
    have HVK:=aa (uW HKD.out HNO.out);have HEM:=aa (show en.link.toList.isEmpty= !decide (en.link.size≠0) by rw[gN]; by_cases h:en.link.size=0<;> simp[h,ks.1,<-ks]);obtain⟨b3,hb3⟩: ∃b,decide (en.kind=3)=b:=⟨_,rfl⟩;obtain⟨be,hbe⟩: ∃b,decide (en.link.size≠0)=b:=⟨_,rfl⟩;obtain⟨b5,hb5⟩: ∃b,decide (en.link.size<=512)=b:=⟨_,rfl⟩
    have f3:(en.kind == 3)=b3:=by rw[<-hb3]; rfl
    have fe:=HEM.out;rw[hbe]at fe;have HRS:=aa (show bW en=((b3 == be) && b5) by rw[HHD.out,HVK.out,hb3,hbe,hb5]);have HB5:=aa hb5;clear hbe hlt hk hb3 hb5
    cases b3<;> cases be<;> simp only[Bool.not_true,Bool.not_false]at fe<;> (go_wp2_with fail)<;> (go_ret)<;> exact⟨au (by rw[HRS.out,<-HB5.out]; simp[show(((en.link.size:Nat):Int)<=512<->en.link.size<=512)from by omega]),ag HB1.out HBR.out⟩
end Go.Proofs.YtnjkpcalgoefhaaGreatDoor
namespace Go.Proofs.YtnjkpcalgoefhaaGreatDoor
open Go.RowKit
theorem gE (c:Int) (w:World) (h0:0<=c) (h1:c<=255):Calls Tryz.prog 81 #[.int .u8 c] w fun e w'=>e= .returned (.int .i64 (fZ c))/\w=w':=by
 by_cases h:c=47
 ·subst h
  go_enter Tryz.func81,Tryz.ntmps81
  go_wp2
  go_ret;exact⟨rfl,rfl⟩
 ·have hr:fZ c=c:=if_neg h;have HR:=aa hr;clear hr;have h2:(c == 47)=false:=by simpa using h
  go_enter Tryz.func81,Tryz.ntmps81
  go_wp2
  go_ret;exact⟨bp HR.out.symm,rfl⟩
theorem qg (a b:ByteArray) (w:World) (ha:a.size<=65536):
  Calls Tryz.prog 45 #[.string a, .string b] w fun e w'=>e= .returned (.int .i64 (bV (bl a) (bl b)))/\Below w.heap.size w w':=by
 go_enter Tryz.func45,Tryz.ntmps45
 go_wp2_with fail
 go_loopw [5] (fun i wr=> ∃k:Nat,k<=a.size/\k<=b.size/\i= .int .i64 k/\Below w.heap.size w wr/\bV (bl a) (bl b)=bV ((bl a).drop k) ((bl b).drop k)) (fun i _=>a.size-(intOf i).toNat)
 case atStart=>exact⟨0,Nat.zero_le _,Nat.zero_le _,rfl,Below.refl _ _,rfl⟩
 case round=>
  obtain⟨k,hk1,hk2,rfl,hbw,hc⟩:=hrel;have HC:=aa hc;have HB:=aa hbw;clear hc hbw
  by_cases hla:k<a.size
  ·by_cases hlb:k<b.size
   ·have i1:(k:Int)<(a.size:Int):=by omega
    have i2:(k:Int)<(b.size:Int):=by omega
    have hla':k<(bl a).length:=by rw[<-am]; exact hla
    have hlb':k<(bl b).length:=by rw[<-am]; exact hlb
    have hr1:=(a[k]).toNat_lt;have hr2:=(b[k]).toNat_lt;have hxa:cZ (bl a)[k]=fZ (a[k].toNat:Int):=by rw[lJ]; exact congrArg cZ (eu a k hla).symm
    have hyb:cZ (bl b)[k]=fZ (b[k].toNat:Int):=by rw[lJ]; exact congrArg cZ (eu b k hlb).symm
    have HXA:=aa hxa;have HYB:=aa hyb;clear hxa hyb
    rcases Int.lt_trichotomy (fZ (a[k].toNat:Int)) (fZ (b[k].toNat:Int))with hxy | hxy | hxy
    ·have HXY:=aa hxy;go_wp2_with fail
     go_quiet ((go_at_call 81; refine ei (gE _ _ (by omega) (by omega))))
     go_wp2_with fail;go_ret;refine⟨bp ?_,bS HB.out _⟩;have hne:(bl a)[k]≠(bl b)[k]:=by intro e; have:=HXY.out; rw[<-HXA.out,<-HYB.out,e]at this; omega
     rw[HC.out,od hla' hlb' hne,HXA.out,HYB.out,Lib.compareInt,if_pos HXY.out]
    ·have e1: ¬fZ (a[k].toNat:Int)<fZ (b[k].toNat:Int):=by omega
     have e2: ¬fZ (b[k].toNat:Int)<fZ (a[k].toNat:Int):=by omega
     have HXY:=aa hxy;clear hxy;go_wp2_with fail
     go_quiet ((go_at_call 81; refine ei (gE _ _ (by omega) (by omega))))
     go_wp2_with fail;have hW: ∃W,W=wr.drewN nq/\Below w.heap.size w W:=⟨_,rfl,bS HB.out nq⟩;obtain⟨W,hWe,hWb⟩:=hW;rw[<-hWe];have HB2:=aa hWb;clear hWe hWb HB
     go_quiet ((go_at_call 81; refine ei (gE _ _ (by omega) (by omega))))
     go_wp2_with fail
     go_roundw
     case rel=>
      refine⟨k+1,by omega,by omega,by go_num,bS HB2.out _, ?_⟩;rw[HC.out];exact tf hla' hlb' (go (HXA.out.trans (HXY.out.trans HYB.out.symm)))
     case measure=>simp[intOf]; omega
    ·have e1: ¬fZ (a[k].toNat:Int)<fZ (b[k].toNat:Int):=by omega
     have HXY:=aa hxy;go_wp2_with fail
     go_quiet ((go_at_call 81; refine ei (gE _ _ (by omega) (by omega))))
     go_wp2_with fail;have hW: ∃W,W=wr.drewN nq/\Below w.heap.size w W:=⟨_,rfl,bS HB.out nq⟩;obtain⟨W,hWe,hWb⟩:=hW;rw[<-hWe];have HB2:=aa hWb;clear hWe hWb HB
     go_quiet ((go_at_call 81; refine ei (gE _ _ (by omega) (by omega))))
     go_wp2_with fail;go_ret;refine⟨bp ?_,bS HB2.out _⟩;have hne:(bl a)[k]≠(bl b)[k]:=by intro e; have:=HXY.out; rw[<-HXA.out,<-HYB.out,e]at this; omega
     rw[HC.out,od hla' hlb' hne,HXA.out,HYB.out,Lib.compareInt,if_neg (by have:=HXY.out; omega),if_pos HXY.out]
   ·obtain rfl:k=b.size:=by omega
    have i2:decide ((b.size:Int)<(b.size:Int))=false:=by simp
    have i3:(b.size:Int)<(a.size:Int):=by omega
    go_wp2_with fail;go_ret;refine⟨bp ?_,HB.out⟩;rw[HC.out,nD (by rw[<-am]; omega) (by rw[<-am]; exact Nat.le_refl _) (.inr (by rw[<-am])),<-am,<-am,Lib.compareInt,if_neg (by omega),if_pos (by omega)]
  ·obtain rfl:k=a.size:=by omega
   rcases Nat.lt_or_ge a.size b.size with hlb | hlb
   ·have i3:(a.size:Int)<(b.size:Int):=by omega
    go_wp2_with fail;go_ret;refine⟨bp ?_,HB.out⟩;rw[HC.out,nD (by rw[<-am]; exact Nat.le_refl _) (by rw[<-am]; omega) (.inl (by rw[<-am])),<-am,<-am,Lib.compareInt,if_pos (by omega)]
   ·obtain heq:a.size=b.size:=by omega
    have HEQ:=aa heq;have i3: ¬(a.size:Int)<(b.size:Int):=by omega
    have i4: ¬(b.size:Int)<(a.size:Int):=by omega
    clear heq;go_wp2_with fail;go_ret;refine⟨bp ?_,HB.out⟩;rw[HC.out,nD (by rw[<-am]; exact Nat.le_refl _) (by rw[<-am]; omega) (.inl (by rw[<-am])),<-am,<-am,Lib.compareInt,if_neg (by omega),if_neg (by omega)]
open Go.RowKit Go.Maps
theorem bo.take {α:Type} {R:List Value->α->Prop} {sz:Nat} (hs: ∀c x,R c x->c.length=sz): ∀ {xs:List α} {cells:List Value} (k:Nat),bo R cells xs->k<=xs.length->bo R (cells.take (k*sz)) (xs.take k)
 | _,_,0,_,_=>by simp[bo]
 | [],_,k+1,_,h=>by simp at h
 | x::xs,cells,k+1,⟨c,rest,hc,hx,hr⟩,h=>by
  subst hc;have hl:=hs c x hx;refine⟨c,rest.take (k*sz), ?_,hx,bo.take hs k hr (by simpa using h)⟩;rw[List.take_append,hl,List.take_of_length_le (by rw[hl,Nat.succ_mul]; omega),Nat.succ_mul]
  congr 2; omega
theorem aY.takeN {α:Type} {S:Nat->Prop} {w:World} {sz:Nat} {R:List Value->α->Prop} {a:Option Addr} {n cap:Nat} {xs:List α} (hs: ∀c x,R c x->c.length=sz) (h:aY S w sz R (.slice a n cap) xs) {k:Nat} (hk:k<=xs.length):aY S w sz R (.slice a k cap) (xs.take k):=by
 obtain⟨cells,⟨hl,a',cap',hv,hn,hm,h0⟩,hr⟩:=h
 cases hv
 have hlt:(xs.take k).length=k:=by rw[List.length_take]; omega
 refine⟨cells.take (k*sz),⟨?_,a,cap,by rw[hlt],by omega,hm, ?_⟩,bo.take hs k hr hk⟩
 ·rw[List.length_take,hl,hlt];exact Nat.min_eq_left (Nat.mul_le_mul_right _ hk)
 ·rcases h0 with h0 | ⟨b,o,ha,hb,hc⟩
  ·exact .inl (by omega)
  ·refine .inr ⟨b,o,ha,hb,fun j u hj=>hc j u ?_⟩;rw[List.getElem?_take]at hj
   split at hj
   ·exact hj
   ·cases hj
theorem gR (S:Nat->Prop) (en:bu) (v:Value) (b:Bool) (w:World) (hd:cl S w v en.data) (hok:jk en) (hps:en.path.size<=16777216) (h:bW en=b):Calls Tryz.prog 67 #[ox v en] w fun e w'=>e= .returned (.bool b)/\Below w.heap.size w w':=by
 rw[<-h]; exact sD S en v w hd hok hps
theorem ng (a b:ByteArray) (o:Int) (w:World) (ha:a.size<=65536) (h:bV (bl a) (bl b)=o):Calls Tryz.prog 45 #[.string a, .string b] w fun e w'=>e= .returned (.int .i64 o)/\Below w.heap.size w w':=by
 rw[<-h]; exact qg a b w ha
theorem nh (s q:ByteArray) (w:World) (hs:s.size<=65000) (hq:q=⟨(aS (bl s)).toArray⟩):Calls Tryz.prog 69 #[.string s] w fun e w'=>e= .returned (.string q)/\Below w.heap.size w w':=by
 rw[hq]; exact pg s w hs
theorem uy (S:Nat->Prop) (L:List bu) (v:Value) (p:ByteArray) (x:Int) (w:World) (hv:bR S w v L) (hx:gc L (bl p)=x):Calls Tryz.prog 68 #[v, .string p] w fun e w'=>e= .returned (.int .i64 x)/\Below w.heap.size w w':=by
 rw[<-hx]; exact yV S L v p w hv
theorem rB {e:bu} (h:bW e=true):e.path.size<=65000:=by
 have:=pI (bY h);rw[am]; omega
theorem ux (S:Nat->Prop) (L:List bu) (v:Value) (w:World) (hv:bR S w v L) (hps: ∀e∈L,e.path.size<=16777216):Calls Tryz.prog 35 #[v] w fun e w'=>e= .returned (.int .i64 (bZ L))/\Below w.heap.size w w':=by
 have HV:=aa hv;obtain⟨a,cap,rfl,hc,hm,-⟩:=aY.shape hv kJ.len;unfold maxLen at hm;obtain⟨n,hn⟩: ∃n,n=L.length:=⟨_,rfl⟩;have HN:=aa hn;rw[<-hn]at hc HV ⊢;clear hv
 by_cases hbig:4096<n
 ·have hbi:(4096:Int)<(n:Int):=by omega
  have HC:=aa (qq (by rw[<-hn]; exact hbig));clear hbig hn
  go_enter Tryz.func35,Tryz.ntmps35
  go_wp2_with fail;go_ret;exact⟨bp (by rw[HC.out]),Below.refl _ _⟩
 ·have hbi:(n:Int)<=(4096:Int):=by omega
  have HL4:=aa (show L.length<=4096 by omega);have HPS:=aa hps;clear hbig hn hps
  go_enter Tryz.func35,Tryz.ntmps35
  go_wp2_with fail
  go_loopw [11] (fun i wr=> ∃k:Nat,k<=n/\i= .int .i64 k/\Tr (L.take k)/\Below w.heap.size w wr) (fun i _=>n-(intOf i).toNat)
  case atStart=>exact⟨0,Nat.zero_le _,rfl,⟨List.Pairwise.nil,by simp,by simp⟩,Below.refl _ _⟩
  case round=>
   obtain⟨k,hk,rfl,htr,hbr⟩:=hrel;have HTR:=aa htr;have HBR:=aa hbr;clear htr hbr
   by_cases hlt:k<n
   ·obtain⟨e,he⟩: ∃e,L[k]? =some e:=⟨L[k]'(by rw[<-HN.out]; exact hlt),by simp⟩;obtain⟨b,o,dv,rfl,-,hb,hd,hok,-,q0,q1,q2,q3,q4,q5⟩:=iI (HV.out.below HBR.out) he;have HAT:=aa he;have HD:=aa hd;have HOK:=aa hok;have HPZ:=aa (HPS.out e (List.mem_of_getElem? he));obtain⟨a1,cap1,rfl,hd1,hd2⟩:=hd.slice;unfold maxLen at hd2;have hkc:k<=cap:=by omega
    have HKN:=aa (show k<=L.length by rw[<-HN.out]; omega);clear he hd hok
    cases hve:bW e
    ·have HVE:=aa hve;have HCA:=aa (show bM (L.take k) e=1 by unfold bM; rw[hve]; rfl);clear hve;go_wp2_with fail;refine aw [some 1,none,some 13,none,some 3] (by kernel_rfl) (by kernel_rfl) (by kernel_rfl) ?_;simp only[bq,List.take_succ_cons,List.take_zero,List.drop_succ_cons,List.drop_zero];obtain⟨W,hW⟩: ∃W:World,W=(wr.alloc (.cells #[.string e.path, .int .i64 e.kind, .int .i64 e.mode, .int .i64 e.time, .slice a1 e.data.length cap1, .string e.link] 30)).drew:=⟨_,rfl⟩
     rw[<-hW];have HWL:=aa (show Below wr.heap.size wr W by rw[hW]; exact((Below.refl _ _).alloc (Nat.le_refl _) _).drew);have HX:=aa (show W.heap[wr.heap.size]? =some (.cells #[.string e.path, .int .i64 e.kind, .int .i64 e.mode, .int .i64 e.time, .slice a1 e.data.length cap1, .string e.link] 30 (0,0)) by rw[hW]; exact dY wr _);have HBW:=aa (ag HBR.out HWL.out);clear hW;have c0:=ai (k:=0) HX.out
     have c1:=ai (k:=1) HX.out;have c2:=ai (k:=2) HX.out;have c3:=ai (k:=3) HX.out;have c4:=ai (k:=4) HX.out;have c5:=ai (k:=5) HX.out;simp only[eB]at c0 c1 c2 c3 c4 c5
     repeat (first | (refine az rfl ?_; simp only[Act.put,aD,aE,aF]) | (refine aI rfl (fun K hK=> ?_); go_simp; refine hK _ ?_; clear hK K))
     refine aH ?_;refine bw rfl (fun K hK=> ?_);go_wp2_with (go_at_call 67; refine(gR S e (.slice a1 e.data.length cap1) false _ (HD.out.below HWL.out) HOK.out HPZ.out HVE.out).mono ?_; rintro e7 w7 ⟨rfl,hb7⟩; have HL7:=aa (HWL.out.trans (hb7.mono HWL.out.size)); have HX7:=aa ((hb7.block wr.heap.size (eS HX.out)).trans HX.out); clear hb7 c0 c1 c2 c3 c4 c5)
     repeat (first | (refine az rfl ?_; simp only[Act.put,aD,aE,aF]) | (refine aI rfl (fun K hK=> ?_); go_simp; refine hK _ ?_; clear hK K))
     refine aH ?_;refine im rfl ?_;simp only[Act.put,aD,aE,aF]
     repeat (first | (refine az rfl ?_; simp only[Act.put,aD,aE,aF]) | (refine aI rfl (fun K hK=> ?_); go_simp; refine hK _ ?_; clear hK K))
     refine aH ?_;have HB9:=aa (ag HBR.out HL7.out);go_wp2_with fail;go_ret;exact⟨bp (by rw[dg HL4.out HTR.out HAT.out (x:=1) HCA.out (by decide)]),HB9.out⟩
    ·have HVE:=aa hve;have HPP:=aa (show e.path.size<=65000 from rB hve);obtain⟨q,hq⟩: ∃q:ByteArray,q=⟨(aS (bl e.path)).toArray⟩:=⟨_,rfl⟩;have HBQ:=aa (show bl q=aS (bl e.path) by rw[hq]; exact io _);have HQ:=aa hq;clear hve hq
     rcases Nat.eq_zero_or_pos k with hk0 | hk0
     ·have e9:decide (0<k)=false:=by simp; omega
      have e8:(k:Int)<=0:=by omega
      have HCV:=aa (show(bW e && gt (L.take k) e)=true by rw[hk0,HVE.out]; rfl);clear hk0;obtain⟨x,hx⟩: ∃x,gc (L.take k) (bl q)=x:=⟨_,rfl⟩;have HDX:=aa hx;have HCA:=aa (show bM (L.take k) e=x by unfold bM; rw[if_pos HCV.out,<-HBQ.out,hx]);clear hx;go_wp2_with fail;refine aw [some 1,none,some 13,none,some 3] (by kernel_rfl) (by kernel_rfl) (by kernel_rfl) ?_
      simp only[bq,List.take_succ_cons,List.take_zero,List.drop_succ_cons,List.drop_zero];obtain⟨W,hW⟩: ∃W:World,W=(wr.alloc (.cells #[.string e.path, .int .i64 e.kind, .int .i64 e.mode, .int .i64 e.time, .slice a1 e.data.length cap1, .string e.link] 30)).drew:=⟨_,rfl⟩;rw[<-hW];have HWL:=aa (show Below wr.heap.size wr W by rw[hW]; exact((Below.refl _ _).alloc (Nat.le_refl _) _).drew)
      have HX:=aa (show W.heap[wr.heap.size]? =some (.cells #[.string e.path, .int .i64 e.kind, .int .i64 e.mode, .int .i64 e.time, .slice a1 e.data.length cap1, .string e.link] 30 (0,0)) by rw[hW]; exact dY wr _);have HBW:=aa (ag HBR.out HWL.out);clear hW;have c0:=ai (k:=0) HX.out;have c1:=ai (k:=1) HX.out;have c2:=ai (k:=2) HX.out;have c3:=ai (k:=3) HX.out
      have c4:=ai (k:=4) HX.out;have c5:=ai (k:=5) HX.out;simp only[eB]at c0 c1 c2 c3 c4 c5
      repeat (first | (refine az rfl ?_; simp only[Act.put,aD,aE,aF]) | (refine aI rfl (fun K hK=> ?_); go_simp; refine hK _ ?_; clear hK K))
      refine aH ?_;refine bw rfl (fun K hK=> ?_);go_wp2_with (go_at_call 67; refine(gR S e (.slice a1 e.data.length cap1) true _ (HD.out.below HWL.out) HOK.out HPZ.out HVE.out).mono ?_; rintro e7 w7 ⟨rfl,hb7⟩; have HL7:=aa (HWL.out.trans (hb7.mono HWL.out.size)); have HX7:=aa ((hb7.block wr.heap.size (eS HX.out)).trans HX.out); clear hb7 c0 c1 c2 c3 c4 c5)
      repeat (first | (refine az rfl ?_; simp only[Act.put,aD,aE,aF]) | (refine aI rfl (fun K hK=> ?_); go_simp; refine hK _ ?_; clear hK K))
      refine aH ?_;refine im rfl ?_;simp only[Act.put,aD,aE,aF]
      repeat (first | (refine az rfl ?_; simp only[Act.put,aD,aE,aF]) | (refine aI rfl (fun K hK=> ?_); go_simp; refine hK _ ?_; clear hK K))
      refine aH ?_;go_wp2_with fail;refine cI (fun w'=>w'.cell? ⟨wr.heap.size,0,none⟩=some (.string e.path)) (by kernel_rfl) ?_;obtain⟨V,hV⟩: ∃V:World,V=(w7).drew:=⟨_,rfl⟩;rw[<-hV];have HLV:=aa (show Below wr.heap.size wr V by rw[hV]; exact HL7.out.trans ((Below.refl (w7).heap.size (w7)).drew.mono HL7.out.size));have HXV:=aa (show V.heap[wr.heap.size]? =some (.cells #[.string e.path, .int .i64 e.kind, .int .i64 e.mode, .int .i64 e.time, .slice a1 e.data.length cap1, .string e.link] 30 (0,0)) by rw[hV]; exact HX7.out)
      clear hV;have hS1:=ai (k:=0) HXV.out;simp only[List.getElem?_toArray,List.getElem?_cons_zero]at hS1;refine ab 0 rfl (by kernel_rfl) (by kernel_rfl) (by kernel_rfl) (fun _ _ _ h=>h) rfl hS1 (by intro w' hw1; go_simp; rfl) ?_;simp only[Act.put,aD,aE,aF];refine ab 1 rfl (by kernel_rfl) (by kernel_rfl) (by kernel_rfl) (fun _ _ _ h=>h) rfl hS1 (by intro w' hw1; go_simp; rfl) ?_
      simp only[Act.put,aD,aE,aF];refine ab 2 rfl (by kernel_rfl) (by kernel_rfl) (by kernel_rfl) (fun _ _ _ h=>h) rfl hS1 (by intro w' hw1; go_simp; rfl) ?_;simp only[Act.put,aD,aE,aF];refine ab 3 rfl (by kernel_rfl) (by kernel_rfl) (by kernel_rfl) (fun _ _ _ h=>h) rfl hS1 (by intro w' hw1; go_simp; rfl) ?_;simp only[Act.put,aD,aE,aF];refine ab 4 rfl (by kernel_rfl) (by kernel_rfl) (by kernel_rfl) (fun _ _ _ h=>h) rfl hS1 (by intro w' hw1; go_simp; rfl) ?_
      simp only[Act.put,aD,aE,aF];refine ax 5 rfl (by kernel_rfl) rfl (fun K hK=> ?_);go_wp2_with (go_at_call 69; refine(nh e.path q _ HPP.out HQ.out).mono ?_; rintro e9 w9 ⟨rfl,hb9⟩);have HL9:=aa (HLV.out.trans (hb9.mono HLV.out.size));have hS2:=(hb9.cell (ay hS1)).trans hS1;clear hb9;refine⟨hS2, ?_⟩;refine ax 6 rfl (by kernel_rfl) rfl (fun K hK=> ?_);have HTK:=aa (show bR S w9 (.slice (some ⟨b,o,none⟩) (k) cap) (L.take (k))from aY.takeN kJ.len (HV.out.below (ag HBR.out HL9.out)) HKN.out)
      go_wp2_with (go_at_call 68; refine(uy S (L.take (k)) (.slice (some ⟨b,o,none⟩) (k) cap) q x _ HTK.out HDX.out).mono ?_; rintro ea wa ⟨rfl,hba⟩);have HLA:=aa (HL9.out.trans (hba.mono HL9.out.size));have hS1:=(hba.cell (ay hS2)).trans hS2;clear hba;refine⟨hS1, ?_⟩;refine ab 7 rfl (by kernel_rfl) (by kernel_rfl) (by kernel_rfl) (fun _ _ _ h=>h) rfl hS1 (by intro w' hw1; go_simp; rfl) ?_
      simp only[Act.put,aD,aE,aF];refine bh (by kernel_rfl) ?_;have HBA:=aa (ag HBR.out HLA.out);clear hS1 hS2
      by_cases h0:x=0
      ·subst h0;have HTN:=aa (ff HTR.out HAT.out HCA.out);go_wp2_with fail
       go_roundw
       case rel=>exact⟨k+1,by omega,by go_num,HTN.out,HBA.out⟩
       case measure=>simp[intOf]; omega
      ·have e1:(x != 0)=true:=by simp[h0]
       have HX0:=aa h0;clear h0;go_wp2_with fail;go_ret;exact⟨bp (by rw[dg HL4.out HTR.out HAT.out (x:=x) HCA.out HX0.out]),HBA.out⟩
     ·obtain⟨j,rfl⟩: ∃j,k=j+1:=⟨k-1,by omega⟩;obtain⟨f,hf⟩: ∃f,L[j]? =some f:=⟨L[j]'(by rw[<-HN.out]; omega),by simp⟩;obtain⟨b',o',dv',he',-,-,-,hokf,-,p0,-⟩:=iI (HV.out.below HBR.out) hf;simp only[Option.some.injEq,Addr.mk.injEq,and_true]at he';obtain⟨rfl,rfl⟩:=he';have HPF:=aa (show f.path.size<=65536 from Nat.le_trans (rB (HTR.out.val f (List.mem_of_getElem? (i:=j) (by rw[List.getElem?_take,if_pos (Nat.lt_succ_self j)]; exact hf)))) (by omega))
      obtain⟨c,hc⟩: ∃c,bV (bl f.path) (bl e.path)=c:=⟨_,rfl⟩;have HC:=aa hc;have e9:decide (0<j+1)=true:=by simp
      have hjn:j<n:=by omega
      have hjn2:(j:Int)<(n:Int):=by omega
      have hjn3:decide (j<n)=true:=by simp; omega
      have hjc:0<=(j:Int)+1/\(j:Int)+1<=(cap:Int):=by omega
      have hwj:IntKind.i64.wrap (j:Int)=j:=by rw[IntKind.wrap_i64]; omega
      have HAF:=aa (show gt (L.take (j+1)) e=decide (c<0) by rw[sS hf,hc]);clear hf hokf hc hk0
      by_cases hneg:c<0
      ·have HCV:=aa (show(bW e && gt (L.take (j+1)) e)=true by rw[HVE.out,HAF.out,decide_eq_true hneg]; rfl);have e8:decide (0<=c)=false:=by simp; omega
       obtain⟨x,hx⟩: ∃x,gc (L.take (j+1)) (bl q)=x:=⟨_,rfl⟩;have HDX:=aa hx;have HCA:=aa (show bM (L.take (j+1)) e=x by unfold bM; rw[if_pos HCV.out,<-HBQ.out,hx]);clear hx;go_wp2_with fail;refine aw [some 1,none,some 13,none,some 3] (by kernel_rfl) (by kernel_rfl) (by kernel_rfl) ?_;simp only[bq,List.take_succ_cons,List.take_zero,List.drop_succ_cons,List.drop_zero]
       obtain⟨W,hW⟩: ∃W:World,W=(wr.alloc (.cells #[.string e.path, .int .i64 e.kind, .int .i64 e.mode, .int .i64 e.time, .slice a1 e.data.length cap1, .string e.link] 30)).drew:=⟨_,rfl⟩;rw[<-hW];have HWL:=aa (show Below wr.heap.size wr W by rw[hW]; exact((Below.refl _ _).alloc (Nat.le_refl _) _).drew);have HX:=aa (show W.heap[wr.heap.size]? =some (.cells #[.string e.path, .int .i64 e.kind, .int .i64 e.mode, .int .i64 e.time, .slice a1 e.data.length cap1, .string e.link] 30 (0,0)) by rw[hW]; exact dY wr _)
       have HBW:=aa (ag HBR.out HWL.out);clear hW;have c0:=ai (k:=0) HX.out;have c1:=ai (k:=1) HX.out;have c2:=ai (k:=2) HX.out;have c3:=ai (k:=3) HX.out;have c4:=ai (k:=4) HX.out;have c5:=ai (k:=5) HX.out;simp only[eB]at c0 c1 c2 c3 c4 c5
       repeat (first | (refine az rfl ?_; simp only[Act.put,aD,aE,aF]) | (refine aI rfl (fun K hK=> ?_); go_simp; refine hK _ ?_; clear hK K))
       refine aH ?_;refine bw rfl (fun K hK=> ?_);go_wp2_with (go_at_call 67; refine(gR S e (.slice a1 e.data.length cap1) true _ (HD.out.below HWL.out) HOK.out HPZ.out HVE.out).mono ?_; rintro e7 w7 ⟨rfl,hb7⟩; have HL7:=aa (HWL.out.trans (hb7.mono HWL.out.size)); have HX7:=aa ((hb7.block wr.heap.size (eS HX.out)).trans HX.out); clear hb7 c0 c1 c2 c3 c4 c5);have c0:=ai (k:=0) HX7.out
       have c1:=ai (k:=1) HX7.out;have c2:=ai (k:=2) HX7.out;have c3:=ai (k:=3) HX7.out;have c4:=ai (k:=4) HX7.out;have c5:=ai (k:=5) HX7.out;simp only[eB]at c0 c1 c2 c3 c4 c5;have y0:=(HL7.out.cell (ay p0)).trans p0
       repeat (first | (refine az rfl ?_; simp only[Act.put,aD,aE,aF]) | (refine aI rfl (fun K hK=> ?_); go_simp; refine hK _ ?_; clear hK K))
       refine aH ?_;refine bw rfl (fun K hK=> ?_);go_wp2_with (go_at_call 45; refine(ng f.path e.path c _ HPF.out HC.out).mono ?_; rintro e8' w8 ⟨rfl,hb8⟩; have HL8:=aa (HL7.out.trans (hb8.mono HL7.out.size)); have HX8:=aa ((hb8.block wr.heap.size (eS HX7.out)).trans HX7.out); clear hb8 c0 c1 c2 c3 c4 c5 y0)
       repeat (first | (refine az rfl ?_; simp only[Act.put,aD,aE,aF]) | (refine aI rfl (fun K hK=> ?_); go_simp; refine hK _ ?_; clear hK K))
       refine aH ?_;go_wp2_with fail;refine cI (fun w'=>w'.cell? ⟨wr.heap.size,0,none⟩=some (.string e.path)) (by kernel_rfl) ?_;obtain⟨V,hV⟩: ∃V:World,V=(w8).drew:=⟨_,rfl⟩;rw[<-hV];have HLV:=aa (show Below wr.heap.size wr V by rw[hV]; exact HL8.out.trans ((Below.refl (w8).heap.size (w8)).drew.mono HL8.out.size));have HXV:=aa (show V.heap[wr.heap.size]? =some (.cells #[.string e.path, .int .i64 e.kind, .int .i64 e.mode, .int .i64 e.time, .slice a1 e.data.length cap1, .string e.link] 30 (0,0)) by rw[hV]; exact HX8.out)
       clear hV;have hS1:=ai (k:=0) HXV.out;simp only[List.getElem?_toArray,List.getElem?_cons_zero]at hS1;refine ab 0 rfl (by kernel_rfl) (by kernel_rfl) (by kernel_rfl) (fun _ _ _ h=>h) rfl hS1 (by intro w' hw1; go_simp; rfl) ?_;simp only[Act.put,aD,aE,aF];refine ab 1 rfl (by kernel_rfl) (by kernel_rfl) (by kernel_rfl) (fun _ _ _ h=>h) rfl hS1 (by intro w' hw1; go_simp; rfl) ?_
       simp only[Act.put,aD,aE,aF];refine ab 2 rfl (by kernel_rfl) (by kernel_rfl) (by kernel_rfl) (fun _ _ _ h=>h) rfl hS1 (by intro w' hw1; go_simp; rfl) ?_;simp only[Act.put,aD,aE,aF];refine ab 3 rfl (by kernel_rfl) (by kernel_rfl) (by kernel_rfl) (fun _ _ _ h=>h) rfl hS1 (by intro w' hw1; go_simp; rfl) ?_;simp only[Act.put,aD,aE,aF];refine ab 4 rfl (by kernel_rfl) (by kernel_rfl) (by kernel_rfl) (fun _ _ _ h=>h) rfl hS1 (by intro w' hw1; go_simp; rfl) ?_
       simp only[Act.put,aD,aE,aF];refine ax 5 rfl (by kernel_rfl) rfl (fun K hK=> ?_);go_wp2_with (go_at_call 69; refine(nh e.path q _ HPP.out HQ.out).mono ?_; rintro e9 w9 ⟨rfl,hb9⟩);have HL9:=aa (HLV.out.trans (hb9.mono HLV.out.size));have hS2:=(hb9.cell (ay hS1)).trans hS1;clear hb9;refine⟨hS2, ?_⟩;refine ax 6 rfl (by kernel_rfl) rfl (fun K hK=> ?_);have HTK:=aa (show bR S w9 (.slice (some ⟨b,o,none⟩) (j+1) cap) (L.take (j+1))from aY.takeN kJ.len (HV.out.below (ag HBR.out HL9.out)) HKN.out)
       go_wp2_with (go_at_call 68; refine(uy S (L.take (j+1)) (.slice (some ⟨b,o,none⟩) (j+1) cap) q x _ HTK.out HDX.out).mono ?_; rintro ea wa ⟨rfl,hba⟩);have HLA:=aa (HL9.out.trans (hba.mono HL9.out.size));have hS1:=(hba.cell (ay hS2)).trans hS2;clear hba;refine⟨hS1, ?_⟩;refine ab 7 rfl (by kernel_rfl) (by kernel_rfl) (by kernel_rfl) (fun _ _ _ h=>h) rfl hS1 (by intro w' hw1; go_simp; rfl) ?_
       simp only[Act.put,aD,aE,aF];refine bh (by kernel_rfl) ?_;have HBA:=aa (ag HBR.out HLA.out);clear hS1 hS2
       by_cases h0:x=0
       ·subst h0;have HTN:=aa (ff HTR.out HAT.out HCA.out);go_wp2_with fail
        go_roundw
        case rel=>exact⟨j+1+1,by omega,by go_num,HTN.out,HBA.out⟩
        case measure=>simp[intOf]; omega
       ·have e1:(x != 0)=true:=by simp[h0]
        have HX0:=aa h0;clear h0;go_wp2_with fail;go_ret;exact⟨bp (by rw[dg HL4.out HTR.out HAT.out (x:=x) HCA.out HX0.out]),HBA.out⟩
      ·have HCA:=aa (show bM (L.take (j+1)) e=1 by unfold bM; rw[HAF.out,decide_eq_false hneg]; simp);have e8:decide (0<=c)=true:=by simp; omega
       have e7:0<=c:=by omega
       go_wp2_with fail;refine aw [some 1,none,some 13,none,some 3] (by kernel_rfl) (by kernel_rfl) (by kernel_rfl) ?_;simp only[bq,List.take_succ_cons,List.take_zero,List.drop_succ_cons,List.drop_zero];obtain⟨W,hW⟩: ∃W:World,W=(wr.alloc (.cells #[.string e.path, .int .i64 e.kind, .int .i64 e.mode, .int .i64 e.time, .slice a1 e.data.length cap1, .string e.link] 30)).drew:=⟨_,rfl⟩
       rw[<-hW];have HWL:=aa (show Below wr.heap.size wr W by rw[hW]; exact((Below.refl _ _).alloc (Nat.le_refl _) _).drew);have HX:=aa (show W.heap[wr.heap.size]? =some (.cells #[.string e.path, .int .i64 e.kind, .int .i64 e.mode, .int .i64 e.time, .slice a1 e.data.length cap1, .string e.link] 30 (0,0)) by rw[hW]; exact dY wr _);have HBW:=aa (ag HBR.out HWL.out);clear hW
       have c0:=ai (k:=0) HX.out;have c1:=ai (k:=1) HX.out;have c2:=ai (k:=2) HX.out;have c3:=ai (k:=3) HX.out;have c4:=ai (k:=4) HX.out;have c5:=ai (k:=5) HX.out;simp only[eB]at c0 c1 c2 c3 c4 c5
       repeat (first | (refine az rfl ?_; simp only[Act.put,aD,aE,aF]) | (refine aI rfl (fun K hK=> ?_); go_simp; refine hK _ ?_; clear hK K))
       refine aH ?_;refine bw rfl (fun K hK=> ?_);go_wp2_with (go_at_call 67; refine(gR S e (.slice a1 e.data.length cap1) true _ (HD.out.below HWL.out) HOK.out HPZ.out HVE.out).mono ?_; rintro e7 w7 ⟨rfl,hb7⟩; have HL7:=aa (HWL.out.trans (hb7.mono HWL.out.size)); have HX7:=aa ((hb7.block wr.heap.size (eS HX.out)).trans HX.out); clear hb7 c0 c1 c2 c3 c4 c5);have c0:=ai (k:=0) HX7.out
       have c1:=ai (k:=1) HX7.out;have c2:=ai (k:=2) HX7.out;have c3:=ai (k:=3) HX7.out;have c4:=ai (k:=4) HX7.out;have c5:=ai (k:=5) HX7.out;simp only[eB]at c0 c1 c2 c3 c4 c5;have y0:=(HL7.out.cell (ay p0)).trans p0
       repeat (first | (refine az rfl ?_; simp only[Act.put,aD,aE,aF]) | (refine aI rfl (fun K hK=> ?_); go_simp; refine hK _ ?_; clear hK K))
       refine aH ?_;refine bw rfl (fun K hK=> ?_);go_wp2_with (go_at_call 45; refine(ng f.path e.path c _ HPF.out HC.out).mono ?_; rintro e8' w8 ⟨rfl,hb8⟩; have HL8:=aa (HL7.out.trans (hb8.mono HL7.out.size)); clear hb8 c0 c1 c2 c3 c4 c5 y0)
       repeat (first | (refine az rfl ?_; simp only[Act.put,aD,aE,aF]) | (refine aI rfl (fun K hK=> ?_); go_simp; refine hK _ ?_; clear hK K))
       refine aH ?_;have HB9:=aa (ag HBR.out HL8.out);go_wp2_with fail;go_ret;exact⟨bp (by rw[dg HL4.out HTR.out HAT.out (x:=1) HCA.out (by decide)]),HB9.out⟩
   ·have hk2:k=n:=by omega
    subst hk2;go_wp2_with fail;go_ret;exact⟨bp (by rw[nT HL4.out (by rw[<-HN.out]; exact HTR.out)]),HBR.out⟩
open Go Go.RowKit Go.Maps
def xN (f:al):Bool:=f.parts.all cP && (decide (f.size=iP f.parts) && decide (iP f.parts<=1048576)) && (decide (f.kind=1) || decide (f.parts=[]))
theorem uw (f:al):cj f=xN f:=by
 unfold xN cj
 by_cases hk:f.kind=1
 ·rw[if_pos hk]; simp[hk]
 ·rw[if_neg hk]
  cases f.parts with
  | nil=>simp[hk,iP]; rfl
  | cons p l=>simp[hk]
theorem yW (S:Nat->Prop) (L:List bu) (v:Value) (x:Int) (w:World) (hv:bR S w v L) (hps: ∀e∈L,e.path.size<=16777216) (h:bZ L=x):Calls Tryz.prog 35 #[v] w fun e w'=>e= .returned (.int .i64 x)/\Below w.heap.size w w':=by
 rw[<-h]; exact ux S L v w hv hps
theorem DT (x:dh) (hall:x.files.all cj=true):di x=(decide (0<=x.tm) && decide (bZ (x.files.map eM)=0)):=by
 rw[cM,hall]
 by_cases hc:bZ (x.files.map eM)=0
 ·have h1:x.files.length<=4096:=by
   unfold bZ at hc
   split at hc
   ·simp at hc
   ·rename_i h; rw[List.length_map]at h; omega
  simp[hc,h1]
 ·simp[hc]
theorem wF (S:Nat->Prop) (x:dh) (fv:Value) (w:World) (hx:aZ S w fv x.files) (hps: ∀f∈x.files,f.path.size<=16777216) (hlen:x.files.length<=1048576) (hpl: ∀f∈x.files,f.parts.length<=1048576):Calls Tryz.prog 13 #[gd fv x.tm] w fun e w'=>e= .returned (.bool (di x))/\Below w.heap.size w w':=by
 obtain⟨a,cap,rfl,hc,hm,-⟩:=aY.shape hx fF.len;unfold maxLen at hm;have HX0:=aa hx;have HPS:=aa hps;have HPL:=aa hpl;clear hx hps hpl;obtain⟨n,hn⟩: ∃n,n=x.files.length:=⟨_,rfl⟩;rw[<-hn]at hc HX0 hlen ⊢;have HN:=aa hn;clear hn;unfold gd
 go_enter Tryz.func13,Tryz.ntmps13
 go_upto_region 1 with fail
 obtain⟨W,hW⟩: ∃W,W=w.alloc (.cells #[.int .i64 x.tm, .slice a n cap] 36):=⟨_,rfl⟩;rw[<-hW];have HBW:=aa (show Below w.heap.size w W by rw[hW]; exact(Below.refl _ _).alloc (Nat.le_refl _) _);have HBX:=aa (show W.heap[w.heap.size]? =some (.cells #[.int .i64 x.tm, .slice a n cap] 36 (0,0)) by rw[hW]; exact heap_alloc_new w _);have HSZ:=aa (show W.heap.size=w.heap.size+1 by rw[hW]; simp)
 clear hW;have HMO:=aa (World.ownsRow_made (base:=W.heap.size) (e:=30) (size:=6) W #[] 0 (Nat.le_refl _) (by unfold maxLen; omega) rfl);have HBM:=aa (show Below W.heap.size W (W.alloc (.cells #[] 30))from(Below.refl _ _).alloc (Nat.le_refl _) _);have HV:=aa (show aZ S W (.slice a n cap) x.files from aZ.below HX0.out HBW.out);go_wp2_with fail
 go_loopw [3,4] (fun v i wr=> ∃k:Nat,k<=n/\i= .int .i64 k/\(x.files.take k).all cj=true/\wr.ownsRow W.heap.size 30 6 v k (kA ((x.files.take k).map nQ))/\Below W.heap.size W wr) (fun _ i _=>n-(intOf i).toNat)
 case atStart=>exact⟨0,Nat.zero_le _,rfl,rfl,HMO.out,HBM.out⟩
 case round=>
  obtain⟨k,hk,rfl,hal,hown,hb⟩:=hrel;have HB:=aa hb;have HA:=aa hal;have HOWN:=aa hown;obtain⟨av,cv,hsv,hvn,hvm⟩:=ak hown;subst hsv;unfold maxLen at hvm;have HZR:=aa hb.size;have HBXr:=aa ((hb.block w.heap.size (by have:=HSZ.out; omega)).trans HBX.out);have x0:=ah (k:=0) HBXr.out;have x1:=ah (k:=1) HBXr.out;simp only[eB]at x0 x1;clear hb hal hown
  by_cases hlt:k<n
  ·obtain⟨f,hf⟩: ∃f,x.files[k]? =some f:=⟨_,List.getElem?_eq_getElem (show k<x.files.length by rw[<-HN.out]; exact hlt)⟩;obtain⟨b,o,pa,pc,rfl,hok,hpa,hblt,-,hcl⟩:=dK HV.out (Below.refl _ _) hf;have hcl: ∀j,j<7->wr.cell? ⟨b,o+k*7+j,none⟩=(bQ (.slice pa f.parts.length pc) f)[j]? :=fun j hj=>(HB.out.cell (p:=⟨b,o+k*7+j,none⟩) hblt).trans (hcl j hj)
   have q0:=hcl 0 (by omega);have q1:=hcl 1 (by omega);have q2:=hcl 2 (by omega);have q3:=hcl 3 (by omega);have q4:=hcl 4 (by omega);have q5:=hcl 5 (by omega);have q6:=hcl 6 (by omega);simp only[bQ,ci,Nat.add_zero]at q0 q1 q2 q3 q4 q5 q6;have HFK:=aa hf;have hplm:=HPL.out f (List.mem_of_getElem? hf);obtain⟨m,hmm⟩: ∃m,m=f.parts.length:=⟨_,rfl⟩;obtain⟨-,hmc,hpm⟩:=qY hpa
   unfold maxLen at hpm;rw[<-hmm]at q6 hpa hmc hplm;have HPA:=aa hpa;have HM:=aa hmm;clear hf hpa hcl hok hmm;obtain⟨W3,hW3⟩: ∃W3,W3=wr.alloc (.cells #[.string f.path, .int .i64 f.kind, .int .i64 f.mode, .int .i64 f.time, .int .i64 f.size, .string f.link, .slice pa m pc] 42):=⟨_,rfl⟩;have HB3:=aa (show Below wr.heap.size wr W3 by rw[hW3]; exact(Below.refl _ _).alloc (Nat.le_refl _) _)
   have HX3:=aa (show W3.heap[wr.heap.size]? =some (.cells #[.string f.path, .int .i64 f.kind, .int .i64 f.mode, .int .i64 f.time, .int .i64 f.size, .string f.link, .slice pa m pc] 42 (0,0)) by rw[hW3]; exact heap_alloc_new wr _);have HZ3:=aa (show W3.heap.size=wr.heap.size+1 by rw[hW3]; simp)
   go_upto_region 6 with fail
   rw[<-hW3];clear hW3;have d0:=ah (k:=0) HX3.out;have d1:=ah (k:=1) HX3.out;have d2:=ah (k:=2) HX3.out;have d3:=ah (k:=3) HX3.out;have d5:=ah (k:=5) HX3.out;simp only[List.getElem?_toArray,ci]at d0 d1 d2 d3 d5;have HAL:=aa ((Below.refl W3.heap.size W3).alloc (Nat.le_refl _) (.cells (iH (.slice none 0 0) (eM f)).toArray 30));have HOA:=aa (aT (aT HOWN.out HB3.out) HAL.out)
   have HRL:=aa (fy (n:=1) (sz:=6) (cells:=iH (.slice none 0 0) (eM f)) (heap_alloc_new W3 (.cells (iH (.slice none 0 0) (eM f)).toArray 30)) rfl (by decide));have HZ:=aa (show W.heap.size<=(W3.alloc (.cells (iH (.slice none 0 0) (eM f)).toArray 30)).heap.size by have:=HZR.out; have:=HZ3.out; simp; omega);go_wp2_with (at_builtin; go_must (refine bG Tryz.appEnts rfl _ _ rfl W.heap.size (.slice av k cv) k (kA ((x.files.take k).map nQ)) rfl HOA.out _ 1 (iH (.slice none 0 0) (eM f)) rfl HRL.out tF (by omega) HZ.out ?_); intro v9 w9 hown9 hg9; obtain⟨a9,c9,rfl,-,-⟩:=ak hown9; have HO9:=aa hown9; have HG9:=aa hg9; clear hown9 hg9)
   have HX9:=aa ((HG9.out.block wr.heap.size (by have:=HZ3.out; simp; omega) (fun e1=>by
    have:=(HOWN.out.lt _ e1.symm).2
    omega)).trans ((heap_alloc_old _ _ (by have:=HZ3.out; omega)).trans HX3.out))
   have HB9:=aa (show Below W.heap.size W w9 from aR ((ag HB.out HB3.out).trans (HAL.out.mono (by have:=HZR.out; have:=HZ3.out; omega))) HOA.out HG9.out (Nat.le_refl _) HZ.out);have HLT9:=aa (lt_of_block HX9.out);clear x0 x1 q0 q1 q2 q3 q4 q5 q6 d0 d1 d2 d3 d5
   go_loopw [6,7] (fun t i wq=> ∃j:Nat,j<=m/\i= .int .i64 j/\t= .int .i64 (iP (f.parts.take j))/\(f.parts.take j).all cP=true/\Below w9.heap.size w9 wq) (fun _ i _=>m-(intOf i).toNat)
   case atStart=>exact⟨0,Nat.zero_le _,rfl,rfl,rfl,Below.refl _ _⟩
   case round=>
    obtain⟨j,hj,rfl,rfl,hal,hb⟩:=hrel;have HBQ:=aa hb;have HAP:=aa hal;have HXq:=aa ((hb.block _ HLT9.out).trans HX9.out);have d1:=ah (k:=1) HXq.out;have d4:=ah (k:=4) HXq.out;have d6:=ah (k:=6) HXq.out;simp only[List.getElem?_toArray,ci]at d1 d4 d6;have HBE:=aa (HBW.out.trans ((ag HB9.out HBQ.out).mono (by have:=HSZ.out; omega)));clear hb hal
    by_cases hjm:j<m
    ·obtain⟨p,hp⟩: ∃p,f.parts[j]? =some p:=⟨_,List.getElem?_eq_getElem (show j<f.parts.length by rw[<-HM.out]; exact hjm)⟩;obtain⟨b2,o2,rfl,-,-,hpok,q0,q1⟩:=dO HPA.out (ag HB9.out HBQ.out) hp;have HP:=aa hp;have hsum:=hpok.sm;unfold maxLen at hsum;clear hp hpok
     by_cases hv:cP p=true
     case neg=>
      have HVN:=aa (show cj f=false by
       rw[uw]; unfold xN;rw[iD HP.out (by simpa using hv)]; rfl)
      have hv2:p.sum.size=32->1<=p.size-> ¬p.size<=32768:=fun h1 h2 h3=>hv (by unfold cP; simp[h1,h2,h3])
      have HV2:=aa hv2;clear hv hv2
      by_cases h1:p.sum.size=32
      case neg=>
       have h1': ¬(p.sum.size:Int)=32:=by omega
       have HBAD:=aa (show di x=false by rw[cM,iD HFK.out HVN.out]; simp);go_wp2_with fail;go_ret;exact⟨au (by rw[HBAD.out]),HBE.out⟩
      by_cases h2:p.size<1
      case pos=>
       have HBAD:=aa (show di x=false by rw[cM,iD HFK.out HVN.out]; simp);go_wp2_with fail;go_ret;exact⟨au (by rw[HBAD.out]),HBE.out⟩
      have h3:32768<p.size:=by have:=HV2.out h1 (by omega); omega
      have HBAD:=aa (show di x=false by rw[cM,iD HFK.out HVN.out]; simp);go_wp2_with fail;go_ret;exact⟨au (by rw[HBAD.out]),HBE.out⟩
     obtain⟨h1,h2,h3⟩:=(show p.sum.size=32/\1<=p.size/\p.size<=32768 by unfold cP at hv; simpa [and_assoc]using hv);have HVP:=aa hv;have hn2: ¬p.size<1:=by omega
     have hn3: ¬32768<p.size:=by omega
     clear hv;go_wp2_with fail
     go_roundw
     case rel=>
      refine⟨j+1,by omega,rfl, ?_,jp HAP.out HP.out HVP.out,HBQ.out⟩;rw[bc HP.out,ry]
     case measure=>simp only[intOf,Int.toNat_natCast]; omega
    ·have htk:f.parts.take j=f.parts:=List.take_of_length_le (by rw[<-HM.out]; omega);have hall:f.parts.all cP=true:=by rw[<-htk]; exact HAP.out
     rw[htk];have HALL:=aa hall;obtain⟨t,ht⟩: ∃t,t=iP f.parts:=⟨_,rfl⟩;rw[<-ht];have HT:=aa ht;clear hall htk ht;have HRS:=aa (show cj f=((decide (f.size=t) && decide (t<=1048576)) && (decide (f.kind=1) || decide (f.parts=[]))) by
      rw[uw]; unfold xN; rw[HALL.out,<-HT.out]; rfl)
     by_cases h1:f.size=t
     case neg=>
      have HVN:=aa (show cj f=false by rw[HRS.out]; simp[h1]);have HBAD:=aa (show di x=false by rw[cM,iD HFK.out HVN.out]; simp);go_wp2_with fail;go_ret;exact⟨au (by rw[HBAD.out]),HBE.out⟩
     by_cases h2:1048576<t
     case pos=>
      have HVN:=aa (show cj f=false by rw[HRS.out,show decide (t<=1048576)=false by simp; omega]; simp);have HBAD:=aa (show di x=false by rw[cM,iD HFK.out HVN.out]; simp);go_wp2_with fail;go_ret;exact⟨au (by rw[HBAD.out]),HBE.out⟩
     by_cases h3:f.kind=1
     case pos=>
      have HVY:=aa (show cj f=true by rw[HRS.out]; simp[h1,h3]; omega);go_wp2_with fail
      go_roundw
      case rel=>
       refine⟨k+1,by omega,rfl,jp HA.out HFK.out HVY.out, ?_,ag HB9.out HBQ.out⟩;rw[bc HFK.out,List.map_append,List.map_singleton,kO];exact aT HO9.out HBQ.out
      case measure=>simp only[intOf,Int.toNat_natCast]; omega
     by_cases h4:m=0
     case neg=>
      have HVN:=aa (show cj f=false by
       rw[HRS.out];have:f.parts≠[]:=fun e=>h4 (by rw[HM.out,e]; rfl)
       simp[h3,this])
      have h5:0<m:=by omega
      have HBAD:=aa (show di x=false by rw[cM,iD HFK.out HVN.out]; simp);go_wp2_with fail;go_ret;exact⟨au (by rw[HBAD.out]),HBE.out⟩
     have h5:f.parts=[]:=List.eq_nil_of_length_eq_zero (by rw[<-HM.out]; exact h4);have HVY:=aa (show cj f=true by rw[HRS.out]; simp[h1,h5]; omega);have h6: ¬0<m:=by omega
     clear h5;go_wp2_with fail
     go_roundw
     case rel=>
      refine⟨k+1,by omega,rfl,jp HA.out HFK.out HVY.out, ?_,ag HB9.out HBQ.out⟩;rw[bc HFK.out,List.map_append,List.map_singleton,kO];exact aT HO9.out HBQ.out
     case measure=>simp only[intOf,Int.toNat_natCast]; omega
  ·have hkn:k=n:=by omega
   subst hkn;have htk:x.files.take k=x.files:=List.take_of_length_le (by rw[<-HN.out]; exact Nat.le_refl _);have HALL:=aa (show x.files.all cj=true by rw[<-htk]; exact HA.out);rw[htk]at HOWN;clear htk;have HEA:=aa (show bR (fun i=>W.heap.size<=i/\(Value.slice av k cv).ownBlock=some i) wr (.slice av k cv) (x.files.map eM) by
    have h1:=bi HOWN.out;have h2:=oy (S:=fun i=>W.heap.size<=i/\(Value.slice av k cv).ownBlock=some i) (w:=wr) (ys:=x.files.map nQ) (fun y hy=>by
     obtain⟨f,hf,rfl⟩:=List.mem_map.1 hy;exact⟨cl.nil _ _,AU (oD HV.out f hf)⟩)
    rw[sT]at h2;have h3:(x.files.map eM).length=k:=by rw[List.length_map,HN.out]
    exact⟨_,by rw[h3]; exact h1,h2⟩)
   have HPE:=aa (show ∀e∈x.files.map eM,e.path.size<=16777216 from fun e he=>by
    obtain⟨f,hf,rfl⟩:=List.mem_map.1 he;exact HPS.out f hf)
   obtain⟨z,hz⟩: ∃z,bZ (x.files.map eM)=z:=⟨_,rfl⟩;have HZ:=aa hz;have HEB:=aa (show Below w.heap.size w wr from HBW.out.trans (HB.out.mono (by have:=HSZ.out; omega)));have HR:=aa (show di x=(decide (0<=x.tm) && decide (z=0)) by rw[DT x HALL.out,hz]);clear hz
   by_cases ht:0<=x.tm
   case neg=>
    have HF:=aa (show di x=false by rw[HR.out,decide_eq_false ht]; rfl);have ht2:x.tm<0:=by omega
    go_wp2_with fail;go_ret;exact⟨au (by rw[HF.out]),HEB.out⟩
   have HF:=aa (show di x=decide (z=0) by rw[HR.out,decide_eq_true ht]; rfl);go_wp2_with (go_at_call 35; refine(yW _ _ _ z _ HEA.out HPE.out HZ.out).mono ?_; rintro e w1 ⟨rfl,hb1⟩; have HB2:=aa (ag HEB.out hb1); clear hb1);go_ret;exact⟨au (by rw[HF.out]; rfl),HB2.out⟩
theorem yK (n:Int) (w:World):Calls Tryz.prog 55 #[.int .i64 n] w fun e w'=>e= .returned (rvV (jg n))/\Below w.heap.size w w':=by
 have hw:=wrap_u64 n;obtain⟨m,hm⟩: ∃m:Nat,m=(n%18446744073709551616).toNat:=⟨_,rfl⟩;have hnv:jg n=⟨1,m,0,false,⟨#[]⟩,0⟩:=by rw[hm]; rfl
 rw[<-hm]at hw;have HN:=aa hnv;clear hm hnv
 go_enter Tryz.func55,Tryz.ntmps55
 go_wp2_with fail;exact bodyPost_ret (v:= .agg #[.int .i64 1, .int .u64 (m:Int), .int .i64 0, .bool false, .string ⟨#[]⟩, .int .i64 0]) (by simp[results,Tryz.results55,go_sem]) rfl ⟨by rw[HN.out]; rfl,(Below.refl _ _).alloc (Nat.le_refl _) _⟩
theorem qw (n:Nat) (w:World):Calls Tryz.prog 56 #[.int .i64 (n:Int)] w fun e w'=>e= .returned (rvV (ez n))/\Below w.heap.size w w':=by
 go_enter Tryz.func56,Tryz.ntmps56
 go_wp2_with fail;exact bodyPost_ret (v:= .agg #[.int .i64 7, .int .u64 0, .int .i64 (n:Int), .bool false, .string ⟨#[]⟩, .int .i64 0]) (by simp[results,Tryz.results56,go_sem]) rfl ⟨rfl,(Below.refl _ _).alloc (Nat.le_refl _) _⟩
theorem rA (s:ByteArray) (w:World):Calls Tryz.prog 57 #[.string s] w fun e w'=>e= .returned (rvV (jQ s))/\Below w.heap.size w w':=by
 go_enter Tryz.func57,Tryz.ntmps57
 go_wp2_with fail;exact bodyPost_ret (v:= .agg #[.int .i64 5, .int .u64 0, .int .i64 0, .bool false, .string s, .int .i64 0]) (by simp[results,Tryz.results57,go_sem]) rfl ⟨rfl,(Below.refl _ _).alloc (Nat.le_refl _) _⟩
def bU (p:bd):List ee:=[wS p.sum,jg p.size]
def cV (f:al):List ee:=[jQ f.path,jg f.kind,jg f.mode,jg f.time,jg f.size,jQ f.link,ez f.parts.length]
def eo (f:al):List ee:=cV f++f.parts.flatMap bU
def gg (x:dh):List ee:=[jg x.tm,ez x.files.length]++x.files.flatMap eo
theorem gz : ∀ {l r:List ee} {a b:List UInt8},bI l= .ok a->bI r= .ok b->bI (l++r)= .ok (a++b)
 | [],r,a,b,h1,h2=>by
  simp only[bI,Except.ok.injEq]at h1;subst h1
  simpa using h2
 | y::l,r,a,b,h1,h2=>by
  rw[bI]at h1
  cases hy:eL y with
  | error e=>rw[hy]at h1; simp at h1
  | ok c=>
   rw[hy]at h1;simp only at h1
   cases hl:bI l with
   | error e=>rw[hl]at h1; simp at h1
   | ok d=>
    rw[hl]at h1;simp only[Except.ok.injEq]at h1;subst h1;rw[List.cons_append,bI,hy,gz hl h2];simp
theorem ka {n:Int} (h:0<=n) (h2:n<18446744073709551616):eL (jg n)= .ok (aL n.toNat):=by
 have e:n%18446744073709551616=n:=Int.emod_eq_of_lt h h2
 show(if(1:Int)=1 then Except.ok (aL (n%18446744073709551616).toNat)else _)=_
 rw[if_pos rfl,e]
theorem tD (s:ByteArray):eL (jQ s)= .ok (aL s.size++bl s):=by
 unfold eL jQ;simp
theorem CQ {s:ByteArray} (h:s.size=32):eL (wS s)= .ok (bl s):=by
 unfold eL wS;simp[h]
theorem qD (n:Nat):eL (ez n)= .ok (aL n):=by
 unfold eL ez;simp
theorem cy {x:ee} {l:List ee} {a b:List UInt8} (h:eL x= .ok a) (h2:bI l= .ok b):bI (x::l)= .ok (a++b):=by
 rw[bI,h]; simp only; rw[h2]
theorem AP {p:bd} (h:cP p=true):bI (bU p)= .ok (fu p):=by
 obtain⟨h1,h2,h3⟩:=iA.1 h;have:=cy (CQ h1) (cy (ka (show 0<=p.size by omega) (by omega)) (show bI []= .ok []from rfl));rw[List.append_nil]at this;exact this
theorem qF : ∀ {l:List bd},(∀p∈l,cP p=true)->bI (l.flatMap bU)= .ok (l.flatMap fu)
 | [],_=>rfl
 | p::l,h=>by
  rw[List.flatMap_cons,List.flatMap_cons];exact gz (AP (h p (by simp))) (qF fun q hq=>h q (by simp[hq]))
theorem AO {f:al} (h:FOk f):bI (eo f)= .ok (ew f):=by
 have h1:=gz (cy (tD f.path) (cy (ka h.kind.1 (by have:=h.kind.2; omega)) (cy (ka h.mode.1 (by have:=h.mode.2; omega)) (cy (ka h.time.1 (by have:=h.time.2; omega)) (cy (ka h.size.1 (by have:=h.size.2; omega)) (cy (tD f.link) (cy (qD f.parts.length) (show bI []= .ok []from rfl)))))))) (qF h.parts)
 have e:ew f=(aL f.path.size++bl f.path++(aL f.kind.toNat++(aL f.mode.toNat++(aL f.time.toNat++(aL f.size.toNat++(aL f.link.size++bl f.link++(aL f.parts.length++[])))))))++f.parts.flatMap fu:=by
  unfold ew;simp only[List.append_assoc,List.append_nil]
 rw[e];exact h1
theorem qE : ∀ {l:List al},(∀f∈l,FOk f)->bI (l.flatMap eo)= .ok (l.flatMap ew)
 | [],_=>rfl
 | f::l,h=>by
  rw[List.flatMap_cons,List.flatMap_cons];exact gz (AO (h f (by simp))) (qE fun g hg=>h g (by simp[hg]))
theorem CP {x:dh} (h0:0<=x.tm) (h1:x.tm<9223372036854775808) (h: ∀f∈x.files,FOk f):bI (gg x)= .ok (fS x):=by
 have h2:=gz (cy (ka h0 (by omega)) (cy (qD x.files.length) (show bI []= .ok []from rfl))) (qE h);have e:fS x=(aL x.tm.toNat++(aL x.files.length++[]))++x.files.flatMap ew:=by
  unfold fS;simp only[List.append_assoc,List.append_nil]
 rw[e];exact h2
def jd (x:dh) (k:Nat):List ee:=[jg x.tm,ez x.files.length]++(x.files.take k).flatMap eo
theorem vf : ∀(l:List al),(l.flatMap eo).length=7*l.length+2*(l.flatMap al.parts).length
 | []=>rfl
 | f::l=>by
  have h1:=vf l;have h2: ∀(ps:List bd),(ps.flatMap bU).length=2*ps.length:=by
   intro ps
   induction ps with
   | nil=>rfl
   | cons p ps ih=>rw[List.flatMap_cons,List.length_append,ih,List.length_cons]; simp[bU]; omega
  rw[List.flatMap_cons,List.length_append,h1,List.flatMap_cons,List.length_append,List.length_cons];unfold eo cV;rw[List.length_append,h2];simp only[List.length_cons,List.length_nil];omega
theorem rD (x:dh) (k:Nat):(jd x k).length<=2+7*x.files.length+2*(x.files.flatMap al.parts).length:=by
 have h1:=vf (x.files.take k);have h2:(x.files.take k).length<=x.files.length:=List.length_take_le' _ _;have h3:x.files.flatMap al.parts=(x.files.take k).flatMap al.parts++(x.files.drop k).flatMap al.parts:=by rw[<-List.flatMap_append,List.take_append_drop]
 unfold jd;rw[List.length_append,h1,h3,List.length_append];simp only[List.length_cons,List.length_nil];omega
theorem pJ {x:dh} {k:Nat} {f:al} (h:x.files[k]? =some f):jd x (k+1)=jd x k++eo f:=by
 unfold jd;rw[bc h,List.flatMap_append,<-List.append_assoc];simp
theorem BA (ps:List bd):(ps.flatMap bU).length=2*ps.length:=by
 induction ps with
 | nil=>rfl
 | cons p ps ih=>rw[List.flatMap_cons,List.length_append,ih,List.length_cons]; simp[bU]; omega
theorem qf {x:dh} {f:al} (h:f∈x.files):f.parts.length<=(x.files.flatMap al.parts).length:=by
 obtain⟨l,r,e⟩:=List.append_of_mem h;rw[e,List.flatMap_append,List.flatMap_cons];simp only[List.length_append];omega
theorem vU {x:dh} (h: ∀f∈x.files,FOk f) (hn:x.files.length<=1000000) (hp:(x.files.flatMap al.parts).length<=8000): ∀y∈gg x,sR y:=by
 intro y hy;unfold gg at hy
 rcases List.mem_append.1 hy with hy | hy
 ·simp only[List.mem_cons,List.not_mem_nil,or_false]at hy
  rcases hy with rfl | rfl
  ·exact kn _
  ·exact qz hn
 ·obtain⟨f,hf,hy⟩:=List.mem_flatMap.1 hy;have hfo:=h f hf;have h1:=hfo.path;have h2:=hfo.link;unfold eo at hy
  rcases List.mem_append.1 hy with hy | hy
  ·simp only[cV,List.mem_cons,List.not_mem_nil,or_false]at hy
   rcases hy with rfl | rfl | rfl | rfl | rfl | rfl | rfl
   ·exact uT (by omega)
   ·exact kn _
   ·exact kn _
   ·exact kn _
   ·exact kn _
   ·exact uT (by omega)
   ·exact qz (by have:=qf hf; omega)
  ·obtain⟨p,hpm,hy⟩:=List.mem_flatMap.1 hy;simp only[bU,List.mem_cons,List.not_mem_nil,or_false]at hy
   rcases hy with rfl | rfl
   ·exact DN (by have:=(iA.1 (hfo.parts p hpm)).1; omega)
   ·exact kn _
structure xj (W wr : World) (v : Value) (l : List ee) : Prop where
 row:wr.ownsRow W.heap.size 118 6 v l.length (l.flatMap pm)
 below:Below W.heap.size W wr
theorem xj.next {W wr w':World} {v:Value} {l:List ee} (h:xj W wr v l) (hb:Below wr.heap.size wr w'):xj W w' v l:=⟨aT h.row hb,ag h.below hb⟩
theorem xj.app {W wr w':World} {v v':Value} {l r:List ee} (h:xj W wr v l) (ho:w'.ownsRow W.heap.size 118 6 v' (l.length+r.length) (l.flatMap pm++r.flatMap pm)) (hg:wr.grownBy w' v.ownBlock):xj W w' v' (l++r):=
 ⟨by rw[List.length_append,List.flatMap_append]; exact ho,aR h.below h.row hg (Nat.le_refl _) h.below.size⟩
theorem km (n:Int) (w:World):Calls Tryz.prog 55 #[.int .i64 n] w fun e w'=> ∃m:Nat,jg n=⟨1,m,0,false,⟨#[]⟩,0⟩/\e= .returned (.agg #[.int .i64 1, .int .u64 (m:Int), .int .i64 0, .bool false, .string ⟨#[]⟩, .int .i64 0])/\Below w.heap.size w w':=
 (yK n w).mono fun _ _ ⟨h1,h2⟩=>⟨_,rfl,h1,h2⟩
def ld (b:Nat) (f:al) (v:Value) (w:World):Prop:=w.heap[b]? =some (.cells #[.string f.path, .int .i64 f.kind, .int .i64 f.mode, .int .i64 f.time, .int .i64 f.size, .string f.link,v] 42 (0,0))/\w.cell? ⟨b,0,none⟩=some (.string f.path)/\w.cell? ⟨b,1,none⟩=some (.int .i64 f.kind)/\w.cell? ⟨b,2,none⟩=some (.int .i64 f.mode)/\w.cell? ⟨b,3,none⟩=some (.int .i64 f.time)/\w.cell? ⟨b,4,none⟩=some (.int .i64 f.size)/\w.cell? ⟨b,5,none⟩=some (.string f.link)/\w.cell? ⟨b,6,none⟩=some v
theorem ld.of {b:Nat} {f:al} {v:Value} {w:World} (h:w.heap[b]? =some (.cells #[.string f.path, .int .i64 f.kind, .int .i64 f.mode, .int .i64 f.time, .int .i64 f.size, .string f.link,v] 42 (0,0))):ld b f v w:=
 ⟨h,ah (k:=0) h,ah (k:=1) h,ah (k:=2) h,ah (k:=3) h,ah (k:=4) h,ah (k:=5) h,ah (k:=6) h⟩
theorem ld.below {b:Nat} {f:al} {v:Value} {w w':World} (h:ld b f v w) (hb:Below w.heap.size w w'):ld b f v w':=ld.of ((hb.block _ (lt_of_block h.1)).trans h.1)
theorem ld.app {b base n:Nat} {f:al} {v lv:Value} {w w':World} {cs:List Value} (h:ld b f v w) (ho:w.ownsRow base 118 6 lv n cs) (hg:w.grownBy w' lv.ownBlock):ld b f v w':=
 ld.of ((hg.block b (lt_of_block h.1) (fun e=>by
  obtain⟨cs2,hc⟩:=aC ho e.symm;exact absurd (aK h.1 hc) (by decide))).trans h.1)
theorem uE (S:Nat->Prop) (x:dh) (fv:Value) (w:World) (hx:aZ S w fv x.files) (hnf:x.files.length<=4096) (hnp:(x.files.flatMap al.parts).length<=8000) (hok: ∀f∈x.files,FOk f) (h0:0<=x.tm) (h1:x.tm<9223372036854775808) (hl:(fS x).length<=1048576):
  Calls Tryz.prog 27 #[gd fv x.tm] w fun e w'=> ∃v,e= .returned v/\aX (w.heap.size<= ·) w' v (fS x)/\Below w.heap.size w w':=by
 obtain⟨a,cap,rfl,hc,hm,-⟩:=aY.shape hx fF.len;have HX0:=aa hx;have HOK:=aa hok;have HNP:=aa hnp;have HENC:=aa (show sk (gg x)= .ok (fS x) by unfold sk; rw[CP h0 h1 hok]; simp only; rw[if_neg (by omega)]);obtain⟨n,hn⟩: ∃n,n=x.files.length:=⟨_,rfl⟩;rw[<-hn]at HX0 hnf ⊢;have HN:=aa hn;clear hx hok hnp h0 h1 hl hn hc hm;unfold gd
 go_enter Tryz.func27,Tryz.ntmps27
 go_upto_region 1 with fail
 obtain⟨W,hW⟩: ∃W,W=w.alloc (.cells #[.int .i64 x.tm, .slice a n cap] 36):=⟨_,rfl⟩;rw[<-hW];have HBW:=aa (show Below w.heap.size w W by rw[hW]; exact(Below.refl _ _).alloc (Nat.le_refl _) _);have HX:=aa (show W.heap[w.heap.size]? =some (.cells #[.int .i64 x.tm, .slice a n cap] 36 (0,0)) by rw[hW]; exact heap_alloc_new w _);have HSZ:=aa (show W.heap.size=w.heap.size+1 by rw[hW]; simp)
 clear hW;have HV:=aa (HX0.out.below HBW.out);have HCL:=aa (show ∀u:World,Below W.heap.size W u->u.cell? ⟨w.heap.size,0,none⟩=some (.int .i64 x.tm)/\u.cell? ⟨w.heap.size,1,none⟩=some (.slice a n cap)from fun u hu=>⟨(hu.cell (p:=⟨w.heap.size,0,none⟩) (lt_of_block HX.out)).trans (ah (k:=0) HX.out),(hu.cell (p:=⟨w.heap.size,1,none⟩) (lt_of_block HX.out)).trans (ah (k:=1) HX.out)⟩)
 refine cA (fun u=>u.cell? ⟨w.heap.size,0,none⟩=some (.int .i64 x.tm)/\u.cell? ⟨w.heap.size,1,none⟩=some (.slice a n cap)) (by kernel_rfl) (by kernel_rfl) ?_;simp only[List.dropLast_cons_cons,List.dropLast_singleton,List.length_cons,List.length_nil,Nat.reduceAdd,Nat.reduceSub];obtain⟨U,hU⟩: ∃V:World,V=W.drew:=⟨_,rfl⟩;rw[<-hU];have HBU:=aa (show Below W.heap.size W U by rw[hU]; exact(Below.refl _ _).drew)
 clear hU;have SU:=aa (HCL.out U HBU.out);refine ab 0 rfl (by kernel_rfl) (by kernel_rfl) (by kernel_rfl) (fun _ _ _ h=>h) rfl SU.out (by rintro w' ⟨_,_⟩; go_simp; rfl) ?_;simp only[Act.put,aD,aE,aF];refine ab 1 rfl (by kernel_rfl) (by kernel_rfl) (by kernel_rfl) (fun _ _ _ h=>h) rfl SU.out (by rintro w' ⟨_,_⟩; go_simp; rfl) ?_;simp only[Act.put,aD,aE,aF];refine ab 3 rfl (by kernel_rfl) (by kernel_rfl) (by kernel_rfl) (fun _ _ _ h=>h) rfl SU.out (by rintro w' ⟨_,_⟩; go_simp; rfl) ?_
 simp only[Act.put,aD,aE,aF];refine ab 4 rfl (by kernel_rfl) (by kernel_rfl) (by kernel_rfl) (fun _ _ _ h=>h) rfl SU.out (by rintro w' ⟨_,_⟩; go_simp; rfl) ?_;simp only[Act.put,aD,aE,aF];refine ab 5 rfl (by kernel_rfl) (by kernel_rfl) (by kernel_rfl) (fun _ _ _ h=>h) rfl SU.out (by rintro w' ⟨_,_⟩; go_simp; rfl) ?_;simp only[Act.put,aD,aE,aF];refine ax 2 rfl (by kernel_rfl) rfl (fun K hK=> ?_)
 go_wp2_with (go_at_call 55; refine(km _ _).mono ?_; rintro e w1 ⟨m1,hm1,rfl,hb1⟩);have HB1:=aa (ag HBU.out hb1);clear hb1;have S1:=aa (HCL.out w1 HB1.out);refine⟨S1.out, ?_⟩;refine ax 6 rfl (by kernel_rfl) rfl (fun K hK=> ?_);go_wp2_with (go_at_call 56; refine(qw n _).mono ?_; rintro e w2 ⟨rfl,hb2⟩; unfold rvV ez);have HB2:=aa (ag HB1.out hb2)
 clear hb2;have S2:=aa (HCL.out w2 HB2.out);refine⟨S2.out, ?_⟩;have HM1:=aa hm1;clear hm1;refine ax 7 rfl (by kernel_rfl) rfl (fun K hK=> ?_);go_wp2_with fail;obtain⟨W2,hW2⟩: ∃u:World,u=w2.alloc (.cells #[.int .i64 1, .int .u64 (m1:Int), .int .i64 0, .bool false, .string ⟨#[]⟩, .int .i64 0, .int .i64 7, .int .u64 0, .int .i64 (n:Int), .bool false, .string ⟨#[]⟩, .int .i64 0] 118):=⟨_,rfl⟩
 rw[<-hW2];have HI0:=aa (show xj W W2 (.slice (some ⟨w2.heap.size,0,none⟩) 2 2) (jd x 0)from by
  have e1:jd x 0=[jg x.tm,ez n]:=by unfold jd; rw[HN.out]; rfl
  rw[e1,hW2];refine⟨?_,HB2.out.alloc HB2.out.size _⟩;have e2:[jg x.tm,ez n].flatMap pm=[.int .i64 1, .int .u64 (m1:Int), .int .i64 0, .bool false, .string ⟨#[]⟩, .int .i64 0, .int .i64 7, .int .u64 0, .int .i64 (n:Int), .bool false, .string ⟨#[]⟩, .int .i64 0]:=by rw[HM1.out]; rfl
  rw[e2];exact World.ownsRow_lit (base:=W.heap.size) w2 #[.int .i64 1, .int .u64 (m1:Int), .int .i64 0, .bool false, .string ⟨#[]⟩, .int .i64 0, .int .i64 7, .int .u64 0, .int .i64 (n:Int), .bool false, .string ⟨#[]⟩, .int .i64 0] 2 HB2.out.size (by unfold maxLen; omega) rfl)
 have S3:=aa (HCL.out W2 HI0.out.below);clear hW2;refine⟨S3.out, ?_⟩;refine bh (by kernel_rfl) ?_;refine cL rfl rfl (fun K hK=> ?_);go_wp2_with fail
 go_loopw [3,4] (fun v i wr=> ∃k:Nat,k<=n/\i= .int .i64 k/\xj W wr v (jd x k)) (fun _ i _=>n-(intOf i).toNat)
 case atStart=>exact⟨0,Nat.zero_le _,rfl,HI0.out⟩
 case round=>
  obtain⟨k,hk,rfl,hi⟩:=hrel;obtain⟨va,vc,hvs,-,-⟩:=ak hi.row;subst hvs;obtain⟨L,hL⟩: ∃L,L=jd x k:=⟨_,rfl⟩;obtain⟨ln,hln⟩: ∃m,m=L.length:=⟨_,rfl⟩;rw[<-hL,<-hln]at hi ⊢;have HI:=aa hi;have HL:=aa hL;have HLN:=aa hln;obtain⟨W0,hW0⟩: ∃x:World,x=wr:=⟨_,rfl⟩;subst hW0;obtain⟨x0,x1⟩:=HCL.out W0 hi.below;have hl5:ln<=100000:=by
   have h2:=rD x k;have h3:=HNP.out;have h4:=HN.out;rw[hln,hL]; omega
  clear hi hL hln
  by_cases hlt:k<n
  ·obtain⟨f,hf⟩: ∃f,x.files[k]? =some f:=⟨_,List.getElem?_eq_getElem (show k<x.files.length by rw[<-HN.out]; exact hlt)⟩;obtain⟨b1,o1,pa,pc,rfl,-,hpa,hblt,-,hcl⟩:=dK HV.out (Below.refl _ _) hf;have hcl: ∀j,j<7->W0.cell? ⟨b1,o1+k*7+j,none⟩=(bQ (.slice pa f.parts.length pc) f)[j]? :=fun j hj=>(HI.out.below.cell (p:=⟨b1,o1+k*7+j,none⟩) hblt).trans (hcl j hj)
   have q0:=hcl 0 (by omega);have q1:=hcl 1 (by omega);have q2:=hcl 2 (by omega);have q3:=hcl 3 (by omega);have q4:=hcl 4 (by omega);have q5:=hcl 5 (by omega);have q6:=hcl 6 (by omega);simp only[bQ,ci,Nat.add_zero]at q0 q1 q2 q3 q4 q5 q6;have HF:=aa hf;have HPA:=aa hpa;obtain⟨pn,hpn⟩: ∃n,n=f.parts.length:=⟨_,rfl⟩;rw[<-hpn]at q6 HPA;have HPN:=aa hpn;have hpn8:pn<=100000:=by
    have h1:=congrArg List.length (pJ hf);have h2:=rD x (k+1);have h3:=HNP.out;have h4:=HN.out;rw[List.length_append]at h1;unfold eo at h1;rw[List.length_append,BA]at h1;omega
   have HKS:=aa (pJ hf);clear hf hpa hcl hpn
   go_upto_region 6 with fail
   obtain⟨W1,hW1⟩: ∃u:World,u=W0.alloc (.cells #[.string f.path, .int .i64 f.kind, .int .i64 f.mode, .int .i64 f.time, .int .i64 f.size, .string f.link, .slice pa pn pc] 42):=⟨_,rfl⟩;rw[<-hW1];have hbw:Below W0.heap.size W0 W1:=by rw[hW1]; exact(Below.refl _ _).alloc (Nat.le_refl _) _
   have HX1:=aa (show W1.heap[W0.heap.size]? =some (.cells #[.string f.path, .int .i64 f.kind, .int .i64 f.mode, .int .i64 f.time, .int .i64 f.size, .string f.link, .slice pa pn pc] 42 (0,0)) by rw[hW1]; exact heap_alloc_new W0 _);have HI1:=aa (HI.out.next hbw);obtain⟨bX,hbX⟩: ∃k,k=W0.heap.size:=⟨_,rfl⟩;rw[<-hbX]at HX1;rw[<-hbX];clear hW1 hbw hbX q0 q1 q2 q3 q4 q5 q6 x0 x1;refine cA (ld bX f (.slice pa pn pc)) (by kernel_rfl) (by kernel_rfl) ?_
   simp only[List.dropLast_cons_cons,List.dropLast_singleton,List.length_cons,List.length_nil,Nat.reduceAdd,Nat.reduceSub];obtain⟨V0,hV0⟩: ∃V:World,V=W1.drew:=⟨_,rfl⟩;rw[<-hV0];have hb:Below W1.heap.size W1 V0:=by rw[hV0]; exact(Below.refl _ _).drew
   have IV0:=aa (HI1.out.next hb);have SV0:=aa ((ld.of HX1.out).below hb);clear hV0 hb;refine ab 0 rfl (by kernel_rfl) (by kernel_rfl) (by kernel_rfl) (fun _ _ _ h=>h) rfl SV0.out (by rintro w' ⟨_,_,_,_,_,_,_,_⟩; go_simp; rfl) ?_;simp only[Act.put,aD,aE,aF];refine ab 1 rfl (by kernel_rfl) (by kernel_rfl) (by kernel_rfl) (fun _ _ _ h=>h) rfl SV0.out (by rintro w' ⟨_,_,_,_,_,_,_,_⟩; go_simp; rfl) ?_
   simp only[Act.put,aD,aE,aF];refine ab 2 rfl (by kernel_rfl) (by kernel_rfl) (by kernel_rfl) (fun _ _ _ h=>h) rfl SV0.out (by rintro w' ⟨_,_,_,_,_,_,_,_⟩; go_simp; rfl) ?_;simp only[Act.put,aD,aE,aF];refine ab 4 rfl (by kernel_rfl) (by kernel_rfl) (by kernel_rfl) (fun _ _ _ h=>h) rfl SV0.out (by rintro w' ⟨_,_,_,_,_,_,_,_⟩; go_simp; rfl) ?_;simp only[Act.put,aD,aE,aF]
   refine ab 5 rfl (by kernel_rfl) (by kernel_rfl) (by kernel_rfl) (fun _ _ _ h=>h) rfl SV0.out (by rintro w' ⟨_,_,_,_,_,_,_,_⟩; go_simp; rfl) ?_;simp only[Act.put,aD,aE,aF];refine ab 7 rfl (by kernel_rfl) (by kernel_rfl) (by kernel_rfl) (fun _ _ _ h=>h) rfl SV0.out (by rintro w' ⟨_,_,_,_,_,_,_,_⟩; go_simp; rfl) ?_;simp only[Act.put,aD,aE,aF];refine ab 8 rfl (by kernel_rfl) (by kernel_rfl) (by kernel_rfl) (fun _ _ _ h=>h) rfl SV0.out (by rintro w' ⟨_,_,_,_,_,_,_,_⟩; go_simp; rfl) ?_
   simp only[Act.put,aD,aE,aF];refine ab 10 rfl (by kernel_rfl) (by kernel_rfl) (by kernel_rfl) (fun _ _ _ h=>h) rfl SV0.out (by rintro w' ⟨_,_,_,_,_,_,_,_⟩; go_simp; rfl) ?_;simp only[Act.put,aD,aE,aF];refine ab 11 rfl (by kernel_rfl) (by kernel_rfl) (by kernel_rfl) (fun _ _ _ h=>h) rfl SV0.out (by rintro w' ⟨_,_,_,_,_,_,_,_⟩; go_simp; rfl) ?_;simp only[Act.put,aD,aE,aF]
   refine ab 13 rfl (by kernel_rfl) (by kernel_rfl) (by kernel_rfl) (fun _ _ _ h=>h) rfl SV0.out (by rintro w' ⟨_,_,_,_,_,_,_,_⟩; go_simp; rfl) ?_;simp only[Act.put,aD,aE,aF];refine ab 14 rfl (by kernel_rfl) (by kernel_rfl) (by kernel_rfl) (fun _ _ _ h=>h) rfl SV0.out (by rintro w' ⟨_,_,_,_,_,_,_,_⟩; go_simp; rfl) ?_;simp only[Act.put,aD,aE,aF];refine ab 16 rfl (by kernel_rfl) (by kernel_rfl) (by kernel_rfl) (fun _ _ _ h=>h) rfl SV0.out (by rintro w' ⟨_,_,_,_,_,_,_,_⟩; go_simp; rfl) ?_
   simp only[Act.put,aD,aE,aF];refine ab 17 rfl (by kernel_rfl) (by kernel_rfl) (by kernel_rfl) (fun _ _ _ h=>h) rfl SV0.out (by rintro w' ⟨_,_,_,_,_,_,_,_⟩; go_simp; rfl) ?_;simp only[Act.put,aD,aE,aF];refine ab 19 rfl (by kernel_rfl) (by kernel_rfl) (by kernel_rfl) (fun _ _ _ h=>h) rfl SV0.out (by rintro w' ⟨_,_,_,_,_,_,_,_⟩; go_simp; rfl) ?_;simp only[Act.put,aD,aE,aF]
   refine ab 20 rfl (by kernel_rfl) (by kernel_rfl) (by kernel_rfl) (fun _ _ _ h=>h) rfl SV0.out (by rintro w' ⟨_,_,_,_,_,_,_,_⟩; go_simp; rfl) ?_;simp only[Act.put,aD,aE,aF];refine ab 21 rfl (by kernel_rfl) (by kernel_rfl) (by kernel_rfl) (fun _ _ _ h=>h) rfl SV0.out (by rintro w' ⟨_,_,_,_,_,_,_,_⟩; go_simp; rfl) ?_;simp only[Act.put,aD,aE,aF];refine ax 3 rfl (by kernel_rfl) rfl (fun K hK=> ?_)
   go_wp2_with (go_at_call 57; refine(rA (f.path) _).mono ?_; rintro e V1 ⟨rfl,hb⟩; unfold rvV jQ);have IV1:=aa (IV0.out.next hb);have SV1:=aa (SV0.out.below hb);clear hb;refine⟨SV1.out, ?_⟩;refine ax 6 rfl (by kernel_rfl) rfl (fun K hK=> ?_);go_wp2_with (go_at_call 55; refine(km (f.kind) _).mono ?_; rintro e V2 ⟨m1',hm,rfl,hb⟩);have IV2:=aa (IV1.out.next hb);have SV2:=aa (SV1.out.below hb)
   have M1:=aa hm;clear hb hm;refine⟨SV2.out, ?_⟩;refine ax 9 rfl (by kernel_rfl) rfl (fun K hK=> ?_);go_wp2_with (go_at_call 55; refine(km (f.mode) _).mono ?_; rintro e V3 ⟨m2',hm,rfl,hb⟩);have IV3:=aa (IV2.out.next hb);have SV3:=aa (SV2.out.below hb);have M2:=aa hm;clear hb hm;refine⟨SV3.out, ?_⟩;refine ax 12 rfl (by kernel_rfl) rfl (fun K hK=> ?_);go_wp2_with (go_at_call 55; refine(km (f.time) _).mono ?_; rintro e V4 ⟨m3',hm,rfl,hb⟩)
   have IV4:=aa (IV3.out.next hb);have SV4:=aa (SV3.out.below hb);have M3:=aa hm;clear hb hm;refine⟨SV4.out, ?_⟩;refine ax 15 rfl (by kernel_rfl) rfl (fun K hK=> ?_);go_wp2_with (go_at_call 55; refine(km (f.size) _).mono ?_; rintro e V5 ⟨m4',hm,rfl,hb⟩);have IV5:=aa (IV4.out.next hb);have SV5:=aa (SV4.out.below hb);have M4:=aa hm;clear hb hm;refine⟨SV5.out, ?_⟩;refine ax 18 rfl (by kernel_rfl) rfl (fun K hK=> ?_)
   go_wp2_with (go_at_call 57; refine(rA (f.link) _).mono ?_; rintro e V6 ⟨rfl,hb⟩; unfold rvV jQ);have IV6:=aa (IV5.out.next hb);have SV6:=aa (SV5.out.below hb);clear hb;refine⟨SV6.out, ?_⟩;refine ax 22 rfl (by kernel_rfl) rfl (fun K hK=> ?_);go_wp2_with (go_at_call 56; refine(qw pn _).mono ?_; rintro e V7 ⟨rfl,hb⟩; unfold rvV ez);have IV7:=aa (IV6.out.next hb)
   have SV7:=aa (SV6.out.below hb);clear hb;refine⟨SV7.out, ?_⟩;have HLV:=aa (show(cV f).flatMap pm=[.int .i64 5, .int .u64 0, .int .i64 0, .bool false, .string f.path, .int .i64 0, .int .i64 1, .int .u64 (m1':Int), .int .i64 0, .bool false, .string ⟨#[]⟩, .int .i64 0, .int .i64 1, .int .u64 (m2':Int), .int .i64 0, .bool false, .string ⟨#[]⟩, .int .i64 0, .int .i64 1, .int .u64 (m3':Int), .int .i64 0, .bool false, .string ⟨#[]⟩, .int .i64 0, .int .i64 1, .int .u64 (m4':Int), .int .i64 0, .bool false, .string ⟨#[]⟩, .int .i64 0, .int .i64 5, .int .u64 0, .int .i64 0, .bool false, .string f.link, .int .i64 0, .int .i64 7, .int .u64 0, .int .i64 (pn:Int), .bool false, .string ⟨#[]⟩, .int .i64 0] by
    unfold cV;rw[M1.out,M2.out,M3.out,M4.out,<-HPN.out]; rfl)
   refine ax 23 rfl (by kernel_rfl) rfl (fun K hK=> ?_);go_wp2_with fail;obtain⟨V8,hV8⟩: ∃u:World,u=V7.alloc (.cells #[.int .i64 5, .int .u64 0, .int .i64 0, .bool false, .string f.path, .int .i64 0, .int .i64 1, .int .u64 (m1':Int), .int .i64 0, .bool false, .string ⟨#[]⟩, .int .i64 0, .int .i64 1, .int .u64 (m2':Int), .int .i64 0, .bool false, .string ⟨#[]⟩, .int .i64 0, .int .i64 1, .int .u64 (m3':Int), .int .i64 0, .bool false, .string ⟨#[]⟩, .int .i64 0, .int .i64 1, .int .u64 (m4':Int), .int .i64 0, .bool false, .string ⟨#[]⟩, .int .i64 0, .int .i64 5, .int .u64 0, .int .i64 0, .bool false, .string f.link, .int .i64 0, .int .i64 7, .int .u64 0, .int .i64 (pn:Int), .bool false, .string ⟨#[]⟩, .int .i64 0] 118):=⟨_,rfl⟩
   rw[<-hV8];have hb:Below V7.heap.size V7 V8:=by rw[hV8]; exact(Below.refl _ _).alloc (Nat.le_refl _) _
   have IV8:=aa (IV7.out.next hb);have SV8:=aa (SV7.out.below hb);have HRL:=aa (show aO (fun i=>i=V7.heap.size) V8 6 (.slice (some ⟨V7.heap.size,0,none⟩) 7 7) 7 ((cV f).flatMap pm) by
    rw[HLV.out];exact fy (n:=7) (sz:=6) (by rw[hV8]; exact heap_alloc_new V7 _) rfl (by decide))
   clear hV8 hb HLV;refine⟨SV8.out, ?_⟩;refine ax 24 rfl (by kernel_rfl) rfl (fun K hK=> ?_);have HOA:=aa (show V8.ownsRow W.heap.size 118 6 (.slice va ln vc) ln (L.flatMap pm)from by have h1:=IV8.out.row; rw[<-HLN.out]at h1; exact h1);go_wp2_with (at_builtin; go_must (refine bG Tryz.appVals rfl _ _ rfl W.heap.size (.slice va ln vc) ln (L.flatMap pm) rfl HOA.out _ 7 ((cV f).flatMap pm) rfl HRL.out xQ (by omega) IV8.out.below.size ?_); intro v9 w9 hown9 hg9)
   have IV9:=aa (show xj W w9 v9 (L++cV f)from IV8.out.app (by rw[<-HLN.out]; exact hown9) hg9);have SV9:=aa (SV8.out.app HOA.out hg9);clear hown9 hg9;refine⟨SV9.out, ?_⟩;refine bh (by kernel_rfl) ?_;refine cL rfl rfl (fun K hK=> ?_);go_wp2_with fail;obtain⟨va9,vc9,hv9,-,-⟩:=ak IV9.out.row;subst hv9;obtain⟨l9,hl9⟩: ∃m,m=(L++cV f).length:=⟨_,rfl⟩
   rw[<-hl9]at IV9 ⊢;clear hl9;have HI9:=aa (show xj W w9 (.slice va9 l9 vc9) (L++cV f++(f.parts.take 0).flatMap bU) by rw[List.take_zero,List.flatMap_nil,List.append_nil]; exact IV9.out);have HPW:=aa HPA.out
   go_loopw [3,6] (fun v i wq=> ∃j:Nat,j<=pn/\i= .int .i64 j/\xj W wq v (L++cV f++(f.parts.take j).flatMap bU)/\ld bX f (.slice pa pn pc) wq) (fun _ i _=>pn-(intOf i).toNat)
   case atStart=>exact⟨0,Nat.zero_le _,rfl,HI9.out,SV9.out⟩
   case round=>
    obtain⟨j,hj,rfl,hi,hs⟩:=hrel;obtain⟨vb,vd,hvs,-,-⟩:=ak hi.row;subst hvs;obtain⟨L2,hL2⟩: ∃l,l=L++cV f++(f.parts.take j).flatMap bU:=⟨_,rfl⟩;obtain⟨l2,hl2⟩: ∃m,m=L2.length:=⟨_,rfl⟩;rw[<-hL2,<-hl2]at hi ⊢;have HJ:=aa hi;have SJ:=aa hs;have HL2:=aa hL2;have HLL:=aa hl2;obtain⟨W3,hW3⟩: ∃x:World,x=wr:=⟨_,rfl⟩;subst hW3
    have d6:=hs.2.2.2.2.2.2.2;clear hi hs hL2 hl2
    by_cases hlj:j<pn
    ·obtain⟨p,hp⟩: ∃p,f.parts[j]? =some p:=⟨_,List.getElem?_eq_getElem (show j<f.parts.length by rw[<-HPN.out]; exact hlj)⟩;obtain⟨b2,o2,rfl,-,-,-,q0,q1⟩:=dO HPA.out HJ.out.below hp;have HP:=aa hp;have hjn:(j:Int)<(pn:Int):=by omega
     have hl2b:l2<=400000:=by
      have h1:(f.parts.take j).length<=j:=List.length_take_le _ _;have h2:=HLN.out;rw[HLL.out,HL2.out,List.length_append,List.length_append,BA,<-h2];have h3:(cV f).length=7:=rfl;omega
     clear hp
     go_upto_region 10 with fail
     refine cA (fun u=>ld bX f (.slice (some ⟨b2,o2,none⟩) pn pc) u/\u.cell? ⟨b2,o2+j*2,none⟩=some (.string p.sum)/\u.cell? ⟨b2,o2+j*2+1,none⟩=some (.int .i64 p.size)) (by kernel_rfl) (by kernel_rfl) ?_;simp only[List.dropLast_cons_cons,List.dropLast_singleton,List.length_cons,List.length_nil,Nat.reduceAdd,Nat.reduceSub];obtain⟨U,hU⟩: ∃V:World,V=W3.drew:=⟨_,rfl⟩
     rw[<-hU];have hb:Below W3.heap.size W3 U:=by rw[hU]; exact(Below.refl _ _).drew
     have IU:=aa (HJ.out.next hb);have SU:=aa (And.intro (SJ.out.below hb) (And.intro ((hb.cell (ay q0)).trans q0) ((hb.cell (ay q1)).trans q1)));clear hU hb q0 q1 d6;refine ab 0 rfl (by kernel_rfl) (by kernel_rfl) (by kernel_rfl) (fun _ _ _ h=>h) rfl SU.out (by rintro w' ⟨⟨_,_,_,_,_,_,_,_⟩,_,_⟩; go_simp; rfl) ?_;simp only[Act.put,aD,aE,aF];refine ab 1 rfl (by kernel_rfl) (by kernel_rfl) (by kernel_rfl) (fun _ _ _ h=>h) rfl SU.out (by rintro w' ⟨⟨_,_,_,_,_,_,_,_⟩,_,_⟩; go_simp; rfl) ?_
     simp only[Act.put,aD,aE,aF];refine ab 2 rfl (by kernel_rfl) (by kernel_rfl) (by kernel_rfl) (fun _ _ _ h=>h) rfl SU.out (by rintro w' ⟨⟨_,_,_,_,_,_,_,_⟩,_,_⟩; go_simp; rfl) ?_;simp only[Act.put,aD,aE,aF];refine ab 3 rfl (by kernel_rfl) (by kernel_rfl) (by kernel_rfl) (fun _ _ _ h=>h) rfl SU.out (by rintro w' ⟨⟨_,_,_,_,_,_,_,_⟩,_,_⟩; go_simp; rfl) ?_
     simp only[Act.put,aD,aE,aF];refine ab 4 rfl (by kernel_rfl) (by kernel_rfl) (by kernel_rfl) (fun _ _ _ h=>h) rfl SU.out (by rintro w' ⟨⟨_,_,_,_,_,_,_,_⟩,_,_⟩; go_simp; rfl) ?_;simp only[Act.put,aD,aE,aF];refine ab 5 rfl (by kernel_rfl) (by kernel_rfl) (by kernel_rfl) (fun _ _ _ h=>h) rfl SU.out (by rintro w' ⟨⟨_,_,_,_,_,_,_,_⟩,_,_⟩; go_simp; rfl) ?_
     simp only[Act.put,aD,aE,aF];refine ab 6 rfl (by kernel_rfl) (by kernel_rfl) (by kernel_rfl) (fun _ _ _ h=>h) rfl SU.out (by rintro w' ⟨⟨_,_,_,_,_,_,_,_⟩,_,_⟩; go_simp; rfl) ?_;simp only[Act.put,aD,aE,aF];refine ab 7 rfl (by kernel_rfl) (by kernel_rfl) (by kernel_rfl) (fun _ _ _ h=>h) rfl SU.out (by rintro w' ⟨⟨_,_,_,_,_,_,_,_⟩,_,_⟩; go_simp; rfl) ?_
     simp only[Act.put,aD,aE,aF];refine ab 8 rfl (by kernel_rfl) (by kernel_rfl) (by kernel_rfl) (fun _ _ _ h=>h) rfl SU.out (by rintro w' ⟨⟨_,_,_,_,_,_,_,_⟩,_,_⟩; go_simp; rfl) ?_;simp only[Act.put,aD,aE,aF];refine ab 9 rfl (by kernel_rfl) (by kernel_rfl) (by kernel_rfl) (fun _ _ _ h=>h) rfl SU.out (by rintro w' ⟨⟨_,_,_,_,_,_,_,_⟩,_,_⟩; go_simp; rfl) ?_
     simp only[Act.put,aD,aE,aF];refine ab 10 rfl (by kernel_rfl) (by kernel_rfl) (by kernel_rfl) (fun _ _ _ h=>h) rfl SU.out (by rintro w' ⟨⟨_,_,_,_,_,_,_,_⟩,_,_⟩; go_simp; rfl) ?_;simp only[Act.put,aD,aE,aF];refine ab 11 rfl (by kernel_rfl) (by kernel_rfl) (by kernel_rfl) (fun _ _ _ h=>h) rfl SU.out (by rintro w' ⟨⟨_,_,_,_,_,_,_,_⟩,_,_⟩; go_simp; rfl) ?_
     simp only[Act.put,aD,aE,aF];refine ab 12 rfl (by kernel_rfl) (by kernel_rfl) (by kernel_rfl) (fun _ _ _ h=>h) rfl SU.out (by rintro w' ⟨⟨_,_,_,_,_,_,_,_⟩,_,_⟩; go_simp; rfl) ?_;simp only[Act.put,aD,aE,aF];refine ab 13 rfl (by kernel_rfl) (by kernel_rfl) (by kernel_rfl) (fun _ _ _ h=>h) rfl SU.out (by rintro w' ⟨⟨_,_,_,_,_,_,_,_⟩,_,_⟩; go_simp; rfl) ?_
     simp only[Act.put,aD,aE,aF];refine ax 14 rfl (by kernel_rfl) rfl (fun K hK=> ?_);go_wp2_with (go_at_call 55; refine(km p.size _).mono ?_; rintro e U1 ⟨mp,hm,rfl,hb⟩);have IU1:=aa (IU.out.next hb);have SU1:=aa (And.intro (SU.out.1.below hb) (And.intro ((hb.cell (ay SU.out.2.1)).trans SU.out.2.1) ((hb.cell (ay SU.out.2.2)).trans SU.out.2.2)));have HMP:=aa hm
     clear hb hm;refine⟨SU1.out, ?_⟩;have HLV:=aa (show(bU p).flatMap pm=[.int .i64 6, .int .u64 0, .int .i64 0, .bool false, .string p.sum, .int .i64 0, .int .i64 1, .int .u64 (mp:Int), .int .i64 0, .bool false, .string ⟨#[]⟩, .int .i64 0] by unfold bU; rw[HMP.out]; rfl);refine ax 15 rfl (by kernel_rfl) rfl (fun K hK=> ?_);go_wp2_with fail;obtain⟨U2,hU2⟩: ∃u:World,u=U1.alloc (.cells #[.int .i64 6, .int .u64 0, .int .i64 0, .bool false, .string p.sum, .int .i64 0, .int .i64 1, .int .u64 (mp:Int), .int .i64 0, .bool false, .string ⟨#[]⟩, .int .i64 0] 118):=⟨_,rfl⟩
     rw[<-hU2];have hb:Below U1.heap.size U1 U2:=by rw[hU2]; exact(Below.refl _ _).alloc (Nat.le_refl _) _
     have IU2:=aa (IU1.out.next hb);have SU2:=aa (And.intro (SU1.out.1.below hb) (And.intro ((hb.cell (ay SU1.out.2.1)).trans SU1.out.2.1) ((hb.cell (ay SU1.out.2.2)).trans SU1.out.2.2)));have HRL2:=aa (show aO (fun i=>i=U1.heap.size) U2 6 (.slice (some ⟨U1.heap.size,0,none⟩) 2 2) 2 ((bU p).flatMap pm) by
      rw[HLV.out];exact fy (n:=2) (sz:=6) (by rw[hU2]; exact heap_alloc_new U1 _) rfl (by decide))
     clear hU2 hb HLV;refine⟨SU2.out, ?_⟩;refine ax 16 rfl (by kernel_rfl) rfl (fun K hK=> ?_);have HOB:=aa (show U2.ownsRow W.heap.size 118 6 (.slice vb l2 vd) l2 (L2.flatMap pm)from by have h1:=IU2.out.row; rw[<-HLL.out]at h1; exact h1);go_wp2_with (at_builtin; go_must (refine bG Tryz.appVals rfl _ _ rfl W.heap.size (.slice vb l2 vd) l2 (L2.flatMap pm) rfl HOB.out _ 2 ((bU p).flatMap pm) rfl HRL2.out xQ (by omega) IU2.out.below.size ?_); intro vz wz hownz hgz)
     have IZ:=aa (show xj W wz vz (L2++bU p)from IU2.out.app (by rw[<-HLL.out]; exact hownz) hgz);have SZ:=aa (SU2.out.1.app HOB.out hgz);obtain⟨_,_,he2,-,-,-,z0,z1⟩:=dO HPA.out IZ.out.below HP.out;simp only[Option.some.injEq,Addr.mk.injEq,and_true]at he2;obtain⟨rfl,rfl⟩:=he2;clear hownz hgz;refine⟨⟨SZ.out,z0,z1⟩, ?_⟩;clear z0 z1;refine bh (by kernel_rfl) ?_
     obtain⟨vy,vw,hvz,-,-⟩:=ak IZ.out.row;subst hvz;obtain⟨lz,hlz⟩: ∃m,m=(L2++bU p).length:=⟨_,rfl⟩;rw[<-hlz]at IZ ⊢;clear hlz;refine cL rfl rfl (fun K hK=> ?_);go_wp2_with fail;have HREL:=aa (show xj W wz _ (L++cV f++(f.parts.take (j+1)).flatMap bU) by
      rw[bc HP.out,List.flatMap_append,<-List.append_assoc,<-HL2.out];have e1:[p].flatMap bU=bU p:=by simp
      rw[e1]; exact IZ.out)
     go_roundw
     case rel=>exact⟨j+1,by omega,by go_num,HREL.out,SZ.out⟩
     case measure=>simp[intOf]; omega
    ·have hjp:j=pn:=by omega
     subst hjp;have HREL:=aa (show xj W W3 (.slice vb l2 vd) (jd x (k+1)) by
      rw[HKS.out,<-HL.out];have e1:L2=L++eo f:=by
       rw[HL2.out,List.take_of_length_le (by rw[<-HPN.out]; exact Nat.le_refl _),List.append_assoc]; rfl
      rw[<-e1]; exact HJ.out)
     go_wp2_with fail;exact⟨⟨k+1,by omega,by go_num,HREL.out⟩,by simp[intOf]; omega⟩
  ·have hkn:k=n:=by omega
   subst hkn;have HALL:=aa (show L=gg x by
    rw[HL.out]; unfold jd gg;rw[List.take_of_length_le (by rw[<-HN.out]; exact Nat.le_refl _)])
   have HRV:=aa (show Al (fun _=>True) W0 (.slice va ln vc) (gg x)from by
    have h1:=HI.out.row;rw[<-HALL.out];refine⟨L.flatMap pm,(bi h1).weak fun _ _=>trivial,xR fun y hy=> ?_⟩;rw[HALL.out]at hy;exact vU HOK.out (by rw[<-HN.out]; omega) HNP.out y hy)
   have HLE:=aa (show(gg x).length<=1000000 by rw[<-HALL.out,<-HLN.out]; omega);have HB0:=aa HI.out.below;go_wp2_with fail;refine(vJ _ _ (gg x) _ HRV.out HLE.out).mono ?_;intro e w5 hr;unfold Af at hr;rw[HENC.out]at hr;obtain⟨hb5,v5,rfl,hby⟩:=hr;obtain⟨-,a5,c5,hv5,-⟩:=id hby
   subst hv5;have HBY:=aa hby
   have HB5:=aa hb5;clear hby hb5;go_wp2_with fail;go_ret;have h1:w.heap.size<=W0.heap.size:=by have:=HBW.out.size; have:=HB0.out.size; omega
   exact⟨_,rfl,aO.mono HBY.out (fun _ _ h=>Nat.le_trans h1 h) (by omega),HBW.out.trans ((ag HB0.out HB5.out).mono HBW.out.size)⟩
def pE (b:Nat):List Value:=[.string ⟨#[100]⟩, .int .i64 2, .int .i64 0, .int .i64 0, .slice none 0 0, .string ⟨#[]⟩, .string ⟨#[100,47,102]⟩, .int .i64 1, .int .i64 0, .int .i64 5, .slice (some ⟨b,0,none⟩) 3 3, .string ⟨#[]⟩]
theorem Az {w:World} {b k:Nat} {cs:Array Value} {t:TypeId} {z:Nat×Nat} (h:w.heap[b]? =some (.cells cs t z)):w.cell? ⟨b,k,none⟩=cs[k]? :=by
 simp[World.cell?,h]
theorem lM {W:World} {b n sz:Nat} {cells:List Value} {t:TypeId} {z:Nat×Nat} (h:W.heap[b]? =some (.cells cells.toArray t z)) (hl:cells.length=n*sz) (hn:n<=maxLen):aO (fun _=>True) W sz (.slice (some ⟨b,0,none⟩) n n) n cells:=
 ⟨hl,some ⟨b,0,none⟩,n,rfl,Nat.le_refl _,hn, .inr ⟨b,0,rfl,trivial,fun j u hj=>by rw[Az h,Nat.zero_add,List.getElem?_toArray]; exact hj⟩⟩
theorem sI {w:World} {rb b:Nat} {d:List UInt8} {t u:TypeId} {z:Nat×Nat} (h:w.heap[rb]? =some (.cells (pE b).toArray t (0,0))) (hb:w.heap[b]? =some (.cells (d.map aJ).toArray u z)) (hd:d.length=3):bR (fun _=>True) w (.slice (some ⟨rb,0,none⟩) 2 2) (dP d):=by
 refine⟨pE b,lM (n:=2) (sz:=6) (cells:=pE b) h rfl (by unfold maxLen; omega), ?_⟩;have hda:cl (fun _=>True) w (.slice (some ⟨b,0,none⟩) 3 3) d:=by
  have h1:=lM (n:=d.length) (sz:=1) (cells:=d.map aJ) hb (by simp) (by rw[hd]; unfold maxLen; omega);rw[show Value.slice (some ⟨b,0,none⟩) 3 3= .slice (some ⟨b,0,none⟩) d.length d.length by rw[hd]];exact h1
 refine⟨iH (.slice none 0 0) CS,iH (.slice (some ⟨b,0,none⟩) 3 3) (mR d),rfl,⟨_,rfl,cl.nil _ _, ?_⟩,⟨iH (.slice (some ⟨b,0,none⟩) 3 3) (mR d),[],rfl,⟨_,rfl,hda, ?_⟩,rfl⟩⟩
 ·exact⟨by show(1:Nat)<=_; unfold maxLen; omega,by show(0:Nat)<=_; omega,rfl,rfl,rfl⟩
 ·exact⟨by show(3:Nat)<=_; unfold maxLen; omega,by show(0:Nat)<=_; omega,rfl,rfl,rfl⟩
def xT (p:ByteArray×Int):bd:=⟨p.1,p.2⟩
theorem nW (l:List (ByteArray×Int)):fY l=aV (l.map xT):=by
 induction l with
 | nil=>rfl
 | cons p l ih=>
  unfold fY aV at *;rw[List.flatMap_cons,List.map_cons,List.flatMap_cons,ih]; rfl
theorem Ds {w:World} {base:Nat} {v:Value} {l:List (ByteArray×Int)} (h:w.ownsRow base 60 2 v l.length (fY l)) (hok: ∀p∈l,de (xT p)):aM (fun _=>True) w v (l.map xT):=by
 rw[nW]at h;refine⟨_, ?_,fL (fun p hp=> ?_)⟩
 ·rw[List.length_map];exact(bi h).weak (fun _ _=>trivial)
 ·obtain⟨q,hq,rfl⟩:=List.mem_map.1 hp;exact hok q hq
theorem xG {w:World} {b:Nat} {l:List (ByteArray×Int)} {t:TypeId} (h:w.heap[b]? =some (.cells (fY l).toArray t (0,0))) (hl:l.length<=maxLen) (hok: ∀p∈l,de (xT p)):aM (fun _=>True) w (.slice (some ⟨b,0,none⟩) l.length l.length) (l.map xT):=by
 rw[nW]at h;refine⟨_, ?_,fL (fun p hp=> ?_)⟩
 ·have h1:=(fy (n:=l.length) (sz:=2) (cells:=aV (l.map xT)) h (by rw[oY,List.length_map]) hl).weak (T:=fun _=>True) (fun _ _=>trivial);rw[List.length_map];exact h1
 ·obtain⟨q,hq,rfl⟩:=List.mem_map.1 hp;exact hok q hq
theorem xH (x:Int):([(⟨#[100]⟩,x),(⟨#[100,47,102]⟩,x)]:List (ByteArray×Int)).length<=maxLen:=by show 2<=maxLen; unfold maxLen; omega
def nU (x:Int):List (ByteArray×Int):=[(⟨#[100]⟩,x),(⟨#[100,47,102]⟩,x)]
theorem nC {x:Int} (h:x=1\/x=4): ∀p∈nU x,de (xT p):=by
 intro p hp;simp only[nU,List.mem_cons,List.not_mem_nil,or_false]at hp
 rcases h with rfl | rfl<;> rcases hp with rfl | rfl
 all_goals exact⟨by first | (show(1:Nat)<=_; unfold maxLen; omega) | (show(3:Nat)<=_; unfold maxLen; omega),rfl⟩
theorem pp (S T:Nat->Prop) (v u:Value) (rs ss:List bd) (b:Bool) (w:World) (hv:aM S w v rs) (hu:aM T w u ss) (h:decide (rs=ss)=b):Calls Tryz.prog 24 #[v,u] w fun e w'=>e= .returned (.bool b)/\Below w.heap.size w w':=by
 rw[<-h]; exact uI S T v u rs ss w hv hu
theorem mh (w:World) (C:Array Value) (n c:Nat):(convert 28 28 (.slice (some ⟨w.heap.size,0,none⟩) n c)).run Tryz.prog (w.alloc (.cells C 5))= .ok (.slice (some ⟨w.heap.size,0,none⟩) n c) (w.alloc (.cells C 5 (C.size,C.size+1))):=
 Lib.run_convert_bytes_const w 28 5 C n c Tryz.underlying28 Tryz.underlying5
theorem zy (v u:Value) (L M:List (List UInt8)) (b:Bool) (w:World) (hv:gK w v L) (hu:gK w u M) (h:decide (L=M)=b):Calls Tryz.prog 32 #[v,u] w fun e w'=>e= .returned (.bool b)/\Below w.heap.size w w':=by
 rw[<-h]; exact wH v u L M w hv hu
theorem zA (tv:Value) (w:World) (ht:bR (fun _=>True) w tv (dP [97,98,99])) (he:je w):Calls Tryz.prog 20 #[.agg #[.int .i64 0, .slice none 0 0], .int .i64 10,tv, .string ⟨#[]⟩, .agg #[.int .i64 4, .int .i64 8, .int .i64 4, .int .i64 20, .int .u64 0]] w (lg (.ok ⟨⟨10,cG [bF [97,98,99]]⟩,nU 1,[[97,98,99]],1,0⟩) w):=by
 have h:=pq (fun _=>True) (fun _=>True) ⟨0,[]⟩ (.slice none 0 0) tv 10 (dP [97,98,99]) ⟨#[]⟩ jw w (aZ.nil _ _) ht he (by decide) (by simp);rw[show bl ⟨#[]⟩=[]from rfl,Ed]at h;exact h
theorem Ba : ∀f∈cG [bF [97,98,99]],f.parts.length<=1048576:=by
 intro f hf;simp only[cG,List.mem_cons,List.not_mem_nil,or_false]at hf
 rcases hf with rfl | rfl<;> simp
theorem zB (S:Nat->Prop) (fv tv:Value) (w:World) (hf:aZ S w fv (cG [bF [97,98,99]])) (ht:bR (fun _=>True) w tv (dP [97,98,100])) (he:je w):Calls Tryz.prog 20 #[.agg #[.int .i64 10,fv], .int .i64 20,tv, .string ⟨#[]⟩, .agg #[.int .i64 4, .int .i64 8, .int .i64 4, .int .i64 20, .int .u64 0]] w (lg (.ok ⟨⟨20,cG [bF [97,98,99]]⟩,[],[],0,1⟩) w):=by
 have h:=pq S (fun _=>True) ⟨10,cG [bF [97,98,99]]⟩ fv tv 20 (dP [97,98,100]) ⟨#[]⟩ jw w hf ht he (by decide) Ba;rw[show bl ⟨#[]⟩=[]from rfl,EQ]at h;exact h
theorem zC (S:Nat->Prop) (fv tv:Value) (w:World) (hf:aZ S w fv (cG [bF [97,98,99]])) (ht:bR (fun _=>True) w tv (dP [97,98,100])) (he:je w):Calls Tryz.prog 20 #[.agg #[.int .i64 10,fv], .int .i64 20,tv, .string ⟨#[100,47]⟩, .agg #[.int .i64 4, .int .i64 8, .int .i64 4, .int .i64 20, .int .u64 0]] w (lg (.ok ⟨⟨20,[]⟩,nU 4,[],0,0⟩) w):=by
 have h:=pq S (fun _=>True) ⟨10,cG [bF [97,98,99]]⟩ fv tv 20 (dP [97,98,100]) ⟨#[100,47]⟩ jw w hf ht he (by decide) Ba;rw[show bl ⟨#[100,47]⟩=[100,47]from rfl,ER]at h;exact h
theorem gI (w:World) (o:Obj):(w.alloc o).heap.size=w.heap.size+1:=by simp
theorem mq {w:World} {o x:Obj} {k:Nat} (h:w.heap[k]? =some x):(w.alloc o).heap[k]? =some x:=by
 rw[heap_alloc_old _ _ (lt_of_block h)]; exact h
theorem wT {w W:World} {n:Nat} (o p:Obj) (h:Below n w W) (hn:n<=W.heap.size):Below n w ((W.alloc o).alloc p):=
 (h.alloc hn _).alloc (by rw[gI]; omega) _
theorem xJ (W:World) (o p:Obj):((W.alloc o).alloc p).heap[W.heap.size+1]? =some p:=by
 rw[<-gI W o]; exact heap_alloc_new _ _
theorem Cf {w:World} {rb b c:Nat} {t:TypeId} (h:w.heap[rb]? =some (.cells (pE b).toArray t (0,0))):(w.setCell ⟨rb,10,none⟩ (.slice (some ⟨c,0,none⟩) 3 3)).heap[rb]? =some (.cells (pE c).toArray t (0,0)):=by
 rw[heap_setCell_same _ _ _ _ _ _ h]
 rfl
theorem Dp (w:World) (a:Addr) (v:Value) (o:Obj):((w.setCell a v).alloc o).heap[w.heap.size]? =some o:=by
 have h:=heap_alloc_new (w.setCell a v) o;have e:(w.setCell a v).heap.size=w.heap.size:=by simp
 rw[e]at h; exact h
theorem xL {w:World} {a:Addr} {v:Value} {o x:Obj} {k:Nat} (h:w.heap[k]? =some x) (hk:k≠a.block):((w.setCell a v).alloc o).heap[k]? =some x:=
 mq ((heap_setCell_other _ _ _ _ hk).trans h)
theorem En {w:World} {base b j:Nat} {v fv:Value} {o:Obj} {fs:List al} (h:bH w base fv fs) (hb:b<base):bH ((w.setCell ⟨b,j,none⟩ v).alloc o) base fv fs:=
 bH.below (h.same fun k _ _ _ hB _ _=>heap_setCell_other _ _ _ _ (by show k≠b; omega)) ((Below.refl _ _).alloc (Nat.le_refl _) _)
theorem Ex {w W:World} {n:Nat} {a:Addr} (v:Value) (o:Obj) (h:Below n w W) (hn:n<=a.block) (hz:n<=W.heap.size):Below n w ((W.setCell a v).alloc o):=
 (h.setCell hn _).alloc (by simpa using hz) _
theorem wl {r:Am} {w w':World} {e:Ending} (h:lg (.ok r) w e w') (hok: ∀p∈r.chg,de (xT p)): ∃fa fn fc ca cn cc na nc,e= .returned (.tuple #[.agg #[.int .i64 r.idx.tm, .slice fa fn fc, .slice ca cn cc, .slice na r.news.length nc, .int .i64 (r.read:Int), .int .i64 (r.kept:Int)], .int .i64 0])/\Below w.heap.size w w'/\bH w' w.heap.size (.slice fa fn fc) r.idx.files/\aM (fun _=>True) w' (.slice ca cn cc) (r.chg.map xT)/\gK w' (.slice na r.news.length nc) r.news/\cn=r.chg.length:=by
 obtain⟨hb,fv,cv,nv,rfl,hf,hc,hn⟩:=h;obtain⟨zs,-,hz,-⟩:=hf.row;obtain⟨fa,fc,rfl,-,-⟩:=ak hz;have hc':=Ds hc hok;obtain⟨ca,cc,rfl,-,-⟩:=ak hc;obtain⟨ys,hys,hn1,-⟩:=id hn;have hl:ys.length=r.news.length:=by rw[<-hys,List.length_map]
 have hn':=wv hn;obtain⟨na,nc,rfl,-,-⟩:=ak hn1;rw[hl]at hn' ⊢;exact⟨fa,_,fc,ca,_,cc,na,nc,rfl,hb,hf,hc',hn',rfl⟩
theorem CE {w:World} {rb b:Nat} {d:List UInt8} {t u:TypeId} {z z':Nat×Nat} (h:w.heap[rb]? =some (.cells #[.slice (some ⟨b,0,none⟩) 3 3] t z')) (hb:w.heap[b]? =some (.cells (d.map aJ).toArray u z)) (hd:d.length=3):gK w (.slice (some ⟨rb,0,none⟩) 1 1) [d]:=by
 refine⟨[.slice (some ⟨b,0,none⟩) 3 3],lM (n:=1) (sz:=1) (cells:=[.slice (some ⟨b,0,none⟩) 3 3]) h rfl (by unfold maxLen; omega),fun k y pl hy hp=> ?_⟩
 rcases k with _ | k
 ·cases hy; cases hp
  have h1:=lM (n:=d.length) (sz:=1) (cells:=d.map aJ) hb (by simp) (by rw[hd]; unfold maxLen; omega);rw[show Value.slice (some ⟨b,0,none⟩) 3 3= .slice (some ⟨b,0,none⟩) d.length d.length by rw[hd]];exact h1
 ·simp at hy
theorem gK.two {w:World} {v:Value} {L:List (List UInt8)} {o p:Obj} (h:gK w v L):gK ((w.alloc o).alloc p) v L:=h.below (wT _ _ (Below.refl _ _) (Nat.le_refl _))
theorem aM.below' {w w':World} {v:Value} {ps:List bd} (h:aM (fun _=>True) w v ps) (hb:Below w.heap.size w w'):aM (fun _=>True) w' v ps:=by
 obtain⟨cells,h1,h2⟩:=h;exact⟨cells,aO.below h1 (by omega) hb,h2⟩
theorem jq (w:World) (he:je w):Calls Tryz.prog 11 #[] w fun e w'=>e= .returned (.bool true)/\Below w.heap.size w w':=by
 have HE:=aa he;have h6:=he.six;clear he
 go_enter Tryz.func11,Tryz.ntmps11
 go_upto_region 2 with fail
 obtain⟨W1,hW1⟩: ∃W1,W1=w.alloc (.cells #[.int .i64 4, .int .i64 8, .int .i64 4, .int .i64 20, .int .u64 0] 48):=⟨_,rfl⟩;rw[<-hW1];have HB1:=aa (show Below w.heap.size w W1 by rw[hW1]; exact(Below.refl _ _).alloc (Nat.le_refl _) _);have HC1:=aa (show W1.heap[w.heap.size]? =some (.cells #[.int .i64 4, .int .i64 8, .int .i64 4, .int .i64 20, .int .u64 0] 48 (0,0)) by rw[hW1]; exact heap_alloc_new w _)
 have hz1:w.heap.size<W1.heap.size:=lt_of_block HC1.out;clear hW1;have hcv:=mh W1 #[.int .u8 97, .int .u8 98, .int .u8 99] 3 3
 go_upto_region 3 with fail
 obtain⟨W3,hW3⟩: ∃W3,W3=(W1.alloc (.cells #[.int .u8 97, .int .u8 98, .int .u8 99] 5 (3,4))).alloc (.cells #[.string ⟨#[100]⟩, .int .i64 2, .int .i64 0, .int .i64 0, .slice none 0 0, .string ⟨#[]⟩, .string ⟨#[100,47,102]⟩, .int .i64 1, .int .i64 0, .int .i64 5, .slice (some ⟨W1.heap.size,0,none⟩) 3 3, .string ⟨#[]⟩] 30):=⟨_,rfl⟩;rw[<-hW3];have HB3:=aa (show Below w.heap.size w W3 by rw[hW3]; exact wT _ _ HB1.out (by omega))
 have HC3:=aa (show W3.heap[w.heap.size]? =some (.cells #[.int .i64 4, .int .i64 8, .int .i64 4, .int .i64 20, .int .u64 0] 48 (0,0)) by rw[hW3]; exact mq (mq HC1.out));have HD3:=aa (show W3.heap[W1.heap.size]? =some (.cells ([97,98,99].map aJ).toArray 5 (3,4)) by rw[hW3]; exact mq (heap_alloc_new W1 _));have HT3:=aa (show W3.heap[W1.heap.size+1]? =some (.cells (pE W1.heap.size).toArray 30 (0,0)) by rw[hW3]; exact xJ W1 _ _)
 clear hW3;have c0:=ah (k:=0) HC3.out;have c1:=ah (k:=1) HC3.out;have c2:=ah (k:=2) HC3.out;have c3:=ah (k:=3) HC3.out;have c4:=ah (k:=4) HC3.out;simp only[List.getElem?_toArray,ci]at c0 c1 c2 c3 c4;have ht3:=aa (sI HT3.out HD3.out rfl);go_wp2_with (refine(zA _ _ ht3.out (HE.out.below HB3.out)).mono ?_);intro e w4 h4;obtain⟨fa,fn,fc,ca,cn,cc,na,nc,rfl,hb4,hf4,hc4,hn4,-⟩:=wl h4 (nC (.inl rfl))
 have HB4:=aa hb4;have HF4:=aa hf4;have HP4:=aa hc4;have HN4:=aa hn4;have hz4:=hb4.size;clear h4 hb4 hf4 hc4 hn4
 go_upto_region 4 with fail
 obtain⟨W5,hW5⟩: ∃W5,W5=w4.alloc (.cells #[.int .i64 10, .slice fa fn fc, .slice ca cn cc, .slice na 1 nc, .int .i64 1, .int .i64 0] 54):=⟨_,rfl⟩;rw[<-hW5];have HX5:=aa (show W5.heap[w4.heap.size]? =some (.cells #[.int .i64 10, .slice fa fn fc, .slice ca cn cc, .slice na 1 nc, .int .i64 1, .int .i64 0] 54 (0,0)) by rw[hW5]; exact heap_alloc_new w4 _);have HB5:=aa (show Below w4.heap.size w4 W5 by rw[hW5]; exact(Below.refl _ _).alloc (Nat.le_refl _) _)
 have hz5:W5.heap.size=w4.heap.size+1:=by rw[hW5]; exact gI _ _
 clear hW5;have hcv5:=mh W5 #[.int .u8 97, .int .u8 98, .int .u8 99] 3 3;have HZ5:=aa hz5;clear hz5;have x0:=ah (k:=0) HX5.out;have x1:=ah (k:=1) HX5.out;have x2:=ah (k:=2) HX5.out;have x3:=ah (k:=3) HX5.out;have x4:=ah (k:=4) HX5.out;have x5:=ah (k:=5) HX5.out;simp only[List.getElem?_toArray,ci]at x0 x1 x2 x3 x4 x5;go_wp2_with (refine(zy _ _ [[97,98,99]] [[97,98,99]] true _ (HN4.out.below HB5.out).two (CE (xJ _ _ _) (mq (heap_alloc_new _ _)) rfl) (by decide)).mono ?_)
 rintro e w6 ⟨rfl,hb6⟩;have HB6:=aa (show Below W5.heap.size W5 w6 from(wT _ _ (Below.refl _ _) (Nat.le_refl _)).trans (hb6.mono (by rw[gI,gI]; omega)));clear hb6;have HX6:=aa ((HB6.out.block _ (lt_of_block HX5.out)).trans HX5.out);have hz6:=HB6.out.size;have HP6:=aa ((HP4.out.below' HB5.out).below' HB6.out);clear x0 x1 x2 x3 x4 x5;have x0:=ah (k:=0) HX6.out;have x1:=ah (k:=1) HX6.out
 have x2:=ah (k:=2) HX6.out;have x3:=ah (k:=3) HX6.out;have x4:=ah (k:=4) HX6.out;have x5:=ah (k:=5) HX6.out;simp only[List.getElem?_toArray,ci]at x0 x1 x2 x3 x4 x5;go_wp2_with (refine(pp _ _ _ _ ((nU 1).map xT) ((nU 1).map xT) true _ (HP6.out.below' ((Below.refl _ _).alloc (Nat.le_refl _) _)) (xG (l:=nU 1) (heap_alloc_new _ _) (xH 1) (nC (.inl rfl))) (decide_eq_true rfl)).mono ?_)
 rintro e w7 ⟨rfl,hb7⟩;have HB7:=aa (show Below w6.heap.size w6 w7 from((Below.refl _ _).alloc (Nat.le_refl _) _).trans (hb7.mono (by rw[gI]; omega)));clear hb7;have HX7:=aa ((HB7.out.block _ (lt_of_block HX6.out)).trans HX6.out);have hz7:=HB7.out.size;clear x0 x1 x2 x3 x4 x5 hcv5
 go_upto_region 6 with fail
 have hz4s:W3.heap.size<=w7.heap.size:=by have:=HZ5.out; omega
 have HB37:=aa (show Below W3.heap.size W3 w7 from((HB4.out.trans (HB5.out.mono hz4)).trans (HB6.out.mono (by have:=HZ5.out; omega))).trans (HB7.out.mono (by have:=HZ5.out; omega)));have HT7:=aa ((HB37.out.block _ (lt_of_block HT3.out)).trans HT3.out);have HC7:=aa ((HB37.out.block _ (lt_of_block HC3.out)).trans HC3.out);have HF7:=aa (((HF4.out.below HB5.out).below HB6.out).below HB7.out)
 have hcv7:=mh w7 #[.int .u8 97, .int .u8 98, .int .u8 100] 3 3;have hz17:W1.heap.size+1<w7.heap.size:=lt_of_block HT7.out;have f10:w7.frozen? ⟨W1.heap.size+1,10,none⟩=false:=aj HT7.out;have t10:w7.cell? ⟨W1.heap.size+1,10,none⟩=some (.slice (some ⟨W1.heap.size,0,none⟩) 3 3):=Az (k:=10) HT7.out;have hw37:w.heap.size<=W3.heap.size:=HB3.out.size
 clear hz4s
 go_upto_region 7 with fail
 obtain⟨W8,hW8⟩: ∃W8,W8=(w7.setCell ⟨W1.heap.size+1,10,none⟩ (.slice (some ⟨w7.heap.size,0,none⟩) 3 3)).alloc (.cells #[.int .u8 97, .int .u8 98, .int .u8 100] 5 (3,4)):=⟨_,rfl⟩;rw[<-hW8];have HT8:=aa (show W8.heap[W1.heap.size+1]? =some (.cells (pE w7.heap.size).toArray 30 (0,0)) by rw[hW8]; exact mq (Cf HT7.out));have HD8:=aa (show W8.heap[w7.heap.size]? =some (.cells ([97,98,100].map aJ).toArray 5 (3,4)) by rw[hW8]; exact Dp _ _ _ _)
 have hl3:W1.heap.size+1<W3.heap.size:=lt_of_block HT3.out;have HC8:=aa (show W8.heap[w.heap.size]? =some (.cells #[.int .i64 4, .int .i64 8, .int .i64 4, .int .i64 20, .int .u64 0] 48 (0,0)) by rw[hW8]; exact xL HC7.out (by show w.heap.size≠W1.heap.size+1; omega));have HX8:=aa (show W8.heap[w4.heap.size]? =some (.cells #[.int .i64 10, .slice fa fn fc, .slice ca cn cc, .slice na 1 nc, .int .i64 1, .int .i64 0] 54 (0,0)) by rw[hW8]; exact xL HX7.out (by show w4.heap.size≠W1.heap.size+1; omega))
 have HF8:=aa (show bH W8 W3.heap.size (.slice fa fn fc) (cG [bF [97,98,99]]) by rw[hW8]; exact En HF7.out hl3);have HB8:=aa (show Below w.heap.size w W8 by rw[hW8]; exact Ex _ _ (HB3.out.trans (HB37.out.mono hw37)) (by show w.heap.size<=W1.heap.size+1; omega) (by omega));have HE8:=aa (HE.out.keep HB8.out h6);have hz8:w.heap.size<=W8.heap.size:=HB8.out.size
 clear hW8 hcv7 t10 f10 c0 c1 c2 c3 c4;have x0:=ah (k:=0) HX8.out;have x1:=ah (k:=1) HX8.out;have x2:=ah (k:=2) HX8.out;have x3:=ah (k:=3) HX8.out;have x4:=ah (k:=4) HX8.out;have x5:=ah (k:=5) HX8.out;simp only[List.getElem?_toArray,ci]at x0 x1 x2 x3 x4 x5;have c0:=ah (k:=0) HC8.out;have c1:=ah (k:=1) HC8.out;have c2:=ah (k:=2) HC8.out
 have c3:=ah (k:=3) HC8.out;have c4:=ah (k:=4) HC8.out;simp only[List.getElem?_toArray,ci]at c0 c1 c2 c3 c4;have ht8:=aa (sI HT8.out HD8.out rfl);go_wp2_with (refine(zB (fun k=>W3.heap.size<=k) _ _ _ HF8.out.at ht8.out HE8.out).mono ?_);intro e w9 h9;obtain⟨fa2,fn2,fc2,ca2,cn2,cc2,na2,nc2,rfl,hb9,-,-,-,hcn2⟩:=wl h9 (fun p hp=>absurd hp (by simp))
 dsimp only at hcn2
 subst hcn2;have HB9:=aa hb9;have hz9:=hb9.size;clear h9 hb9
 go_upto_region 8 with fail
 obtain⟨WA,hWA⟩: ∃WA,WA=w9.alloc (.cells #[.int .i64 20, .slice fa2 fn2 fc2, .slice ca2 0 cc2, .slice na2 0 nc2, .int .i64 0, .int .i64 1] 54):=⟨_,rfl⟩;rw[<-hWA];have HYA:=aa (show WA.heap[w9.heap.size]? =some (.cells #[.int .i64 20, .slice fa2 fn2 fc2, .slice ca2 0 cc2, .slice na2 0 nc2, .int .i64 0, .int .i64 1] 54 (0,0)) by rw[hWA]; exact heap_alloc_new w9 _);have HBA:=aa (show Below W8.heap.size W8 WA by rw[hWA]; exact HB9.out.alloc hz9 _)
 have HTA:=aa ((HBA.out.block _ (lt_of_block HT8.out)).trans HT8.out);have HDA:=aa ((HBA.out.block _ (lt_of_block HD8.out)).trans HD8.out);have HCA:=aa ((HBA.out.block _ (lt_of_block HC8.out)).trans HC8.out);have HXA:=aa ((HBA.out.block _ (lt_of_block HX8.out)).trans HX8.out);have HFA:=aa (HF8.out.below HBA.out);have HEA:=aa (HE8.out.below HBA.out);have hzA:=HBA.out.size;clear hWA c0 c1 c2 c3 c4 x0 x1 x2 x3 x4 x5
 have x0:=ah (k:=0) HXA.out;have x1:=ah (k:=1) HXA.out;have x2:=ah (k:=2) HXA.out;have x3:=ah (k:=3) HXA.out;have x4:=ah (k:=4) HXA.out;have x5:=ah (k:=5) HXA.out;simp only[List.getElem?_toArray,ci]at x0 x1 x2 x3 x4 x5;have c0:=ah (k:=0) HCA.out;have c1:=ah (k:=1) HCA.out;have c2:=ah (k:=2) HCA.out;have c3:=ah (k:=3) HCA.out
 have c4:=ah (k:=4) HCA.out;simp only[List.getElem?_toArray,ci]at c0 c1 c2 c3 c4;have htA:=aa (sI HTA.out HDA.out rfl);go_wp2_with (refine(zC (fun k=>W3.heap.size<=k) _ _ _ HFA.out.at htA.out HEA.out).mono ?_);intro e wb hb;obtain⟨fa3,fn3,fc3,ca3,cn3,cc3,na3,nc3,rfl,hbb,-,hcb,-,-⟩:=wl hb (nC (.inr rfl));have HBB:=aa hbb;have HPB:=aa hcb;have hzb:=hbb.size
 clear hb hbb hcb
 go_upto_region 9 with fail
 obtain⟨WC,hWC⟩: ∃WC,WC=wb.alloc (.cells #[.int .i64 20, .slice fa3 fn3 fc3, .slice ca3 cn3 cc3, .slice na3 0 nc3, .int .i64 0, .int .i64 0] 54):=⟨_,rfl⟩;rw[<-hWC];have HZC:=aa (show WC.heap[wb.heap.size]? =some (.cells #[.int .i64 20, .slice fa3 fn3 fc3, .slice ca3 cn3 cc3, .slice na3 0 nc3, .int .i64 0, .int .i64 0] 54 (0,0)) by rw[hWC]; exact heap_alloc_new wb _);have HBC:=aa (show Below WA.heap.size WA WC by rw[hWC]; exact HBB.out.alloc hzb _)
 have HPC:=aa (show aM (fun _=>True) WC (.slice ca3 cn3 cc3) ((nU 4).map xT) by rw[hWC]; exact HPB.out.below' ((Below.refl _ _).alloc (Nat.le_refl _) _));have HYC:=aa ((HBC.out.block _ (lt_of_block HYA.out)).trans HYA.out);have hzC:=HBC.out.size;clear hWC c0 c1 c2 c3 c4 x0 x1 x2 x3 x4 x5;have x0:=ah (k:=0) HYC.out;have x1:=ah (k:=1) HYC.out;have x2:=ah (k:=2) HYC.out
 have x3:=ah (k:=3) HYC.out;have x4:=ah (k:=4) HYC.out;have x5:=ah (k:=5) HYC.out;simp only[List.getElem?_toArray,ci]at x0 x1 x2 x3 x4 x5;have y0:=ah (k:=0) HZC.out;have y1:=ah (k:=1) HZC.out;have y2:=ah (k:=2) HZC.out;have y3:=ah (k:=3) HZC.out;have y4:=ah (k:=4) HZC.out;have y5:=ah (k:=5) HZC.out;simp only[List.getElem?_toArray,ci]at y0 y1 y2 y3 y4 y5
 go_wp2_with (refine(pp _ _ _ _ ((nU 4).map xT) ((nU 4).map xT) true _ (HPC.out.below' ((Below.refl _ _).alloc (Nat.le_refl _) _)) (xG (l:=nU 4) (heap_alloc_new _ _) (xH 4) (nC (.inr rfl))) (decide_eq_true rfl)).mono ?_);rintro e wd ⟨rfl,hbd⟩;have HBD:=aa (show Below w.heap.size w wd from((HB8.out.trans (HBA.out.mono hz8)).trans (HBC.out.mono (by omega))).trans (((Below.refl WC.heap.size WC).alloc (Nat.le_refl _) _).mono (by omega) |>.trans (hbd.mono (by rw[gI]; omega))))
 clear hbd;go_wp2_with fail;go_ret
 first | exact HBD.out | exact⟨rfl,HBD.out⟩
end Go.Proofs.YtnjkpcalgoefhaaGreatDoor
