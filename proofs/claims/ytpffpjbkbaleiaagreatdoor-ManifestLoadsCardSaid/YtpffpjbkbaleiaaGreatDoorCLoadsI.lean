/- Texts of this proof, one after the other: Ld24B, LawIts, RfB, RfC, Ld24C, LawLod, Frame, OpM. -/
import Derived.Test.YtpffpjbkbaleiaaGreatDoorCLoadsH
set_option maxRecDepth 100000
set_option maxHeartbeats 8000000
namespace Go.Proofs.YtpffpjbkbaleiaaGreatDoor
open Go Go.RowKit
theorem kS.flat {cs:List (ByteArray×List UInt8)} {it:aB} {w w':World} {e:Ending} (h:kS cs it w e w') (hk:it.kind=1) (hv:bF it=true):
  Below w.heap.size w w'/\ ∃a c,e= .returned (.tuple #[.slice a (eX cs it).1.length c, .int .i64 (eX cs it).2])/\gO w' w.heap.size (.slice a (eX cs it).1.length c) (eX cs it).1:=by
 obtain⟨hb,h⟩:=h;rw[if_pos ⟨hk,hv⟩]at h;refine⟨hb, ?_⟩;unfold eX;rw[if_pos hk]
 cases hf:ef cs it.chunks []with
 | error x=>
  rw[hf]at h;obtain⟨rfl,-⟩:=h;exact⟨none,0,rfl,World.ownsRow_nil _ _ _ _⟩
 | ok bs=>
  rw[hf]at h;obtain⟨v,rfl,hv⟩:=h;obtain⟨a,c,rfl,-,-⟩:=am hv;exact⟨a,c,rfl,hv⟩
def Gb (w:World) (base:Nat) (v:Value) (p:Int×List bp) (e:Ending) (w':World):Prop:=
 ∃o v',e= .returned (.tuple #[o, .int .i64 p.1])/\lG base v v' w w'/\(p.1=0->o=v'/\fF w' base v' p.2)/\(p.1≠0->o= .slice none 0 0)
def sV (cs:List (ByteArray×List UInt8)) (cv:Value) (B n:Nat):Prop:= ∀(dir:ByteArray) (ref:aN) (acc:List bp) (base:Nat) (v:Value) (w:World),
 514<=dir.size+n->(dir.size=0\/be (bl dir)=true)->fF w base v acc->bo ref->eI B cv cs w->B<=base->base<=w.heap.size->
 Calls Tryz.prog 80 #[bu ref,cv, .string dir,v] w (Gb w base v (bD cs n dir ref acc))
theorem vu (cs:List (ByteArray×List UInt8)) (cv:Value) (B:Nat):sV cs cv B 0:=by
 intro dir ref acc base v w hn hd
 exfalso
 rcases hd with h | h
 ·omega
 ·have:=eA h;rw[<-az]at this;omega
theorem nM {cs:List (ByteArray×List UInt8)} {rec:ByteArray->aN->List bp->Int×List bp} {dir p:ByteArray} {it:aB} {r:List aB} {acc:List bp} (hp:cK dir it.name=p) (hv:be (bl p)=true) (hl:acc.length<4096) (hk: ¬it.kind=2) {bs:List UInt8} {x:Int} (hf:eX cs it=(bs,x)):
  cA cs rec dir (it::r) acc=if x=0 then cA cs rec dir r (acc++[⟨p,it.kind,it.mode,it.time,bs,it.link⟩])else(x,acc++[⟨p,it.kind,it.mode,it.time,bs,it.link⟩]):=by
 rw[cA,hp,if_pos ⟨hv,hl⟩,hf];simp only[if_neg hk]
theorem vt (cs:List (ByteArray×List UInt8)) (cv:Value) (B n:Nat) (IH:sV cs cv B n):sV cs cv B (n+1):=by
 intro dir ref acc base v w hn hd hown hr hi hB hbase;have HIH:=ag IH;have HD:=ag hd;have HOW:=ag hown;have HI:=ag hi;have HA:=ag ((Below.refl w.heap.size w).alloc (Nat.le_refl _) (.cells #[.string ref.name, .int .i64 ref.gen, .int .i64 ref.size] 26));have hnd:=vE uY (· <B) cv cs ref _ (hi.cont.below HA.out) hr;obtain⟨av0,cv0,hv0,hvn0,hvm0⟩:=hown.shape;subst hv0
 unfold bu at *;unfold lH at hnd;have HLP:=ag (show bD cs (n+1) dir ref acc=match cI cs ref with
  | .error x=>(x,acc)
  | .ok l=>cA cs (bD cs n) dir l acc from rfl)
 cases hnp:cI cs ref with
 | error x=>
  rw[hnp]at hnd;have HND:=ag hnd;have HE:=ag (show bD cs (n+1) dir ref acc=(x,acc) by rw[HLP.out,hnp]);clear hnp hnd IH hd hown hr hi
  go_enter Tryz.func80,Tryz.ntmps80
  go_wp2_with fail;refine HND.out.mono ?_;rintro e w1 ⟨hb1,rfl,hx⟩;have HB1:=ag (ai HA.out hb1);have e1:(x != 0)=true:=by simp[hx]
  have HX:=ag hx;clear hb1 hx;go_wp2_with fail
  go_ret2
  rw[HE.out];exact⟨_,_,rfl,lG.ofBelow HB1.out hbase,fun h=>absurd h HX.out,fun _=>rfl⟩
 | ok l=>
  rw[hnp]at hnd;have HND:=ag hnd;have HE:=ag (show bD cs (n+1) dir ref acc=cA cs (bD cs n) dir l acc by rw[HLP.out,hnp]);have HLV:=ag (jo hnp);clear hnp hnd IH hd hown hr hi
  go_enter Tryz.func80,Tryz.ntmps80
  go_wp2_with fail;refine HND.out.mono ?_;rintro e w1 ⟨hb1,v1,rfl,hv1⟩;have HB1:=ag (ai HA.out hb1);obtain⟨a1,cap1,rfl,hc1,hm1,-⟩:=aS.shape hv1 dX.len;unfold maxLen at hm1;have HIN0:=ag (show sW w (w.heap.size+1) w1.heap.size base (.slice av0 acc.length cv0) (.slice a1 l.length cap1) l w1 (.slice av0 acc.length cv0) acc from
   ⟨HOW.out.below HB1.out,lG.ofBelow HB1.out hbase,fun k hk=> .inl (by obtain⟨_,ys,_,hr,_⟩:=HOW.out; have:=(hr.lt k hk).2; omega),⟨by omega,by have:=hb1.size; simpa using this,Nat.le_refl _⟩,
    by have h:=ba.lt hv1; simpa using h⟩)
  obtain⟨m,hm⟩: ∃m,m=l.length:=⟨_,rfl⟩;rw[<-hm]at HIN0 hc1 ⊢;have HM:=ag hm;have hm4:m<=4096:=by rw[hm]; exact HLV.out.1
  clear hb1 hv1 hm;go_wp2_with fail
  go_loopw [3,11,12,13,14,15] (fun o q i x1 x2 x3 wr=> ∃(k:Nat) (acc2:List bp),k<=m/\i= .int .i64 (k:Int)/\q= .int .i64 0/\cA cs (bD cs n) dir (l.drop k) acc2=bD cs (n+1) dir ref acc/\sW w (w.heap.size+1) w1.heap.size base (.slice av0 acc.length cv0) (.slice a1 m cap1) l wr o acc2) (fun _ _ i _ _ _ _=>m-(intOf i).toNat)
  case atStart=>exact⟨0,acc,Nat.zero_le _,rfl,rfl,HE.out.symm,HIN0.out⟩
  case round=>
   obtain⟨k,acc2,hk,rfl,rfl,hst,hin⟩:=hrel;have HST:=ag hst;obtain⟨av2,cv2,hv2,hvn2,hvm2⟩:=hin.own.shape;subst hv2;have HIN:=ag hin;clear hst hin
   by_cases hlt:k<m
   ·obtain⟨it,hr⟩: ∃it,l[k]? =some it:=⟨l[k]'(by rw[<-HM.out]; exact hlt),by simp⟩;obtain⟨b,o,ca,cc,rfl,hok,hrf,hbl,-,hcl⟩:=ei HIN.out.its (Below.refl _ _) hr;have q0:=hcl 0 (by omega);have q1:=hcl 1 (by omega);have q2:=hcl 2 (by omega);have q3:=hcl 3 (by omega);have q4:=hcl 4 (by omega);have q5:=hcl 5 (by omega);have q6:=hcl 6 (by omega);have q7:=hcl 7 (by omega)
    have q8:=hcl 8 (by omega);have q9:=hcl 9 (by omega);simp only[cV,Ci,Nat.add_zero]at q0 q1 q2 q3 q4 q5 q6 q7 q8 q9;have HO:=ag hok;have HRF:=ag hrf;have HDR:=ag (show l.drop k=it::l.drop (k+1) by
     rw[List.drop_eq_getElem_cons (by rw[<-HM.out]; exact hlt)]
     congr 1
     exact(List.getElem?_eq_some_iff.1 hr).2)
    have hvi:=(kF HLV.out.2.1).2 it (List.mem_of_getElem? hr);have HVI:=ag hvi;have hds:dir.size<=512:=by
     rcases HD.out with h | h
     ·omega
     ·have:=eA h; rw[<-az]at this; exact this
    have hhd:=lS.1 (by unfold bF at hvi; rw[Bool.and_eq_true]at hvi; exact hvi.1);have hnm:it.name.size<=64:=by rw[az]; exact oW hhd.val hhd.nos
    have hnp:1<=it.name.size:=by rw[az]; exact gM hhd.val
    have HCL:=ag (HLV.out.2.2 it (List.mem_of_getElem? hr));clear hr hok hrf hcl hvi hhd;have hbz:base<=wr.heap.size:=by have:=HIN.out.ord; omega
    go_upto_region 8 with(fail)
    obtain⟨W,hW⟩: ∃W,W=wr.alloc (.cells #[.string it.name, .int .i64 it.kind, .int .i64 it.mode, .int .i64 it.time, .int .i64 it.size, .string it.link, .slice ca it.chunks.length cc, .string it.node.name, .int .i64 it.node.gen, .int .i64 it.node.size] 28):=⟨_,rfl⟩;rw[<-hW];have HBW:=ag (show Below wr.heap.size wr W by rw[hW]; exact(Below.refl _ _).alloc (Nat.le_refl _) _);have HX:=ag (show W.heap[wr.heap.size]? =some (.cells #[.string it.name, .int .i64 it.kind, .int .i64 it.mode, .int .i64 it.time, .int .i64 it.size, .string it.link, .slice ca it.chunks.length cc, .string it.node.name, .int .i64 it.node.gen, .int .i64 it.node.size] 28 (0,0)) by rw[hW]; exact bS wr _)
    clear hW q0 q1 q2 q3 q4 q5 q6 q7 q8 q9;have c0:=af (k:=0) HX.out;have c1:=af (k:=1) HX.out;have c2:=af (k:=2) HX.out;have c3:=af (k:=3) HX.out;have c4:=af (k:=4) HX.out;have c5:=af (k:=5) HX.out;have c6:=af (k:=6) HX.out;have c7:=af (k:=7) HX.out;have c8:=af (k:=8) HX.out;have c9:=af (k:=9) HX.out;simp only[aP]at c0 c1 c2 c3 c4 c5 c6 c7 c8 c9
    have hps:(cK dir it.name).size<=1000:=by
     unfold cK
     split
     ·omega
     ·simp only[ByteArray.size_append]
      show dir.size+1+it.name.size<=1000
      omega
    go_upto_if 38 with(fail)
    go_cut [14]from 38 to 43 (fun p wx=>p= .string (cK dir it.name)/\wx=W)
    case first=>
     by_cases hde:dir.size=0
     ·have e2:dir.toList=[]:=by rw[bJ]; exact List.eq_nil_of_length_eq_zero (by rw[<-az]; exact hde)
      have e3:(!dir.toList.isEmpty)=false:=by rw[e2]; rfl
      have HPI:=ag (show cK dir it.name=it.name by unfold cK; rw[if_pos hde]);rw[e3];go_wp2_with fail
      go_meet
      case rel=>exact⟨by rw[HPI.out],rfl⟩
     ·have e2:dir.toList≠[]:=by rw[bJ]; intro h; apply hde; rw[az,h]; rfl
      have e3:(!dir.toList.isEmpty)=true:=by simpa using e2
      have HPI:=ag (show cK dir it.name=dir++⟨#[47]⟩++it.name by unfold cK; rw[if_neg hde]);rw[e3];go_wp2_with fail
      go_meet
      case rel=>exact⟨by rw[HPI.out],rfl⟩
    case rest=>
     obtain⟨rfl,hwc⟩:=hcut;rw[hwc];clear hwc;obtain⟨pt,hpt⟩: ∃pt,cK dir it.name=pt:=⟨_,rfl⟩;rw[hpt]at hps ⊢;have HPI:=ag hpt;have hpd:=jU dir it.name hnp;rw[hpt]at hpd;have HINW:=ag (HIN.out.below HBW.out hbz);have hbW:base<=W.heap.size:=Nat.le_trans hbz HBW.out.size;clear hpt c0 c1 c2 c3 c4 c5 c6 c7 c8 c9
     cases hval:be (bl pt)with
     | false=>
      have HVL:=ag hval;clear hval;go_wp2_with fail;refine(zd pt false W (by omega) HVL.out).mono ?_;rintro e w2 ⟨rfl,hb2⟩;have HIN2:=ag (HINW.out.below hb2 hbW);clear hb2;go_wp2_with fail
      go_ret2
      have h1:=HST.out;rw[HDR.out,cA,if_neg (fun h=>by rw[HPI.out,HVL.out]at h; cases h.1)]at h1;rw[<-h1];exact⟨_,_,rfl,HIN2.out.kp,(fun h=>by cases h),fun _=>rfl⟩
     | true=>
      have HVL:=ag hval;clear hval;go_wp2_with fail;refine(zd pt true W (by omega) HVL.out).mono ?_;rintro e w2 ⟨rfl,hb2⟩;have HIN2:=ag (HINW.out.below hb2 hbW);have hx2:=(hb2.block _ (lt_of_block HX.out)).trans HX.out;have hb2z:base<=w2.heap.size:=Nat.le_trans hbW hb2.size;have HRF2:=ag (aS.below (aS.below HRF.out (by omega) HBW.out (fun _ _ _ h=>h)) (by omega) hb2 (fun _ _ _ h=>h))
      have hz2:wr.heap.size<w2.heap.size:=lt_of_block hx2;have HX2:=ag hx2;have HBR2:=ag (HBW.out.trans (hb2.mono HBW.out.size));clear hb2 hx2
      by_cases hfull:acc2.length<4096
      ·have hfi:((acc2.length:Int) == 4096)=false:=by rw[beq_eq_false_iff_ne]; omega
       have HFL:=ag hfull;clear hfull;have HX:=HX2;clear HX2;have c0:=af (k:=0) HX.out;have c1:=af (k:=1) HX.out;have c2:=af (k:=2) HX.out;have c3:=af (k:=3) HX.out;have c4:=af (k:=4) HX.out;have c5:=af (k:=5) HX.out;have c6:=af (k:=6) HX.out;have c7:=af (k:=7) HX.out;have c8:=af (k:=8) HX.out;have c9:=af (k:=9) HX.out
       simp only[aP]at c0 c1 c2 c3 c4 c5 c6 c7 c8 c9
       go_upto_block 2 with(fail)
       obtain⟨W3,hW3⟩: ∃W3,W3=w2.alloc (.cells #[.string pt, .int .i64 it.kind, .int .i64 it.mode, .int .i64 it.time, .slice none 0 0, .string it.link] 79):=⟨_,rfl⟩;rw[<-hW3];have hbw3:Below w2.heap.size w2 W3:=by rw[hW3]; exact(Below.refl _ _).alloc (Nat.le_refl _) _
       have HY:=ag (show W3.heap[w2.heap.size]? =some (.cells #[.string pt, .int .i64 it.kind, .int .i64 it.mode, .int .i64 it.time, .slice none 0 0, .string it.link] 79 (0,0)) by rw[hW3]; exact bS w2 _);have HX3:=ag ((hbw3.block _ hz2).trans HX.out);have HIN3:=ag (HIN2.out.below hbw3 hb2z);have hbz3:base<=W3.heap.size:=Nat.le_trans hb2z hbw3.size;have HRF3:=ag (aS.below HRF2.out (by omega) hbw3 (fun _ _ _ h=>h))
       have HI3:=ag (HI.out.keepL HIN3.out.kp.below hB);have HBR3:=ag (HBR2.out.trans (hbw3.mono HBR2.out.size));clear hW3 hbw3 HX c0 c1 c2 c3 c4 c5 c6 c7 c8 c9;have HX:=HX3;clear HX3;have c0:=af (k:=0) HX.out;have c1:=af (k:=1) HX.out;have c2:=af (k:=2) HX.out;have c3:=af (k:=3) HX.out;have c4:=af (k:=4) HX.out;have c5:=af (k:=5) HX.out;have c6:=af (k:=6) HX.out
       have c7:=af (k:=7) HX.out;have c8:=af (k:=8) HX.out;have c9:=af (k:=9) HX.out;simp only[aP]at c0 c1 c2 c3 c4 c5 c6 c7 c8 c9
       go_cut [3,11]from 62 to 94 (fun o' q wx=> ∃(p:Int×List bp) (v3:Value),q= .int .i64 p.1/\cA cs (bD cs n) dir (l.drop k) acc2=(if p.1=0 then cA cs (bD cs n) dir (l.drop (k+1)) p.2 else p)/\lG base (.slice av0 acc.length cv0) v3 w wx/\(p.1=0->o'=v3/\sW w (w.heap.size+1) w1.heap.size base (.slice av0 acc.length cv0) (.slice (some ⟨b,o,none⟩) m cap1) l wx v3 p.2))
       case first=>
        by_cases hk1:it.kind=1
        ·have e1:(it.kind == 1)=true:=by simp[hk1]
         have HK1:=ag hk1;have e2:(it.kind == 2)=false:=by simp[hk1]
         have hfl:=wV (fun _=>True) cv (.slice ca it.chunks.length cc) cs it W3 (bE.wide HI3.out.cont) (aW.same HRF3.out (fun _ _ _=>⟨trivial,rfl⟩)) HO.out (by have:=HCL.out; omega);have HF:=ag hfl;unfold fJ at HF;clear hfl hk1;go_wp2_with fail;refine HF.out.mono ?_;rintro e w5 hr;obtain⟨hb5,a5,f5,rfl,ho5⟩:=hr.flat HK1.out HVI.out;obtain⟨⟨bs,x⟩,hfe⟩: ∃p,eX cs it=p:=⟨_,rfl⟩
         rw[hfe]at ho5 ⊢
         dsimp only at ho5 ⊢
         have HFE:=ag hfe;have HO5:=ag ho5;have hy5:=(hb5.block _ (lt_of_block HY.out)).trans HY.out;have f4':=aj (k:=4) hy5;have d4':=af (k:=4) hy5;simp only[aP]at d4';have HY0:=ag hy5;have HB5:=ag hb5;clear hr hfe ho5 hb5 hy5 c0 c1 c2 c3 c4 c5 c6 c7 c8 c9
         go_upto_region 18 with(fail)
         obtain⟨W5,hW5⟩: ∃W5:World,W5=w5.setCell ⟨w2.heap.size,4,none⟩ (.slice a5 bs.length f5):=⟨_,rfl⟩;rw[<-hW5];have HW5:=ag hW5;have hy6:=cO (k:=4) HY0.out (.slice a5 bs.length f5);simp only[List.setIfInBounds_toArray,List.set_cons_succ,List.set_cons_zero]at hy6;rw[<-hW5]at hy6;have HY:=ag hy6;have hb5r:Below wr.heap.size wr W5:=by rw[hW5]; exact Below.setCell (HBR3.out.trans (HB5.out.mono HBR3.out.size)) (by show wr.heap.size<=w2.heap.size; omega) _
         have HIN5:=ag (HIN.out.below hb5r hbz);have hbzx:base<=W5.heap.size:=Nat.le_trans hbz hb5r.size;have HDN:=ag (show W5.ownsRow base 5 1 (.slice a5 bs.length f5) bs.length (bs.map aw)from by
          rw[HW5.out];refine(ci HO5.out hbz3).kept (aH w5 _ _ _) (.inr (fun e=> ?_));obtain⟨cs2,hc2⟩:=aA HO5.out e;exact absurd (aK HY0.out hc2) (by decide))
         have HSP:=ag (nM (cs:=cs) (rec:=bD cs n) (r:=l.drop (k+1)) HPI.out HVL.out HFL.out (by rw[HK1.out]; decide) HFE.out);clear hW5 hy6 d4' f4' hb5r;have d0:=af (k:=0) HY.out;have d1:=af (k:=1) HY.out;have d2:=af (k:=2) HY.out;have d3:=af (k:=3) HY.out;have d4:=af (k:=4) HY.out;have d5:=af (k:=5) HY.out;simp only[aP]at d0 d1 d2 d3 d4 d5
         obtain⟨hl0,ys,hys,hrow,hdat⟩:=HIN5.out.own;have hyl:ys.length<4096:=by have h1:=HFL.out; rw[<-hys,List.length_map]at h1; exact h1
         have HROW:=ag hrow;have HDAT:=ag hdat
         have HYS:=ag hys;clear hl0 hys hrow hdat
         go_wp2_with (at_builtin; go_must (refine aJ Tryz.appEnts rfl _ _ rfl base (.slice av2 acc2.length cv2) ys.length (bY ys) rfl W5 [.string pt, .int .i64 it.kind, .int .i64 it.mode, .int .i64 it.time, .slice a5 bs.length f5, .string it.link] _ rfl rfl (dy (e:=⟨pt,it.kind,it.mode,it.time,bs,it.link⟩)) HROW.out (by omega) hbzx ?_); intro v' wc hown' hgrow' _ hpl; obtain⟨ae,ce,rfl,-,-⟩:=am hown')
         have hpush:=fF.push (e:=⟨pt,it.kind,it.mode,it.time,bs,it.link⟩) HROW.out HDAT.out HDN.out hown' hgrow' hpl hbzx hyl;rw[HYS.out]at hpush;have HIN8:=ag (HIN5.out.step hpush.1 hpush.2);go_wp2_with fail
         go_meet
         case rel=>exact⟨(x,_),_,rfl,by rw[HDR.out]; exact HSP.out,HIN8.out.kp,fun _=>⟨rfl,HIN8.out⟩⟩
        ·have e1:(it.kind == 1)=false:=by simp[hk1]
         have HK1:=ag hk1;have HFE:=ag (show eX cs it=([],0) by unfold eX; rw[if_neg hk1]);have HDN:=ag (World.ownsRow_nil W3 base 5 1);have hbzx:=hbz3;clear hk1
         by_cases hk2:it.kind=2
         ·have e2:(it.kind == 2)=true:=by simp[hk2]
          have HK2:=ag hk2;clear hk2
          go_upto_region 20 with(fail)
          obtain⟨W6,hW6⟩: ∃W6,W6=W3.drew:=⟨_,rfl⟩;have hb6:Below W3.heap.size W3 W6:=by rw[hW6]; exact(Below.refl _ _).drew
          have hb6r:=HBR3.out.trans (hb6.mono HBR3.out.size);have HIN6:=ag (HIN.out.below hb6r hbz);have hbzx:base<=W6.heap.size:=Nat.le_trans hbz hb6r.size;have HDN:=ag (World.ownsRow_nil W6 base 5 1);have HX6:=ag ((hb6.block _ (lt_of_block HX.out)).trans HX.out);have HY6:=ag ((hb6.block _ (lt_of_block HY.out)).trans HY.out);have hS:=fun(w':World) (hx:w'.heap[wr.heap.size]? =W6.heap[wr.heap.size]?) (hy:w'.heap[w2.heap.size]? =W6.heap[w2.heap.size]?)=>
           show w'.cell? ⟨wr.heap.size,7,none⟩=some (.string it.node.name)/\w'.cell? ⟨wr.heap.size,8,none⟩=some (.int .i64 it.node.gen)/\w'.cell? ⟨wr.heap.size,9,none⟩=some (.int .i64 it.node.size)/\w'.cell? ⟨w2.heap.size,0,none⟩=some (.string pt)/\w'.cell? ⟨w2.heap.size,1,none⟩=some (.int .i64 it.kind)/\w'.cell? ⟨w2.heap.size,2,none⟩=some (.int .i64 it.mode)/\w'.cell? ⟨w2.heap.size,3,none⟩=some (.int .i64 it.time)/\w'.cell? ⟨w2.heap.size,4,none⟩=some (.slice none 0 0)/\w'.cell? ⟨w2.heap.size,5,none⟩=some (.string it.link)from
           ⟨af (hx.trans HX6.out),af (hx.trans HX6.out),af (hx.trans HX6.out),af (hy.trans HY6.out),af (hy.trans HY6.out),af (hy.trans HY6.out),af (hy.trans HY6.out),af (hy.trans HY6.out),af (hy.trans HY6.out)⟩
          have HSS:=ag hS;have HS6:=ag (hS W6 rfl rfl);refine cH (fun w'=>w'.cell? ⟨wr.heap.size,7,none⟩=some (.string it.node.name)/\w'.cell? ⟨wr.heap.size,8,none⟩=some (.int .i64 it.node.gen)/\w'.cell? ⟨wr.heap.size,9,none⟩=some (.int .i64 it.node.size)/\w'.cell? ⟨w2.heap.size,0,none⟩=some (.string pt)/\w'.cell? ⟨w2.heap.size,1,none⟩=some (.int .i64 it.kind)/\w'.cell? ⟨w2.heap.size,2,none⟩=some (.int .i64 it.mode)/\w'.cell? ⟨w2.heap.size,3,none⟩=some (.int .i64 it.time)/\w'.cell? ⟨w2.heap.size,4,none⟩=some (.slice none 0 0)/\w'.cell? ⟨w2.heap.size,5,none⟩=some (.string it.link)) (by kernel_rfl) ?_
          rw[<-hW6];clear hW6 hb6 hb6r hS c0 c1 c2 c3 c4 c5 c6 c7 c8 c9;refine ah 0 rfl (by kernel_rfl) (by kernel_rfl) (by kernel_rfl) (fun _ _ _ h=>h) rfl HS6.out (by rintro w' ⟨hw1,hw2,hw3,hw4,hw5,hw6,hw7,hw8,hw9⟩; go_simp; rfl) ?_;simp only[Act.put,aE,aF,aG];refine ah 1 rfl (by kernel_rfl) (by kernel_rfl) (by kernel_rfl) (fun _ _ _ h=>h) rfl HS6.out (by rintro w' ⟨hw1,hw2,hw3,hw4,hw5,hw6,hw7,hw8,hw9⟩; go_simp; rfl) ?_
          simp only[Act.put,aE,aF,aG];refine ah 2 rfl (by kernel_rfl) (by kernel_rfl) (by kernel_rfl) (fun _ _ _ h=>h) rfl HS6.out (by rintro w' ⟨hw1,hw2,hw3,hw4,hw5,hw6,hw7,hw8,hw9⟩; go_simp; rfl) ?_;simp only[Act.put,aE,aF,aG];refine ah 3 rfl (by kernel_rfl) (by kernel_rfl) (by kernel_rfl) (fun _ _ _ h=>h) rfl HS6.out (by rintro w' ⟨hw1,hw2,hw3,hw4,hw5,hw6,hw7,hw8,hw9⟩; go_simp; rfl) ?_
          simp only[Act.put,aE,aF,aG];refine ah 4 rfl (by kernel_rfl) (by kernel_rfl) (by kernel_rfl) (fun _ _ _ h=>h) rfl HS6.out (by rintro w' ⟨hw1,hw2,hw3,hw4,hw5,hw6,hw7,hw8,hw9⟩; go_simp; rfl) ?_;simp only[Act.put,aE,aF,aG];refine ah 5 rfl (by kernel_rfl) (by kernel_rfl) (by kernel_rfl) (fun _ _ _ h=>h) rfl HS6.out (by rintro w' ⟨hw1,hw2,hw3,hw4,hw5,hw6,hw7,hw8,hw9⟩; go_simp; rfl) ?_
          simp only[Act.put,aE,aF,aG];have hzx6:=lt_of_block HX6.out;have hzy6:=lt_of_block HY6.out;have HAL:=ag ((Below.refl W6.heap.size W6).alloc (Nat.le_refl _) (.cells #[.string pt, .int .i64 it.kind, .int .i64 it.mode, .int .i64 it.time, .slice none 0 0, .string it.link] 79));have HS7:=ag (HSS.out _ (HAL.out.block _ hzx6) (HAL.out.block _ hzy6));refine ay 6 rfl (by kernel_rfl) rfl (fun K hK=> ?_)
          go_wp2_with fail
          (first | (refine⟨HS7.out, ?_⟩) | skip)
          refine ay 7 rfl (by kernel_rfl) rfl (fun K hK=> ?_);obtain⟨hl0,ys,hys,hrow,hdat⟩:=HIN6.out.own;have hyl:ys.length<4096:=by have h1:=HFL.out; rw[<-hys,List.length_map]at h1; exact h1
          have HROW:=ag hrow;have HDAT:=ag hdat
          have HYS:=ag hys;clear hl0 hys hrow hdat
          go_wp2_with (at_builtin; go_must (refine aJ Tryz.appEnts rfl _ _ rfl base (.slice av2 acc2.length cv2) ys.length (bY ys) rfl W6 [.string pt, .int .i64 it.kind, .int .i64 it.mode, .int .i64 it.time, .slice none 0 0, .string it.link] _ rfl rfl (dy (e:=⟨pt,it.kind,it.mode,it.time,[],it.link⟩)) HROW.out (by omega) hbzx ?_); intro v' wc hown' hgrow' _ hpl; obtain⟨ae,ce,rfl,-,-⟩:=am hown')
          have hpush:=fF.push (e:=⟨pt,it.kind,it.mode,it.time,[],it.link⟩) HROW.out HDAT.out HDN.out hown' hgrow' hpl hbzx hyl;rw[HYS.out]at hpush;have HIN8:=ag (HIN6.out.step hpush.1 hpush.2);have hlow: ∀i,(Value.slice av2 acc2.length cv2).ownBlock=some i->i<wr.heap.size:=fun i e=>by
           obtain⟨_,ys',_,hr',_⟩:=HIN.out.own;exact(hr'.lt _ e).2
          have hx8:=hgrow'.block wr.heap.size hzx6 (fun e=>by have:=hlow _ e.symm; omega);have hy8:=hgrow'.block w2.heap.size hzy6 (fun e=>by have:=hlow _ e.symm; omega);have HLO:=ag (show ∀i,(Value.slice ae (ys.length+1) ce).ownBlock=some i->i<wr.heap.size\/W6.heap.size<=i from fun i e=>by
           rcases hpl i e with h | h
           ·exact .inl (hlow i h)
           ·exact .inr h)
          have HS8:=ag (HSS.out wc hx8 hy8);have HX8:=ag hx8;have HY8:=ag hy8;have HZ8:=ag hgrow'.size;have HSP:=ag (kC (cs:=cs) (rec:=bD cs n) (r:=l.drop (k+1)) HPI.out HVL.out HFL.out HK2.out);have hrec:=HIH.out pt it.node (acc2++[⟨pt,it.kind,it.mode,it.time,[],it.link⟩]) base (.slice ae (ys.length+1) ce) wc (by omega) (.inr HVL.out) HIN8.out.own HO.out.nd (HI.out.keepL HIN8.out.kp.below hB) hB (Nat.le_trans hbase HIN8.out.kp.below.size)
          obtain⟨q,hq⟩: ∃q,q=bD cs n pt it.node (acc2++[⟨pt,it.kind,it.mode,it.time,[],it.link⟩]):=⟨_,rfl⟩;rw[<-hq]at hrec HSP;have HREC:=ag hrec;unfold bu at HREC;clear hrec hq hlow hx8 hy8 hpl hgrow' hown' hpush;refine⟨HS8.out, ?_⟩;refine ay 8 rfl (by kernel_rfl) rfl (fun K hK=> ?_);go_wp2_with fail;refine HREC.out.mono ?_;rintro e w9 ⟨o9,v9,rfl,hkp9,hp9,-⟩
          have hx9:=hkp9.same wr.heap.size (Nat.lt_of_lt_of_le hzx6 HZ8.out) (fun e=>by have:=HLO.out _ e; omega);have hy9:=hkp9.same w2.heap.size (Nat.lt_of_lt_of_le hzy6 HZ8.out) (fun e=>by have:=HLO.out _ e; omega);have HS9:=ag (HSS.out w9 (hx9.trans HX8.out) (hy9.trans HY8.out));have HKP9:=ag hkp9;have HP9:=ag hp9;clear hkp9 hp9 hx9 hy9;go_wp2_with fail
          (first | (refine⟨HS9.out, ?_⟩) | skip)
          refine ah 9 rfl (by kernel_rfl) (by kernel_rfl) (by kernel_rfl) (fun _ _ _ h=>h) rfl HS9.out (by rintro w' ⟨hw1,hw2,hw3,hw4,hw5,hw6,hw7,hw8,hw9⟩; go_simp; rfl) ?_;simp only[Act.put,aE,aF,aG];refine ah 10 rfl (by kernel_rfl) (by kernel_rfl) (by kernel_rfl) (fun _ _ _ h=>h) rfl HS9.out (by rintro w' ⟨hw1,hw2,hw3,hw4,hw5,hw6,hw7,hw8,hw9⟩; go_simp; rfl) ?_
          simp only[Act.put,aE,aF,aG];refine ah 11 rfl (by kernel_rfl) (by kernel_rfl) (by kernel_rfl) (fun _ _ _ h=>h) rfl HS9.out (by rintro w' ⟨hw1,hw2,hw3,hw4,hw5,hw6,hw7,hw8,hw9⟩; go_simp; rfl) ?_;simp only[Act.put,aE,aF,aG];refine ah 12 rfl (by kernel_rfl) (by kernel_rfl) (by kernel_rfl) (fun _ _ _ h=>h) rfl HS9.out (by rintro w' ⟨hw1,hw2,hw3,hw4,hw5,hw6,hw7,hw8,hw9⟩; go_simp; rfl) ?_
          simp only[Act.put,aE,aF,aG];refine ah 13 rfl (by kernel_rfl) (by kernel_rfl) (by kernel_rfl) (fun _ _ _ h=>h) rfl HS9.out (by rintro w' ⟨hw1,hw2,hw3,hw4,hw5,hw6,hw7,hw8,hw9⟩; go_simp; rfl) ?_;simp only[Act.put,aE,aF,aG];refine aV (by kernel_rfl) ?_;go_wp2_with fail
          go_meet
          case rel=>exact⟨q,v9,rfl,by rw[HDR.out]; exact HSP.out,HIN8.out.kp.trans HKP9.out (by have:=HIN8.out.ord; omega),fun h=>⟨(HP9.out h).1,HIN8.out.step (HP9.out h).2 HKP9.out⟩⟩
         ·have e2:(it.kind == 2)=false:=by simp[hk2]
          have HSP:=ag (nM (cs:=cs) (rec:=bD cs n) (r:=l.drop (k+1)) HPI.out HVL.out HFL.out hk2 HFE.out);clear hk2;have d0:=af (k:=0) HY.out;have d1:=af (k:=1) HY.out;have d2:=af (k:=2) HY.out;have d3:=af (k:=3) HY.out;have d4:=af (k:=4) HY.out;have d5:=af (k:=5) HY.out;simp only[aP]at d0 d1 d2 d3 d4 d5;clear c0 c2 c3 c4 c5 c6 c7 c8 c9
          obtain⟨hl0,ys,hys,hrow,hdat⟩:=HIN3.out.own;have hyl:ys.length<4096:=by have h1:=HFL.out; rw[<-hys,List.length_map]at h1; exact h1
          have HROW:=ag hrow;have HDAT:=ag hdat
          have HYS:=ag hys;clear hl0 hys hrow hdat
          go_wp2_with (at_builtin; go_must (refine aJ Tryz.appEnts rfl _ _ rfl base (.slice av2 acc2.length cv2) ys.length (bY ys) rfl W3 [.string pt, .int .i64 it.kind, .int .i64 it.mode, .int .i64 it.time, .slice none 0 0, .string it.link] _ rfl rfl (dy (e:=⟨pt,it.kind,it.mode,it.time,[],it.link⟩)) HROW.out (by omega) hbzx ?_); intro v' wc hown' hgrow' _ hpl; obtain⟨ae,ce,rfl,-,-⟩:=am hown')
          have hpush:=fF.push (e:=⟨pt,it.kind,it.mode,it.time,[],it.link⟩) HROW.out HDAT.out HDN.out hown' hgrow' hpl hbzx hyl;rw[HYS.out]at hpush;have HIN8:=ag (HIN3.out.step hpush.1 hpush.2);go_wp2_with fail
          go_meet
          case rel=>exact⟨(0,_),_,rfl,by rw[HDR.out]; exact HSP.out,HIN8.out.kp,fun _=>⟨rfl,HIN8.out⟩⟩
       case rest=>
        obtain⟨p,v3,rfl,hsp,hkp3,hp0⟩:=hcut;have HSP:=ag hsp;have HKP:=ag hkp3;have HP0:=ag hp0;clear hsp hkp3 hp0 c0 c1 c2 c3 c4 c5 c6 c7 c8 c9
        by_cases hx:p.1=0
        ·have e1:(p.1 != 0)=false:=by simp[hx]
         obtain⟨rfl,hin3⟩:=HP0.out hx;have HIN5:=ag hin3;have HSQ:=ag (show cA cs (bD cs n) dir (l.drop (k+1)) p.2=bD cs (n+1) dir ref acc by rw[<-HST.out,HSP.out,if_pos hx]);rw[hx]at e1 ⊢;clear hx hin3 e1;go_wp2_with fail
         go_roundw
         case rel=>exact⟨k+1,p.2,by omega,by go_num,rfl,HSQ.out,HIN5.out⟩
         case measure=>simp[intOf]; omega
        ·have e1:(p.1 != 0)=true:=by simp[hx]
         have HSQ:=ag (show bD cs (n+1) dir ref acc=p by rw[<-HST.out,HSP.out,if_neg hx]);have HPX:=ag hx;clear hx;go_wp2_with fail
         go_ret2
         rw[HSQ.out];exact⟨_,_,rfl,HKP.out,fun h=>absurd h HPX.out,fun _=>rfl⟩
      ·have hfi:((acc2.length:Int) == 4096)=true:=by have:=HIN.out.own.1; rw[beq_iff_eq]; omega
       have HFL:=ag hfull;clear hfull;go_wp2_with fail
       go_ret2
       have h1:=HST.out;rw[HDR.out,cA,if_neg (fun h=>HFL.out h.2)]at h1;rw[<-h1];exact⟨_,_,rfl,HIN2.out.kp,(fun h=>by cases h),fun _=>rfl⟩
   ·have hk2:k=m:=by omega
    subst hk2;go_wp2_with fail
    go_ret2
    have h1:=HST.out;rw[HM.out,List.drop_length,cA]at h1;rw[<-h1];exact⟨_,_,rfl,HIN.out.kp,fun _=>⟨rfl,HIN.out.own⟩,fun h=>absurd rfl h⟩
end Go.Proofs.YtpffpjbkbaleiaaGreatDoor
namespace Go.Proofs.YtpffpjbkbaleiaaGreatDoor
open Go.RowKit
theorem xT (n:Nat):eS n<9223372036854775808:=by unfold eS wrap64; omega
theorem xn {data:List UInt8} {nm:List UInt8} {kd md td:Nat} {s s':RS} {it:aB} (h:eh data nm kd md td s=some (it,s')):it.time<9223372036854775808:=by
 unfold eh at h
 split at h
 ·simp only[Option.some.injEq,Prod.mk.injEq]at h;rw[<-h.1];exact xT td
 ·split at h
  ·simp only[Option.some.injEq,Prod.mk.injEq]at h;rw[<-h.1];exact xT td
  ·split at h
   ·simp only[Option.some.injEq,Prod.mk.injEq]at h;rw[<-h.1];exact xT td
   ·cases h
theorem nx {data:List UInt8} {s0:RS} : ∀(k:Nat) (l:List aB) (s:RS),dr data s0 k=some (l,s)-> ∀it∈l,it.time<9223372036854775808
 | 0,l,s,h=>by
  simp only[dr,Option.some.injEq,Prod.mk.injEq]at h;obtain⟨rfl,rfl⟩:=h;intro it hit
  cases hit
 | k+1,l,s,h=>by
  cases hk:dr data s0 k with
  | none=>rw[eY,hk]at h; cases h
  | some p=>
   obtain⟨l1,s1⟩:=p
   cases hi:dM data s1 with
   | none=>rw[nw hk hi]at h; cases h
   | some q=>
    obtain⟨it,s2⟩:=q;rw[ij hk hi]at h;simp only[Option.some.injEq,Prod.mk.injEq]at h;obtain⟨rfl,rfl⟩:=h;intro x hx
    rcases List.mem_append.1 hx with hx | hx
    ·exact nx k l1 s1 hk x hx
    ·obtain rfl:=List.mem_singleton.1 hx;exact xn hi
theorem vf {data:List UInt8} {l:List aB} (h:bB data=some l): ∀it∈l,it.time<9223372036854775808:=by
 by_cases hb:32768<data.length
 ·rw[lm hb]at h; cases h
 ·obtain⟨n,s1,e1⟩: ∃n s1,kK data 4096 ⟨0,0,0⟩=(n,s1):=⟨_,_,rfl⟩
  cases e2:dr data s1 n with
  | none=>rw[ny hb e1 e2]at h; cases h
  | some p=>
   obtain⟨l2,s2⟩:=p;rw[nz hb e1 e2]at h
   split at h
   ·simp only[Option.some.injEq]at h;subst h;exact nx n l2 s2 e2
   ·cases h
end Go.Proofs.YtpffpjbkbaleiaaGreatDoor
namespace Go.Proofs.YtpffpjbkbaleiaaGreatDoor
open Go.RowKit Go.Maps
theorem BR {S:Nat->Prop} {w:World} {v:Value} {bs:List UInt8} (hd:bw S w v bs):(convert 29 9 v).run Tryz.prog w= .ok (.string ⟨bs.toArray⟩) w:=by
 have h:=ry hd;have e:strOfNums (bs.map fun b=>(b.toNat:Int))=⟨bs.toArray⟩:=by
  simp only[strOfNums,List.map_map,Function.comp_def,Int.toNat_natCast];simp
 rw[e]at h;exact h
theorem tL (S T:Nat->Prop) (a b:bp) (va vb:Value) (w:World) (ha:bw S w va a.data) (hb:bw T w vb b.data):Calls Tryz.prog 81 #[uL va a,uL vb b] w fun e w'=>e= .returned (.bool (decide (a=b)))/\Below w.heap.size w w':=by
 obtain⟨sa,hsa⟩: ∃sa:ByteArray,sa=⟨a.data.toArray⟩:=⟨_,rfl⟩;obtain⟨sb,hsb⟩: ∃sb:ByteArray,sb=⟨b.data.toArray⟩:=⟨_,rfl⟩;have hca: ∀c1 c2:Array Value,(convert 29 9 va).run Tryz.prog ((w.alloc (.cells c1 79)).alloc (.cells c2 79))= .ok (.string sa) ((w.alloc (.cells c1 79)).alloc (.cells c2 79)):=fun c1 c2=>by
  rw[hsa]; exact BR (ha.below (((Below.refl _ _).alloc (Nat.le_refl _) _).alloc (by simp) _))
 have hcb: ∀c1 c2:Array Value,(convert 29 9 vb).run Tryz.prog ((w.alloc (.cells c1 79)).alloc (.cells c2 79))= .ok (.string sb) ((w.alloc (.cells c1 79)).alloc (.cells c2 79)):=fun c1 c2=>by
  rw[hsb]; exact BR (hb.below (((Below.refl _ _).alloc (Nat.le_refl _) _).alloc (by simp) _))
 have HSA:=ag (show bl sa=a.data by rw[hsa]; exact eK _);have HSB:=ag (show bl sb=b.data by rw[hsb]; exact eK _);obtain⟨_,aa,ca,rfl,hc1,hm1,-⟩:=ha;obtain⟨_,ab,cb,rfl,hc2,hm2,-⟩:=hb;unfold maxLen at hm1 hm2;unfold uL;clear hsa hsb;have HN:=ag (show ∀x y:ByteArray,x.toList=y.toList<->x=y from fun x y=>by rw[bJ,bJ]; exact⟨fg,fun h=>by rw[h]⟩)
 go_enter Tryz.func81,Tryz.ntmps81
 go_wp2_with fail
 ·have y1:a.path.toList=b.path.toList:=by assumption
  have y2:a.kind=b.kind:=by assumption
  have y3:a.mode=b.mode:=by assumption
  have y4:a.time=b.time:=by assumption
  have y5:a.link.toList=b.link.toList:=by assumption
  have HX:=ag (show(sa.toList == sb.toList)=decide (a=b) by
   rw[bJ,bJ,HSA.out,HSB.out]
   cases a; cases b
   rw[HN.out]at y1 y5;simp only at y1 y2 y3 y4 y5;subst y1 y2 y3 y4 y5;rw[Bool.eq_iff_iff]
   simp)
  go_ret;exact⟨ar HX.out,((Below.refl _ _).alloc (Nat.le_refl _) _).alloc (by simp) _⟩
 all_goals (
  go_ret;refine⟨ar ?_,((Below.refl _ _).alloc (Nat.le_refl _) _).alloc (by simp) _⟩
  symm
  rw[decide_eq_false_iff_not];rintro rfl;exact absurd rfl (by assumption))
end Go.Proofs.YtpffpjbkbaleiaaGreatDoor
namespace Go.Proofs.YtpffpjbkbaleiaaGreatDoor
open Go.RowKit Go.Maps
theorem nI (S T:Nat->Prop) (a b:bp) (va vb:Value) (r:Bool) (w:World) (ha:bw S w va a.data) (hb:bw T w vb b.data) (hr:decide (a=b)=r):Calls Tryz.prog 81 #[uL va a,uL vb b] w fun e w'=>e= .returned (.bool r)/\Below w.heap.size w w':=by
 rw[<-hr]; exact tL S T a b va vb w ha hb
theorem qP (S T:Nat->Prop) (L M:List bp) (v u:Value) (w:World) (hv:cD S w v L) (hu:cD T w u M):
  Calls Tryz.prog 27 #[v,u] w fun e w'=>e= .returned (.bool (decide (L=M)))/\Below w.heap.size w w':=by
 have HV:=ag hv;have HU:=ag hu;obtain⟨a,cap,rfl,hc,hm,-⟩:=aS.shape hv lD.len;obtain⟨a2,cap2,rfl,hc2,hm2,-⟩:=aS.shape hu lD.len;unfold maxLen at hm hm2;clear hv hu
 by_cases hlen:L.length=M.length
 ·have e1:((L.length:Int) != (M.length:Int))=false:=by simp[hlen]
  obtain⟨n,hn⟩: ∃n,n=L.length:=⟨_,rfl⟩;have hn2:n=M.length:=by omega
  have HN:=ag hn;have HN2:=ag hn2;rw[<-hlen]at HU hc2 e1 ⊢;rw[<-hn]at HV HU hc hc2 e1 ⊢;clear hn hn2 hlen
  go_enter Tryz.func27,Tryz.ntmps27
  go_wp2_with fail
  go_loopw [5,13] (fun _ i wr=> ∃k:Nat,k<=n/\i= .int .i64 k/\L.take k=M.take k/\Below w.heap.size w wr) (fun _ i _=>n-(intOf i).toNat)
  case atStart=>exact⟨0,Nat.zero_le _,rfl,by simp,Below.refl _ _⟩
  case round=>
   obtain⟨k,hk,rfl,hfi,hbr⟩:=hrel;have HFI:=ag hfi;have HBR:=ag hbr
   by_cases hlt:k<n
   ·obtain⟨e,he⟩: ∃e,L[k]? =some e:=⟨L[k]'(by rw[<-HN.out]; exact hlt),by simp⟩;obtain⟨f,hf⟩: ∃f,M[k]? =some f:=⟨M[k]'(by rw[<-HN2.out]; exact hlt),by simp⟩;obtain⟨b,o,dv,rfl,-,hb,hd,-,-,q0,q1,q2,q3,q4,q5⟩:=gZ (HV.out.below hbr) he;obtain⟨b2,o2,dv2,rfl,-,hb2,hd2,-,-,p0,p1,p2,p3,p4,p5⟩:=gZ (HU.out.below hbr) hf;have HD:=ag hd;have HE:=ag hd2
    obtain⟨_,ad,cd,rfl,hcd,hmd,-⟩:=hd;obtain⟨_,ad2,cd2,rfl,hcd2,hmd2,-⟩:=hd2;have HAT:=ag (And.intro he hf);clear he hf hfi hbr
    cases heq:decide (e=f)
    ·have HEQ:=ag heq;clear heq
     go_upto_region 6 with(fail)
     refine au [some 8,none,some 1] (by kernel_rfl) (by kernel_rfl) (by kernel_rfl) ?_;simp only[bn,List.take_succ_cons,List.take_zero,List.drop_succ_cons,List.drop_zero];obtain⟨W,hW⟩: ∃W:World,W=wr.drew:=⟨_,rfl⟩;rw[<-hW];have hbw:Below wr.heap.size wr W:=by rw[hW]; exact(Below.refl _ _).drew
     have HBW:=ag hbw;have z0:=(hbw.cell (aC q0)).trans q0;have z1:=(hbw.cell (aC q1)).trans q1;have z2:=(hbw.cell (aC q2)).trans q2;have z3:=(hbw.cell (aC q3)).trans q3;have z4:=(hbw.cell (aC q4)).trans q4;have z5:=(hbw.cell (aC q5)).trans q5;have x0:=(hbw.cell (aC p0)).trans p0;have x1:=(hbw.cell (aC p1)).trans p1;have x2:=(hbw.cell (aC p2)).trans p2
     have x3:=(hbw.cell (aC p3)).trans p3;have x4:=(hbw.cell (aC p4)).trans p4;have x5:=(hbw.cell (aC p5)).trans p5;clear hW hbw q0 q1 q2 q3 q4 q5 p0 p1 p2 p3 p4 p5
     repeat (first | (refine aI rfl ?_; simp only[Act.put,aE,aF,aG]) | (refine aM rfl (fun K hK=> ?_); go_simp; refine hK _ ?_; clear hK K))
     refine aL ?_;refine bC rfl (fun K hK=> ?_);go_wp2_with (go_at_call 81; refine(nI S T e f _ _ false _ (by exact HD.out.below HBW.out) (by exact HE.out.below HBW.out) HEQ.out).mono ?_; rintro e1 w1 ⟨rfl,hb1⟩; have HB1:=ag (ai HBR.out (ai HBW.out hb1)); clear hb1);clear z0 z1 z2 z3 z4 z5 x0 x1 x2 x3 x4 x5
     repeat (first | (refine aI rfl ?_; simp only[Act.put,aE,aF,aG]) | (refine aM rfl (fun K hK=> ?_); go_simp; refine hK _ ?_; clear hK K))
     refine aL ?_;go_wp2_with fail;go_ret;refine⟨ar ?_,HB1.out⟩
     symm
     rw[decide_eq_false_iff_not];intro hc;obtain⟨h1,h2⟩:=HAT.out;rw[hc,h2]at h1;exact(of_decide_eq_false HEQ.out) (Option.some.inj h1).symm
    ·have HEQ:=ag heq;clear heq
     go_upto_region 6 with(fail)
     refine au [some 8,none,some 1] (by kernel_rfl) (by kernel_rfl) (by kernel_rfl) ?_;simp only[bn,List.take_succ_cons,List.take_zero,List.drop_succ_cons,List.drop_zero];obtain⟨W,hW⟩: ∃W:World,W=wr.drew:=⟨_,rfl⟩;rw[<-hW];have hbw:Below wr.heap.size wr W:=by rw[hW]; exact(Below.refl _ _).drew
     have HBW:=ag hbw;have z0:=(hbw.cell (aC q0)).trans q0;have z1:=(hbw.cell (aC q1)).trans q1;have z2:=(hbw.cell (aC q2)).trans q2;have z3:=(hbw.cell (aC q3)).trans q3;have z4:=(hbw.cell (aC q4)).trans q4;have z5:=(hbw.cell (aC q5)).trans q5;have x0:=(hbw.cell (aC p0)).trans p0;have x1:=(hbw.cell (aC p1)).trans p1;have x2:=(hbw.cell (aC p2)).trans p2
     have x3:=(hbw.cell (aC p3)).trans p3;have x4:=(hbw.cell (aC p4)).trans p4;have x5:=(hbw.cell (aC p5)).trans p5;clear hW hbw q0 q1 q2 q3 q4 q5 p0 p1 p2 p3 p4 p5
     repeat (first | (refine aI rfl ?_; simp only[Act.put,aE,aF,aG]) | (refine aM rfl (fun K hK=> ?_); go_simp; refine hK _ ?_; clear hK K))
     refine aL ?_;refine bC rfl (fun K hK=> ?_);go_wp2_with (go_at_call 81; refine(nI S T e f _ _ true _ (by exact HD.out.below HBW.out) (by exact HE.out.below HBW.out) HEQ.out).mono ?_; rintro e1 w1 ⟨rfl,hb1⟩; have HB1:=ag (ai HBR.out (ai HBW.out hb1)); clear hb1);clear z0 z1 z2 z3 z4 z5 x0 x1 x2 x3 x4 x5
     repeat (first | (refine aI rfl ?_; simp only[Act.put,aE,aF,aG]) | (refine aM rfl (fun K hK=> ?_); go_simp; refine hK _ ?_; clear hK K))
     refine aL ?_;go_wp2_with fail
     go_roundw
     case rel=>
      refine⟨k+1,by omega,by go_num, ?_,HB1.out⟩;rw[List.take_add_one,List.take_add_one,HFI.out,HAT.out.1,HAT.out.2,of_decide_eq_true HEQ.out]
     case measure=>simp[intOf]; omega
   ·clear hfi hbr;have hkn:k=n:=by omega
    have HR:=ag (show L=M by
     have h1:=HFI.out;rw[List.take_of_length_le (by rw[<-HN.out]; omega),List.take_of_length_le (by rw[<-HN2.out]; omega)]at h1;exact h1)
    clear hkn;go_wp2_with fail;go_ret;exact⟨ar (decide_eq_true HR.out).symm,HBR.out⟩
 ·have HF:=ag (show decide (L=M)=false from decide_eq_false (fun e=>hlen (by rw[e])));have e1:((L.length:Int) != (M.length:Int))=true:=by simp; omega
  clear hlen
  go_enter Tryz.func27,Tryz.ntmps27
  go_wp2_with fail;go_ret;exact⟨ar HF.out.symm,Below.refl _ _⟩
end Go.Proofs.YtpffpjbkbaleiaaGreatDoor
namespace Go.Proofs.YtpffpjbkbaleiaaGreatDoor
open Go Go.RowKit
theorem pM (cs:List (ByteArray×List UInt8)) (cv:Value) (B:Nat): ∀n,sV cs cv B n
 | 0=>vu cs cv B
 | n+1=>vt cs cv B n (pM cs cv B n)
def Gr (r:Except Int (List bp)):List bp×Int:=match r with
 | .error x=>([],x)
 | .ok l=>(l,0)
theorem FV {x:Int} (h0:0<=x) (h1:x<9223372036854775808):(Lit.int .i64 x).wf=true:=by
 have e1:IntKind.i64.max=9223372036854775807:=by decide
 have e2:IntKind.i64.min= -9223372036854775808:=by decide
 simp only[Lit.wf,Bool.and_eq_true,decide_eq_true_eq];omega
theorem FA {it:aB} {p:ByteArray} {bs:List UInt8} (hv:bF it=true) (ht:it.time<9223372036854775808) (hp:be (bl p)=true):dL ⟨p,it.kind,it.mode,it.time,bs,it.link⟩:=by
 unfold bF at hv;rw[Bool.and_eq_true]at hv;have hh:=lS.1 hv.1;have hp2:=eA hp;rw[<-az]at hp2;have he:(⟨#[]⟩:ByteArray).size=0:=rfl;have hl:it.link.size<=512:=by
  rcases mF hv.2 with hk | hk | hk
  ·rw[(iN hk hv.2).1,he]; omega
  ·rw[(un hk hv.2).1,he]; omega
  ·exact(ri hk hv.2).2.2.2.2.1
 have hk:=mF hv.2;exact⟨by show p.size<=_; unfold maxLen; omega,by show it.link.size<=_; unfold maxLen; omega,FV (by show 0<=it.kind; omega) (by show it.kind<_; omega),FV hh.md0 (by have:=hh.md1; show it.mode<_; omega),FV hh.tm0 ht⟩
theorem qo {cs:List (ByteArray×List UInt8)} {rec:ByteArray->aN->List bp->Int×List bp} {dir:ByteArray} (hrec: ∀d r acc,(∀e∈acc,dL e)-> ∀e∈(rec d r acc).2,dL e):
  ∀ {l:List aB} {acc:List bp},(∀it∈l,bF it=true/\it.time<9223372036854775808)->(∀e∈acc,dL e)-> ∀e∈(cA cs rec dir l acc).2,dL e
 | [],acc,_,ha=>ha
 | it::l,acc,hl,ha=>by
  have hl2: ∀x∈l,bF x=true/\x.time<9223372036854775808:=fun x hx=>hl x (by simp[hx])
  rw[cA]
  split
  ·rename_i hv;obtain⟨h1,h2⟩:=hl it (by simp);have hacc: ∀e∈acc++[⟨cK dir it.name,it.kind,it.mode,it.time,(eX cs it).1,it.link⟩],dL e:=fun e he=>by
    rcases List.mem_append.1 he with he | he
    ·exact ha e he
    ·obtain rfl:=List.mem_singleton.1 he;exact FA h1 h2 hv.1
   by_cases hk:it.kind=2
   ·simp only[if_pos hk];have h3:=hrec (cK dir it.name) it.node _ hacc
    split
    ·exact qo hrec hl2 h3
    ·exact h3
   ·simp only[if_neg hk]
    split
    ·exact qo hrec hl2 hacc
    ·exact hacc
  ·exact ha
theorem vw {cs:List (ByteArray×List UInt8)} : ∀(n:Nat) (dir:ByteArray) (ref:aN) (acc:List bp),(∀e∈acc,dL e)-> ∀e∈(bD cs n dir ref acc).2,dL e
 | 0,_,_,acc,ha=>ha
 | n+1,dir,ref,acc,ha=>by
  rw[bD]
  cases hn:cI cs ref with
  | error x=>exact ha
  | ok l=>
   obtain⟨k,bs,_,hi⟩:=mN hn;exact qo (vw n) (fun it hit=>⟨(kF (jo hn).2.1).2 it hit,vf hi it hit⟩) ha
theorem lE.seq {B:Nat} {w:World} {v:Value} {acc:List bp} (h:lE B w v acc) (hok: ∀e∈acc,dL e):cD (fun _=>True) w v acc:=by
 obtain⟨ys,rfl,hr,hd⟩:=h;refine⟨bY ys, ?_,uM (fun y hy=>⟨(bi (hd y hy)).weak (fun _ _=>trivial),hok _ (List.mem_map.2 ⟨y,hy,rfl⟩)⟩)⟩;rw[List.length_map];exact(bi hr).weak (fun _ _=>trivial)
theorem ob.flat {cs:List (ByteArray×List UInt8)} {root:aN} {l:List bp} {x:Int} {w w':World} {e:Ending} (h:ob cs root w e w') (he:Gr (fp cs root)=(l,x)):
  Below w.heap.size w w'/\ ∃a cap,e= .returned (.tuple #[.slice a l.length cap, .int .i64 x])/\cD (fun _=>True) w' (.slice a l.length cap) l/\l.length<=cap/\cap<=maxLen:=by
 obtain⟨hb,h⟩:=h;refine⟨hb, ?_⟩
 cases hl:fp cs root with
 | error y=>
  rw[hl]at h he;obtain⟨rfl,-⟩:=h
  cases he
  exact⟨none,0,rfl,cD.nil _ _,Nat.le_refl _,Nat.zero_le _⟩
 | ok rs=>
  rw[hl]at h he;obtain⟨v,rfl,hv⟩:=h
  cases he
  have hok: ∀e∈l,dL e:=by
   unfold fp at hl
   split at hl
   ·split at hl
    ·simp only[Except.ok.injEq]at hl;subst hl;exact vw 514 _ _ _ (by simp)
    ·cases hl
   ·cases hl
  have hs:=hv.seq hok;obtain⟨a,cap,rfl,h1,h2,-⟩:=aS.shape hs lD.len;exact⟨a,cap,rfl,hs,h1,h2⟩
theorem xz (S:Nat->Prop) (cv:Value) (cs:List (ByteArray×List UInt8)) (root:aN) (w:World) (hc:bE S w cv cs) (henv:gN w) (hr:bo root):Calls Tryz.prog 26 #[bu root,cv] w (ob cs root w):=by
 have HB0:=ag ((Below.refl w.heap.size w).alloc (Nat.le_refl _) (.cells #[.string root.name, .int .i64 root.gen, .int .i64 root.size] 26));have HX0:=ag (bS w (.cells #[.string root.name, .int .i64 root.gen, .int .i64 root.size] 26));have HI:=ag (eI.start (hc.below HB0.out) (henv.below HB0.out));have HR:=ag hr;unfold bu;clear hc henv hr
 cases hv:dJ root
 ·have HVR:=ag hv;have HM:=ag (show fp cs root= .error 1 by unfold fp; rw[if_neg (by rw[hv]; simp)]);clear hv
  go_enter Tryz.func26,Tryz.ntmps26
  go_wp2_with fail;refine(jX root false _ HR.out HVR.out).mono ?_;rintro e w1 ⟨rfl,hb1⟩;have HB1:=ag (ai HB0.out hb1);clear hb1;go_wp2_with fail
  go_ret2
  exact⟨HB1.out,by rw[HM.out]; exact⟨rfl,by decide⟩⟩
 ·have HVR:=ag hv;obtain⟨q,hq⟩: ∃q,q=bD cs 514 ⟨#[]⟩ root []:=⟨_,rfl⟩;have HM:=ag (show fp cs root=if q.1=0 then .ok q.2 else .error q.1 by unfold fp; rw[if_pos hv,hq]);have HQ:=ag hq;clear hv hq
  go_enter Tryz.func26,Tryz.ntmps26
  go_wp2_with fail;refine(jX root true _ HR.out HVR.out).mono ?_;rintro e w1 ⟨rfl,hb1⟩;have HB1:=ag (ai HB0.out hb1);have hx1:=(hb1.block _ (lt_of_block HX0.out)).trans HX0.out;have hld:=pM cs cv _ 514 ⟨#[]⟩ root [] w1.heap.size (.slice none 0 0) w1 (by simp) (.inl rfl) fF.nil HR.out (HI.out.keepL hb1 (Nat.le_refl _)) hb1.size (Nat.le_refl _);rw[<-HQ.out]at hld;have HLD:=ag hld
  unfold bu at HLD;have c0:=af (k:=0) hx1;have c1:=af (k:=1) hx1;have c2:=af (k:=2) hx1;simp only[aP]at c0 c1 c2;clear hb1 hx1 hld;go_wp2_with fail;refine HLD.out.mono ?_;rintro e w2 ⟨o2,v2,rfl,hkp2,hp2,hn2⟩;have HB2:=ag (HB1.out.trans (hkp2.below.mono HB1.out.size));clear hkp2 c0 c1 c2
  by_cases hx:q.1=0
  ·obtain⟨rfl,-,ys,hys,hrow,hdat⟩:=hp2 hx;have HEN:=ag (show lE w.heap.size w2 o2 q.2 from⟨ys,hys,ci hrow HB1.out.size,fun y hy=>ci (hdat y hy) HB1.out.size⟩);have HM2:=ag (show fp cs root= .ok q.2 by rw[HM.out,if_pos hx]);rw[hx];clear hx hp2 hn2 hys hrow hdat
   go_wp2_with fail
   go_ret2
   exact⟨HB2.out,by rw[HM2.out]; exact⟨_,rfl,HEN.out⟩⟩
  ·have HM2:=ag (show fp cs root= .error q.1 by rw[HM.out,if_neg hx]);have HX:=ag hx;obtain rfl:=hn2 hx;clear hx hp2 hn2;go_wp2_with fail
   go_ret2
   exact⟨HB2.out,by rw[HM2.out]; exact⟨rfl,HX.out⟩⟩
end Go.Proofs.YtpffpjbkbaleiaaGreatDoor
namespace Go.Proofs.YtpffpjbkbaleiaaGreatDoor
open Go Go.RowKit
theorem tQ (S T:Nat->Prop) (L:List bp) (v u:Value) (w:World) (hv:cD S w v L) (hu:cD T w u L):
  Calls Tryz.prog 27 #[v,u] w fun e w'=>e= .returned (.bool true)/\Below w.heap.size w w':=by
 have:=qP S T L L v u w hv hu
 rwa [show decide (L=L)=true from decide_eq_true rfl]at this
theorem Cq (cv:Value) (root:aN) (cs:List (ByteArray×List UInt8)) (w:World) (he:kQ w) (hr:bo root) (hc:gx (fun _=>True) w cv cs):
  Calls Tryz.prog 6 #[bu root,cv] w fun e w'=>e= .returned (.bool true)/\Below w.heap.size w w':=by
 have HE:=ag he;have HR:=ag hr;have HC:=ag hc;clear he hr hc;obtain⟨W0,hW0⟩: ∃W0:World,W0=w.alloc (.cells #[.string root.name, .int .i64 root.gen, .int .i64 root.size] 26):=⟨_,rfl⟩;have HB0:=ag (show Below w.heap.size w W0 by rw[hW0]; exact(Below.refl _ _).alloc (Nat.le_refl _) _);have HX0:=ag (show W0.heap[w.heap.size]? =some (.cells #[.string root.name, .int .i64 root.gen, .int .i64 root.size] 26 (0,0)) by rw[hW0]; exact bS w _)
 unfold bu
 go_enter Tryz.func6,Tryz.ntmps6
 go_wp2_with fail;rw[<-hW0];clear hW0;refine(ui _ (HE.out.below HB0.out)).mono ?_;rintro e w1 ⟨rfl,hb1⟩;have HB1:=ag (ai HB0.out hb1);have HX1:=ag ((hb1.block _ (lt_of_block HX0.out)).trans HX0.out);clear hb1;go_wp2_with fail;refine(zF _ cv cs _ (HC.out.below HB1.out)).mono ?_;rintro e w2 ⟨fb,rfl,hb2,-⟩;have HB2:=ag (ai HB1.out hb2);have HX2:=ag ((hb2.block _ (lt_of_block HX1.out)).trans HX1.out)
 clear hb2
 cases fb
 ·go_wp2_with fail;go_ret;exact⟨rfl,HB2.out⟩
 ·obtain⟨⟨l,x⟩,hlx⟩: ∃p,Gr (fp cs root)=p:=⟨_,rfl⟩;have HLX:=ag hlx;have p0:=af (k:=0) HX2.out;have p1:=af (k:=1) HX2.out;have p2:=af (k:=2) HX2.out;simp only[aP]at p0 p1 p2;have hca:=nE (fun _=>True) cv cs root w2 (HC.out.at.below HB2.out) (HE.out.below HB2.out).env HR.out;have HCA:=ag hca;unfold bu at HCA;clear hca hlx;go_wp2_with fail
  refine HCA.out.mono ?_;rintro e w3 hr;obtain⟨hb3,a,cap,rfl,hv3,hc1,hc2⟩:=hr.flat HLX.out;unfold maxLen at hc2;have HB3:=ag (ai HB2.out hb3);have HX3:=ag ((hb3.block _ (lt_of_block HX2.out)).trans HX2.out);have HV3:=ag hv3;clear hr hb3 hv3 p0 p1 p2;have p0:=af (k:=0) HX3.out;have p1:=af (k:=1) HX3.out;have p2:=af (k:=2) HX3.out;simp only[aP]at p0 p1 p2
  have hca:=xz (fun _=>True) cv cs root w3 (HC.out.at.below HB3.out) (HE.out.below HB3.out).env HR.out;have HCB:=ag hca;unfold bu at HCB;clear hca;go_wp2_with fail;refine HCB.out.mono ?_;rintro e w4 hr;obtain⟨hb4,a2,cap2,rfl,hv4,hd1,hd2⟩:=hr.flat HLX.out;unfold maxLen at hd2;have HB4:=ag (ai HB3.out hb4);have HVA4:=ag (HV3.out.below hb4);have HV4:=ag hv4;clear hr hb4 hv4 p0 p1 p2
  go_wp2_with fail;refine(tQ _ _ l _ _ _ HVA4.out HV4.out).mono ?_;rintro e w5 ⟨rfl,hb5⟩;have HB5:=ag (ai HB4.out hb5);clear hb5;go_wp2_with fail;go_ret;exact⟨rfl,HB5.out⟩
end Go.Proofs.YtpffpjbkbaleiaaGreatDoor
namespace Go.Proofs.YtpffpjbkbaleiaaGreatDoor
open Go.ChangeShapes Go.WideShapes Go.ChangeAt Go.RowKit Go.Lib Go.Shelf
open Go.ChangeMaps (open_string shut_string)
section
variable {H : Type} {enc : TypeId × Value → H}
theorem FC {a:Assume} {C:Checked} {os:Os} {f:FuncId} {fn:Func} {s:ChangeSpec} {conds:List PathCond} {apart fresh handsOn again:Bool} {X:World->Array Value->Prop}
  (hX: ∀(w w':World) (args:Array Value),w.heap=w'.heap->X w args->X w' args)
  (own:ownKnob C.prog.godebug=none) (started:os.Started) (noInit:C.prog.inits.idxOf? f=none) (hfn:C.prog.funcs[f]? =some fn)
  (witness: ∃(w:World) (tape:Tape) (i:Input),w.os=os/\(w.forCall tape i).Shaped C.prog/\i.vars=[]/\Input.okWide C.prog (w.forCall tape i) .any w.heap.size f i/\
   ((s.pre enc C.prog fn conds apart (w.forCall tape i).memory i.args/\X (w.forCall tape i).memory i.args)/\sizedMet enc C.prog fn (OpenSpec.ofChange s) apart (w.forCall tape i).memory i.args)/\a.holds C.prog (lone (Frame.enter C.prog f i.args .normal) [] (w.forCall tape i)))
  (contract: ∀(W:World) (base:Nat) (args:Array Value) (ds gs:List (DataW H)) (before:List MemPlace),
   (∀(j:Nat) t v,fn.params[j]? =some t->args[j]? =some v->Value.okWide C.prog W .any base t v)->
   DataW.Whole enc C.prog fn.params.toList s.vars apart W args.toList ds gs before->
   (DataW.weightsEach C.prog (fn.params.toList++s.plain.varTypes C.prog) (ds++gs)).all (· <=reachBytes)=true->X W args->W.ShapedOpen C.prog->
   Calls C.prog f args W fun e W'=> ∃v,e= .returned v/\s.post enc C.prog fn apart fresh handsOn again W args v W'):
  ReturnsInHanded a C os f .any (fun w args=>(s.pre enc C.prog fn conds apart w args/\X w args)/\sizedMet enc C.prog fn (OpenSpec.ofChange s) apart w args) (s.post enc C.prog fn apart fresh handsOn again):=by
 refine returnsInHanded_of_calls own started noInit witness ?_;intro w tape i _ hsh _ hok hpre hholds;obtain⟨_,_,_,fn',hfn',_,_,_,_,hval⟩:=hok;have e:fn'=fn:=Option.some.inj (hfn'.symm.trans hfn);subst e;obtain⟨⟨⟨ds,gs,before,hw,hc⟩,hx⟩,hz⟩:=hpre;have hw':=DataW.Whole.of_heap (w':=w.forCall tape i) (by rfl) hw;refine(contract (w.forCall tape i) w.heap.size i.args ds gs before hval hw' (hz.weights hw) (hX _ _ _ (by rfl) hx) hsh).mono fun e W' ⟨v,he,hp⟩=> ?_
 subst he;exact ChangeSpec.post_blind hp
end
def vm :List (String×DataW Unit):=[("math/bits.deBruijn64tab",Rows.laid_math_bits_deBruijn64tab),("kinkeep/sha256.initial",Rows.laid_kinkeep_sha256_initial),("kinkeep/sha256.constants",Rows.laid_kinkeep_sha256_constants),("kinkeep/hmac.pads",Rows.laid_kinkeep_hmac_pads),("unicode/utf8.acceptRanges",Rows.laid_unicode_utf8_acceptRanges),("unicode/utf8.first",Rows.laid_unicode_utf8_first)]
theorem own :ownKnob Tryz.prog.godebug=none:=by kernel_rfl
theorem zk :(Rows.laid_unicode_utf8_acceptRanges:DataW Unit)=acceptData:=by kernel_rfl
theorem zv :(Rows.laid_math_bits_deBruijn64tab:DataW Unit)=tabData .u8 (Lib.deBruijn64tab.map fun(n:Nat)=>(n:Int)):=by kernel_rfl
theorem xd :(Rows.laid_kinkeep_sha256_initial:DataW Unit)=tabData .u32 (mU.list.map fun(n:Nat)=>(n:Int)):=by kernel_rfl
theorem ti :(Rows.laid_kinkeep_sha256_constants:DataW Unit)=tabData .u32 (kc.map fun(n:Nat)=>(n:Int)):=by kernel_rfl
theorem EH :(Rows.laid_kinkeep_hmac_pads:DataW Unit)=tabData .u8 [54,92]:=by kernel_rfl
theorem kD {P:Program} {w:World} {n:String} {k:IntKind} {zs:List Int} {g:Nat} {t e:TypeId} {N:Nat} (hg:P.globalNamed n=some g) (hty:(P.globals[g]?).map (·.type)=some t)
  (ht:P.underlying t=some (.array N e)) (he:P.underlying e=some (.int k)) (hce:P.cellsOf e=1) (hct:P.cellsOf t=N) (h:VarReads P w n (tabData k zs)) (j:Nat):w.cell? ⟨g,j,none⟩=(zs.map fun z=>Value.int k z)[j]? :=by
 obtain⟨g',t',cs,fuel,p,hg',hty',hvar,hd⟩:=h;obtain rfl:=Option.some.inj (hg.symm.trans hg');obtain rfl:=Option.some.inj (hty.symm.trans hty');rw[World.var?_cell hg hvar j,<-Array.getElem?_toList,cells_of_tab ht he hce hct hd]
theorem og {w:World} {b k:Nat} {v:Value} (h:w.cell? ⟨b,k,none⟩=some v):b<w.heap.size:=by
 by_cases hb:b<w.heap.size
 ·exact hb
 ·exfalso
  have:w.heap[b]? =none:=Array.getElem?_eq_none (by omega);simp[World.cell?,this]at h
theorem FB {W:World} (hL:laidMetH Tryz.prog vm W) (hsh:W.ShapedOpen Tryz.prog):kQ W:=by
 rw[MakeChecks.laidMetH_plain _ _ _ (by kernel_rfl)]at hL;have h1:=Lib.laidMet.reads hL (.head _);have h2:=Lib.laidMet.reads hL (.tail _ (.head _));have h3:=Lib.laidMet.reads hL (.tail _ (.tail _ (.head _)));have h4:=Lib.laidMet.reads hL (.tail _ (.tail _ (.tail _ (.head _))));have h5:=Lib.laidMet.reads hL (.tail _ (.tail _ (.tail _ (.tail _ (.head _)))));have h6:=Lib.laidMet.reads hL (.tail _ (.tail _ (.tail _ (.tail _ (.tail _ (.head _))))))
 rw[zv]at h1;rw[xd]at h2;rw[ti]at h3;rw[EH]at h4;rw[zk]at h5;have c1:=kD (g:=6) (t:=213) (e:=5) (N:=64) (by kernel_rfl) (by kernel_rfl) (by kernel_rfl) (by kernel_rfl) (by kernel_rfl) (by kernel_rfl) h1;have c2:=kD (g:=2) (t:=216) (e:=215) (N:=8) (by kernel_rfl) (by kernel_rfl) (by kernel_rfl) (by kernel_rfl) (by kernel_rfl) (by kernel_rfl) h2
 have c3:=kD (g:=5) (t:=252) (e:=215) (N:=64) (by kernel_rfl) (by kernel_rfl) (by kernel_rfl) (by kernel_rfl) (by kernel_rfl) (by kernel_rfl) h3;have c4:=kD (g:=0) (t:=221) (e:=5) (N:=2) (by kernel_rfl) (by kernel_rfl) (by kernel_rfl) (by kernel_rfl) (by kernel_rfl) (by kernel_rfl) h4;have hp0:W.cell? ⟨0,0,none⟩=some (.int .u8 54):=c4 0;have hp1:W.cell? ⟨0,1,none⟩=some (.int .u8 92):=c4 1
 have hI:iy W:=fun j x hj=>by
  rw[c2 j];simp[hj,fO]
 have hK:fq W:=fun j x hj=>by
  rw[c3 j];simp[hj,fO]
 have hD:TabAt 6 Lib.deBruijn64tab W:=fun j hj=>by
  rw[c1 j];simp[hj]
 have hi0:=hI 0 0x6a09e667 rfl;have hk0:=hK 0 0x428a2f98 rfl;have hd0:=hD 0 (by decide);refine⟨⟨?_, ?_⟩,⟨hI,hK,⟨hp0,hp1⟩,og hi0,og hk0,og hp0⟩,⟨hD,og hd0⟩⟩
 ·exact cell_of_shapedOpen_int (zero:= #[.int .i64 0]) (t:=3) hsh (of_decide_eq_true (by kernel_rfl)) (by kernel_rfl) rfl (by kernel_rfl) (by kernel_rfl) Tryz.underlying3
 ·exact utf8Tabs_of_readsT (U8Types.of196 Tryz.laysValid) ⟨by kernel_rfl,by kernel_rfl,by kernel_rfl,by kernel_rfl,by kernel_rfl,by kernel_rfl,by kernel_rfl⟩ (Pinned.utf8First_eq▸h6) h5
end Go.Proofs.YtpffpjbkbaleiaaGreatDoor
namespace Go.Proofs.YtpffpjbkbaleiaaGreatDoor
open Go.ChangeShapes Go.WideShapes Go.ChangeAt Go.RowKit Go.Lib Go.Shelf
section
variable {H : Type} {enc : TypeId × Value → H} {P : Program} {W : World} {base : Nat}
theorem Eb (a:Addr) (i j:Nat):(a.add i).add j=a.add (i+j):=by
 unfold Addr.add
 by_cases hi:i=0
 ·simp[hi]
 ·by_cases hj:j=0
  ·simp[hi,hj]
  ·simp[hi,hj]; omega
theorem Df {α:Type} {R:List Value->α->Prop} {t e:TypeId} {sz:Nat} {spare:Nat->Bool} {held:Bool} {fuel:Nat} {cs0:List Value} {y0:DataW H×List MemPlace} (ht:P.underlying t=some (.slice e)) (hc:P.cellsOf e=sz) (hpos:0<sz)
  (hR: ∀n cs y,DataW.trod enc P W base spare held n e cs=some y-> ∃x,R cs x) (hs: ∀c x,R c x->c.length=sz)
  (hf:DataW.trod enc P W base spare held fuel t cs0=some y0): ∃v,cs0=[v]/\ ∃xs:List α,aS (fun _=>True) W sz R v xs:=by
 rcases DataW.trod_slice ht hf with⟨hcs,_⟩ | ⟨a,len0,cap0,elems,rest,n,_,hcs,_,hb,hl,hm,hlen,hel,_,_⟩
 ·exact⟨_,hcs,[],aS.nil⟩
 ·refine⟨_,hcs, ?_⟩;rw[hc]at hel;have each: ∀i,i<len0-> ∃cs x,R cs x/\cs.length=sz/\ ∀j,j<sz->W.cell? (a.add (i*sz+j))=cs[j]? :=by
   intro i hi;have h1:=hel i hi;rw[List.getElem?_eq_getElem (by omega),Option.bind_eq_some_iff]at h1;obtain⟨cs,hcs,hy⟩:=h1;obtain⟨x,hx⟩:=hR n cs _ hy;refine⟨cs,x,hx,hs cs x hx,fun j hj=> ?_⟩;have h3:=World.cells?_some hcs;rw[<-Eb];exact h3.2.2 j hj
  have main: ∀m,m<=len0-> ∃(cells:List Value) (xs:List α),xs.length=m/\cells.length=m*sz/\bK R cells xs/\ ∀(j:Nat) u,cells[j]? =some u->W.cell? (a.add j)=some u:=by
   intro m
   induction m with
   | zero=>intro _; exact⟨[],[],rfl,by simp,rfl,fun j u hj=>by simp at hj⟩
   | succ m ih=>
    intro hm;obtain⟨cells,xs,h1,h2,h3,h4⟩:=ih (by omega);obtain⟨cs,x,hx,hcl,hcc⟩:=each m (by omega);refine⟨cells++cs,xs++[x],by simp[h1],by rw[List.length_append,h2,hcl,Nat.add_mul]; omega,bK.snoc h3 hx,fun j u hj=> ?_⟩
    rcases Nat.lt_or_ge j cells.length with hj2 | hj2
    ·rw[List.getElem?_append_left hj2]at hj; exact h4 j u hj
    ·rw[List.getElem?_append_right hj2]at hj;have hlt:=(List.getElem?_eq_some_iff.1 hj).1;have:=hcc (j-cells.length) (by omega);rw[h2,show m*sz+(j-m*sz)=j by omega]at this;rw[this,<-h2]; exact hj
  obtain⟨cells,xs,h1,h2,h3,h4⟩:=main len0 (Nat.le_refl _);subst h1;refine⟨xs,cells,⟨h2,some a,cap0,rfl,hl,hm, ?_⟩,h3⟩
  rcases Nat.eq_zero_or_pos xs.length with h0 | h0
  ·exact .inl h0
  ·right
   have hpl:0<cells.length:=by rw[h2]; exact Nat.mul_pos h0 hpos
   have hc0:=h4 0 cells[0] (by simp[hpl]);have hsp:a.spot=none:=by simpa [Addr.add]using World.cell?_spot hc0
   obtain⟨b,o,sp⟩:=a;simp only at hsp;subst hsp;refine⟨b,o,rfl,trivial,fun j u hj=> ?_⟩;have:=h4 j u hj;rw[oe]at this; exact this
end
section
variable {H : Type} {enc : TypeId × Value → H} {W : World} {base b0 : Nat} {spare : Nat → Bool} {held : Bool} {v : Value} {d : DataW H} {ps : List MemPlace}
theorem lg {P:Program} {t:TypeId} {fs:Array Field} {fuel:Nat} {cs:List Value} {x:DataW H×List MemPlace} (ht:P.underlying t=some (.struct fs)) (h:DataW.trod enc P W base spare held fuel t cs=some x) (i:Nat) {f:Field} (hf:fs[i]? =some f):
  ∃n y,DataW.trod enc P W base spare held n f.type ((cs.drop f.offset).take (P.cellsOf f.type))=some y:=by
 obtain⟨xs,n,_,_,_,hlen,hF⟩:=DataW.trod_struct ht h;have hi:i<xs.length:=by rw[hlen]; exact(Array.getElem?_eq_some_iff.1 hf).1
 exact⟨n,xs[i],by rw[hF i f hf]; simp[hi]⟩
theorem xS {P:Program} {t:TypeId} {fs:Array Field} {fuel:Nat} {cs:List Value} {x:DataW H×List MemPlace} (ht:P.underlying t=some (.struct fs)) (h:DataW.trod enc P W base spare held fuel t cs=some x):cs.length=P.cellsOf t:=by
 obtain⟨xs,n,_,_,hl,_,_⟩:=DataW.trod_struct ht h;exact hl
theorem BM :Tryz.prog.cellsOf 9=1:=by kernel_rfl
theorem BL :Tryz.prog.cellsOf 3=1:=by kernel_rfl
theorem Ef :Tryz.prog.cellsOf 5=1:=by kernel_rfl
theorem Gi {α:Type} {cs:List α} (h:cs.length=3): ∃c0 c1 c2,cs=[c0,c1,c2]:=by
 match cs,h with
 | [c0,c1,c2],_=>exact⟨c0,c1,c2,rfl⟩
theorem CV {n:Nat} {cs:List Value} {y:DataW H×List MemPlace} (h:DataW.trod enc Tryz.prog W base spare held n 26 cs=some y): ∃r,jB cs r:=by
 have hl:=xS Tryz.underlying26 h;rw[oL]at hl;obtain⟨c0,c1,c2,rfl⟩:=Gi hl;obtain⟨n0,y0,h0⟩:=lg Tryz.underlying26 h 0 rfl;obtain⟨n1,y1,h1⟩:=lg Tryz.underlying26 h 1 rfl;obtain⟨n2,y2,h2⟩:=lg Tryz.underlying26 h 2 rfl;simp only[List.getElem_toArray,List.getElem_cons_zero,List.getElem_cons_succ,BM,BL]at h0 h1 h2;obtain⟨s,e0,_,hs⟩:=DataW.trod_string Tryz.underlying9 h0
 obtain⟨g,e1,_,hg⟩:=DataW.trod_int Tryz.underlying3 h1;obtain⟨z,e2,_,hz⟩:=DataW.trod_int Tryz.underlying3 h2;simp at e0 e1 e2;subst e0 e1 e2;exact⟨⟨s,g,z⟩,rfl,⟨hs,hg,hz⟩⟩
def ud (c:List Value) (b:UInt8):Prop:=c=[aw b]
theorem Aq {n:Nat} {cs:List Value} {y:DataW H×List MemPlace} (h:DataW.trod enc Tryz.prog W base spare held n 5 cs=some y): ∃b,ud cs b:=by
 obtain⟨a,e,_,hw⟩:=DataW.trod_int Tryz.underlying5 h;have h1:0<=a/\a<=255:=by
  simp only[Lit.wf,Bool.and_eq_true,decide_eq_true_eq]at hw;exact⟨hw.1,hw.2⟩
 refine⟨UInt8.ofNat a.toNat, ?_⟩;unfold ud;rw[iO (by omega),e,Int.toNat_of_nonneg h1.1]
theorem th {S:Nat->Prop} {w:World} {v:Value} {bs:List UInt8} (h:aS S w 1 ud v bs):aD S w v bs:=by
 obtain⟨cells,h1,h2⟩:=h;have: ∀(bs:List UInt8) (cells:List Value),bK ud cells bs->cells=bs.map aw:=by
  intro bs
  induction bs with
  | nil=>intro cells h; exact h
  | cons x bs ih=>
   rintro cells ⟨c,rest,rfl,hc,hr⟩;rw[ih rest hr,show c=[aw x]from hc]; rfl
 rw[this bs cells h2]at h1;exact h1
theorem xJ {n:Nat} {cs:List Value} {y:DataW H×List MemPlace} (h:DataW.trod enc Tryz.prog W base spare held n 29 cs=some y): ∃v,cs=[v]/\ ∃bs,aD (fun _=>True) W v bs:=by
 obtain⟨v,h1,bs,h2⟩:=Df (R:=ud) Tryz.underlying29 Ef (by omega) (fun n cs y hy=>Aq hy) (fun c x hc=>by rw[show c=[aw x]from hc]; rfl) h;exact⟨v,h1,bs,th h2⟩
theorem yE {n:Nat} {sp:Nat->Bool} : ∀ {es:List MapEntry},(∀x∈es,∃y,WideElems.rd Tryz.prog 9 (WideElems.elemAt enc Tryz.prog W base sp held n 29) x=some y)-> ∃cs,bz (fun _=>True) W (es.map fun e=>(e.key,e.val)) cs
 | [],_=>⟨[],trivial⟩
 | x::es,h=>by
  obtain⟨cs,hcs⟩:=yE (es:=es) (fun y hy=>h y (by simp[hy]));obtain⟨y,hy⟩:=h x (by simp);have hk:=WideElems.rd_key hy;obtain⟨z,hz,_⟩:=WideElems.rd_val hy;have hkey: ∃s,x.key= .string s:=by
   cases hx:x.key<;> rw[hx]at hk<;> simp[keyOf,Tryz.underlying9,mapKey]at hk
   exact⟨_,rfl⟩
  obtain⟨s,hs⟩:=hkey;unfold WideElems.elemAt at hz
  split at hz
  ·obtain⟨v,h1,bs,h2⟩:=xJ hz;have hv:x.val=v:=by
    rename_i hfm
    cases hxv:x.val<;> rw[hxv]at h1 hfm<;> simp_all [Value.cells,Value.formed,Tryz.underlying29]
   exact⟨(s,bs)::cs,hs,by rw[hv]; exact h2,hcs⟩
  ·cases hz
theorem Af (hval:Value.okWide Tryz.prog W .any b0 55 v) (h:DataW.Trod enc Tryz.prog W base spare held 55 v d ps): ∃cs,gx (fun _=>True) W v cs:=by
 obtain⟨a,rfl⟩:=okWide_map Tryz.underlying55 hval;obtain⟨fuel,hf⟩:=h
 rcases WideElems.open_map Tryz.underlying55 hf with⟨hcs,_⟩ | ⟨b,es,clock,n,_,hcs,hb,_,hF,_⟩
 ·simp[Value.cells]at hcs;subst hcs;exact⟨[], .inl ⟨rfl,rfl⟩⟩
 ·simp[Value.cells]at hcs;subst hcs;obtain⟨cs,hents⟩:=yE hF.reads;exact⟨cs, .inr ⟨b,es,clock,rfl,trivial,hb,hF.size,hF.stamped,fun x hx=>by
   obtain⟨y,hy⟩:=hF.reads x hx;exact⟨y.1,WideElems.rd_key hy⟩,hents⟩⟩
theorem Fw {v:Value} {l:List Value} (h:v.cells.toList=l) (hl:1<l.length):v= .agg l.toArray:=by
 cases v
 case agg cs=>simp only[Value.cells]at h; rw[<-h]
 all_goals (exfalso; simp only[Value.cells]at h; rw[<-h]at hl; simp at hl)
theorem CL (h:DataW.Trod enc Tryz.prog W base spare held 26 v d ps): ∃r,v=bu r/\bo r:=by
 obtain⟨fuel,hf⟩:=h;obtain⟨r,h1,h2⟩:=CV hf;exact⟨r,Fw h1 (by simp),h2⟩
end
end Go.Proofs.YtpffpjbkbaleiaaGreatDoor
