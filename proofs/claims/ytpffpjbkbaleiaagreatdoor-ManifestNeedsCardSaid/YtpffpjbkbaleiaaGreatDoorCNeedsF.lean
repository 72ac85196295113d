/- Texts of this proof, one after the other: LoadB, BldB, BldC, BldD. -/
import Derived.Test.YtpffpjbkbaleiaaGreatDoorCNeedsE
set_option maxRecDepth 100000
set_option maxHeartbeats 8000000
namespace Go.Proofs.YtpffpjbkbaleiaaGreatDoor
open Go Go.RowKit
theorem gt {l:List UInt8} (h:bo l=true):l.length<=512:=by
 unfold bo at h;simp only[Bool.and_eq_true,decide_eq_true_eq]at h;exact h.1.1
theorem jy {l:List UInt8} (h:bo l=true):1<=l.length:=by
 cases l with
 | nil=>exact absurd h (by decide)
 | cons a l=>simp
theorem nx (d n:ByteArray) (hn:1<=n.size):d.size+1<=(fi d n).size:=by
 unfold fi
 split
 ·omega
 ·simp only[ByteArray.size_append]
  show d.size+1<=d.size+1+n.size
  omega
theorem mL {cs:List (ByteArray×List UInt8)} {rec:ByteArray->aG->List bD->Int×List bD} {dir p:ByteArray} {it:aE} {r:List aE} {acc:List bD} (hp:fi dir it.name=p) (hv:bo (bl p)=true) (hl:acc.length<4096) (hk:it.kind=2):
  eC cs rec dir (it::r) acc=if(rec p it.node (acc++[⟨p,it.kind,it.mode,it.time,[],it.link⟩])).1=0 then eC cs rec dir r (rec p it.node (acc++[⟨p,it.kind,it.mode,it.time,[],it.link⟩])).2 else rec p it.node (acc++[⟨p,it.kind,it.mode,it.time,[],it.link⟩]):=by
 have hf:kL cs it=([],0):=by unfold kL; rw[if_neg (by omega)]
 rw[eC,hp,if_pos ⟨hv,hl⟩,hf];simp only[if_pos hk]
theorem qd {cs:List (ByteArray×List UInt8)} {rec:ByteArray->aG->List bD->Int×List bD} {dir p:ByteArray} {it:aE} {r:List aE} {acc:List bD} (hp:fi dir it.name=p) (hv:bo (bl p)=true) (hl:acc.length<4096) (hk:it.kind≠2) (hk1:it.kind≠1):
  eC cs rec dir (it::r) acc=eC cs rec dir r (acc++[⟨p,it.kind,it.mode,it.time,[],it.link⟩]):=by
 have hf:kL cs it=([],0):=by unfold kL; rw[if_neg hk1]
 rw[eC,hp,if_pos ⟨hv,hl⟩,hf];simp only[if_neg hk,if_true]
theorem lz {cs:List (ByteArray×List UInt8)} {rec:ByteArray->aG->List bD->Int×List bD} {dir p:ByteArray} {it:aE} {r:List aE} {acc:List bD} {bs:List UInt8} (hp:fi dir it.name=p) (hv:bo (bl p)=true) (hl:acc.length<4096) (hk1:it.kind=1) (hb:gY cs it.chunks []= .ok bs):
  eC cs rec dir (it::r) acc=eC cs rec dir r (acc++[⟨p,it.kind,it.mode,it.time,bs,it.link⟩]):=by
 have hf:kL cs it=(bs,0):=by unfold kL; rw[if_pos hk1,hb]
 have hk: ¬it.kind=2:=by omega
 rw[eC,hp,if_pos ⟨hv,hl⟩,hf];simp only[if_neg hk,if_true]
theorem sy {cs:List (ByteArray×List UInt8)} {rec:ByteArray->aG->List bD->Int×List bD} {dir p:ByteArray} {it:aE} {r:List aE} {acc:List bD} {x:Int} (hp:fi dir it.name=p) (hv:bo (bl p)=true) (hl:acc.length<4096) (hk1:it.kind=1) (hb:gY cs it.chunks []= .error x) (hx:x≠0):
  eC cs rec dir (it::r) acc=(x,acc++[⟨p,it.kind,it.mode,it.time,[],it.link⟩]):=by
 have hf:kL cs it=([],x):=by unfold kL; rw[if_pos hk1,hb]
 have hk: ¬it.kind=2:=by omega
 rw[eC,hp,if_pos ⟨hv,hl⟩,hf];simp only[if_neg hk,if_neg hx]
def yo (cs:List (ByteArray×List UInt8)) (cv:Value) (B n:Nat):Prop:= ∀(dir:ByteArray) (ref:aG) (acc:List bD) (base eb:Nat) (v:Value) (w:World),
 514<=dir.size+n->(dir.size=0\/bo (bl dir)=true)->eT w base eb v acc->aW ref->dd B cv cs w->B<=base->base<=eb->base<=w.heap.size->
 Calls Tryz.prog 78 #[cv, .string dir,aX ref, .pointer (some ⟨eb,0,none⟩)] w fun e w'=>e= .returned (.int .i64 (di cs n dir ref acc).1)/\ ∃v',eT w' base eb v' (di cs n dir ref acc).2/\kT base eb v v' w w'
theorem Aa (cs:List (ByteArray×List UInt8)) (cv:Value) (B:Nat):yo cs cv B 0:=by
 intro dir ref acc base eb v w hn hd
 exfalso
 rcases hd with h | h
 ·omega
 ·have:=gt h;rw[<-ay]at this;omega
theorem bA.wide {S:Nat->Prop} {w:World} : ∀ {m:List (Value×Value)} {cs:List (ByteArray×List UInt8)},bA S w m cs->bA (fun _=>True) w m cs
 | [],[],_=>trivial
 | [],_::_,h=>h
 | _::_,[],h=>h
 | (_,_)::_,(_,_)::_,h=>⟨h.1,aS.weak h.2.1 (fun _ _=>trivial),bA.wide h.2.2⟩
theorem bt.wide {S:Nat->Prop} {w:World} {cv:Value} {cs:List (ByteArray×List UInt8)} (h:bt S w cv cs):bt (fun _=>True) w cv cs:=by
 rcases h with h | ⟨b,m,h1,_,h2,h3⟩
 ·exact .inl h
 ·exact .inr ⟨b,m,h1,trivial,h2,h3.wide⟩
theorem dd.keepL {B base:Nat} {cv:Value} {cs:List (ByteArray×List UInt8)} {w w':World} (h:dd B cv cs w) (hb:Below base w w') (hB:B<=base):dd B cv cs w':=
 dd.keep w w' h ⟨hb.os,hb.tape,hb.output,hb.size,fun k _ hn=>hb.block k (by omega)⟩
theorem zZ (cs:List (ByteArray×List UInt8)) (cv:Value) (B n:Nat) (IH:yo cs cv B n):yo cs cv B (n+1):=by
 intro dir ref acc base eb v w hn hd hbx hr hi hB hbe hbase;have HIH:=ab IH;have HD:=ab hd;have HBX:=ab hbx;have HI:=ab hi;have HA:=ab ((Below.refl w.heap.size w).alloc (Nat.le_refl _) (.cells #[.string ref.name, .int .i64 ref.gen, .int .i64 ref.size] 26));have hnd:=lU (· <B) cv cs ref _ (hi.cont.below HA.out) hr (hi.env.below HA.out);have heb:eb<w.heap.size:=lt_of_block hbx.1
 unfold aX at *;unfold nQ at hnd;have HLP:=ab (show di cs (n+1) dir ref acc=match bG cs ref with
  | .error x=>(x,acc)
  | .ok l=>eC cs (di cs n) dir l acc from rfl)
 cases hnp:bG cs ref with
 | error x=>
  rw[hnp]at hnd;have HND:=ab hnd;have HE:=ab (show di cs (n+1) dir ref acc=(x,acc) by rw[HLP.out,hnp]);clear hnp hnd IH hd hbx hr hi
  go_enter Tryz.func78,Tryz.ntmps78
  go_wp2_with fail;refine HND.out.mono ?_;rintro e w1 ⟨hb1,rfl,hx⟩;have HB1:=ab (ag HA.out hb1);have e1:(x != 0)=true:=by simp[hx]
  clear hb1 hx;go_wp2_with fail;go_ret;rw[HE.out];exact⟨rfl,v,HBX.out.below HB1.out,kT.ofBelow HB1.out hbase⟩
 | ok l=>
  rw[hnp]at hnd;have HND:=ab hnd;have HE:=ab (show di cs (n+1) dir ref acc=eC cs (di cs n) dir l acc by rw[HLP.out,hnp]);have HLV:=ab (pJ hnp);clear hnp hnd IH hd hbx hr hi
  go_enter Tryz.func78,Tryz.ntmps78
  go_wp2_with fail;refine HND.out.mono ?_;rintro e w1 ⟨hb1,v1,rfl,hv1⟩;have HB1:=ab (ag HA.out hb1);obtain⟨a1,cap1,rfl,hc1,hm1,-⟩:=aL.shape hv1 dO.len;unfold maxLen at hm1;have HIN0:=ab (show nE w (w.heap.size+1) w1.heap.size base eb v (.slice a1 l.length cap1) l w1 v acc from
   ⟨HBX.out.below HB1.out,kT.ofBelow HB1.out hbase,fun k hk=> .inl (by obtain⟨_,ys,_,hr,_⟩:=HBX.out; have:=(hr.lt k hk).2; omega),by omega,⟨by omega,by have:=hb1.size; simpa using this,Nat.le_refl _⟩,
    by have h:=ba.lt hv1; simpa using h⟩)
  obtain⟨m,hm⟩: ∃m,m=l.length:=⟨_,rfl⟩;rw[<-hm]at HIN0 hc1 ⊢;have HM:=ab hm;have hm4:m<=4096:=by rw[hm]; exact HLV.out.1
  clear hb1 hv1 hm;go_wp2_with fail
  go_loopw [26] (fun i wr=> ∃(k:Nat) (v2:Value) (acc2:List bD),k<=m/\i= .int .i64 (k:Int)/\eC cs (di cs n) dir (l.drop k) acc2=di cs (n+1) dir ref acc/\nE w (w.heap.size+1) w1.heap.size base eb v (.slice a1 m cap1) l wr v2 acc2) (fun i _=>m-(intOf i).toNat)
  case atStart=>exact⟨0,v,acc,Nat.zero_le _,rfl,HE.out.symm,HIN0.out⟩
  case round=>
   obtain⟨k,v2,acc2,hk,rfl,hst,hin⟩:=hrel;have HST:=ab hst;have HIN:=ab hin;clear hst hin
   by_cases hlt:k<m
   ·obtain⟨it,hr⟩: ∃it,l[k]? =some it:=⟨l[k]'(by rw[<-HM.out]; exact hlt),by simp⟩;obtain⟨b,o,ca,cc,rfl,hok,hrf,hbl,-,hcl⟩:=dy HIN.out.its (Below.refl _ _) hr;have q0:=hcl 0 (by omega);have q1:=hcl 1 (by omega);have q2:=hcl 2 (by omega);have q3:=hcl 3 (by omega);have q4:=hcl 4 (by omega);have q5:=hcl 5 (by omega);have q6:=hcl 6 (by omega);have q7:=hcl 7 (by omega)
    have q8:=hcl 8 (by omega);have q9:=hcl 9 (by omega);simp only[cP,Bw,Nat.add_zero]at q0 q1 q2 q3 q4 q5 q6 q7 q8 q9;have HO:=ab hok;have HRF:=ab hrf;have HDR:=ab (show l.drop k=it::l.drop (k+1) by
     rw[List.drop_eq_getElem_cons (by rw[<-HM.out]; exact hlt)]
     congr 1
     exact(List.getElem?_eq_some_iff.1 hr).2)
    have hvi:=(sD HLV.out.2.1).2 it (List.mem_of_getElem? hr);have HVI:=ab hvi;have hds:dir.size<=512:=by
     rcases HD.out with h | h
     ·omega
     ·have:=gt h; rw[<-ay]at this; exact this
    have hhd:=uO.1 (by unfold cy at hvi; rw[Bool.and_eq_true]at hvi; exact hvi.1);have hnm:it.name.size<=64:=by rw[ay]; exact uw hhd.val hhd.nos
    have hnp:1<=it.name.size:=by rw[ay]; exact jy hhd.val
    have HCL:=ab (HLV.out.2.2 it (List.mem_of_getElem? hr));clear hr hok hrf hcl hvi hhd;have HBZ:=ab (show base<=wr.heap.size by have:=HIN.out.ord; omega)
    by_cases hde:dir.size=0
    ·have e2:dir.toList=[]:=by rw[cO]; exact List.eq_nil_of_length_eq_zero (by rw[<-ay]; exact hde)
     have e3:dir.toList.isEmpty=true:=by rw[e2]; rfl
     have HPI:=ab (show fi dir it.name=it.name by unfold fi; rw[if_pos hde]);go_wp2_with fail;obtain⟨W,hW⟩: ∃W,W=(wr.alloc (.cells #[.string it.name, .int .i64 it.kind, .int .i64 it.mode, .int .i64 it.time, .int .i64 it.size, .string it.link, .slice ca it.chunks.length cc, .string it.node.name, .int .i64 it.node.gen, .int .i64 it.node.size] 28)).alloc (.cells #[.string (it.name), .int .i64 it.kind, .int .i64 it.mode, .int .i64 it.time, .slice none 0 0, .string it.link] 79):=⟨_,rfl⟩
     rw[<-hW];have HWB:=ab (show Below wr.heap.size wr W by rw[hW]; exact((Below.refl _ _).alloc (Nat.le_refl _) _).alloc (by simp) _);have HX0:=ab (show W.heap[wr.heap.size]? =some (.cells #[.string it.name, .int .i64 it.kind, .int .i64 it.mode, .int .i64 it.time, .int .i64 it.size, .string it.link, .slice ca it.chunks.length cc, .string it.node.name, .int .i64 it.node.gen, .int .i64 it.node.size] 28 (0,0)) by rw[hW]; exact cH (bZ wr _) _)
     have HY0:=ab (show W.heap[wr.heap.size+1]? =some (.cells #[.string (it.name), .int .i64 it.kind, .int .i64 it.mode, .int .i64 it.time, .slice none 0 0, .string it.link] 79 (0,0)) by rw[hW]; exact jY wr _ _);have HIN3:=ab (HIN.out.below HWB.out HBZ.out);have HEW:=ab (show fE W from(HI.out.keepL (HIN3.out.kp.below) hB).env);clear hW q0 q1 q2 q3 q4 q5 q6 q7 q8 q9
     cases hval:bo (bl (it.name))with
     | false=>
      have HVL:=ab hval;clear hval;refine(fQ (it.name) false W HEW.out HVL.out).mono ?_;rintro e w2 ⟨rfl,hb2⟩;have HIN4:=ab (HIN3.out.below hb2 (Nat.le_trans HBZ.out HWB.out.size));clear hb2;go_wp2_with fail;go_ret;have h1:=HST.out;rw[HDR.out,eC,if_neg (fun h=>by rw[HPI.out,HVL.out]at h; cases h.1)]at h1;rw[<-h1];exact⟨rfl,v2,HIN4.out.box,HIN4.out.kp⟩
     | true=>
      have HVL:=ab hval;clear hval;refine(fQ (it.name) true W HEW.out HVL.out).mono ?_;rintro e w2 ⟨rfl,hb2⟩;have HIN4:=ab (HIN3.out.below hb2 (Nat.le_trans HBZ.out HWB.out.size));have HX:=ab ((hb2.block _ (lt_of_block HX0.out)).trans HX0.out);have HY:=ab ((hb2.block _ (lt_of_block HY0.out)).trans HY0.out);have HBZ4:=ab (Nat.le_trans (Nat.le_trans HBZ.out HWB.out.size) hb2.size)
      have HRF4:=ab (show aM (fun k=>w.heap.size+1<=k/\k<w1.heap.size) w2 (.slice ca it.chunks.length cc) it.chunks from aL.below (aL.below HRF.out (by omega) HWB.out (fun _ _ _ h=>h)) (by omega) hb2 (fun _ _ _ h=>h));have HB2:=ab (HWB.out.trans (hb2.mono HWB.out.size));clear hb2 HX0 HY0;obtain⟨ys0,hys0,hrow0,-⟩:=HIN4.out.box.2;obtain⟨av0,cv0,hv0,hvn0,hvm0⟩:=aj hrow0
      have hlen:ys0.length=acc2.length:=by rw[<-hys0,List.length_map]
      rw[hlen]at hv0 hvn0;have e0:=aa (k:=0) HIN4.out.box.1;simp only[List.getElem?_toArray,List.getElem?_cons_zero]at e0;rw[hv0]at e0;have c0:=aa (k:=0) HX.out;have c1:=aa (k:=1) HX.out;have c6:=aa (k:=6) HX.out;have c7:=aa (k:=7) HX.out;have c8:=aa (k:=8) HX.out;have c9:=aa (k:=9) HX.out;have d0:=aa (k:=0) HY.out;have d1:=aa (k:=1) HY.out
      have d2:=aa (k:=2) HY.out;have d3:=aa (k:=3) HY.out;have d4:=aa (k:=4) HY.out;have d5:=aa (k:=5) HY.out;simp only[aN]at c0 c1 c6 c7 c8 c9 d0 d1 d2 d3 d4 d5;clear hys0 hrow0 hv0 hlen
      by_cases hfull:acc2.length<4096
      ·have hfi:(acc2.length:Int)<4096:=by omega
       have HFL:=ab hfull;clear hfull
       by_cases hk1:it.kind=1
       ·have e1:(it.kind == 1)=true:=by simp[hk1]
        have HK1:=ab hk1;have e2:(it.kind == 2)=false:=by simp[hk1]
        have hbf:=my hk1 (by have h:=HVI.out; unfold cy at h; rw[Bool.and_eq_true]at h; exact h.2);have htw:=qg (l:=it.chunks) (by have:=HCL.out; omega) (fun r hr=>(hbf.2.2.1 r hr).1) _ (Nat.le_refl _);rw[List.take_length]at htw;have hfl:=nr (fun _=>True) cv (.slice ca it.chunks.length cc) cs it.chunks w2 (bt.wide (HI.out.keepL HIN4.out.kp.below hB).cont) (aM.same HRF4.out (fun k _ _=>⟨trivial,rfl⟩)) htw.1 (by rw[<-hbf.2.2.2.1]; exact hbf.2.2.2.2) (by have:=HCL.out; omega) (fun r hr=>(hbf.2.2.1 r hr).1)
        unfold sP at hfl;clear hk1 hbf htw
        cases hfp:gY cs it.chunks []with
        | error x=>
         rw[hfp]at hfl;have HFL2:=ab hfl;have HFP:=ab hfp;clear hfl hfp;go_wp2_with fail;refine HFL2.out.mono ?_;rintro e w5 ⟨hb5,rfl,hx⟩;have hx5:=(hb5.block _ (lt_of_block HX.out)).trans HX.out;have hy5:=(hb5.block _ (lt_of_block HY.out)).trans HY.out;have HY0:=ab hy5;have d4':=aa (k:=4) hy5;have f4':=ai (k:=4) hy5;simp only[aN]at d4';clear e0 c0 c1 c6 c7 c8 c9 d0 d1 d2 d3 d4 d5
         go_wp2_with fail;obtain⟨W5,hW5⟩: ∃W5:World,W5=w5.setCell ⟨wr.heap.size+1,4,none⟩ (.slice none 0 0):=⟨_,rfl⟩;rw[<-hW5];have HW5:=ab hW5;have HX5:=ab ((show W5.heap[wr.heap.size]? =w5.heap[wr.heap.size]? from by rw[hW5,Below.heap_setCell _ _ _ _ (by show wr.heap.size≠wr.heap.size+1; omega)]).trans hx5);have hy6:=cI (k:=4) hy5 (.slice none 0 0);simp only[List.setIfInBounds_toArray,List.set_cons_succ,List.set_cons_zero]at hy6
         rw[<-hW5]at hy6;have HY5:=ab hy6;have HIN5:=ab (show nE w (w.heap.size+1) w1.heap.size base eb v (.slice (some ⟨b,o,none⟩) m cap1) l W5 v2 acc2 from HIN.out.below (by rw[hW5]; exact Below.setCell (HB2.out.trans (hb5.mono HB2.out.size)) (by show wr.heap.size<=wr.heap.size+1; omega) _) HBZ.out);have HBZ5:=ab (show base<=W5.heap.size from Nat.le_trans HBZ4.out (by rw[hW5]; have:=hb5.size; simpa [World.setCell]using this))
         clear hW5 hx5 hy5 hy6 d4' f4' HX HY hb5;have HX:=HX5;have HY:=HY5;clear HX5 HY5;have HDN:=ab (World.ownsRow_nil W5 base 5 1);have e4:(x != 0)=true:=by simp[hx]
         have HSP:=ab (sy (cs:=cs) (rec:=di cs n) (r:=l.drop (k+1)) HPI.out HVL.out HFL.out HK1.out HFP.out hx);clear hx;obtain⟨ys,hys,hrow,hdat⟩:=HIN5.out.box.2;obtain⟨av,cv2,hv2,hvn,hvm⟩:=aj hrow;have HBX5:=ab HIN5.out.box.1;have HROW5:=ab hrow;have HDAT5:=ab hdat
         have HYS:=ab hys;subst hv2;clear hys hrow hdat
         obtain⟨W6,hW6⟩: ∃W6:World,W6=(W5).drew:=⟨_,rfl⟩;have hb6:Below (W5).heap.size (W5) W6:=by rw[hW6]; exact(Below.refl _ _).drew
         have HB6:=ab hb6;have HX6:=ab ((hb6.block _ (lt_of_block HX.out)).trans HX.out);have HY6:=ab ((hb6.block _ (lt_of_block HY.out)).trans HY.out);have HBX6:=ab ((hb6.block _ (lt_of_block HBX5.out)).trans HBX5.out);have HROW6:=ab (bm HROW5.out hb6);have HDAT6:=ab (fun y hy=>bm (HDAT5.out y hy) hb6);have HDV6:=ab (bm (HDN).out hb6);have HIN6:=ab (HIN5.out.below hb6 HBZ5.out)
         have hbz6:=Nat.le_trans HBZ5.out hb6.size;have HBZ6:=ab hbz6;clear hb6 HX HY HIN5 HBX5 HROW5 HDAT5;have hS1:=aa (k:=0) HBX6.out;have d0:=aa (k:=0) HY6.out;have d1:=aa (k:=1) HY6.out;have d2:=aa (k:=2) HY6.out;have d3:=aa (k:=3) HY6.out;have d4:=aa (k:=4) HY6.out;have d5:=aa (k:=5) HY6.out;have f1:=ai (k:=0) HBX6.out;simp only[aN]at hS1 d0 d1 d2 d3 d4 d5
         refine bP (fun w'=>w'.cell? ⟨eb,0,none⟩=some (.slice av ys.length cv2)/\w'.cell? ⟨wr.heap.size+1,0,none⟩=some (.string (it.name))/\w'.cell? ⟨wr.heap.size+1,1,none⟩=some (.int .i64 it.kind)/\w'.cell? ⟨wr.heap.size+1,2,none⟩=some (.int .i64 it.mode)/\w'.cell? ⟨wr.heap.size+1,3,none⟩=some (.int .i64 it.time)/\w'.cell? ⟨wr.heap.size+1,4,none⟩=some (.slice none 0 0)/\w'.cell? ⟨wr.heap.size+1,5,none⟩=some (.string it.link)) (by kernel_rfl) (by kernel_rfl) ?_
         simp only[List.dropLast_cons_cons,List.dropLast_singleton,List.length_cons,List.length_nil,Nat.reduceAdd,Nat.reduceSub];rw[<-hW6];clear hW6;refine af 0 rfl (by kernel_rfl) (by kernel_rfl) (by kernel_rfl) (fun _ _ _ h=>h) rfl ⟨hS1,d0,d1,d2,d3,d4,d5⟩ (by rintro w' ⟨hw1,hw2,hw3,hw4,hw5,hw6,hw7⟩; go_simp; rfl) ?_;simp only[Act.put,aA,aB,aC];refine af 1 rfl (by kernel_rfl) (by kernel_rfl) (by kernel_rfl) (fun _ _ _ h=>h) rfl ⟨hS1,d0,d1,d2,d3,d4,d5⟩ (by rintro w' ⟨hw1,hw2,hw3,hw4,hw5,hw6,hw7⟩; go_simp; rfl) ?_
         simp only[Act.put,aA,aB,aC];refine af 2 rfl (by kernel_rfl) (by kernel_rfl) (by kernel_rfl) (fun _ _ _ h=>h) rfl ⟨hS1,d0,d1,d2,d3,d4,d5⟩ (by rintro w' ⟨hw1,hw2,hw3,hw4,hw5,hw6,hw7⟩; go_simp; rfl) ?_;simp only[Act.put,aA,aB,aC];refine af 3 rfl (by kernel_rfl) (by kernel_rfl) (by kernel_rfl) (fun _ _ _ h=>h) rfl ⟨hS1,d0,d1,d2,d3,d4,d5⟩ (by rintro w' ⟨hw1,hw2,hw3,hw4,hw5,hw6,hw7⟩; go_simp; rfl) ?_
         simp only[Act.put,aA,aB,aC];refine af 4 rfl (by kernel_rfl) (by kernel_rfl) (by kernel_rfl) (fun _ _ _ h=>h) rfl ⟨hS1,d0,d1,d2,d3,d4,d5⟩ (by rintro w' ⟨hw1,hw2,hw3,hw4,hw5,hw6,hw7⟩; go_simp; rfl) ?_;simp only[Act.put,aA,aB,aC];have hltb:eb<W6.heap.size:=lt_of_block HBX6.out;have hlty:wr.heap.size+1<W6.heap.size:=lt_of_block HY6.out;have HAL:=ab ((Below.refl W6.heap.size W6).alloc (Nat.le_refl _) (.cells #[.string (it.name), .int .i64 it.kind, .int .i64 it.mode, .int .i64 it.time, .slice none 0 0, .string it.link] 79))
         have hS2:=And.intro ((HAL.out.cell (p:=⟨eb,0,none⟩) hltb).trans hS1) (And.intro ((HAL.out.cell (p:=⟨wr.heap.size+1,0,none⟩) hlty).trans d0) (And.intro ((HAL.out.cell (p:=⟨wr.heap.size+1,1,none⟩) hlty).trans d1) (And.intro ((HAL.out.cell (p:=⟨wr.heap.size+1,2,none⟩) hlty).trans d2) (And.intro ((HAL.out.cell (p:=⟨wr.heap.size+1,3,none⟩) hlty).trans d3) (And.intro ((HAL.out.cell (p:=⟨wr.heap.size+1,4,none⟩) hlty).trans d4) ((HAL.out.cell (p:=⟨wr.heap.size+1,5,none⟩) hlty).trans d5))))))
         have HS2:=ab hS2;clear hS2;refine ar 5 rfl (by kernel_rfl) rfl (fun K hK=> ?_);go_wp2_with fail
         (first | (refine⟨HS2.out, ?_⟩) | skip)
         refine ar 6 rfl (by kernel_rfl) rfl (fun K hK=> ?_);have hyl:ys.length<4096:=by have h1:=HFL.out; rw[<-HYS.out,List.length_map]at h1; exact h1
         go_wp2_with (at_builtin; go_must (refine aK Tryz.appEnts rfl _ _ rfl base (.slice av ys.length cv2) ys.length (df ys) rfl W6 [.string (it.name), .int .i64 it.kind, .int .i64 it.mode, .int .i64 it.time, .slice none 0 0, .string it.link] _ rfl rfl (eJ (e:=⟨it.name,it.kind,it.mode,it.time,[],it.link⟩)) HROW6.out (by omega) (by omega) ?_); intro v' wc hown' hgrow' _ hpl; obtain⟨ae,ce,rfl,-,-⟩:=aj hown')
         have hneb:(Value.slice av ys.length cv2).ownBlock≠some eb:=fun e=>by
          obtain⟨cs,hc⟩:=az HROW6.out e;exact absurd (aO HBX6.out hc) (by decide)
         have hlow: ∀i,(Value.slice av ys.length cv2).ownBlock=some i->i<wr.heap.size:=fun i e=>by
          obtain⟨_,ys',_,hr',_⟩:=HIN.out.box;exact(hr'.lt _ e).2
         have hney:(Value.slice av ys.length cv2).ownBlock≠some (wr.heap.size+1):=fun e=>by have:=hlow _ e; omega
         have hnex:(Value.slice av ys.length cv2).ownBlock≠some wr.heap.size:=fun e=>by have:=hlow _ e; omega
         have hbx7:=(hgrow'.block eb hltb (fun e=>hneb e.symm)).trans HBX6.out;have hy7:=(hgrow'.block (wr.heap.size+1) hlty (fun e=>hney e.symm)).trans HY6.out;have hx7:=(hgrow'.block wr.heap.size (lt_of_block HX6.out) (fun e=>hnex e.symm)).trans HX6.out;have hpush:=eT.push (e:=⟨it.name,it.kind,it.mode,it.time,[],it.link⟩) HBX6.out HROW6.out HDAT6.out HDV6.out hown' hgrow' hpl hbe HBZ6.out
         rw[HYS.out]at hpush;have HIN8:=ab (HIN6.out.step hpush.1 hpush.2);have HX8:=ab ((Below.heap_setCell wc ⟨eb,0,none⟩ (.slice ae (ys.length+1) ce) wr.heap.size (by show wr.heap.size≠eb; have:=HIN.out.lo; have:=HIN.out.ord; omega)).trans hx7);have HY8:=ab ((Below.heap_setCell wc ⟨eb,0,none⟩ (.slice ae (ys.length+1) ce) (wr.heap.size+1) (by show wr.heap.size+1≠eb; have:=HIN.out.lo; have:=HIN.out.ord; omega)).trans hy7)
         have c0':=aa (k:=0) hbx7;have f0':=ai (k:=0) hbx7;have y0:=aa (k:=0) hy7;have y1:=aa (k:=1) hy7;have y2:=aa (k:=2) hy7;have y3:=aa (k:=3) hy7;have y4:=aa (k:=4) hy7;have y5:=aa (k:=5) hy7;simp only[aN]at c0' y0 y1 y2 y3 y4 y5;clear hown' hgrow' hpl hpush hneb hney hnex hlow hS1 d0 d1 d2 d3 d4 d5 f1 hbx7 hy7 hx7;refine⟨⟨c0',y0,y1,y2,y3,y4,y5⟩, ?_⟩
         refine af 7 rfl (by kernel_rfl) (by kernel_rfl) (by kernel_rfl) (fun _ _ _ h=>h) rfl ⟨c0',y0,y1,y2,y3,y4,y5⟩ (by rintro w' ⟨hw1,hw2,hw3,hw4,hw5,hw6,hw7⟩; go_simp; rfl) ?_;simp only[Act.put,aA,aB,aC];refine aV (by kernel_rfl) ?_;refine bX rfl rfl (fun K hK=> ?_)
         go_upto_region 16 with(fail)
         obtain⟨W8,hW8⟩: ∃W8:World,W8=wc.setCell ⟨eb,0,none⟩ (.slice ae (ys.length+1) ce):=⟨_,rfl⟩;rw[<-hW8]at HIN8 HX8 HY8 ⊢;clear hW8 c0' f0' y0 y1 y2 y3 y4 y5;have HX:=HX8;have HY:=HY8;clear HX8 HY8;have c0:=aa (k:=0) HX.out;have c1:=aa (k:=1) HX.out;have c6:=aa (k:=6) HX.out;have c7:=aa (k:=7) HX.out;have c8:=aa (k:=8) HX.out;have c9:=aa (k:=9) HX.out
         have d0:=aa (k:=0) HY.out;have d1:=aa (k:=1) HY.out;have d2:=aa (k:=2) HY.out;have d3:=aa (k:=3) HY.out;have d4:=aa (k:=4) HY.out;have d5:=aa (k:=5) HY.out;simp only[aN]at c0 c1 c6 c7 c8 c9 d0 d1 d2 d3 d4 d5;go_wp2_with fail;go_ret;rw[<-HST.out,HDR.out,HSP.out];exact⟨rfl,_,HIN8.out.box,HIN8.out.kp⟩
        | ok bs=>
         rw[hfp]at hfl;have HFL2:=ab hfl;have HFP:=ab hfp;clear hfl hfp;go_wp2_with fail;refine HFL2.out.mono ?_;rintro e w5 ⟨hb5,v5,rfl,ho5⟩;obtain⟨a5,c5,rfl,-,-⟩:=aj ho5;have HO5:=ab ho5;clear ho5;have hx5:=(hb5.block _ (lt_of_block HX.out)).trans HX.out;have hy5:=(hb5.block _ (lt_of_block HY.out)).trans HY.out;have HY0:=ab hy5;have d4':=aa (k:=4) hy5;have f4':=ai (k:=4) hy5
         simp only[aN]at d4';clear e0 c0 c1 c6 c7 c8 c9 d0 d1 d2 d3 d4 d5;go_wp2_with fail;obtain⟨W5,hW5⟩: ∃W5:World,W5=w5.setCell ⟨wr.heap.size+1,4,none⟩ (.slice a5 bs.length c5):=⟨_,rfl⟩;rw[<-hW5];have HW5:=ab hW5;have HX5:=ab ((show W5.heap[wr.heap.size]? =w5.heap[wr.heap.size]? from by rw[hW5,Below.heap_setCell _ _ _ _ (by show wr.heap.size≠wr.heap.size+1; omega)]).trans hx5)
         have hy6:=cI (k:=4) hy5 (.slice a5 bs.length c5);simp only[List.setIfInBounds_toArray,List.set_cons_succ,List.set_cons_zero]at hy6;rw[<-hW5]at hy6;have HY5:=ab hy6;have HIN5:=ab (show nE w (w.heap.size+1) w1.heap.size base eb v (.slice (some ⟨b,o,none⟩) m cap1) l W5 v2 acc2 from HIN.out.below (by rw[hW5]; exact Below.setCell (HB2.out.trans (hb5.mono HB2.out.size)) (by show wr.heap.size<=wr.heap.size+1; omega) _) HBZ.out)
         have HBZ5:=ab (show base<=W5.heap.size from Nat.le_trans HBZ4.out (by rw[hW5]; have:=hb5.size; simpa [World.setCell]using this));clear hW5 hx5 hy5 hy6 d4' f4' HX HY hb5;have HX:=HX5;have HY:=HY5;clear HX5 HY5;have HDN:=ab (show W5.ownsRow base 5 1 (.slice a5 bs.length c5) bs.length (bs.map au)from by
          rw[HW5.out];refine(cN HO5.out HBZ4.out).kept (aF w5 _ _ _) (.inr (fun e=> ?_));obtain⟨cs2,hc2⟩:=az HO5.out e;exact absurd (aO HY0.out hc2) (by decide))
         have HSP:=ab (lz (cs:=cs) (rec:=di cs n) (r:=l.drop (k+1)) HPI.out HVL.out HFL.out HK1.out HFP.out);obtain⟨ys,hys,hrow,hdat⟩:=HIN5.out.box.2;obtain⟨av,cv2,hv2,hvn,hvm⟩:=aj hrow;have HBX5:=ab HIN5.out.box.1;have HROW5:=ab hrow;have HDAT5:=ab hdat
         have HYS:=ab hys;subst hv2;clear hys hrow hdat
         obtain⟨W6,hW6⟩: ∃W6:World,W6=(W5).drew:=⟨_,rfl⟩;have hb6:Below (W5).heap.size (W5) W6:=by rw[hW6]; exact(Below.refl _ _).drew
         have HB6:=ab hb6;have HX6:=ab ((hb6.block _ (lt_of_block HX.out)).trans HX.out);have HY6:=ab ((hb6.block _ (lt_of_block HY.out)).trans HY.out);have HBX6:=ab ((hb6.block _ (lt_of_block HBX5.out)).trans HBX5.out);have HROW6:=ab (bm HROW5.out hb6);have HDAT6:=ab (fun y hy=>bm (HDAT5.out y hy) hb6);have HDV6:=ab (bm (HDN).out hb6);have HIN6:=ab (HIN5.out.below hb6 HBZ5.out)
         have hbz6:=Nat.le_trans HBZ5.out hb6.size;have HBZ6:=ab hbz6;clear hb6 HX HY HIN5 HBX5 HROW5 HDAT5;have hS1:=aa (k:=0) HBX6.out;have d0:=aa (k:=0) HY6.out;have d1:=aa (k:=1) HY6.out;have d2:=aa (k:=2) HY6.out;have d3:=aa (k:=3) HY6.out;have d4:=aa (k:=4) HY6.out;have d5:=aa (k:=5) HY6.out;have f1:=ai (k:=0) HBX6.out;simp only[aN]at hS1 d0 d1 d2 d3 d4 d5
         refine bP (fun w'=>w'.cell? ⟨eb,0,none⟩=some (.slice av ys.length cv2)/\w'.cell? ⟨wr.heap.size+1,0,none⟩=some (.string (it.name))/\w'.cell? ⟨wr.heap.size+1,1,none⟩=some (.int .i64 it.kind)/\w'.cell? ⟨wr.heap.size+1,2,none⟩=some (.int .i64 it.mode)/\w'.cell? ⟨wr.heap.size+1,3,none⟩=some (.int .i64 it.time)/\w'.cell? ⟨wr.heap.size+1,4,none⟩=some (.slice a5 bs.length c5)/\w'.cell? ⟨wr.heap.size+1,5,none⟩=some (.string it.link)) (by kernel_rfl) (by kernel_rfl) ?_
         simp only[List.dropLast_cons_cons,List.dropLast_singleton,List.length_cons,List.length_nil,Nat.reduceAdd,Nat.reduceSub];rw[<-hW6];clear hW6;refine af 0 rfl (by kernel_rfl) (by kernel_rfl) (by kernel_rfl) (fun _ _ _ h=>h) rfl ⟨hS1,d0,d1,d2,d3,d4,d5⟩ (by rintro w' ⟨hw1,hw2,hw3,hw4,hw5,hw6,hw7⟩; go_simp; rfl) ?_;simp only[Act.put,aA,aB,aC];refine af 1 rfl (by kernel_rfl) (by kernel_rfl) (by kernel_rfl) (fun _ _ _ h=>h) rfl ⟨hS1,d0,d1,d2,d3,d4,d5⟩ (by rintro w' ⟨hw1,hw2,hw3,hw4,hw5,hw6,hw7⟩; go_simp; rfl) ?_
         simp only[Act.put,aA,aB,aC];refine af 2 rfl (by kernel_rfl) (by kernel_rfl) (by kernel_rfl) (fun _ _ _ h=>h) rfl ⟨hS1,d0,d1,d2,d3,d4,d5⟩ (by rintro w' ⟨hw1,hw2,hw3,hw4,hw5,hw6,hw7⟩; go_simp; rfl) ?_;simp only[Act.put,aA,aB,aC];refine af 3 rfl (by kernel_rfl) (by kernel_rfl) (by kernel_rfl) (fun _ _ _ h=>h) rfl ⟨hS1,d0,d1,d2,d3,d4,d5⟩ (by rintro w' ⟨hw1,hw2,hw3,hw4,hw5,hw6,hw7⟩; go_simp; rfl) ?_
         simp only[Act.put,aA,aB,aC];refine af 4 rfl (by kernel_rfl) (by kernel_rfl) (by kernel_rfl) (fun _ _ _ h=>h) rfl ⟨hS1,d0,d1,d2,d3,d4,d5⟩ (by rintro w' ⟨hw1,hw2,hw3,hw4,hw5,hw6,hw7⟩; go_simp; rfl) ?_;simp only[Act.put,aA,aB,aC];have hltb:eb<W6.heap.size:=lt_of_block HBX6.out;have hlty:wr.heap.size+1<W6.heap.size:=lt_of_block HY6.out;have HAL:=ab ((Below.refl W6.heap.size W6).alloc (Nat.le_refl _) (.cells #[.string (it.name), .int .i64 it.kind, .int .i64 it.mode, .int .i64 it.time, .slice a5 bs.length c5, .string it.link] 79))
         have hS2:=And.intro ((HAL.out.cell (p:=⟨eb,0,none⟩) hltb).trans hS1) (And.intro ((HAL.out.cell (p:=⟨wr.heap.size+1,0,none⟩) hlty).trans d0) (And.intro ((HAL.out.cell (p:=⟨wr.heap.size+1,1,none⟩) hlty).trans d1) (And.intro ((HAL.out.cell (p:=⟨wr.heap.size+1,2,none⟩) hlty).trans d2) (And.intro ((HAL.out.cell (p:=⟨wr.heap.size+1,3,none⟩) hlty).trans d3) (And.intro ((HAL.out.cell (p:=⟨wr.heap.size+1,4,none⟩) hlty).trans d4) ((HAL.out.cell (p:=⟨wr.heap.size+1,5,none⟩) hlty).trans d5))))))
         have HS2:=ab hS2;clear hS2;refine ar 5 rfl (by kernel_rfl) rfl (fun K hK=> ?_);go_wp2_with fail
         (first | (refine⟨HS2.out, ?_⟩) | skip)
         refine ar 6 rfl (by kernel_rfl) rfl (fun K hK=> ?_);have hyl:ys.length<4096:=by have h1:=HFL.out; rw[<-HYS.out,List.length_map]at h1; exact h1
         go_wp2_with (at_builtin; go_must (refine aK Tryz.appEnts rfl _ _ rfl base (.slice av ys.length cv2) ys.length (df ys) rfl W6 [.string (it.name), .int .i64 it.kind, .int .i64 it.mode, .int .i64 it.time, .slice a5 bs.length c5, .string it.link] _ rfl rfl (eJ (e:=⟨it.name,it.kind,it.mode,it.time,bs,it.link⟩)) HROW6.out (by omega) (by omega) ?_); intro v' wc hown' hgrow' _ hpl; obtain⟨ae,ce,rfl,-,-⟩:=aj hown')
         have hneb:(Value.slice av ys.length cv2).ownBlock≠some eb:=fun e=>by
          obtain⟨cs,hc⟩:=az HROW6.out e;exact absurd (aO HBX6.out hc) (by decide)
         have hlow: ∀i,(Value.slice av ys.length cv2).ownBlock=some i->i<wr.heap.size:=fun i e=>by
          obtain⟨_,ys',_,hr',_⟩:=HIN.out.box;exact(hr'.lt _ e).2
         have hney:(Value.slice av ys.length cv2).ownBlock≠some (wr.heap.size+1):=fun e=>by have:=hlow _ e; omega
         have hnex:(Value.slice av ys.length cv2).ownBlock≠some wr.heap.size:=fun e=>by have:=hlow _ e; omega
         have hbx7:=(hgrow'.block eb hltb (fun e=>hneb e.symm)).trans HBX6.out;have hy7:=(hgrow'.block (wr.heap.size+1) hlty (fun e=>hney e.symm)).trans HY6.out;have hx7:=(hgrow'.block wr.heap.size (lt_of_block HX6.out) (fun e=>hnex e.symm)).trans HX6.out;have hpush:=eT.push (e:=⟨it.name,it.kind,it.mode,it.time,bs,it.link⟩) HBX6.out HROW6.out HDAT6.out HDV6.out hown' hgrow' hpl hbe HBZ6.out
         rw[HYS.out]at hpush;have HIN8:=ab (HIN6.out.step hpush.1 hpush.2);have HX8:=ab ((Below.heap_setCell wc ⟨eb,0,none⟩ (.slice ae (ys.length+1) ce) wr.heap.size (by show wr.heap.size≠eb; have:=HIN.out.lo; have:=HIN.out.ord; omega)).trans hx7);have HY8:=ab ((Below.heap_setCell wc ⟨eb,0,none⟩ (.slice ae (ys.length+1) ce) (wr.heap.size+1) (by show wr.heap.size+1≠eb; have:=HIN.out.lo; have:=HIN.out.ord; omega)).trans hy7)
         have c0':=aa (k:=0) hbx7;have f0':=ai (k:=0) hbx7;have y0:=aa (k:=0) hy7;have y1:=aa (k:=1) hy7;have y2:=aa (k:=2) hy7;have y3:=aa (k:=3) hy7;have y4:=aa (k:=4) hy7;have y5:=aa (k:=5) hy7;simp only[aN]at c0' y0 y1 y2 y3 y4 y5;clear hown' hgrow' hpl hpush hneb hney hnex hlow hS1 d0 d1 d2 d3 d4 d5 f1 hbx7 hy7 hx7;refine⟨⟨c0',y0,y1,y2,y3,y4,y5⟩, ?_⟩
         refine af 7 rfl (by kernel_rfl) (by kernel_rfl) (by kernel_rfl) (fun _ _ _ h=>h) rfl ⟨c0',y0,y1,y2,y3,y4,y5⟩ (by rintro w' ⟨hw1,hw2,hw3,hw4,hw5,hw6,hw7⟩; go_simp; rfl) ?_;simp only[Act.put,aA,aB,aC];refine aV (by kernel_rfl) ?_;refine bX rfl rfl (fun K hK=> ?_)
         go_upto_region 16 with(fail)
         obtain⟨W8,hW8⟩: ∃W8:World,W8=wc.setCell ⟨eb,0,none⟩ (.slice ae (ys.length+1) ce):=⟨_,rfl⟩;rw[<-hW8]at HIN8 HX8 HY8 ⊢;clear hW8 c0' f0' y0 y1 y2 y3 y4 y5;have HX:=HX8;have HY:=HY8;clear HX8 HY8;have c0:=aa (k:=0) HX.out;have c1:=aa (k:=1) HX.out;have c6:=aa (k:=6) HX.out;have c7:=aa (k:=7) HX.out;have c8:=aa (k:=8) HX.out;have c9:=aa (k:=9) HX.out
         have d0:=aa (k:=0) HY.out;have d1:=aa (k:=1) HY.out;have d2:=aa (k:=2) HY.out;have d3:=aa (k:=3) HY.out;have d4:=aa (k:=4) HY.out;have d5:=aa (k:=5) HY.out;simp only[aN]at c0 c1 c6 c7 c8 c9 d0 d1 d2 d3 d4 d5;go_wp2_with fail;clear c0 c1 c6 c7 c8 c9 d0 d1 d2 d3 d4 d5
         go_roundw
         case rel=>exact⟨k+1,_,_,by omega,by go_num,by rw[<-HST.out,HDR.out,HSP.out],HIN8.out⟩
         case measure=>simp[intOf]; omega
       ·have e1:(it.kind == 1)=false:=by simp[hk1]
        have HK1:=ab hk1;clear hk1;have HIN5:=HIN4;have HBZ5:=HBZ4;have HDN:=ab (World.ownsRow_nil w2 base 5 1);go_wp2_with fail;clear e0 c0 c1 c6 c7 c8 c9 d0 d1 d2 d3 d4 d5;obtain⟨ys,hys,hrow,hdat⟩:=HIN5.out.box.2;obtain⟨av,cv2,hv2,hvn,hvm⟩:=aj hrow;have HBX5:=ab HIN5.out.box.1;have HROW5:=ab hrow;have HDAT5:=ab hdat
        have HYS:=ab hys;subst hv2;clear hys hrow hdat
        obtain⟨W6,hW6⟩: ∃W6:World,W6=(w2).drew:=⟨_,rfl⟩;have hb6:Below (w2).heap.size (w2) W6:=by rw[hW6]; exact(Below.refl _ _).drew
        have HB6:=ab hb6;have HX6:=ab ((hb6.block _ (lt_of_block HX.out)).trans HX.out);have HY6:=ab ((hb6.block _ (lt_of_block HY.out)).trans HY.out);have HBX6:=ab ((hb6.block _ (lt_of_block HBX5.out)).trans HBX5.out);have HROW6:=ab (bm HROW5.out hb6);have HDAT6:=ab (fun y hy=>bm (HDAT5.out y hy) hb6);have HDV6:=ab (bm (HDN).out hb6);have HIN6:=ab (HIN5.out.below hb6 HBZ5.out)
        have hbz6:=Nat.le_trans HBZ5.out hb6.size;have HBZ6:=ab hbz6;clear hb6 HX HY HIN5 HBX5 HROW5 HDAT5;have hS1:=aa (k:=0) HBX6.out;have d0:=aa (k:=0) HY6.out;have d1:=aa (k:=1) HY6.out;have d2:=aa (k:=2) HY6.out;have d3:=aa (k:=3) HY6.out;have d4:=aa (k:=4) HY6.out;have d5:=aa (k:=5) HY6.out;have f1:=ai (k:=0) HBX6.out;simp only[aN]at hS1 d0 d1 d2 d3 d4 d5
        refine bP (fun w'=>w'.cell? ⟨eb,0,none⟩=some (.slice av ys.length cv2)/\w'.cell? ⟨wr.heap.size+1,0,none⟩=some (.string (it.name))/\w'.cell? ⟨wr.heap.size+1,1,none⟩=some (.int .i64 it.kind)/\w'.cell? ⟨wr.heap.size+1,2,none⟩=some (.int .i64 it.mode)/\w'.cell? ⟨wr.heap.size+1,3,none⟩=some (.int .i64 it.time)/\w'.cell? ⟨wr.heap.size+1,4,none⟩=some (.slice none 0 0)/\w'.cell? ⟨wr.heap.size+1,5,none⟩=some (.string it.link)) (by kernel_rfl) (by kernel_rfl) ?_
        simp only[List.dropLast_cons_cons,List.dropLast_singleton,List.length_cons,List.length_nil,Nat.reduceAdd,Nat.reduceSub];rw[<-hW6];clear hW6;refine af 0 rfl (by kernel_rfl) (by kernel_rfl) (by kernel_rfl) (fun _ _ _ h=>h) rfl ⟨hS1,d0,d1,d2,d3,d4,d5⟩ (by rintro w' ⟨hw1,hw2,hw3,hw4,hw5,hw6,hw7⟩; go_simp; rfl) ?_;simp only[Act.put,aA,aB,aC];refine af 1 rfl (by kernel_rfl) (by kernel_rfl) (by kernel_rfl) (fun _ _ _ h=>h) rfl ⟨hS1,d0,d1,d2,d3,d4,d5⟩ (by rintro w' ⟨hw1,hw2,hw3,hw4,hw5,hw6,hw7⟩; go_simp; rfl) ?_
        simp only[Act.put,aA,aB,aC];refine af 2 rfl (by kernel_rfl) (by kernel_rfl) (by kernel_rfl) (fun _ _ _ h=>h) rfl ⟨hS1,d0,d1,d2,d3,d4,d5⟩ (by rintro w' ⟨hw1,hw2,hw3,hw4,hw5,hw6,hw7⟩; go_simp; rfl) ?_;simp only[Act.put,aA,aB,aC];refine af 3 rfl (by kernel_rfl) (by kernel_rfl) (by kernel_rfl) (fun _ _ _ h=>h) rfl ⟨hS1,d0,d1,d2,d3,d4,d5⟩ (by rintro w' ⟨hw1,hw2,hw3,hw4,hw5,hw6,hw7⟩; go_simp; rfl) ?_
        simp only[Act.put,aA,aB,aC];refine af 4 rfl (by kernel_rfl) (by kernel_rfl) (by kernel_rfl) (fun _ _ _ h=>h) rfl ⟨hS1,d0,d1,d2,d3,d4,d5⟩ (by rintro w' ⟨hw1,hw2,hw3,hw4,hw5,hw6,hw7⟩; go_simp; rfl) ?_;simp only[Act.put,aA,aB,aC];have hltb:eb<W6.heap.size:=lt_of_block HBX6.out;have hlty:wr.heap.size+1<W6.heap.size:=lt_of_block HY6.out;have HAL:=ab ((Below.refl W6.heap.size W6).alloc (Nat.le_refl _) (.cells #[.string (it.name), .int .i64 it.kind, .int .i64 it.mode, .int .i64 it.time, .slice none 0 0, .string it.link] 79))
        have hS2:=And.intro ((HAL.out.cell (p:=⟨eb,0,none⟩) hltb).trans hS1) (And.intro ((HAL.out.cell (p:=⟨wr.heap.size+1,0,none⟩) hlty).trans d0) (And.intro ((HAL.out.cell (p:=⟨wr.heap.size+1,1,none⟩) hlty).trans d1) (And.intro ((HAL.out.cell (p:=⟨wr.heap.size+1,2,none⟩) hlty).trans d2) (And.intro ((HAL.out.cell (p:=⟨wr.heap.size+1,3,none⟩) hlty).trans d3) (And.intro ((HAL.out.cell (p:=⟨wr.heap.size+1,4,none⟩) hlty).trans d4) ((HAL.out.cell (p:=⟨wr.heap.size+1,5,none⟩) hlty).trans d5))))))
        have HS2:=ab hS2;clear hS2;refine ar 5 rfl (by kernel_rfl) rfl (fun K hK=> ?_);go_wp2_with fail
        (first | (refine⟨HS2.out, ?_⟩) | skip)
        refine ar 6 rfl (by kernel_rfl) rfl (fun K hK=> ?_);have hyl:ys.length<4096:=by have h1:=HFL.out; rw[<-HYS.out,List.length_map]at h1; exact h1
        go_wp2_with (at_builtin; go_must (refine aK Tryz.appEnts rfl _ _ rfl base (.slice av ys.length cv2) ys.length (df ys) rfl W6 [.string (it.name), .int .i64 it.kind, .int .i64 it.mode, .int .i64 it.time, .slice none 0 0, .string it.link] _ rfl rfl (eJ (e:=⟨it.name,it.kind,it.mode,it.time,[],it.link⟩)) HROW6.out (by omega) (by omega) ?_); intro v' wc hown' hgrow' _ hpl; obtain⟨ae,ce,rfl,-,-⟩:=aj hown')
        have hneb:(Value.slice av ys.length cv2).ownBlock≠some eb:=fun e=>by
         obtain⟨cs,hc⟩:=az HROW6.out e;exact absurd (aO HBX6.out hc) (by decide)
        have hlow: ∀i,(Value.slice av ys.length cv2).ownBlock=some i->i<wr.heap.size:=fun i e=>by
         obtain⟨_,ys',_,hr',_⟩:=HIN.out.box;exact(hr'.lt _ e).2
        have hney:(Value.slice av ys.length cv2).ownBlock≠some (wr.heap.size+1):=fun e=>by have:=hlow _ e; omega
        have hnex:(Value.slice av ys.length cv2).ownBlock≠some wr.heap.size:=fun e=>by have:=hlow _ e; omega
        have hbx7:=(hgrow'.block eb hltb (fun e=>hneb e.symm)).trans HBX6.out;have hy7:=(hgrow'.block (wr.heap.size+1) hlty (fun e=>hney e.symm)).trans HY6.out;have hx7:=(hgrow'.block wr.heap.size (lt_of_block HX6.out) (fun e=>hnex e.symm)).trans HX6.out;have hpush:=eT.push (e:=⟨it.name,it.kind,it.mode,it.time,[],it.link⟩) HBX6.out HROW6.out HDAT6.out HDV6.out hown' hgrow' hpl hbe HBZ6.out
        rw[HYS.out]at hpush;have HIN8:=ab (HIN6.out.step hpush.1 hpush.2);have HX8:=ab ((Below.heap_setCell wc ⟨eb,0,none⟩ (.slice ae (ys.length+1) ce) wr.heap.size (by show wr.heap.size≠eb; have:=HIN.out.lo; have:=HIN.out.ord; omega)).trans hx7);have HY8:=ab ((Below.heap_setCell wc ⟨eb,0,none⟩ (.slice ae (ys.length+1) ce) (wr.heap.size+1) (by show wr.heap.size+1≠eb; have:=HIN.out.lo; have:=HIN.out.ord; omega)).trans hy7)
        have c0':=aa (k:=0) hbx7;have f0':=ai (k:=0) hbx7;have y0:=aa (k:=0) hy7;have y1:=aa (k:=1) hy7;have y2:=aa (k:=2) hy7;have y3:=aa (k:=3) hy7;have y4:=aa (k:=4) hy7;have y5:=aa (k:=5) hy7;simp only[aN]at c0' y0 y1 y2 y3 y4 y5;clear hown' hgrow' hpl hpush hneb hney hnex hlow hS1 d0 d1 d2 d3 d4 d5 f1 hbx7 hy7 hx7;refine⟨⟨c0',y0,y1,y2,y3,y4,y5⟩, ?_⟩
        refine af 7 rfl (by kernel_rfl) (by kernel_rfl) (by kernel_rfl) (fun _ _ _ h=>h) rfl ⟨c0',y0,y1,y2,y3,y4,y5⟩ (by rintro w' ⟨hw1,hw2,hw3,hw4,hw5,hw6,hw7⟩; go_simp; rfl) ?_;simp only[Act.put,aA,aB,aC];refine aV (by kernel_rfl) ?_;refine bX rfl rfl (fun K hK=> ?_)
        go_upto_region 16 with(fail)
        obtain⟨W8,hW8⟩: ∃W8:World,W8=wc.setCell ⟨eb,0,none⟩ (.slice ae (ys.length+1) ce):=⟨_,rfl⟩;rw[<-hW8]at HIN8 HX8 HY8 ⊢;clear hW8 c0' f0' y0 y1 y2 y3 y4 y5;have HX:=HX8;have HY:=HY8;clear HX8 HY8;have c0:=aa (k:=0) HX.out;have c1:=aa (k:=1) HX.out;have c6:=aa (k:=6) HX.out;have c7:=aa (k:=7) HX.out;have c8:=aa (k:=8) HX.out;have c9:=aa (k:=9) HX.out
        have d0:=aa (k:=0) HY.out;have d1:=aa (k:=1) HY.out;have d2:=aa (k:=2) HY.out;have d3:=aa (k:=3) HY.out;have d4:=aa (k:=4) HY.out;have d5:=aa (k:=5) HY.out;simp only[aN]at c0 c1 c6 c7 c8 c9 d0 d1 d2 d3 d4 d5
        by_cases hk2:it.kind=2
        ·have e2:(it.kind == 2)=true:=by simp[hk2]
         have hrec:=HIH.out (it.name) it.node (acc2++[⟨it.name,it.kind,it.mode,it.time,[],it.link⟩]) base eb _ W8 (by have h1:=nx dir it.name hnp; rw[HPI.out]at h1; omega) (.inr HVL.out) HIN8.out.box HO.out.nd (HI.out.keepL HIN8.out.kp.below hB) hB hbe (Nat.le_trans hbase HIN8.out.kp.below.size);have HSP:=ab (mL (cs:=cs) (rec:=di cs n) (r:=l.drop (k+1)) HPI.out HVL.out HFL.out hk2)
         obtain⟨q,hq⟩: ∃q,q=di cs n (it.name) it.node (acc2++[⟨it.name,it.kind,it.mode,it.time,[],it.link⟩]):=⟨_,rfl⟩;rw[<-hq]at hrec HSP;have HREC:=ab hrec;clear hrec hq hk2;go_wp2_with fail;refine HREC.out.mono ?_;rintro e w9 ⟨rfl,v9,hbx9,hkp9⟩;have HIN9:=ab (HIN8.out.step hbx9 hkp9);clear hbx9 hkp9 c0 c1 c6 c7 c8 c9 d0 d1 d2 d3 d4 d5
         by_cases hx:q.1=0
         ·have e3:(q.1 != 0)=false:=by simp[hx]
          have HQX:=ab hx;clear hx;go_wp2_with fail
          go_roundw
          case rel=>exact⟨k+1,v9,q.2,by omega,by go_num,by rw[<-HST.out,HDR.out,HSP.out,if_pos HQX.out],HIN9.out⟩
          case measure=>simp[intOf]; omega
         ·have e3:(q.1 != 0)=true:=by simp[hx]
          have HQX:=ab hx;clear hx;go_wp2_with fail;go_ret;rw[<-HST.out,HDR.out,HSP.out,if_neg HQX.out];exact⟨rfl,v9,HIN9.out.box,HIN9.out.kp⟩
        ·have e2:(it.kind == 2)=false:=by simp[hk2]
         have HSP:=ab (qd (cs:=cs) (rec:=di cs n) (r:=l.drop (k+1)) HPI.out HVL.out HFL.out hk2 HK1.out);clear hk2;go_wp2_with fail;clear c0 c1 c6 c7 c8 c9 d0 d1 d2 d3 d4 d5
         go_roundw
         case rel=>exact⟨k+1,_,_,by omega,by go_num,by rw[<-HST.out,HDR.out,HSP.out],HIN8.out⟩
         case measure=>simp[intOf]; omega
      ·have hfi: ¬(acc2.length:Int)<4096:=by omega
       have HFL:=ab hfull;clear hfull;go_wp2_with fail;go_ret;have h1:=HST.out;rw[HDR.out,eC,if_neg (fun h=>HFL.out h.2)]at h1;rw[<-h1];exact⟨rfl,v2,HIN4.out.box,HIN4.out.kp⟩
    ·have e2:dir.toList≠[]:=by rw[cO]; intro h; apply hde; rw[ay,h]; rfl
     have e3:dir.toList.isEmpty=false:=by simpa using e2
     have hpi:fi dir it.name=dir++⟨#[47]⟩++it.name:=by unfold fi; rw[if_neg hde]
     go_wp2_with fail;rw[<-hpi];obtain⟨pt,hpt⟩: ∃pt,fi dir it.name=pt:=⟨_,rfl⟩;have HPI:=ab hpt;rw[hpt];clear hpt hpi;obtain⟨W,hW⟩: ∃W,W=(wr.alloc (.cells #[.string it.name, .int .i64 it.kind, .int .i64 it.mode, .int .i64 it.time, .int .i64 it.size, .string it.link, .slice ca it.chunks.length cc, .string it.node.name, .int .i64 it.node.gen, .int .i64 it.node.size] 28)).alloc (.cells #[.string (pt), .int .i64 it.kind, .int .i64 it.mode, .int .i64 it.time, .slice none 0 0, .string it.link] 79):=⟨_,rfl⟩
     rw[<-hW];have HWB:=ab (show Below wr.heap.size wr W by rw[hW]; exact((Below.refl _ _).alloc (Nat.le_refl _) _).alloc (by simp) _);have HX0:=ab (show W.heap[wr.heap.size]? =some (.cells #[.string it.name, .int .i64 it.kind, .int .i64 it.mode, .int .i64 it.time, .int .i64 it.size, .string it.link, .slice ca it.chunks.length cc, .string it.node.name, .int .i64 it.node.gen, .int .i64 it.node.size] 28 (0,0)) by rw[hW]; exact cH (bZ wr _) _)
     have HY0:=ab (show W.heap[wr.heap.size+1]? =some (.cells #[.string (pt), .int .i64 it.kind, .int .i64 it.mode, .int .i64 it.time, .slice none 0 0, .string it.link] 79 (0,0)) by rw[hW]; exact jY wr _ _);have HIN3:=ab (HIN.out.below HWB.out HBZ.out);have HEW:=ab (show fE W from(HI.out.keepL (HIN3.out.kp.below) hB).env);clear hW q0 q1 q2 q3 q4 q5 q6 q7 q8 q9
     cases hval:bo (bl (pt))with
     | false=>
      have HVL:=ab hval;clear hval;refine(fQ (pt) false W HEW.out HVL.out).mono ?_;rintro e w2 ⟨rfl,hb2⟩;have HIN4:=ab (HIN3.out.below hb2 (Nat.le_trans HBZ.out HWB.out.size));clear hb2;go_wp2_with fail;go_ret;have h1:=HST.out;rw[HDR.out,eC,if_neg (fun h=>by rw[HPI.out,HVL.out]at h; cases h.1)]at h1;rw[<-h1];exact⟨rfl,v2,HIN4.out.box,HIN4.out.kp⟩
     | true=>
      have HVL:=ab hval;clear hval;refine(fQ (pt) true W HEW.out HVL.out).mono ?_;rintro e w2 ⟨rfl,hb2⟩;have HIN4:=ab (HIN3.out.below hb2 (Nat.le_trans HBZ.out HWB.out.size));have HX:=ab ((hb2.block _ (lt_of_block HX0.out)).trans HX0.out);have HY:=ab ((hb2.block _ (lt_of_block HY0.out)).trans HY0.out);have HBZ4:=ab (Nat.le_trans (Nat.le_trans HBZ.out HWB.out.size) hb2.size);have HRF4:=ab (show aM (fun k=>w.heap.size+1<=k/\k<w1.heap.size) w2 (.slice ca it.chunks.length cc) it.chunks from aL.below (aL.below HRF.out (by omega) HWB.out (fun _ _ _ h=>h)) (by omega) hb2 (fun _ _ _ h=>h))
      have HB2:=ab (HWB.out.trans (hb2.mono HWB.out.size));clear hb2 HX0 HY0;obtain⟨ys0,hys0,hrow0,-⟩:=HIN4.out.box.2;obtain⟨av0,cv0,hv0,hvn0,hvm0⟩:=aj hrow0;have hlen:ys0.length=acc2.length:=by rw[<-hys0,List.length_map]
      rw[hlen]at hv0 hvn0;have e0:=aa (k:=0) HIN4.out.box.1;simp only[List.getElem?_toArray,List.getElem?_cons_zero]at e0;rw[hv0]at e0;have c0:=aa (k:=0) HX.out;have c1:=aa (k:=1) HX.out;have c6:=aa (k:=6) HX.out;have c7:=aa (k:=7) HX.out;have c8:=aa (k:=8) HX.out;have c9:=aa (k:=9) HX.out;have d0:=aa (k:=0) HY.out;have d1:=aa (k:=1) HY.out
      have d2:=aa (k:=2) HY.out;have d3:=aa (k:=3) HY.out;have d4:=aa (k:=4) HY.out;have d5:=aa (k:=5) HY.out;simp only[aN]at c0 c1 c6 c7 c8 c9 d0 d1 d2 d3 d4 d5;clear hys0 hrow0 hv0 hlen
      by_cases hfull:acc2.length<4096
      ·have hfi:(acc2.length:Int)<4096:=by omega
       have HFL:=ab hfull;clear hfull
       by_cases hk1:it.kind=1
       ·have e1:(it.kind == 1)=true:=by simp[hk1]
        have HK1:=ab hk1;have e2:(it.kind == 2)=false:=by simp[hk1]
        have hbf:=my hk1 (by have h:=HVI.out; unfold cy at h; rw[Bool.and_eq_true]at h; exact h.2);have htw:=qg (l:=it.chunks) (by have:=HCL.out; omega) (fun r hr=>(hbf.2.2.1 r hr).1) _ (Nat.le_refl _);rw[List.take_length]at htw;have hfl:=nr (fun _=>True) cv (.slice ca it.chunks.length cc) cs it.chunks w2 (bt.wide (HI.out.keepL HIN4.out.kp.below hB).cont) (aM.same HRF4.out (fun k _ _=>⟨trivial,rfl⟩)) htw.1 (by rw[<-hbf.2.2.2.1]; exact hbf.2.2.2.2) (by have:=HCL.out; omega) (fun r hr=>(hbf.2.2.1 r hr).1)
        unfold sP at hfl;clear hk1 hbf htw
        cases hfp:gY cs it.chunks []with
        | error x=>
         rw[hfp]at hfl;have HFL2:=ab hfl;have HFP:=ab hfp;clear hfl hfp;go_wp2_with fail;refine HFL2.out.mono ?_;rintro e w5 ⟨hb5,rfl,hx⟩;have hx5:=(hb5.block _ (lt_of_block HX.out)).trans HX.out;have hy5:=(hb5.block _ (lt_of_block HY.out)).trans HY.out;have HY0:=ab hy5;have d4':=aa (k:=4) hy5;have f4':=ai (k:=4) hy5;simp only[aN]at d4';clear e0 c0 c1 c6 c7 c8 c9 d0 d1 d2 d3 d4 d5
         go_wp2_with fail;obtain⟨W5,hW5⟩: ∃W5:World,W5=w5.setCell ⟨wr.heap.size+1,4,none⟩ (.slice none 0 0):=⟨_,rfl⟩;rw[<-hW5];have HW5:=ab hW5;have HX5:=ab ((show W5.heap[wr.heap.size]? =w5.heap[wr.heap.size]? from by rw[hW5,Below.heap_setCell _ _ _ _ (by show wr.heap.size≠wr.heap.size+1; omega)]).trans hx5);have hy6:=cI (k:=4) hy5 (.slice none 0 0);simp only[List.setIfInBounds_toArray,List.set_cons_succ,List.set_cons_zero]at hy6
         rw[<-hW5]at hy6;have HY5:=ab hy6;have HIN5:=ab (show nE w (w.heap.size+1) w1.heap.size base eb v (.slice (some ⟨b,o,none⟩) m cap1) l W5 v2 acc2 from HIN.out.below (by rw[hW5]; exact Below.setCell (HB2.out.trans (hb5.mono HB2.out.size)) (by show wr.heap.size<=wr.heap.size+1; omega) _) HBZ.out);have HBZ5:=ab (show base<=W5.heap.size from Nat.le_trans HBZ4.out (by rw[hW5]; have:=hb5.size; simpa [World.setCell]using this))
         clear hW5 hx5 hy5 hy6 d4' f4' HX HY hb5;have HX:=HX5;have HY:=HY5;clear HX5 HY5;have HDN:=ab (World.ownsRow_nil W5 base 5 1);have e4:(x != 0)=true:=by simp[hx]
         have HSP:=ab (sy (cs:=cs) (rec:=di cs n) (r:=l.drop (k+1)) HPI.out HVL.out HFL.out HK1.out HFP.out hx);clear hx;obtain⟨ys,hys,hrow,hdat⟩:=HIN5.out.box.2;obtain⟨av,cv2,hv2,hvn,hvm⟩:=aj hrow;have HBX5:=ab HIN5.out.box.1;have HROW5:=ab hrow;have HDAT5:=ab hdat
         have HYS:=ab hys;subst hv2;clear hys hrow hdat
         obtain⟨W6,hW6⟩: ∃W6:World,W6=(W5).drew:=⟨_,rfl⟩;have hb6:Below (W5).heap.size (W5) W6:=by rw[hW6]; exact(Below.refl _ _).drew
         have HB6:=ab hb6;have HX6:=ab ((hb6.block _ (lt_of_block HX.out)).trans HX.out);have HY6:=ab ((hb6.block _ (lt_of_block HY.out)).trans HY.out);have HBX6:=ab ((hb6.block _ (lt_of_block HBX5.out)).trans HBX5.out);have HROW6:=ab (bm HROW5.out hb6);have HDAT6:=ab (fun y hy=>bm (HDAT5.out y hy) hb6);have HDV6:=ab (bm (HDN).out hb6);have HIN6:=ab (HIN5.out.below hb6 HBZ5.out)
         have hbz6:=Nat.le_trans HBZ5.out hb6.size;have HBZ6:=ab hbz6;clear hb6 HX HY HIN5 HBX5 HROW5 HDAT5;have hS1:=aa (k:=0) HBX6.out;have d0:=aa (k:=0) HY6.out;have d1:=aa (k:=1) HY6.out;have d2:=aa (k:=2) HY6.out;have d3:=aa (k:=3) HY6.out;have d4:=aa (k:=4) HY6.out;have d5:=aa (k:=5) HY6.out;have f1:=ai (k:=0) HBX6.out;simp only[aN]at hS1 d0 d1 d2 d3 d4 d5
         refine bP (fun w'=>w'.cell? ⟨eb,0,none⟩=some (.slice av ys.length cv2)/\w'.cell? ⟨wr.heap.size+1,0,none⟩=some (.string (pt))/\w'.cell? ⟨wr.heap.size+1,1,none⟩=some (.int .i64 it.kind)/\w'.cell? ⟨wr.heap.size+1,2,none⟩=some (.int .i64 it.mode)/\w'.cell? ⟨wr.heap.size+1,3,none⟩=some (.int .i64 it.time)/\w'.cell? ⟨wr.heap.size+1,4,none⟩=some (.slice none 0 0)/\w'.cell? ⟨wr.heap.size+1,5,none⟩=some (.string it.link)) (by kernel_rfl) (by kernel_rfl) ?_
         simp only[List.dropLast_cons_cons,List.dropLast_singleton,List.length_cons,List.length_nil,Nat.reduceAdd,Nat.reduceSub];rw[<-hW6];clear hW6;refine af 0 rfl (by kernel_rfl) (by kernel_rfl) (by kernel_rfl) (fun _ _ _ h=>h) rfl ⟨hS1,d0,d1,d2,d3,d4,d5⟩ (by rintro w' ⟨hw1,hw2,hw3,hw4,hw5,hw6,hw7⟩; go_simp; rfl) ?_;simp only[Act.put,aA,aB,aC];refine af 1 rfl (by kernel_rfl) (by kernel_rfl) (by kernel_rfl) (fun _ _ _ h=>h) rfl ⟨hS1,d0,d1,d2,d3,d4,d5⟩ (by rintro w' ⟨hw1,hw2,hw3,hw4,hw5,hw6,hw7⟩; go_simp; rfl) ?_
         simp only[Act.put,aA,aB,aC];refine af 2 rfl (by kernel_rfl) (by kernel_rfl) (by kernel_rfl) (fun _ _ _ h=>h) rfl ⟨hS1,d0,d1,d2,d3,d4,d5⟩ (by rintro w' ⟨hw1,hw2,hw3,hw4,hw5,hw6,hw7⟩; go_simp; rfl) ?_;simp only[Act.put,aA,aB,aC];refine af 3 rfl (by kernel_rfl) (by kernel_rfl) (by kernel_rfl) (fun _ _ _ h=>h) rfl ⟨hS1,d0,d1,d2,d3,d4,d5⟩ (by rintro w' ⟨hw1,hw2,hw3,hw4,hw5,hw6,hw7⟩; go_simp; rfl) ?_
         simp only[Act.put,aA,aB,aC];refine af 4 rfl (by kernel_rfl) (by kernel_rfl) (by kernel_rfl) (fun _ _ _ h=>h) rfl ⟨hS1,d0,d1,d2,d3,d4,d5⟩ (by rintro w' ⟨hw1,hw2,hw3,hw4,hw5,hw6,hw7⟩; go_simp; rfl) ?_;simp only[Act.put,aA,aB,aC];have hltb:eb<W6.heap.size:=lt_of_block HBX6.out;have hlty:wr.heap.size+1<W6.heap.size:=lt_of_block HY6.out;have HAL:=ab ((Below.refl W6.heap.size W6).alloc (Nat.le_refl _) (.cells #[.string (pt), .int .i64 it.kind, .int .i64 it.mode, .int .i64 it.time, .slice none 0 0, .string it.link] 79))
         have hS2:=And.intro ((HAL.out.cell (p:=⟨eb,0,none⟩) hltb).trans hS1) (And.intro ((HAL.out.cell (p:=⟨wr.heap.size+1,0,none⟩) hlty).trans d0) (And.intro ((HAL.out.cell (p:=⟨wr.heap.size+1,1,none⟩) hlty).trans d1) (And.intro ((HAL.out.cell (p:=⟨wr.heap.size+1,2,none⟩) hlty).trans d2) (And.intro ((HAL.out.cell (p:=⟨wr.heap.size+1,3,none⟩) hlty).trans d3) (And.intro ((HAL.out.cell (p:=⟨wr.heap.size+1,4,none⟩) hlty).trans d4) ((HAL.out.cell (p:=⟨wr.heap.size+1,5,none⟩) hlty).trans d5))))))
         have HS2:=ab hS2;clear hS2;refine ar 5 rfl (by kernel_rfl) rfl (fun K hK=> ?_);go_wp2_with fail
         (first | (refine⟨HS2.out, ?_⟩) | skip)
         refine ar 6 rfl (by kernel_rfl) rfl (fun K hK=> ?_);have hyl:ys.length<4096:=by have h1:=HFL.out; rw[<-HYS.out,List.length_map]at h1; exact h1
         go_wp2_with (at_builtin; go_must (refine aK Tryz.appEnts rfl _ _ rfl base (.slice av ys.length cv2) ys.length (df ys) rfl W6 [.string (pt), .int .i64 it.kind, .int .i64 it.mode, .int .i64 it.time, .slice none 0 0, .string it.link] _ rfl rfl (eJ (e:=⟨pt,it.kind,it.mode,it.time,[],it.link⟩)) HROW6.out (by omega) (by omega) ?_); intro v' wc hown' hgrow' _ hpl; obtain⟨ae,ce,rfl,-,-⟩:=aj hown')
         have hneb:(Value.slice av ys.length cv2).ownBlock≠some eb:=fun e=>by
          obtain⟨cs,hc⟩:=az HROW6.out e;exact absurd (aO HBX6.out hc) (by decide)
         have hlow: ∀i,(Value.slice av ys.length cv2).ownBlock=some i->i<wr.heap.size:=fun i e=>by
          obtain⟨_,ys',_,hr',_⟩:=HIN.out.box;exact(hr'.lt _ e).2
         have hney:(Value.slice av ys.length cv2).ownBlock≠some (wr.heap.size+1):=fun e=>by have:=hlow _ e; omega
         have hnex:(Value.slice av ys.length cv2).ownBlock≠some wr.heap.size:=fun e=>by have:=hlow _ e; omega
         have hbx7:=(hgrow'.block eb hltb (fun e=>hneb e.symm)).trans HBX6.out;have hy7:=(hgrow'.block (wr.heap.size+1) hlty (fun e=>hney e.symm)).trans HY6.out;have hx7:=(hgrow'.block wr.heap.size (lt_of_block HX6.out) (fun e=>hnex e.symm)).trans HX6.out;have hpush:=eT.push (e:=⟨pt,it.kind,it.mode,it.time,[],it.link⟩) HBX6.out HROW6.out HDAT6.out HDV6.out hown' hgrow' hpl hbe HBZ6.out
         rw[HYS.out]at hpush;have HIN8:=ab (HIN6.out.step hpush.1 hpush.2);have HX8:=ab ((Below.heap_setCell wc ⟨eb,0,none⟩ (.slice ae (ys.length+1) ce) wr.heap.size (by show wr.heap.size≠eb; have:=HIN.out.lo; have:=HIN.out.ord; omega)).trans hx7);have HY8:=ab ((Below.heap_setCell wc ⟨eb,0,none⟩ (.slice ae (ys.length+1) ce) (wr.heap.size+1) (by show wr.heap.size+1≠eb; have:=HIN.out.lo; have:=HIN.out.ord; omega)).trans hy7)
         have c0':=aa (k:=0) hbx7;have f0':=ai (k:=0) hbx7;have y0:=aa (k:=0) hy7;have y1:=aa (k:=1) hy7;have y2:=aa (k:=2) hy7;have y3:=aa (k:=3) hy7;have y4:=aa (k:=4) hy7;have y5:=aa (k:=5) hy7;simp only[aN]at c0' y0 y1 y2 y3 y4 y5;clear hown' hgrow' hpl hpush hneb hney hnex hlow hS1 d0 d1 d2 d3 d4 d5 f1 hbx7 hy7 hx7;refine⟨⟨c0',y0,y1,y2,y3,y4,y5⟩, ?_⟩
         refine af 7 rfl (by kernel_rfl) (by kernel_rfl) (by kernel_rfl) (fun _ _ _ h=>h) rfl ⟨c0',y0,y1,y2,y3,y4,y5⟩ (by rintro w' ⟨hw1,hw2,hw3,hw4,hw5,hw6,hw7⟩; go_simp; rfl) ?_;simp only[Act.put,aA,aB,aC];refine aV (by kernel_rfl) ?_;refine bX rfl rfl (fun K hK=> ?_)
         go_upto_region 16 with(fail)
         obtain⟨W8,hW8⟩: ∃W8:World,W8=wc.setCell ⟨eb,0,none⟩ (.slice ae (ys.length+1) ce):=⟨_,rfl⟩;rw[<-hW8]at HIN8 HX8 HY8 ⊢;clear hW8 c0' f0' y0 y1 y2 y3 y4 y5;have HX:=HX8;have HY:=HY8;clear HX8 HY8;have c0:=aa (k:=0) HX.out;have c1:=aa (k:=1) HX.out;have c6:=aa (k:=6) HX.out;have c7:=aa (k:=7) HX.out;have c8:=aa (k:=8) HX.out;have c9:=aa (k:=9) HX.out
         have d0:=aa (k:=0) HY.out;have d1:=aa (k:=1) HY.out;have d2:=aa (k:=2) HY.out;have d3:=aa (k:=3) HY.out;have d4:=aa (k:=4) HY.out;have d5:=aa (k:=5) HY.out;simp only[aN]at c0 c1 c6 c7 c8 c9 d0 d1 d2 d3 d4 d5;go_wp2_with fail;go_ret;rw[<-HST.out,HDR.out,HSP.out];exact⟨rfl,_,HIN8.out.box,HIN8.out.kp⟩
        | ok bs=>
         rw[hfp]at hfl;have HFL2:=ab hfl;have HFP:=ab hfp;clear hfl hfp;go_wp2_with fail;refine HFL2.out.mono ?_;rintro e w5 ⟨hb5,v5,rfl,ho5⟩;obtain⟨a5,c5,rfl,-,-⟩:=aj ho5;have HO5:=ab ho5;clear ho5;have hx5:=(hb5.block _ (lt_of_block HX.out)).trans HX.out;have hy5:=(hb5.block _ (lt_of_block HY.out)).trans HY.out;have HY0:=ab hy5;have d4':=aa (k:=4) hy5;have f4':=ai (k:=4) hy5
         simp only[aN]at d4';clear e0 c0 c1 c6 c7 c8 c9 d0 d1 d2 d3 d4 d5;go_wp2_with fail;obtain⟨W5,hW5⟩: ∃W5:World,W5=w5.setCell ⟨wr.heap.size+1,4,none⟩ (.slice a5 bs.length c5):=⟨_,rfl⟩;rw[<-hW5];have HW5:=ab hW5;have HX5:=ab ((show W5.heap[wr.heap.size]? =w5.heap[wr.heap.size]? from by rw[hW5,Below.heap_setCell _ _ _ _ (by show wr.heap.size≠wr.heap.size+1; omega)]).trans hx5)
         have hy6:=cI (k:=4) hy5 (.slice a5 bs.length c5);simp only[List.setIfInBounds_toArray,List.set_cons_succ,List.set_cons_zero]at hy6;rw[<-hW5]at hy6;have HY5:=ab hy6;have HIN5:=ab (show nE w (w.heap.size+1) w1.heap.size base eb v (.slice (some ⟨b,o,none⟩) m cap1) l W5 v2 acc2 from HIN.out.below (by rw[hW5]; exact Below.setCell (HB2.out.trans (hb5.mono HB2.out.size)) (by show wr.heap.size<=wr.heap.size+1; omega) _) HBZ.out)
         have HBZ5:=ab (show base<=W5.heap.size from Nat.le_trans HBZ4.out (by rw[hW5]; have:=hb5.size; simpa [World.setCell]using this));clear hW5 hx5 hy5 hy6 d4' f4' HX HY hb5;have HX:=HX5;have HY:=HY5;clear HX5 HY5;have HDN:=ab (show W5.ownsRow base 5 1 (.slice a5 bs.length c5) bs.length (bs.map au)from by
          rw[HW5.out];refine(cN HO5.out HBZ4.out).kept (aF w5 _ _ _) (.inr (fun e=> ?_));obtain⟨cs2,hc2⟩:=az HO5.out e;exact absurd (aO HY0.out hc2) (by decide))
         have HSP:=ab (lz (cs:=cs) (rec:=di cs n) (r:=l.drop (k+1)) HPI.out HVL.out HFL.out HK1.out HFP.out);obtain⟨ys,hys,hrow,hdat⟩:=HIN5.out.box.2;obtain⟨av,cv2,hv2,hvn,hvm⟩:=aj hrow;have HBX5:=ab HIN5.out.box.1;have HROW5:=ab hrow;have HDAT5:=ab hdat
         have HYS:=ab hys;subst hv2;clear hys hrow hdat
         obtain⟨W6,hW6⟩: ∃W6:World,W6=(W5).drew:=⟨_,rfl⟩;have hb6:Below (W5).heap.size (W5) W6:=by rw[hW6]; exact(Below.refl _ _).drew
         have HB6:=ab hb6;have HX6:=ab ((hb6.block _ (lt_of_block HX.out)).trans HX.out);have HY6:=ab ((hb6.block _ (lt_of_block HY.out)).trans HY.out);have HBX6:=ab ((hb6.block _ (lt_of_block HBX5.out)).trans HBX5.out);have HROW6:=ab (bm HROW5.out hb6);have HDAT6:=ab (fun y hy=>bm (HDAT5.out y hy) hb6);have HDV6:=ab (bm (HDN).out hb6);have HIN6:=ab (HIN5.out.below hb6 HBZ5.out)
         have hbz6:=Nat.le_trans HBZ5.out hb6.size;have HBZ6:=ab hbz6;clear hb6 HX HY HIN5 HBX5 HROW5 HDAT5;have hS1:=aa (k:=0) HBX6.out;have d0:=aa (k:=0) HY6.out;have d1:=aa (k:=1) HY6.out;have d2:=aa (k:=2) HY6.out;have d3:=aa (k:=3) HY6.out;have d4:=aa (k:=4) HY6.out;have d5:=aa (k:=5) HY6.out;have f1:=ai (k:=0) HBX6.out;simp only[aN]at hS1 d0 d1 d2 d3 d4 d5
         refine bP (fun w'=>w'.cell? ⟨eb,0,none⟩=some (.slice av ys.length cv2)/\w'.cell? ⟨wr.heap.size+1,0,none⟩=some (.string (pt))/\w'.cell? ⟨wr.heap.size+1,1,none⟩=some (.int .i64 it.kind)/\w'.cell? ⟨wr.heap.size+1,2,none⟩=some (.int .i64 it.mode)/\w'.cell? ⟨wr.heap.size+1,3,none⟩=some (.int .i64 it.time)/\w'.cell? ⟨wr.heap.size+1,4,none⟩=some (.slice a5 bs.length c5)/\w'.cell? ⟨wr.heap.size+1,5,none⟩=some (.string it.link)) (by kernel_rfl) (by kernel_rfl) ?_
         simp only[List.dropLast_cons_cons,List.dropLast_singleton,List.length_cons,List.length_nil,Nat.reduceAdd,Nat.reduceSub];rw[<-hW6];clear hW6;refine af 0 rfl (by kernel_rfl) (by kernel_rfl) (by kernel_rfl) (fun _ _ _ h=>h) rfl ⟨hS1,d0,d1,d2,d3,d4,d5⟩ (by rintro w' ⟨hw1,hw2,hw3,hw4,hw5,hw6,hw7⟩; go_simp; rfl) ?_;simp only[Act.put,aA,aB,aC];refine af 1 rfl (by kernel_rfl) (by kernel_rfl) (by kernel_rfl) (fun _ _ _ h=>h) rfl ⟨hS1,d0,d1,d2,d3,d4,d5⟩ (by rintro w' ⟨hw1,hw2,hw3,hw4,hw5,hw6,hw7⟩; go_simp; rfl) ?_
         simp only[Act.put,aA,aB,aC];refine af 2 rfl (by kernel_rfl) (by kernel_rfl) (by kernel_rfl) (fun _ _ _ h=>h) rfl ⟨hS1,d0,d1,d2,d3,d4,d5⟩ (by rintro w' ⟨hw1,hw2,hw3,hw4,hw5,hw6,hw7⟩; go_simp; rfl) ?_;simp only[Act.put,aA,aB,aC];refine af 3 rfl (by kernel_rfl) (by kernel_rfl) (by kernel_rfl) (fun _ _ _ h=>h) rfl ⟨hS1,d0,d1,d2,d3,d4,d5⟩ (by rintro w' ⟨hw1,hw2,hw3,hw4,hw5,hw6,hw7⟩; go_simp; rfl) ?_
         simp only[Act.put,aA,aB,aC];refine af 4 rfl (by kernel_rfl) (by kernel_rfl) (by kernel_rfl) (fun _ _ _ h=>h) rfl ⟨hS1,d0,d1,d2,d3,d4,d5⟩ (by rintro w' ⟨hw1,hw2,hw3,hw4,hw5,hw6,hw7⟩; go_simp; rfl) ?_;simp only[Act.put,aA,aB,aC];have hltb:eb<W6.heap.size:=lt_of_block HBX6.out;have hlty:wr.heap.size+1<W6.heap.size:=lt_of_block HY6.out;have HAL:=ab ((Below.refl W6.heap.size W6).alloc (Nat.le_refl _) (.cells #[.string (pt), .int .i64 it.kind, .int .i64 it.mode, .int .i64 it.time, .slice a5 bs.length c5, .string it.link] 79))
         have hS2:=And.intro ((HAL.out.cell (p:=⟨eb,0,none⟩) hltb).trans hS1) (And.intro ((HAL.out.cell (p:=⟨wr.heap.size+1,0,none⟩) hlty).trans d0) (And.intro ((HAL.out.cell (p:=⟨wr.heap.size+1,1,none⟩) hlty).trans d1) (And.intro ((HAL.out.cell (p:=⟨wr.heap.size+1,2,none⟩) hlty).trans d2) (And.intro ((HAL.out.cell (p:=⟨wr.heap.size+1,3,none⟩) hlty).trans d3) (And.intro ((HAL.out.cell (p:=⟨wr.heap.size+1,4,none⟩) hlty).trans d4) ((HAL.out.cell (p:=⟨wr.heap.size+1,5,none⟩) hlty).trans d5))))))
         have HS2:=ab hS2;clear hS2;refine ar 5 rfl (by kernel_rfl) rfl (fun K hK=> ?_);go_wp2_with fail
         (first | (refine⟨HS2.out, ?_⟩) | skip)
         refine ar 6 rfl (by kernel_rfl) rfl (fun K hK=> ?_);have hyl:ys.length<4096:=by have h1:=HFL.out; rw[<-HYS.out,List.length_map]at h1; exact h1
         go_wp2_with (at_builtin; go_must (refine aK Tryz.appEnts rfl _ _ rfl base (.slice av ys.length cv2) ys.length (df ys) rfl W6 [.string (pt), .int .i64 it.kind, .int .i64 it.mode, .int .i64 it.time, .slice a5 bs.length c5, .string it.link] _ rfl rfl (eJ (e:=⟨pt,it.kind,it.mode,it.time,bs,it.link⟩)) HROW6.out (by omega) (by omega) ?_); intro v' wc hown' hgrow' _ hpl; obtain⟨ae,ce,rfl,-,-⟩:=aj hown')
         have hneb:(Value.slice av ys.length cv2).ownBlock≠some eb:=fun e=>by
          obtain⟨cs,hc⟩:=az HROW6.out e;exact absurd (aO HBX6.out hc) (by decide)
         have hlow: ∀i,(Value.slice av ys.length cv2).ownBlock=some i->i<wr.heap.size:=fun i e=>by
          obtain⟨_,ys',_,hr',_⟩:=HIN.out.box;exact(hr'.lt _ e).2
         have hney:(Value.slice av ys.length cv2).ownBlock≠some (wr.heap.size+1):=fun e=>by have:=hlow _ e; omega
         have hnex:(Value.slice av ys.length cv2).ownBlock≠some wr.heap.size:=fun e=>by have:=hlow _ e; omega
         have hbx7:=(hgrow'.block eb hltb (fun e=>hneb e.symm)).trans HBX6.out;have hy7:=(hgrow'.block (wr.heap.size+1) hlty (fun e=>hney e.symm)).trans HY6.out;have hx7:=(hgrow'.block wr.heap.size (lt_of_block HX6.out) (fun e=>hnex e.symm)).trans HX6.out;have hpush:=eT.push (e:=⟨pt,it.kind,it.mode,it.time,bs,it.link⟩) HBX6.out HROW6.out HDAT6.out HDV6.out hown' hgrow' hpl hbe HBZ6.out
         rw[HYS.out]at hpush;have HIN8:=ab (HIN6.out.step hpush.1 hpush.2);have HX8:=ab ((Below.heap_setCell wc ⟨eb,0,none⟩ (.slice ae (ys.length+1) ce) wr.heap.size (by show wr.heap.size≠eb; have:=HIN.out.lo; have:=HIN.out.ord; omega)).trans hx7);have HY8:=ab ((Below.heap_setCell wc ⟨eb,0,none⟩ (.slice ae (ys.length+1) ce) (wr.heap.size+1) (by show wr.heap.size+1≠eb; have:=HIN.out.lo; have:=HIN.out.ord; omega)).trans hy7)
         have c0':=aa (k:=0) hbx7;have f0':=ai (k:=0) hbx7;have y0:=aa (k:=0) hy7;have y1:=aa (k:=1) hy7;have y2:=aa (k:=2) hy7;have y3:=aa (k:=3) hy7;have y4:=aa (k:=4) hy7;have y5:=aa (k:=5) hy7;simp only[aN]at c0' y0 y1 y2 y3 y4 y5;clear hown' hgrow' hpl hpush hneb hney hnex hlow hS1 d0 d1 d2 d3 d4 d5 f1 hbx7 hy7 hx7;refine⟨⟨c0',y0,y1,y2,y3,y4,y5⟩, ?_⟩
         refine af 7 rfl (by kernel_rfl) (by kernel_rfl) (by kernel_rfl) (fun _ _ _ h=>h) rfl ⟨c0',y0,y1,y2,y3,y4,y5⟩ (by rintro w' ⟨hw1,hw2,hw3,hw4,hw5,hw6,hw7⟩; go_simp; rfl) ?_;simp only[Act.put,aA,aB,aC];refine aV (by kernel_rfl) ?_;refine bX rfl rfl (fun K hK=> ?_)
         go_upto_region 16 with(fail)
         obtain⟨W8,hW8⟩: ∃W8:World,W8=wc.setCell ⟨eb,0,none⟩ (.slice ae (ys.length+1) ce):=⟨_,rfl⟩;rw[<-hW8]at HIN8 HX8 HY8 ⊢;clear hW8 c0' f0' y0 y1 y2 y3 y4 y5;have HX:=HX8;have HY:=HY8;clear HX8 HY8;have c0:=aa (k:=0) HX.out;have c1:=aa (k:=1) HX.out;have c6:=aa (k:=6) HX.out;have c7:=aa (k:=7) HX.out;have c8:=aa (k:=8) HX.out;have c9:=aa (k:=9) HX.out
         have d0:=aa (k:=0) HY.out;have d1:=aa (k:=1) HY.out;have d2:=aa (k:=2) HY.out;have d3:=aa (k:=3) HY.out;have d4:=aa (k:=4) HY.out;have d5:=aa (k:=5) HY.out;simp only[aN]at c0 c1 c6 c7 c8 c9 d0 d1 d2 d3 d4 d5;go_wp2_with fail;clear c0 c1 c6 c7 c8 c9 d0 d1 d2 d3 d4 d5
         go_roundw
         case rel=>exact⟨k+1,_,_,by omega,by go_num,by rw[<-HST.out,HDR.out,HSP.out],HIN8.out⟩
         case measure=>simp[intOf]; omega
       ·have e1:(it.kind == 1)=false:=by simp[hk1]
        have HK1:=ab hk1;clear hk1;have HIN5:=HIN4;have HBZ5:=HBZ4;have HDN:=ab (World.ownsRow_nil w2 base 5 1);go_wp2_with fail;clear e0 c0 c1 c6 c7 c8 c9 d0 d1 d2 d3 d4 d5;obtain⟨ys,hys,hrow,hdat⟩:=HIN5.out.box.2;obtain⟨av,cv2,hv2,hvn,hvm⟩:=aj hrow;have HBX5:=ab HIN5.out.box.1;have HROW5:=ab hrow;have HDAT5:=ab hdat
        have HYS:=ab hys;subst hv2;clear hys hrow hdat
        obtain⟨W6,hW6⟩: ∃W6:World,W6=(w2).drew:=⟨_,rfl⟩;have hb6:Below (w2).heap.size (w2) W6:=by rw[hW6]; exact(Below.refl _ _).drew
        have HB6:=ab hb6;have HX6:=ab ((hb6.block _ (lt_of_block HX.out)).trans HX.out);have HY6:=ab ((hb6.block _ (lt_of_block HY.out)).trans HY.out);have HBX6:=ab ((hb6.block _ (lt_of_block HBX5.out)).trans HBX5.out);have HROW6:=ab (bm HROW5.out hb6);have HDAT6:=ab (fun y hy=>bm (HDAT5.out y hy) hb6);have HDV6:=ab (bm (HDN).out hb6);have HIN6:=ab (HIN5.out.below hb6 HBZ5.out)
        have hbz6:=Nat.le_trans HBZ5.out hb6.size;have HBZ6:=ab hbz6;clear hb6 HX HY HIN5 HBX5 HROW5 HDAT5;have hS1:=aa (k:=0) HBX6.out;have d0:=aa (k:=0) HY6.out;have d1:=aa (k:=1) HY6.out;have d2:=aa (k:=2) HY6.out;have d3:=aa (k:=3) HY6.out;have d4:=aa (k:=4) HY6.out;have d5:=aa (k:=5) HY6.out;have f1:=ai (k:=0) HBX6.out;simp only[aN]at hS1 d0 d1 d2 d3 d4 d5
        refine bP (fun w'=>w'.cell? ⟨eb,0,none⟩=some (.slice av ys.length cv2)/\w'.cell? ⟨wr.heap.size+1,0,none⟩=some (.string (pt))/\w'.cell? ⟨wr.heap.size+1,1,none⟩=some (.int .i64 it.kind)/\w'.cell? ⟨wr.heap.size+1,2,none⟩=some (.int .i64 it.mode)/\w'.cell? ⟨wr.heap.size+1,3,none⟩=some (.int .i64 it.time)/\w'.cell? ⟨wr.heap.size+1,4,none⟩=some (.slice none 0 0)/\w'.cell? ⟨wr.heap.size+1,5,none⟩=some (.string it.link)) (by kernel_rfl) (by kernel_rfl) ?_
        simp only[List.dropLast_cons_cons,List.dropLast_singleton,List.length_cons,List.length_nil,Nat.reduceAdd,Nat.reduceSub];rw[<-hW6];clear hW6;refine af 0 rfl (by kernel_rfl) (by kernel_rfl) (by kernel_rfl) (fun _ _ _ h=>h) rfl ⟨hS1,d0,d1,d2,d3,d4,d5⟩ (by rintro w' ⟨hw1,hw2,hw3,hw4,hw5,hw6,hw7⟩; go_simp; rfl) ?_;simp only[Act.put,aA,aB,aC];refine af 1 rfl (by kernel_rfl) (by kernel_rfl) (by kernel_rfl) (fun _ _ _ h=>h) rfl ⟨hS1,d0,d1,d2,d3,d4,d5⟩ (by rintro w' ⟨hw1,hw2,hw3,hw4,hw5,hw6,hw7⟩; go_simp; rfl) ?_
        simp only[Act.put,aA,aB,aC];refine af 2 rfl (by kernel_rfl) (by kernel_rfl) (by kernel_rfl) (fun _ _ _ h=>h) rfl ⟨hS1,d0,d1,d2,d3,d4,d5⟩ (by rintro w' ⟨hw1,hw2,hw3,hw4,hw5,hw6,hw7⟩; go_simp; rfl) ?_;simp only[Act.put,aA,aB,aC];refine af 3 rfl (by kernel_rfl) (by kernel_rfl) (by kernel_rfl) (fun _ _ _ h=>h) rfl ⟨hS1,d0,d1,d2,d3,d4,d5⟩ (by rintro w' ⟨hw1,hw2,hw3,hw4,hw5,hw6,hw7⟩; go_simp; rfl) ?_
        simp only[Act.put,aA,aB,aC];refine af 4 rfl (by kernel_rfl) (by kernel_rfl) (by kernel_rfl) (fun _ _ _ h=>h) rfl ⟨hS1,d0,d1,d2,d3,d4,d5⟩ (by rintro w' ⟨hw1,hw2,hw3,hw4,hw5,hw6,hw7⟩; go_simp; rfl) ?_;simp only[Act.put,aA,aB,aC];have hltb:eb<W6.heap.size:=lt_of_block HBX6.out;have hlty:wr.heap.size+1<W6.heap.size:=lt_of_block HY6.out;have HAL:=ab ((Below.refl W6.heap.size W6).alloc (Nat.le_refl _) (.cells #[.string (pt), .int .i64 it.kind, .int .i64 it.mode, .int .i64 it.time, .slice none 0 0, .string it.link] 79))
        have hS2:=And.intro ((HAL.out.cell (p:=⟨eb,0,none⟩) hltb).trans hS1) (And.intro ((HAL.out.cell (p:=⟨wr.heap.size+1,0,none⟩) hlty).trans d0) (And.intro ((HAL.out.cell (p:=⟨wr.heap.size+1,1,none⟩) hlty).trans d1) (And.intro ((HAL.out.cell (p:=⟨wr.heap.size+1,2,none⟩) hlty).trans d2) (And.intro ((HAL.out.cell (p:=⟨wr.heap.size+1,3,none⟩) hlty).trans d3) (And.intro ((HAL.out.cell (p:=⟨wr.heap.size+1,4,none⟩) hlty).trans d4) ((HAL.out.cell (p:=⟨wr.heap.size+1,5,none⟩) hlty).trans d5))))))
        have HS2:=ab hS2;clear hS2;refine ar 5 rfl (by kernel_rfl) rfl (fun K hK=> ?_);go_wp2_with fail
        (first | (refine⟨HS2.out, ?_⟩) | skip)
        refine ar 6 rfl (by kernel_rfl) rfl (fun K hK=> ?_);have hyl:ys.length<4096:=by have h1:=HFL.out; rw[<-HYS.out,List.length_map]at h1; exact h1
        go_wp2_with (at_builtin; go_must (refine aK Tryz.appEnts rfl _ _ rfl base (.slice av ys.length cv2) ys.length (df ys) rfl W6 [.string (pt), .int .i64 it.kind, .int .i64 it.mode, .int .i64 it.time, .slice none 0 0, .string it.link] _ rfl rfl (eJ (e:=⟨pt,it.kind,it.mode,it.time,[],it.link⟩)) HROW6.out (by omega) (by omega) ?_); intro v' wc hown' hgrow' _ hpl; obtain⟨ae,ce,rfl,-,-⟩:=aj hown')
        have hneb:(Value.slice av ys.length cv2).ownBlock≠some eb:=fun e=>by
         obtain⟨cs,hc⟩:=az HROW6.out e;exact absurd (aO HBX6.out hc) (by decide)
        have hlow: ∀i,(Value.slice av ys.length cv2).ownBlock=some i->i<wr.heap.size:=fun i e=>by
         obtain⟨_,ys',_,hr',_⟩:=HIN.out.box;exact(hr'.lt _ e).2
        have hney:(Value.slice av ys.length cv2).ownBlock≠some (wr.heap.size+1):=fun e=>by have:=hlow _ e; omega
        have hnex:(Value.slice av ys.length cv2).ownBlock≠some wr.heap.size:=fun e=>by have:=hlow _ e; omega
        have hbx7:=(hgrow'.block eb hltb (fun e=>hneb e.symm)).trans HBX6.out;have hy7:=(hgrow'.block (wr.heap.size+1) hlty (fun e=>hney e.symm)).trans HY6.out;have hx7:=(hgrow'.block wr.heap.size (lt_of_block HX6.out) (fun e=>hnex e.symm)).trans HX6.out;have hpush:=eT.push (e:=⟨pt,it.kind,it.mode,it.time,[],it.link⟩) HBX6.out HROW6.out HDAT6.out HDV6.out hown' hgrow' hpl hbe HBZ6.out
        rw[HYS.out]at hpush;have HIN8:=ab (HIN6.out.step hpush.1 hpush.2);have HX8:=ab ((Below.heap_setCell wc ⟨eb,0,none⟩ (.slice ae (ys.length+1) ce) wr.heap.size (by show wr.heap.size≠eb; have:=HIN.out.lo; have:=HIN.out.ord; omega)).trans hx7);have HY8:=ab ((Below.heap_setCell wc ⟨eb,0,none⟩ (.slice ae (ys.length+1) ce) (wr.heap.size+1) (by show wr.heap.size+1≠eb; have:=HIN.out.lo; have:=HIN.out.ord; omega)).trans hy7)
        have c0':=aa (k:=0) hbx7;have f0':=ai (k:=0) hbx7;have y0:=aa (k:=0) hy7;have y1:=aa (k:=1) hy7;have y2:=aa (k:=2) hy7;have y3:=aa (k:=3) hy7;have y4:=aa (k:=4) hy7;have y5:=aa (k:=5) hy7;simp only[aN]at c0' y0 y1 y2 y3 y4 y5;clear hown' hgrow' hpl hpush hneb hney hnex hlow hS1 d0 d1 d2 d3 d4 d5 f1 hbx7 hy7 hx7;refine⟨⟨c0',y0,y1,y2,y3,y4,y5⟩, ?_⟩
        refine af 7 rfl (by kernel_rfl) (by kernel_rfl) (by kernel_rfl) (fun _ _ _ h=>h) rfl ⟨c0',y0,y1,y2,y3,y4,y5⟩ (by rintro w' ⟨hw1,hw2,hw3,hw4,hw5,hw6,hw7⟩; go_simp; rfl) ?_;simp only[Act.put,aA,aB,aC];refine aV (by kernel_rfl) ?_;refine bX rfl rfl (fun K hK=> ?_)
        go_upto_region 16 with(fail)
        obtain⟨W8,hW8⟩: ∃W8:World,W8=wc.setCell ⟨eb,0,none⟩ (.slice ae (ys.length+1) ce):=⟨_,rfl⟩;rw[<-hW8]at HIN8 HX8 HY8 ⊢;clear hW8 c0' f0' y0 y1 y2 y3 y4 y5;have HX:=HX8;have HY:=HY8;clear HX8 HY8;have c0:=aa (k:=0) HX.out;have c1:=aa (k:=1) HX.out;have c6:=aa (k:=6) HX.out;have c7:=aa (k:=7) HX.out;have c8:=aa (k:=8) HX.out;have c9:=aa (k:=9) HX.out
        have d0:=aa (k:=0) HY.out;have d1:=aa (k:=1) HY.out;have d2:=aa (k:=2) HY.out;have d3:=aa (k:=3) HY.out;have d4:=aa (k:=4) HY.out;have d5:=aa (k:=5) HY.out;simp only[aN]at c0 c1 c6 c7 c8 c9 d0 d1 d2 d3 d4 d5
        by_cases hk2:it.kind=2
        ·have e2:(it.kind == 2)=true:=by simp[hk2]
         have hrec:=HIH.out (pt) it.node (acc2++[⟨pt,it.kind,it.mode,it.time,[],it.link⟩]) base eb _ W8 (by have h1:=nx dir it.name hnp; rw[HPI.out]at h1; omega) (.inr HVL.out) HIN8.out.box HO.out.nd (HI.out.keepL HIN8.out.kp.below hB) hB hbe (Nat.le_trans hbase HIN8.out.kp.below.size);have HSP:=ab (mL (cs:=cs) (rec:=di cs n) (r:=l.drop (k+1)) HPI.out HVL.out HFL.out hk2)
         obtain⟨q,hq⟩: ∃q,q=di cs n (pt) it.node (acc2++[⟨pt,it.kind,it.mode,it.time,[],it.link⟩]):=⟨_,rfl⟩;rw[<-hq]at hrec HSP;have HREC:=ab hrec;clear hrec hq hk2;go_wp2_with fail;refine HREC.out.mono ?_;rintro e w9 ⟨rfl,v9,hbx9,hkp9⟩;have HIN9:=ab (HIN8.out.step hbx9 hkp9);clear hbx9 hkp9 c0 c1 c6 c7 c8 c9 d0 d1 d2 d3 d4 d5
         by_cases hx:q.1=0
         ·have e3:(q.1 != 0)=false:=by simp[hx]
          have HQX:=ab hx;clear hx;go_wp2_with fail
          go_roundw
          case rel=>exact⟨k+1,v9,q.2,by omega,by go_num,by rw[<-HST.out,HDR.out,HSP.out,if_pos HQX.out],HIN9.out⟩
          case measure=>simp[intOf]; omega
         ·have e3:(q.1 != 0)=true:=by simp[hx]
          have HQX:=ab hx;clear hx;go_wp2_with fail;go_ret;rw[<-HST.out,HDR.out,HSP.out,if_neg HQX.out];exact⟨rfl,v9,HIN9.out.box,HIN9.out.kp⟩
        ·have e2:(it.kind == 2)=false:=by simp[hk2]
         have HSP:=ab (qd (cs:=cs) (rec:=di cs n) (r:=l.drop (k+1)) HPI.out HVL.out HFL.out hk2 HK1.out);clear hk2;go_wp2_with fail;clear c0 c1 c6 c7 c8 c9 d0 d1 d2 d3 d4 d5
         go_roundw
         case rel=>exact⟨k+1,_,_,by omega,by go_num,by rw[<-HST.out,HDR.out,HSP.out],HIN8.out⟩
         case measure=>simp[intOf]; omega
      ·have hfi: ¬(acc2.length:Int)<4096:=by omega
       have HFL:=ab hfull;clear hfull;go_wp2_with fail;go_ret;have h1:=HST.out;rw[HDR.out,eC,if_neg (fun h=>HFL.out h.2)]at h1;rw[<-h1];exact⟨rfl,v2,HIN4.out.box,HIN4.out.kp⟩
   ·have hk2:k=m:=by omega
    subst hk2;go_wp2_with fail;go_ret;have h1:=HST.out;rw[HM.out,List.drop_length,eC]at h1;rw[<-h1];exact⟨rfl,v2,HIN.out.box,HIN.out.kp⟩
theorem vr (cs:List (ByteArray×List UInt8)) (cv:Value) (B:Nat): ∀n,yo cs cv B n
 | 0=>Aa cs cv B
 | n+1=>zZ cs cv B n (vr cs cv B n)
def yl (B:Nat) (w:World) (v:Value) (acc:List bD):Prop:= ∃ys:List ji,ys.map Prod.snd=acc/\w.ownsRow B 79 6 v ys.length (df ys)/\ ∀y∈ys,w.ownsRow B 5 1 y.1 y.2.data.length (y.2.data.map au)
def Eh (cs:List (ByteArray×List UInt8)) (root:aG) (w:World) (e:Ending) (w':World):Prop:=Below w.heap.size w w'/\match nt cs root with
 | .error x=>e= .returned (.tuple #[.slice none 0 0, .int .i64 x])/\x≠0
 | .ok l=> ∃v,e= .returned (.tuple #[v, .int .i64 0])/\yl w.heap.size w' v l
theorem vw (S:Nat->Prop) (cv:Value) (cs:List (ByteArray×List UInt8)) (root:aG) (w:World) (hc:bt S w cv cs) (henv:fE w) (hr:aW root):Calls Tryz.prog 25 #[aX root,cv] w (Eh cs root w):=by
 have HB0:=ab ((Below.refl w.heap.size w).alloc (Nat.le_refl _) (.cells #[.string root.name, .int .i64 root.gen, .int .i64 root.size] 26));have HX0:=ab (bZ w (.cells #[.string root.name, .int .i64 root.gen, .int .i64 root.size] 26));have HI:=ab (dd.start (hc.below HB0.out) (henv.below HB0.out));have HR:=ab hr;unfold aX;clear hc henv hr
 cases hv:dw root
 ·have HVR:=ab hv;have HM:=ab (show nt cs root= .error 1 by unfold nt; rw[if_neg (by rw[hv]; simp)]);clear hv
  go_enter Tryz.func25,Tryz.ntmps25
  go_wp2_with fail;refine(cA root false _ HR.out HVR.out).mono ?_;rintro e w1 ⟨rfl,hb1⟩;have HB1:=ab (ag HB0.out hb1);clear hb1;go_wp2_with fail
  go_ret2
  exact⟨HB1.out,by rw[HM.out]; exact⟨rfl,by decide⟩⟩
 ·have HVR:=ab hv;obtain⟨q,hq⟩: ∃q,q=di cs 514 ⟨#[]⟩ root []:=⟨_,rfl⟩;have HM:=ab (show nt cs root=if q.1=0 then .ok q.2 else .error q.1 by unfold nt; rw[if_pos hv,hq]);have HQ:=ab hq;clear hv hq
  go_enter Tryz.func25,Tryz.ntmps25
  go_wp2_with fail;refine(cA root true _ HR.out HVR.out).mono ?_;rintro e w1 ⟨rfl,hb1⟩;have HB1:=ab (ag HB0.out hb1);have hx1:=(hb1.block _ (lt_of_block HX0.out)).trans HX0.out;have HX1:=ab hx1;have hz1:=lt_of_block hx1;have hi1:=dd.keepL (base:=w1.heap.size) (HI.out.keepL hb1 (Nat.le_refl _)) ((Below.refl w1.heap.size w1).alloc (Nat.le_refl _) (.cells #[.slice none 0 0] 46)) hb1.size
  have hld:=vr cs cv _ 514 ⟨#[]⟩ root [] w1.heap.size w1.heap.size (.slice none 0 0) (w1.alloc (.cells #[.slice none 0 0] 46)) (by simp) (.inl rfl)
   ⟨bZ w1 _,[],rfl,World.ownsRow_nil _ _ _ _,by simp⟩ HR.out hi1 hb1.size (Nat.le_refl _) (by simp)
  rw[<-HQ.out]at hld;have HLD:=ab hld;unfold aX at HLD;have c0:=aa (k:=0) hx1;have c1:=aa (k:=1) hx1;have c2:=aa (k:=2) hx1;simp only[aN]at c0 c1 c2;clear hb1 hx1 hld hi1;go_wp2_with fail;refine HLD.out.mono ?_;rintro e w2 ⟨rfl,v2,hbx2,hkp2⟩;obtain⟨ys,hys,hrow,hdat⟩:=hbx2.2;obtain⟨a2,c2',rfl,-,-⟩:=aj hrow;have e0:=aa (k:=0) hbx2.1;simp only[List.getElem?_toArray,List.getElem?_cons_zero]at e0
  have HB2:=ab (show Below w.heap.size w w2 from(HB1.out.alloc HB1.out.size (.cells #[.slice none 0 0] 46)).trans (hkp2.below.mono HB1.out.size));have HEN:=ab (show yl w.heap.size w2 (.slice a2 ys.length c2') q.2 from⟨ys,hys,cN hrow HB1.out.size,fun y hy=>cN (hdat y hy) HB1.out.size⟩);clear hbx2 hkp2 hys hrow hdat c0 c1 c2
  by_cases hx:q.1=0
  ·have e1:(q.1 != 0)=false:=by simp[hx]
   have HQX:=ab hx;clear hx;go_wp2_with fail
   go_ret2
   exact⟨HB2.out,by rw[HM.out,if_pos HQX.out]; exact⟨_,rfl,HEN.out⟩⟩
  ·have e1:(q.1 != 0)=true:=by simp[hx]
   have HQX:=ab hx;clear hx;go_wp2_with fail
   go_ret2
   exact⟨HB2.out,by rw[HM.out,if_neg HQX.out]; exact⟨rfl,HQX.out⟩⟩
open Go Go.RowKit Go.Maps
structure kS (w : World) : Prop where
 env:fE w
 envh:sO w
 deb:ua w
theorem kS.keep {B:Nat} {w w':World} (h:kS w) (hb:Below B w w') (h7:7<=B):kS w':=
 ⟨h.env.belowB hb (by omega) (by omega) (by omega),⟨fun j x hj=>(hb.cell (p:=⟨2,j,none⟩) (show 2<B by omega)).trans (h.envh.init j x hj),fun j x hj=>(hb.cell (p:=⟨5,j,none⟩) (show 5<B by omega)).trans (h.envh.kons j x hj),⟨(hb.cell (p:=⟨0,0,none⟩) (show 0<B by omega)).trans h.envh.pads.1,(hb.cell (p:=⟨0,1,none⟩) (show 0<B by omega)).trans h.envh.pads.2⟩,
  Nat.lt_of_lt_of_le h.envh.ilt hb.size,Nat.lt_of_lt_of_le h.envh.klt hb.size,Nat.lt_of_lt_of_le h.envh.plt hb.size⟩,h.deb.block (hb.block _ (show 6<B by omega)) hb.size⟩
theorem kS.seven {w:World} (h:kS w):7<=w.heap.size:=by
 have:=h.deb.lt;omega
theorem kS.below {w w':World} (h:kS w) (hb:Below w.heap.size w w'):kS w':=h.keep hb h.seven
theorem Er {a:Act} {w:World} {b:Nat} {x0 x1 x2 e5:Value} (h:w.heap[b]? =some (.cells #[x0,x1,x2] 26 (0,0)))
  (h4:a.tmps[4]? =some (.pointer (some ⟨b,0,none⟩))) (h5:a.tmps[5]? =some e5):(results Tryz.f123 a.tmps).run Tryz.prog w= .ok (.tuple #[.agg #[x0,x1,x2],e5]) w:=by
 have m0:=ah (k:=0) h;have m1:=ah (k:=1) h;have m2:=ah (k:=2) h;simp only[aN]at m0 m1 m2;simp[results,Tryz.results123,go_sem,h4,h5,m0,m1,m2]
theorem nR {a:Act} {w:World} {b:Nat} {a0 a1 a2 x0 x1 x2 e5:Value} {Q:Ending->World->Prop} (h:w.heap[b]? =some (.cells #[a0,a1,a2] 26 (0,0)))
  (h4:a.tmps[4]? =some (.pointer (some ⟨b,0,none⟩))) (h5:a.tmps[5]? =some e5) (hd:a.defers=[])
  (hQ:Q (.returned (.tuple #[.agg #[x0,x1,x2],e5])) (((w.setCell ⟨b,0,none⟩ x0).setCell ⟨b,1,none⟩ x1).setCell ⟨b,2,none⟩ x2)):
  bodyPost Tryz.prog Tryz.f123 Q Exit.ret a (((w.setCell ⟨b,0,none⟩ x0).setCell ⟨b,1,none⟩ x1).setCell ⟨b,2,none⟩ x2):=bodyPost_ret (Er (Dv h) h4 h5) hd hQ
theorem cZ.ofGrown {base bb kb:Nat} {v:Value} {w w':World} (h:w.grownBy w' (some kb)) (hb:base<=w.heap.size) (hk:base<=kb):cZ base bb kb v v w w':=
 ⟨(Below.refl base w).grown h hb (fun i e=>by cases e; exact hk),fun i h1 _ h3 _=>h.block i h1 (fun e=>h3 (Option.some.inj e)),fun _ e=> .inl e⟩
theorem cZ.setNew {base bb kb b j:Nat} {v v' u:Value} {w w':World} (h:cZ base bb kb v v' w w') (hb:w.heap.size<=b) (hbz:base<=w.heap.size):cZ base bb kb v v' w (w'.setCell ⟨b,j,none⟩ u):=
 ⟨Below.setCell h.below (show base<=b by omega) u,fun i h1 h2 h3 h4=>(Below.heap_setCell _ _ _ _ (show i≠b by omega)).trans (h.same i h1 h2 h3 h4),h.place⟩
theorem ep.other {w w':World} {base bb im kb b:Nat} {k:bI} {c:dN} {gv v:Value} {bs:List bM} {cs:Array Value} {t:TypeId} {z:Nat×Nat} (h:ep w base bb k c gv im kb v bs) (hb:w.heap[b]? =some (.cells cs t z)) (h1:t≠122) (h2:t≠53) (h3:t≠5) (hs: ∀i,i≠b->i<w.heap.size->w'.heap[i]? =w.heap[i]?):ep w' base bb k c gv im kb v bs:=by
 obtain⟨zs,hz,hr,hd⟩:=h.own;refine⟨(hs bb (fun e=> ?_) (lt_of_block h.box)).trans h.box,⟨zs,hz,dz hr (fun i hi hu=>hs i (fun e=> ?_) hi),fun y hy=>dz (hd y hy) (fun i hi hu=>hs i (fun e=> ?_) hi)⟩,h.known.same (hs kb (fun e=>h.known.cells (by rw[e]; exact hb)) h.known.map.lt)⟩
 ·subst e; exact h1 (aO hb h.box)
 ·subst e;obtain⟨cs2,hc2⟩:=az hr hu;exact h2 (aO hb hc2)
 ·subst e;obtain⟨cs2,hc2⟩:=az (hd y hy) hu;exact h3 (aO hb hc2)
theorem rY (gs:List (ByteArray×Int)) (hgs: ∀p∈gs,0<=p.2/\p.2<=1099511627776) (n:ByteArray):0<=jP gs n/\jP gs n<=1099511627776:=by
 unfold jP
 cases hf:gs.find? (fun p=>decide (p.1=n))with
 | none=>exact⟨by decide,by decide⟩
 | some p=>exact hgs p (List.mem_of_find?_eq_some hf)
theorem mX {S:Nat->Prop} {w:World} {v:Value} {bs:List UInt8} {kb:Nat} {l:List aG} (h:aD S w v bs) (hk:cb w kb l):aD (fun i=>i≠kb/\i<w.heap.size) w v bs:=by
 obtain⟨h1,a,cap,rfl,h2,h3,h4⟩:=h;refine⟨h1,a,cap,rfl,h2,h3, ?_⟩
 rcases h4 with h4 | ⟨b,o,rfl,hS,hc⟩
 ·exact .inl h4
 ·cases bs with
  | nil=>exact .inl rfl
  | cons y ys=>
   have q:=hc 0 (au y) rfl;refine .inr ⟨b,o,rfl,⟨fun e=> ?_,aR q⟩,hc⟩;subst e;obtain⟨es,clock,hb,_⟩:=hk.map;simp[World.cell?,hb]at q
def wF (base bb kb:Nat) (k:bI) (c:dN) (gs:List (ByteArray×Int)) (gv:Value) (im:Nat) (v:Value) (bs:List bM) (x:List UInt8) (w:World) (e:Ending) (w':World):Prop:=
 e= .returned (.tuple #[aX (be k gs x), .int .i64 0])/\ ∃v',ep w' base bb k c gv im kb v' (gI k gs bs x)/\cZ base bb kb v v' w w'
theorem yt (S:Nat->Prop) (base bb kb im:Nat) (k:bI) (c:dN) (gs:List (ByteArray×Int)) (gv v cv:Value) (bs:List bM) (x:List UInt8) (w:World) (h:ep w base bb k c gv im kb v bs) (hk:fP k=true) (hg:iu (· <base) w gv gs) (hgs: ∀p∈gs,0<=p.2/\p.2<=1099511627776)
  (hx:aD S w cv x) (hl:x.length<=32768) (hE:kS w) (hbb:base<=bb) (hkb:base<=kb) (hbz:base<=w.heap.size) (_h7:7<=base) (hn:bs.length<1000000000000):
  Calls Tryz.prog 123 #[.pointer (some ⟨bb,0,none⟩),cv] w (wF base bb kb k c gs gv im v bs x w):=by
 obtain⟨_,a,cap,rfl,hcap,hcm,-⟩:=id hx;have HX:=ab hx;obtain⟨xl,hxl⟩: ∃xl,xl=x.length:=⟨_,rfl⟩;rw[<-hxl]at hl hcap ⊢;have HXL:=ab hxl;obtain⟨W0,hW0⟩: ∃W0,W0=(w.alloc (.cells #[.string ⟨#[]⟩, .int .i64 0, .int .i64 0] 26)).alloc (.cells #[.string ⟨#[]⟩, .int .i64 0, .int .i64 (xl:Int)] 26):=⟨_,rfl⟩;have hb0:Below w.heap.size w W0:=by rw[hW0]; exact((Below.refl _ _).alloc (Nat.le_refl _) _).alloc (by simp) _
 have HB0:=ab hb0;have HR0:=ab (show W0.heap[w.heap.size]? =some (.cells #[.string ⟨#[]⟩, .int .i64 0, .int .i64 0] 26 (0,0)) by rw[hW0]; exact cH (bZ w _) _);have HF0:=ab (show W0.heap[w.heap.size+1]? =some (.cells #[.string ⟨#[]⟩, .int .i64 0, .int .i64 (xl:Int)] 26 (0,0)) by rw[hW0]; exact jY w _ _);have HBD:=ab (h.below hb0);have HH:=ab h;have HK:=ab hk;have HG:=ab hg
 have HGS:=ab hgs;have HE:=ab (hE.below hb0);have HEW:=ab hE;have hlt:bb<w.heap.size:=lt_of_block h.box;have HBOX:=ab HBD.out.box;have k0:=aa (k:=0) HBOX.out;have k1:=aa (k:=1) HBOX.out;have k2:=aa (k:=2) HBOX.out;have k3:=aa (k:=3) HBOX.out;have k4:=aa (k:=4) HBOX.out;have k10:=aa (k:=10) HBOX.out;have k12:=aa (k:=12) HBOX.out
 have k13:=aa (k:=13) HBOX.out;simp only[fZ,dh,dA,List.cons_append,List.nil_append,aN]at k0 k1 k2 k3 k4 k10 k12 k13;clear h hk hg hgs hx hE hb0 hxl hcm
 go_enter Tryz.func123,Tryz.ntmps123
 go_upto_region 3 with(fail)
 rw[<-hW0];clear hW0;have hX0:aD S W0 (.slice a xl cap) x:=by have h1:=HX.out; rw[<-HXL.out]at h1; exact aS.below h1 (by omega) HB0.out
 have hnm:=me S k 0 x (.slice a xl cap) W0 HK.out (by omega) hX0 (by rw[<-HXL.out]; exact hl) HE.out.envh;unfold iU at hnm;have HNM:=ab hnm;have f0:=aa (k:=0) HF0.out;have fz0:=ai (k:=0) HF0.out;simp only[List.getElem?_toArray,List.getElem?_cons_zero]at f0;clear hnm;go_wp2_with fail;refine HNM.out.mono ?_;rintro e w1 ⟨rfl,hb1⟩;obtain⟨n0,hn0⟩: ∃n0,n0=lT k 0 x:=⟨_,rfl⟩
 rw[<-hn0];have hz0:n0.size=32:=by rw[hn0]; exact lp _ _ _
 have hf1:=(hb1.block _ (lt_of_block HF0.out)).trans HF0.out;have hr1:=(hb1.block _ (lt_of_block HR0.out)).trans HR0.out;have f0':=aa (k:=0) hf1;have fz0':=ai (k:=0) hf1;simp only[List.getElem?_toArray,List.getElem?_cons_zero]at f0';have HN0:=ab hn0;clear hn0 k0 k1 k2 k3 k4 k10 k12 k13 f0 fz0;go_wp2_with fail;obtain⟨W2,hW2⟩: ∃W2:World,W2=(w1.setCell ⟨w.heap.size+1,0,none⟩ (.string n0)).drew:=⟨_,rfl⟩
 have hb2:Below w.heap.size w W2:=by rw[hW2]; exact(Below.setCell (ag HB0.out hb1) (show w.heap.size<=w.heap.size+1 by omega) _).drew
 have HB2:=ab hb2;have hf2:=cI (k:=0) hf1 (.string n0);simp only[List.setIfInBounds_toArray,List.set_cons_zero]at hf2;have HF2:=ab (show W2.heap[w.heap.size+1]? =some (.cells #[.string n0, .int .i64 0, .int .i64 (xl:Int)] 26 (0,0)) by rw[hW2]; exact hf2);have HR2:=ab (show W2.heap[w.heap.size]? =some (.cells #[.string ⟨#[]⟩, .int .i64 0, .int .i64 0] 26 (0,0)) by rw[hW2]; exact(Below.heap_setCell _ _ _ _ (by show w.heap.size≠w.heap.size+1; omega)).trans hr1)
 have HBD2:=ab (HH.out.below hb2);have HBX2:=ab HBD2.out.box;have hgl:=Cp (HG.out.keep (w':=W2) (fun i h1 h2=>hb2.block i h2)) (n:=n0) (by rw[hz0]; unfold maxLen; omega);have HE2:=ab (HEW.out.below hb2);obtain⟨g,hg⟩: ∃g,g=jP gs n0:=⟨_,rfl⟩;have hgb:=rY gs HGS.out n0;rw[<-hg]at hgl hgb;have HGN:=ab hg;have k0:=aa (k:=0) HBX2.out;have k1:=aa (k:=1) HBX2.out
 have k2:=aa (k:=2) HBX2.out;have k3:=aa (k:=3) HBX2.out;have k4:=aa (k:=4) HBX2.out;have k10:=aa (k:=10) HBX2.out;have k12:=aa (k:=12) HBX2.out;have k13:=aa (k:=13) HBX2.out;simp only[fZ,dh,dA,List.cons_append,List.nil_append,aN]at k0 k1 k2 k3 k4 k10 k12 k13;have f0:=aa (k:=0) HF2.out;simp only[List.getElem?_toArray,List.getElem?_cons_zero]at f0
 clear hf1 hr1 f0' fz0' hb2 hf2 hg hb1;refine am [some 8] (by kernel_rfl) (by kernel_rfl) (by kernel_rfl) ?_;simp only[aZ,List.take_succ_cons,List.take_zero];rw[<-hW2];clear hW2
 repeat (first | (refine aw rfl ?_; simp only[Act.put,aA,aB,aC]) | (refine aJ rfl (fun K hK=> ?_); go_simp; refine hK _ ?_; clear hK K))
 refine aI ?_;obtain⟨r,hr⟩: ∃r,r=be k gs x:=⟨_,rfl⟩;have HRE:=ab hr;have hrs:r.size=(xl:Int):=by rw[hr,HXL.out]; rfl
 have hrg:r.gen=g:=by rw[hr,HGN.out,HN0.out]; rfl
 have hrn:r.name=lT k g.toNat x:=by rw[hr,HGN.out,HN0.out]; rfl
 have HRO:=ab (show aW r from⟨by rw[hrn,lp]; unfold maxLen; omega,by rw[hrg]; exact WalkArith.wf_i64 ⟨by omega,by omega⟩,by rw[hrs]; exact WalkArith.wf_i64 ⟨by omega,by omega⟩⟩);have HRN:=ab hrn;have HRG:=ab hrg;have HRS:=ab hrs;clear hr hrn hrg hrs k0 k1 k2 k3 k4 k10 k12 k13
 by_cases hg0:g=0
 ·go_wp2_with fail;have HF5:=ab (show W2.heap[w.heap.size+1]? =some (.cells #[.string r.name, .int .i64 r.gen, .int .i64 r.size] 26 (0,0)) by rw[HRN.out,HRG.out,HRS.out,hg0,Int.toNat_zero,<-HN0.out]; exact HF2.out);have HB5:=HB2;have HR5:=HR2;clear f0;obtain⟨W6,hW6⟩: ∃W6:World,W6=(W2).drew:=⟨_,rfl⟩;have hb6:Below (W2).heap.size (W2) W6:=by rw[hW6]; exact(Below.refl _ _).drew
  have HB6:=ab (ag HB5.out hb6);have HF6:=ab ((hb6.block _ (lt_of_block HF5.out)).trans HF5.out);have HR6:=ab ((hb6.block _ (lt_of_block HR5.out)).trans HR5.out);have HBD6:=ab (HH.out.below HB6.out);have HBX6:=ab HBD6.out.box;have k0:=aa (k:=0) HBX6.out;have k1:=aa (k:=1) HBX6.out;have k2:=aa (k:=2) HBX6.out;have k3:=aa (k:=3) HBX6.out;have k4:=aa (k:=4) HBX6.out
  have k10:=aa (k:=10) HBX6.out;have k12:=aa (k:=12) HBX6.out;have k13:=aa (k:=13) HBX6.out;simp only[fZ,dh,dA,List.cons_append,List.nil_append,aN]at k0 k1 k2 k3 k4 k10 k12 k13;have f0:=aa (k:=0) HF6.out;have f1:=aa (k:=1) HF6.out;have f2:=aa (k:=2) HF6.out;simp only[aN]at f0 f1 f2;have hlk:=HBD6.out.known.look HRO.out;unfold aX at hlk
  by_cases hin:r∈bs.map bM.ref
  ·have e1:decide (r∈bs.map bM.ref)=true:=by simp[hin]
   rw[e1]at hlk;have HPB:=ab (show gI k gs bs x=bs by unfold gI; rw[<-HRE.out,if_pos hin]);clear hb6 hin e1;refine am [some 7] (by kernel_rfl) (by kernel_rfl) (by kernel_rfl) ?_;simp only[aZ,List.take_succ_cons,List.take_zero];rw[<-hW6];clear hW6
   repeat (first | (refine aw rfl ?_; simp only[Act.put,aA,aB,aC]) | (refine aJ rfl (fun K hK=> ?_); go_simp; refine hK _ ?_; clear hK K))
   refine aI ?_;have z0:=aa (k:=0) HR6.out;have z1:=aa (k:=1) HR6.out;have z2:=aa (k:=2) HR6.out;have y0:=ai (k:=0) HR6.out;have y1:=ai (k:=1) HR6.out;have y2:=ai (k:=2) HR6.out;simp only[aN]at z0 z1 z2;go_wp2_with fail;refine nR HR6.out rfl rfl rfl ?_;refine⟨by rw[<-HRE.out]; rfl,v, ?_, ?_⟩
   ·rw[HPB.out];exact HBD6.out.other HR6.out (by decide) (by decide) (by decide) (fun i hi _=>bO hi)
   ·exact((((cZ.ofBelow HB6.out hbz).setNew (Nat.le_refl _) hbz).setNew (Nat.le_refl _) hbz).setNew (Nat.le_refl _) hbz)
  ·have e1:decide (r∈bs.map bM.ref)=false:=by simp[hin]
   rw[e1]at hlk;have HPB:=ab (show gI k gs bs x=bs++[⟨r,x⟩] by unfold gI; rw[<-HRE.out,if_neg hin]);have HNI:=ab hin;clear hb6 hin e1;refine am [some 7] (by kernel_rfl) (by kernel_rfl) (by kernel_rfl) ?_;simp only[aZ,List.take_succ_cons,List.take_zero];rw[<-hW6];clear hW6
   repeat (first | (refine aw rfl ?_; simp only[Act.put,aA,aB,aC]) | (refine aJ rfl (fun K hK=> ?_); go_simp; refine hK _ ?_; clear hK K))
   refine aI ?_;go_wp2_with fail;refine am [some 5,none] (by kernel_rfl) (by kernel_rfl) (by kernel_rfl) ?_;simp only[aZ,List.take_succ_cons,List.take_zero,List.drop_succ_cons,List.drop_zero]
   repeat (first | (refine aw rfl ?_; simp only[Act.put,aA,aB,aC]) | (refine aJ rfl (fun K hK=> ?_); go_simp; refine hK _ ?_; clear hK K))
   refine aI ?_;refine bw rfl (fun K hK=> ?_);have HKd:=ab (HBD6.out.known.same (w':=W6.drew) rfl);go_wp2_with (at_mapUpdate; go_must (refine cL rfl _ _ _ rfl kb (bs.map bM.ref) HKd.out rfl r HRO.out rfl rfl HNI.out ?_); intro w7 hset hg7);obtain⟨W8,hW8⟩: ∃W8:World,W8=w7.drew:=⟨_,rfl⟩;have hg8:W6.grownBy W8 (some kb):=by rw[hW8]; exact ak (b:=W6.drew) ⟨rfl,rfl,rfl,Nat.le_refl _,fun _ _ _=>rfl⟩ (ak hg7 ⟨rfl,rfl,rfl,Nat.le_refl _,fun _ _ _=>rfl⟩)
   have HSET:=ab (show cb W8 kb ((bs++[(⟨r,x⟩:bM)]).map bM.ref) by rw[hW8,List.map_append]; exact hset.same rfl);have hkw:kb<w.heap.size:=HH.out.known.map.lt;have hnkb:bb≠kb:=fun e=>HBD6.out.known.cells (e▸HBX6.out)
   have hbx8:=dE hg8 HBX6.out hnkb;have HBX8:=ab hbx8;have hf8:=dE hg8 HF6.out (by omega);have hr8:=dE hg8 HR6.out (by omega);have HF8:=ab hf8;have HR8:=ab hr8;obtain⟨zs,hzs,hbo⟩:=HBD6.out.own;have HZS:=ab hzs;have HBO8:=ab (show ed W8 base v zs from⟨hbo.row.kept hg8 (.inr (fun e=>by obtain⟨cs2,hc2⟩:=az hbo.row e; exact HBD6.out.known.cells hc2)),fun z hz=>(hbo.dat z hz).kept hg8 (.inr (fun e=>by obtain⟨cs2,hc2⟩:=az (hbo.dat z hz) e; exact HBD6.out.known.cells hc2))⟩)
   obtain⟨av,cv8,hv8,-,-⟩:=aj hbo.row;subst hv8;have HKP8:=ab ((cZ.ofBelow HB6.out hbz).trans (cZ.ofGrown (bb:=bb) (v:= .slice av zs.length cv8) hg8 (Nat.le_trans hbz HB6.out.size) hkb));have HZ8:=ab (Nat.le_trans HB6.out.size hg8.size);have HX8:=ab (show aS (fun _=>True) W8 1 (.slice a xl cap) xl (x.map au)from by
    have h1:=HX.out;rw[<-HXL.out]at h1;have h2:aD S W6 (.slice a xl cap) x:=aS.below h1 (by omega) HB6.out;have h3:=aS.same (w':=W8) (mX h2 HBD6.out.known) (fun i hi=>hg8.block i hi.2 (fun e=>hi.1 (Option.some.inj e)));have h4:=aS.weak (T:=fun _=>True) h3 (fun _ _=>trivial);rw[<-HXL.out]at h4;exact h4)
   clear hset hg7 hg8 hbx8 hf8 hr8 hzs hbo f0 f1 f2 k0 k1 k2 k3 k4 k10 k12 k13 hlk;have f0:=aa (k:=0) HF8.out;have f1:=aa (k:=1) HF8.out;have f2:=aa (k:=2) HF8.out;simp only[aN]at f0 f1 f2;have k0:=aa (k:=0) HBX8.out;have k1:=aa (k:=1) HBX8.out;have k2:=aa (k:=2) HBX8.out;have k3:=aa (k:=3) HBX8.out;have k4:=aa (k:=4) HBX8.out;have k10:=aa (k:=10) HBX8.out
   have k12:=aa (k:=12) HBX8.out;have k13:=aa (k:=13) HBX8.out;simp only[fZ,dh,dA,List.cons_append,List.nil_append,aN]at k0 k1 k2 k3 k4 k10 k12 k13;refine bP (fun w'=>w'.cell? ⟨bb,12,none⟩=some (.slice av zs.length cv8)/\w'.cell? ⟨w.heap.size+1,0,none⟩=some (.string r.name)/\w'.cell? ⟨w.heap.size+1,1,none⟩=some (.int .i64 r.gen)/\w'.cell? ⟨w.heap.size+1,2,none⟩=some (.int .i64 r.size)) (by kernel_rfl) (by kernel_rfl) ?_
   simp only[List.dropLast_cons_cons,List.dropLast_singleton,List.length_cons,List.length_nil,Nat.reduceAdd,Nat.reduceSub];rw[<-hW8];clear hW8;refine af 0 rfl (by kernel_rfl) (by kernel_rfl) (by kernel_rfl) (fun _ _ _ h=>h) rfl ⟨k12,f0,f1,f2⟩ (by rintro w' ⟨hw1,hw2,hw3,hw4⟩; go_simp; rfl) ?_;simp only[Act.put,aA,aB,aC];refine af 1 rfl (by kernel_rfl) (by kernel_rfl) (by kernel_rfl) (fun _ _ _ h=>h) rfl ⟨k12,f0,f1,f2⟩ (by rintro w' ⟨hw1,hw2,hw3,hw4⟩; go_simp; rfl) ?_
   simp only[Act.put,aA,aB,aC];refine af 2 rfl (by kernel_rfl) (by kernel_rfl) (by kernel_rfl) (fun _ _ _ h=>h) rfl ⟨k12,f0,f1,f2⟩ (by rintro w' ⟨hw1,hw2,hw3,hw4⟩; go_simp; rfl) ?_;simp only[Act.put,aA,aB,aC];refine af 3 rfl (by kernel_rfl) (by kernel_rfl) (by kernel_rfl) (fun _ _ _ h=>h) rfl ⟨k12,f0,f1,f2⟩ (by rintro w' ⟨hw1,hw2,hw3,hw4⟩; go_simp; rfl) ?_
   simp only[Act.put,aA,aB,aC];refine af 4 rfl (by kernel_rfl) (by kernel_rfl) (by kernel_rfl) (fun _ _ _ h=>h) rfl ⟨k12,f0,f1,f2⟩ (by rintro w' ⟨hw1,hw2,hw3,hw4⟩; go_simp; rfl) ?_;simp only[Act.put,aA,aB,aC];refine af 5 rfl (by kernel_rfl) (by kernel_rfl) (by kernel_rfl) (fun _ _ _ h=>h) rfl ⟨k12,f0,f1,f2⟩ (by rintro w' ⟨hw1,hw2,hw3,hw4⟩; go_simp; rfl) ?_
   simp only[Act.put,aA,aB,aC];refine af 6 rfl (by kernel_rfl) (by kernel_rfl) (by kernel_rfl) (fun _ _ _ h=>h) rfl ⟨k12,f0,f1,f2⟩ (by rintro w' ⟨hw1,hw2,hw3,hw4⟩; go_simp; rfl) ?_;simp only[Act.put,aA,aB,aC];refine ar 7 rfl (by kernel_rfl) rfl (fun K hK=> ?_);have hxs:0+xl<1099511627775:=by omega
   go_wp2_with (at_builtin; go_must (refine fa Tryz.appBytes rfl _ _ rfl W8.heap.size (.slice none 0 0) 0 [] rfl (World.ownsRow_nil _ _ _ _) (.slice a xl cap) xl (x.map au) rfl HX8.out (eq x) hxs (Nat.le_refl _) ?_); intro v9 w9 hown9 hgrow9; rw[Nat.zero_add,List.nil_append]at hown9; obtain⟨a9,c9,rfl,-,-⟩:=aj hown9);have hb9:Below W8.heap.size W8 w9:=eI hgrow9
   have HB9:=ab hb9;have HO9:=ab (show w9.ownsRow base 5 1 (.slice a9 xl c9) x.length (x.map au) by rw[<-HXL.out]; exact cN hown9 (Nat.le_trans hbz HZ8.out));have HBX9:=ab ((hb9.block _ (lt_of_block HBX8.out)).trans HBX8.out);have HF9:=ab ((hb9.block _ (lt_of_block HF8.out)).trans HF8.out);clear hown9 hgrow9 hb9 hxs k0 k1 k2 k3 k4 k10 k12 k13 f0 f1 f2;have f0:=aa (k:=0) HF9.out
   have f1:=aa (k:=1) HF9.out;have f2:=aa (k:=2) HF9.out;simp only[aN]at f0 f1 f2;have k0:=aa (k:=0) HBX9.out;have k1:=aa (k:=1) HBX9.out;have k2:=aa (k:=2) HBX9.out;have k3:=aa (k:=3) HBX9.out;have k4:=aa (k:=4) HBX9.out;have k10:=aa (k:=10) HBX9.out;have k12:=aa (k:=12) HBX9.out;have k13:=aa (k:=13) HBX9.out;simp only[fZ,dh,dA,List.cons_append,List.nil_append,aN]at k0 k1 k2 k3 k4 k10 k12 k13
   refine⟨⟨k12,f0,f1,f2⟩, ?_⟩;refine af 8 rfl (by kernel_rfl) (by kernel_rfl) (by kernel_rfl) (fun _ _ _ h=>h) rfl ⟨k12,f0,f1,f2⟩ (by rintro w' ⟨hw1,hw2,hw3,hw4⟩; go_simp; rfl) ?_;simp only[Act.put,aA,aB,aC];have hltb:bb<w9.heap.size:=lt_of_block HBX9.out;have hltf:w.heap.size+1<w9.heap.size:=lt_of_block HF9.out;have HAL:=ab ((Below.refl w9.heap.size w9).alloc (Nat.le_refl _) (.cells #[.string r.name, .int .i64 r.gen, .int .i64 r.size, .slice a9 xl c9] 53))
   have HS2:=ab (And.intro ((HAL.out.cell (p:=⟨bb,12,none⟩) hltb).trans k12) (And.intro ((HAL.out.cell (p:=⟨w.heap.size+1,0,none⟩) hltf).trans f0) (And.intro ((HAL.out.cell (p:=⟨w.heap.size+1,1,none⟩) hltf).trans f1) ((HAL.out.cell (p:=⟨w.heap.size+1,2,none⟩) hltf).trans f2))));refine ar 9 rfl (by kernel_rfl) rfl (fun K hK=> ?_);go_wp2_with fail
   (first | (refine⟨HS2.out, ?_⟩) | skip)
   refine ar 10 rfl (by kernel_rfl) rfl (fun K hK=> ?_);have hzl:zs.length<1000000000000:=by have h1:=hn; rw[<-HZS.out,List.length_map]at h1; exact h1
   have HR9:=ab (HBO8.out.below HB9.out);go_wp2_with (at_builtin; go_must (refine aK Tryz.appBlobs rfl _ _ rfl base (.slice av zs.length cv8) zs.length (eF zs) rfl w9 [.string r.name, .int .i64 r.gen, .int .i64 r.size, .slice a9 xl c9] _ rfl rfl (qX (b:=⟨r,x⟩)) HR9.out.row (by omega) (by have:=HZ8.out; have:=HB9.out.size; omega) ?_); intro v' wc hown' hgrow' _ hpl; obtain⟨ae,ce,rfl,-,-⟩:=aj hown')
   have hne: ∀i cs t z,w9.heap[i]? =some (.cells cs t z)->t≠53->(Value.slice av zs.length cv8).ownBlock≠some i:=fun i cs t z hi ht e=>by
    obtain⟨cs2,hc2⟩:=az HR9.out.row e;exact ht (aO hi hc2)
   have hr9:=(HB9.out.block _ (lt_of_block HR8.out)).trans HR8.out;have hbxc:=(hgrow'.block bb hltb (fun e=>hne _ _ _ _ HBX9.out (by decide) e.symm)).trans HBX9.out;have hfc:=(hgrow'.block (w.heap.size+1) hltf (fun e=>hne _ _ _ _ HF9.out (by decide) e.symm)).trans HF9.out;have hrc:=(hgrow'.block w.heap.size (lt_of_block hr9) (fun e=>hne _ _ _ _ hr9 (by decide) e.symm)).trans hr9;have HBXC:=ab hbxc
   have HFC:=ab hfc;have hpush:=ep.push (b:=⟨r,x⟩) HZS.out HBO8.out HBX8.out HSET.out HB9.out HO9.out hown' hgrow' hpl hbb (Nat.le_trans hbz HZ8.out);have HPU:=ab hpush;have hbbw:=hlt;have HF12:=ab ((Below.heap_setCell wc ⟨bb,12,none⟩ (.slice ae (zs.length+1) ce) (w.heap.size+1) (by show w.heap.size+1≠bb; omega)).trans hfc);have HR12:=ab ((Below.heap_setCell wc ⟨bb,12,none⟩ (.slice ae (zs.length+1) ce) w.heap.size (by show w.heap.size≠bb; omega)).trans hrc)
   clear hown' hgrow' hpl hpush hne hr9 hbxc hfc hrc k0 k1 k2 k3 k4 k10 k12 k13 f0 f1 f2;have f0:=aa (k:=0) HFC.out;have f1:=aa (k:=1) HFC.out;have f2:=aa (k:=2) HFC.out;simp only[aN]at f0 f1 f2;have k0:=aa (k:=0) HBXC.out;have k1:=aa (k:=1) HBXC.out;have k2:=aa (k:=2) HBXC.out;have k3:=aa (k:=3) HBXC.out;have k4:=aa (k:=4) HBXC.out
   have k10:=aa (k:=10) HBXC.out;have k12:=aa (k:=12) HBXC.out;have k13:=aa (k:=13) HBXC.out;simp only[fZ,dh,dA,List.cons_append,List.nil_append,aN]at k0 k1 k2 k3 k4 k10 k12 k13;have kz12:=ai (k:=12) HBXC.out;refine⟨⟨k12,f0,f1,f2⟩, ?_⟩;refine af 11 rfl (by kernel_rfl) (by kernel_rfl) (by kernel_rfl) (fun _ _ _ h=>h) rfl ⟨k12,f0,f1,f2⟩ (by rintro w' ⟨hw1,hw2,hw3,hw4⟩; go_simp; rfl) ?_
   simp only[Act.put,aA,aB,aC];refine af 12 rfl (by kernel_rfl) (by kernel_rfl) (by kernel_rfl) (fun _ _ _ h=>h) rfl ⟨k12,f0,f1,f2⟩ (by rintro w' ⟨hw1,hw2,hw3,hw4⟩; go_simp; rfl) ?_;simp only[Act.put,aA,aB,aC];refine aV (by kernel_rfl) ?_;refine bX rfl rfl (fun K hK=> ?_)
   go_upto_region 13 with(fail)
   obtain⟨W12,hW12⟩: ∃W12:World,W12=wc.setCell ⟨bb,12,none⟩ (.slice ae (zs.length+1) ce):=⟨_,rfl⟩;rw[<-hW12]at HPU HF12 HR12 ⊢;clear hW12 k0 k1 k2 k3 k4 k10 k12 k13 f0 f1 f2 kz12;have f0:=aa (k:=0) HF12.out;have f1:=aa (k:=1) HF12.out;have f2:=aa (k:=2) HF12.out;simp only[aN]at f0 f1 f2;have z0:=aa (k:=0) HR12.out;have z1:=aa (k:=1) HR12.out
   have z2:=aa (k:=2) HR12.out;have y0:=ai (k:=0) HR12.out;have y1:=ai (k:=1) HR12.out;have y2:=ai (k:=2) HR12.out;simp only[aN]at z0 z1 z2;go_wp2_with fail;refine nR HR12.out rfl rfl rfl ?_;refine⟨by rw[<-HRE.out]; rfl, .slice ae (zs.length+1) ce,And.symm ⟨?_, ?_⟩⟩
   ·exact(((HKP8.out.trans HPU.out.2).setNew (Nat.le_refl _) hbz).setNew (Nat.le_refl _) hbz).setNew (Nat.le_refl _) hbz
   ·rw[HPB.out];exact HPU.out.1.other HR12.out (by decide) (by decide) (by decide) (fun i hi _=>bO hi)
 ·have f1:=aa (k:=1) HF2.out;have fz1:=ai (k:=1) HF2.out;simp only[aN]at f1
  go_upto_region 7 with(fail)
  obtain⟨W3,hW3⟩: ∃W3:World,W3=W2.setCell ⟨w.heap.size+1,1,none⟩ (.int .i64 g):=⟨_,rfl⟩;rw[<-hW3];have hb3:Below w.heap.size w W3:=by rw[hW3]; exact Below.setCell HB2.out (show w.heap.size<=w.heap.size+1 by omega) _
  have HB3:=ab hb3;have hf3:=cI (k:=1) HF2.out (.int .i64 g);simp only[List.setIfInBounds_toArray,List.set_cons_succ,List.set_cons_zero]at hf3;have HF3:=ab (show W3.heap[w.heap.size+1]? =some (.cells #[.string n0, .int .i64 g, .int .i64 (xl:Int)] 26 (0,0)) by rw[hW3]; exact hf3);have HR3:=ab (show W3.heap[w.heap.size]? =some (.cells #[.string ⟨#[]⟩, .int .i64 0, .int .i64 0] 26 (0,0)) by rw[hW3]; exact(Below.heap_setCell _ _ _ _ (by show w.heap.size≠w.heap.size+1; omega)).trans HR2.out)
  have HBD3:=ab (HH.out.below hb3);have HBX3:=ab HBD3.out.box;have hX3:aD S W3 (.slice a xl cap) x:=by have h1:=HX.out; rw[<-HXL.out]at h1; exact aS.below h1 (by omega) hb3
  have hnm:=me S k g.toNat x (.slice a xl cap) W3 HK.out (by omega) hX3 (by rw[<-HXL.out]; exact hl) (HEW.out.below hb3).envh;rw[Int.toNat_of_nonneg hgb.1,<-HRN.out]at hnm;unfold iU at hnm;have HNM3:=ab hnm;have k0:=aa (k:=0) HBX3.out;have k1:=aa (k:=1) HBX3.out;have k2:=aa (k:=2) HBX3.out;have k3:=aa (k:=3) HBX3.out;have k4:=aa (k:=4) HBX3.out
  have k10:=aa (k:=10) HBX3.out;have k12:=aa (k:=12) HBX3.out;have k13:=aa (k:=13) HBX3.out;simp only[fZ,dh,dA,List.cons_append,List.nil_append,aN]at k0 k1 k2 k3 k4 k10 k12 k13;clear hW3 hb3 hf3 hnm f0 f1 fz1;go_wp2_with fail;refine HNM3.out.mono ?_;rintro e w4 ⟨rfl,hb4⟩;have hf4:=(hb4.block _ (lt_of_block HF3.out)).trans HF3.out;have hr4:=(hb4.block _ (lt_of_block HR3.out)).trans HR3.out
  have f0:=aa (k:=0) hf4;have fz0:=ai (k:=0) hf4;simp only[List.getElem?_toArray,List.getElem?_cons_zero]at f0;clear k0 k1 k2 k3 k4 k10 k12 k13;go_wp2_with fail;obtain⟨W5,hW5⟩: ∃W5:World,W5=w4.setCell ⟨w.heap.size+1,0,none⟩ (.string r.name):=⟨_,rfl⟩;rw[<-hW5];have HB5:=ab (show Below w.heap.size w W5 by rw[hW5]; exact Below.setCell (ag HB3.out hb4) (show w.heap.size<=w.heap.size+1 by omega) _)
  have hf5:=cI (k:=0) hf4 (.string r.name);simp only[List.setIfInBounds_toArray,List.set_cons_zero]at hf5;have HF5:=ab (show W5.heap[w.heap.size+1]? =some (.cells #[.string r.name, .int .i64 r.gen, .int .i64 r.size] 26 (0,0)) by rw[hW5,HRG.out,HRS.out]; exact hf5);have HR5:=ab (show W5.heap[w.heap.size]? =some (.cells #[.string ⟨#[]⟩, .int .i64 0, .int .i64 0] 26 (0,0)) by rw[hW5]; exact(Below.heap_setCell _ _ _ _ (by show w.heap.size≠w.heap.size+1; omega)).trans hr4)
  clear hW5 hf4 hr4 f0 fz0 hb4 hf5;obtain⟨W6,hW6⟩: ∃W6:World,W6=(W5).drew:=⟨_,rfl⟩;have hb6:Below (W5).heap.size (W5) W6:=by rw[hW6]; exact(Below.refl _ _).drew
  have HB6:=ab (ag HB5.out hb6);have HF6:=ab ((hb6.block _ (lt_of_block HF5.out)).trans HF5.out);have HR6:=ab ((hb6.block _ (lt_of_block HR5.out)).trans HR5.out);have HBD6:=ab (HH.out.below HB6.out);have HBX6:=ab HBD6.out.box;have k0:=aa (k:=0) HBX6.out;have k1:=aa (k:=1) HBX6.out;have k2:=aa (k:=2) HBX6.out;have k3:=aa (k:=3) HBX6.out;have k4:=aa (k:=4) HBX6.out
  have k10:=aa (k:=10) HBX6.out;have k12:=aa (k:=12) HBX6.out;have k13:=aa (k:=13) HBX6.out;simp only[fZ,dh,dA,List.cons_append,List.nil_append,aN]at k0 k1 k2 k3 k4 k10 k12 k13;have f0:=aa (k:=0) HF6.out;have f1:=aa (k:=1) HF6.out;have f2:=aa (k:=2) HF6.out;simp only[aN]at f0 f1 f2;have hlk:=HBD6.out.known.look HRO.out;unfold aX at hlk
  by_cases hin:r∈bs.map bM.ref
  ·have e1:decide (r∈bs.map bM.ref)=true:=by simp[hin]
   rw[e1]at hlk;have HPB:=ab (show gI k gs bs x=bs by unfold gI; rw[<-HRE.out,if_pos hin]);clear hb6 hin e1;refine am [some 7] (by kernel_rfl) (by kernel_rfl) (by kernel_rfl) ?_;simp only[aZ,List.take_succ_cons,List.take_zero];rw[<-hW6];clear hW6
   repeat (first | (refine aw rfl ?_; simp only[Act.put,aA,aB,aC]) | (refine aJ rfl (fun K hK=> ?_); go_simp; refine hK _ ?_; clear hK K))
   refine aI ?_;have z0:=aa (k:=0) HR6.out;have z1:=aa (k:=1) HR6.out;have z2:=aa (k:=2) HR6.out;have y0:=ai (k:=0) HR6.out;have y1:=ai (k:=1) HR6.out;have y2:=ai (k:=2) HR6.out;simp only[aN]at z0 z1 z2;go_wp2_with fail;refine nR HR6.out rfl rfl rfl ?_;refine⟨by rw[<-HRE.out]; rfl,v, ?_, ?_⟩
   ·rw[HPB.out];exact HBD6.out.other HR6.out (by decide) (by decide) (by decide) (fun i hi _=>bO hi)
   ·exact((((cZ.ofBelow HB6.out hbz).setNew (Nat.le_refl _) hbz).setNew (Nat.le_refl _) hbz).setNew (Nat.le_refl _) hbz)
  ·have e1:decide (r∈bs.map bM.ref)=false:=by simp[hin]
   rw[e1]at hlk;have HPB:=ab (show gI k gs bs x=bs++[⟨r,x⟩] by unfold gI; rw[<-HRE.out,if_neg hin]);have HNI:=ab hin;clear hb6 hin e1;refine am [some 7] (by kernel_rfl) (by kernel_rfl) (by kernel_rfl) ?_;simp only[aZ,List.take_succ_cons,List.take_zero];rw[<-hW6];clear hW6
   repeat (first | (refine aw rfl ?_; simp only[Act.put,aA,aB,aC]) | (refine aJ rfl (fun K hK=> ?_); go_simp; refine hK _ ?_; clear hK K))
   refine aI ?_;go_wp2_with fail;refine am [some 5,none] (by kernel_rfl) (by kernel_rfl) (by kernel_rfl) ?_;simp only[aZ,List.take_succ_cons,List.take_zero,List.drop_succ_cons,List.drop_zero]
   repeat (first | (refine aw rfl ?_; simp only[Act.put,aA,aB,aC]) | (refine aJ rfl (fun K hK=> ?_); go_simp; refine hK _ ?_; clear hK K))
   refine aI ?_;refine bw rfl (fun K hK=> ?_);have HKd:=ab (HBD6.out.known.same (w':=W6.drew) rfl);go_wp2_with (at_mapUpdate; go_must (refine cL rfl _ _ _ rfl kb (bs.map bM.ref) HKd.out rfl r HRO.out rfl rfl HNI.out ?_); intro w7 hset hg7);obtain⟨W8,hW8⟩: ∃W8:World,W8=w7.drew:=⟨_,rfl⟩;have hg8:W6.grownBy W8 (some kb):=by rw[hW8]; exact ak (b:=W6.drew) ⟨rfl,rfl,rfl,Nat.le_refl _,fun _ _ _=>rfl⟩ (ak hg7 ⟨rfl,rfl,rfl,Nat.le_refl _,fun _ _ _=>rfl⟩)
   have HSET:=ab (show cb W8 kb ((bs++[(⟨r,x⟩:bM)]).map bM.ref) by rw[hW8,List.map_append]; exact hset.same rfl);have hkw:kb<w.heap.size:=HH.out.known.map.lt;have hnkb:bb≠kb:=fun e=>HBD6.out.known.cells (e▸HBX6.out)
   have hbx8:=dE hg8 HBX6.out hnkb;have HBX8:=ab hbx8;have hf8:=dE hg8 HF6.out (by omega);have hr8:=dE hg8 HR6.out (by omega);have HF8:=ab hf8;have HR8:=ab hr8;obtain⟨zs,hzs,hbo⟩:=HBD6.out.own;have HZS:=ab hzs;have HBO8:=ab (show ed W8 base v zs from⟨hbo.row.kept hg8 (.inr (fun e=>by obtain⟨cs2,hc2⟩:=az hbo.row e; exact HBD6.out.known.cells hc2)),fun z hz=>(hbo.dat z hz).kept hg8 (.inr (fun e=>by obtain⟨cs2,hc2⟩:=az (hbo.dat z hz) e; exact HBD6.out.known.cells hc2))⟩)
   obtain⟨av,cv8,hv8,-,-⟩:=aj hbo.row;subst hv8;have HKP8:=ab ((cZ.ofBelow HB6.out hbz).trans (cZ.ofGrown (bb:=bb) (v:= .slice av zs.length cv8) hg8 (Nat.le_trans hbz HB6.out.size) hkb));have HZ8:=ab (Nat.le_trans HB6.out.size hg8.size);have HX8:=ab (show aS (fun _=>True) W8 1 (.slice a xl cap) xl (x.map au)from by
    have h1:=HX.out;rw[<-HXL.out]at h1;have h2:aD S W6 (.slice a xl cap) x:=aS.below h1 (by omega) HB6.out;have h3:=aS.same (w':=W8) (mX h2 HBD6.out.known) (fun i hi=>hg8.block i hi.2 (fun e=>hi.1 (Option.some.inj e)));have h4:=aS.weak (T:=fun _=>True) h3 (fun _ _=>trivial);rw[<-HXL.out]at h4;exact h4)
   clear hset hg7 hg8 hbx8 hf8 hr8 hzs hbo f0 f1 f2 k0 k1 k2 k3 k4 k10 k12 k13 hlk;have f0:=aa (k:=0) HF8.out;have f1:=aa (k:=1) HF8.out;have f2:=aa (k:=2) HF8.out;simp only[aN]at f0 f1 f2;have k0:=aa (k:=0) HBX8.out;have k1:=aa (k:=1) HBX8.out;have k2:=aa (k:=2) HBX8.out;have k3:=aa (k:=3) HBX8.out;have k4:=aa (k:=4) HBX8.out;have k10:=aa (k:=10) HBX8.out
   have k12:=aa (k:=12) HBX8.out;have k13:=aa (k:=13) HBX8.out;simp only[fZ,dh,dA,List.cons_append,List.nil_append,aN]at k0 k1 k2 k3 k4 k10 k12 k13;refine bP (fun w'=>w'.cell? ⟨bb,12,none⟩=some (.slice av zs.length cv8)/\w'.cell? ⟨w.heap.size+1,0,none⟩=some (.string r.name)/\w'.cell? ⟨w.heap.size+1,1,none⟩=some (.int .i64 r.gen)/\w'.cell? ⟨w.heap.size+1,2,none⟩=some (.int .i64 r.size)) (by kernel_rfl) (by kernel_rfl) ?_
   simp only[List.dropLast_cons_cons,List.dropLast_singleton,List.length_cons,List.length_nil,Nat.reduceAdd,Nat.reduceSub];rw[<-hW8];clear hW8;refine af 0 rfl (by kernel_rfl) (by kernel_rfl) (by kernel_rfl) (fun _ _ _ h=>h) rfl ⟨k12,f0,f1,f2⟩ (by rintro w' ⟨hw1,hw2,hw3,hw4⟩; go_simp; rfl) ?_;simp only[Act.put,aA,aB,aC];refine af 1 rfl (by kernel_rfl) (by kernel_rfl) (by kernel_rfl) (fun _ _ _ h=>h) rfl ⟨k12,f0,f1,f2⟩ (by rintro w' ⟨hw1,hw2,hw3,hw4⟩; go_simp; rfl) ?_
   simp only[Act.put,aA,aB,aC];refine af 2 rfl (by kernel_rfl) (by kernel_rfl) (by kernel_rfl) (fun _ _ _ h=>h) rfl ⟨k12,f0,f1,f2⟩ (by rintro w' ⟨hw1,hw2,hw3,hw4⟩; go_simp; rfl) ?_;simp only[Act.put,aA,aB,aC];refine af 3 rfl (by kernel_rfl) (by kernel_rfl) (by kernel_rfl) (fun _ _ _ h=>h) rfl ⟨k12,f0,f1,f2⟩ (by rintro w' ⟨hw1,hw2,hw3,hw4⟩; go_simp; rfl) ?_
   simp only[Act.put,aA,aB,aC];refine af 4 rfl (by kernel_rfl) (by kernel_rfl) (by kernel_rfl) (fun _ _ _ h=>h) rfl ⟨k12,f0,f1,f2⟩ (by rintro w' ⟨hw1,hw2,hw3,hw4⟩; go_simp; rfl) ?_;simp only[Act.put,aA,aB,aC];refine af 5 rfl (by kernel_rfl) (by kernel_rfl) (by kernel_rfl) (fun _ _ _ h=>h) rfl ⟨k12,f0,f1,f2⟩ (by rintro w' ⟨hw1,hw2,hw3,hw4⟩; go_simp; rfl) ?_
   simp only[Act.put,aA,aB,aC];refine af 6 rfl (by kernel_rfl) (by kernel_rfl) (by kernel_rfl) (fun _ _ _ h=>h) rfl ⟨k12,f0,f1,f2⟩ (by rintro w' ⟨hw1,hw2,hw3,hw4⟩; go_simp; rfl) ?_;simp only[Act.put,aA,aB,aC];refine ar 7 rfl (by kernel_rfl) rfl (fun K hK=> ?_);have hxs:0+xl<1099511627775:=by omega
   go_wp2_with (at_builtin; go_must (refine fa Tryz.appBytes rfl _ _ rfl W8.heap.size (.slice none 0 0) 0 [] rfl (World.ownsRow_nil _ _ _ _) (.slice a xl cap) xl (x.map au) rfl HX8.out (eq x) hxs (Nat.le_refl _) ?_); intro v9 w9 hown9 hgrow9; rw[Nat.zero_add,List.nil_append]at hown9; obtain⟨a9,c9,rfl,-,-⟩:=aj hown9);have hb9:Below W8.heap.size W8 w9:=eI hgrow9
   have HB9:=ab hb9;have HO9:=ab (show w9.ownsRow base 5 1 (.slice a9 xl c9) x.length (x.map au) by rw[<-HXL.out]; exact cN hown9 (Nat.le_trans hbz HZ8.out));have HBX9:=ab ((hb9.block _ (lt_of_block HBX8.out)).trans HBX8.out);have HF9:=ab ((hb9.block _ (lt_of_block HF8.out)).trans HF8.out);clear hown9 hgrow9 hb9 hxs k0 k1 k2 k3 k4 k10 k12 k13 f0 f1 f2;have f0:=aa (k:=0) HF9.out
   have f1:=aa (k:=1) HF9.out;have f2:=aa (k:=2) HF9.out;simp only[aN]at f0 f1 f2;have k0:=aa (k:=0) HBX9.out;have k1:=aa (k:=1) HBX9.out;have k2:=aa (k:=2) HBX9.out;have k3:=aa (k:=3) HBX9.out;have k4:=aa (k:=4) HBX9.out;have k10:=aa (k:=10) HBX9.out;have k12:=aa (k:=12) HBX9.out;have k13:=aa (k:=13) HBX9.out;simp only[fZ,dh,dA,List.cons_append,List.nil_append,aN]at k0 k1 k2 k3 k4 k10 k12 k13
   refine⟨⟨k12,f0,f1,f2⟩, ?_⟩;refine af 8 rfl (by kernel_rfl) (by kernel_rfl) (by kernel_rfl) (fun _ _ _ h=>h) rfl ⟨k12,f0,f1,f2⟩ (by rintro w' ⟨hw1,hw2,hw3,hw4⟩; go_simp; rfl) ?_;simp only[Act.put,aA,aB,aC];have hltb:bb<w9.heap.size:=lt_of_block HBX9.out;have hltf:w.heap.size+1<w9.heap.size:=lt_of_block HF9.out;have HAL:=ab ((Below.refl w9.heap.size w9).alloc (Nat.le_refl _) (.cells #[.string r.name, .int .i64 r.gen, .int .i64 r.size, .slice a9 xl c9] 53))
   have HS2:=ab (And.intro ((HAL.out.cell (p:=⟨bb,12,none⟩) hltb).trans k12) (And.intro ((HAL.out.cell (p:=⟨w.heap.size+1,0,none⟩) hltf).trans f0) (And.intro ((HAL.out.cell (p:=⟨w.heap.size+1,1,none⟩) hltf).trans f1) ((HAL.out.cell (p:=⟨w.heap.size+1,2,none⟩) hltf).trans f2))));refine ar 9 rfl (by kernel_rfl) rfl (fun K hK=> ?_);go_wp2_with fail
   (first | (refine⟨HS2.out, ?_⟩) | skip)
   refine ar 10 rfl (by kernel_rfl) rfl (fun K hK=> ?_);have hzl:zs.length<1000000000000:=by have h1:=hn; rw[<-HZS.out,List.length_map]at h1; exact h1
   have HR9:=ab (HBO8.out.below HB9.out);go_wp2_with (at_builtin; go_must (refine aK Tryz.appBlobs rfl _ _ rfl base (.slice av zs.length cv8) zs.length (eF zs) rfl w9 [.string r.name, .int .i64 r.gen, .int .i64 r.size, .slice a9 xl c9] _ rfl rfl (qX (b:=⟨r,x⟩)) HR9.out.row (by omega) (by have:=HZ8.out; have:=HB9.out.size; omega) ?_); intro v' wc hown' hgrow' _ hpl; obtain⟨ae,ce,rfl,-,-⟩:=aj hown')
   have hne: ∀i cs t z,w9.heap[i]? =some (.cells cs t z)->t≠53->(Value.slice av zs.length cv8).ownBlock≠some i:=fun i cs t z hi ht e=>by
    obtain⟨cs2,hc2⟩:=az HR9.out.row e;exact ht (aO hi hc2)
   have hr9:=(HB9.out.block _ (lt_of_block HR8.out)).trans HR8.out;have hbxc:=(hgrow'.block bb hltb (fun e=>hne _ _ _ _ HBX9.out (by decide) e.symm)).trans HBX9.out;have hfc:=(hgrow'.block (w.heap.size+1) hltf (fun e=>hne _ _ _ _ HF9.out (by decide) e.symm)).trans HF9.out;have hrc:=(hgrow'.block w.heap.size (lt_of_block hr9) (fun e=>hne _ _ _ _ hr9 (by decide) e.symm)).trans hr9;have HBXC:=ab hbxc
   have HFC:=ab hfc;have hpush:=ep.push (b:=⟨r,x⟩) HZS.out HBO8.out HBX8.out HSET.out HB9.out HO9.out hown' hgrow' hpl hbb (Nat.le_trans hbz HZ8.out);have HPU:=ab hpush;have hbbw:=hlt;have HF12:=ab ((Below.heap_setCell wc ⟨bb,12,none⟩ (.slice ae (zs.length+1) ce) (w.heap.size+1) (by show w.heap.size+1≠bb; omega)).trans hfc);have HR12:=ab ((Below.heap_setCell wc ⟨bb,12,none⟩ (.slice ae (zs.length+1) ce) w.heap.size (by show w.heap.size≠bb; omega)).trans hrc)
   clear hown' hgrow' hpl hpush hne hr9 hbxc hfc hrc k0 k1 k2 k3 k4 k10 k12 k13 f0 f1 f2;have f0:=aa (k:=0) HFC.out;have f1:=aa (k:=1) HFC.out;have f2:=aa (k:=2) HFC.out;simp only[aN]at f0 f1 f2;have k0:=aa (k:=0) HBXC.out;have k1:=aa (k:=1) HBXC.out;have k2:=aa (k:=2) HBXC.out;have k3:=aa (k:=3) HBXC.out;have k4:=aa (k:=4) HBXC.out
   have k10:=aa (k:=10) HBXC.out;have k12:=aa (k:=12) HBXC.out;have k13:=aa (k:=13) HBXC.out;simp only[fZ,dh,dA,List.cons_append,List.nil_append,aN]at k0 k1 k2 k3 k4 k10 k12 k13;have kz12:=ai (k:=12) HBXC.out;refine⟨⟨k12,f0,f1,f2⟩, ?_⟩;refine af 11 rfl (by kernel_rfl) (by kernel_rfl) (by kernel_rfl) (fun _ _ _ h=>h) rfl ⟨k12,f0,f1,f2⟩ (by rintro w' ⟨hw1,hw2,hw3,hw4⟩; go_simp; rfl) ?_
   simp only[Act.put,aA,aB,aC];refine af 12 rfl (by kernel_rfl) (by kernel_rfl) (by kernel_rfl) (fun _ _ _ h=>h) rfl ⟨k12,f0,f1,f2⟩ (by rintro w' ⟨hw1,hw2,hw3,hw4⟩; go_simp; rfl) ?_;simp only[Act.put,aA,aB,aC];refine aV (by kernel_rfl) ?_;refine bX rfl rfl (fun K hK=> ?_)
   go_upto_region 13 with(fail)
   obtain⟨W12,hW12⟩: ∃W12:World,W12=wc.setCell ⟨bb,12,none⟩ (.slice ae (zs.length+1) ce):=⟨_,rfl⟩;rw[<-hW12]at HPU HF12 HR12 ⊢;clear hW12 k0 k1 k2 k3 k4 k10 k12 k13 f0 f1 f2 kz12;have f0:=aa (k:=0) HF12.out;have f1:=aa (k:=1) HF12.out;have f2:=aa (k:=2) HF12.out;simp only[aN]at f0 f1 f2;have z0:=aa (k:=0) HR12.out;have z1:=aa (k:=1) HR12.out
   have z2:=aa (k:=2) HR12.out;have y0:=ai (k:=0) HR12.out;have y1:=ai (k:=1) HR12.out;have y2:=ai (k:=2) HR12.out;simp only[aN]at z0 z1 z2;go_wp2_with fail;refine nR HR12.out rfl rfl rfl ?_;refine⟨by rw[<-HRE.out]; rfl, .slice ae (zs.length+1) ce,And.symm ⟨?_, ?_⟩⟩
   ·exact(((HKP8.out.trans HPU.out.2).setNew (Nat.le_refl _) hbz).setNew (Nat.le_refl _) hbz).setNew (Nat.le_refl _) hbz
   ·rw[HPB.out];exact HPU.out.1.other HR12.out (by decide) (by decide) (by decide) (fun i hi _=>bO hi)
theorem fB {w w':World} {B B' sz sz' n n':Nat} {t t':TypeId} {u r:Value} {xs xs':List Value} (h:w.ownsRow B t sz u n xs) (ho:w.ownsRow B' t' sz' r n' xs') (hg:w.grownBy w' r.ownBlock) (ht:t≠t'):w'.ownsRow B t sz u n xs:=
 dz h (fun k hk hu=>hg.block k hk (fun e=>by
  obtain⟨cs,hc⟩:=az h hu;obtain⟨cs2,hc2⟩:=az ho e.symm;exact ht (aO hc hc2)))
theorem cZ.row {w w':World} {base bb im kb B sz n:Nat} {k:bI} {c:dN} {gv v v' u:Value} {bs:List bM} {t:TypeId} {xs:List Value} (h:ep w base bb k c gv im kb v bs) (hk:cZ base bb kb v v' w w') (hr:w.ownsRow B t sz u n xs) (h1:t≠122) (h2:t≠53):w'.ownsRow B t sz u n xs:=
 dz hr (fun i hi hu=>by
  obtain⟨cs,hc⟩:=az hr hu;refine hk.same i hi (fun e=> ?_) (fun e=> ?_) (fun e=> ?_)
  ·subst e; exact h1 (aO hc h.box)
  ·subst e; exact h.known.cells hc
  ·obtain⟨zs,_,ho,_⟩:=h.own;obtain⟨cs2,hc2⟩:=az ho e;exact h2 (aO hc hc2))
theorem ep.otherRow {w w':World} {base bb im kb B sz n:Nat} {k:bI} {c:dN} {gv v r:Value} {bs:List bM} {t:TypeId} {xs:List Value} (h:ep w base bb k c gv im kb v bs) (hr:w.ownsRow B t sz r n xs) (hg:w.grownBy w' r.ownBlock) (h1:t≠122) (h2:t≠53) (h3:t≠5):ep w' base bb k c gv im kb v bs:=by
 obtain⟨zs,hz,ho,hd⟩:=h.own;refine⟨(hg.block bb (lt_of_block h.box) (fun e=> ?_)).trans h.box,⟨zs,hz,fB ho hr hg (fun e=>h2 e.symm),fun z hz=>fB (hd z hz) hr hg (fun e=>h3 e.symm)⟩,h.known.same (hg.block kb h.known.map.lt (fun e=> ?_))⟩
 ·obtain⟨cs,hc⟩:=az hr e.symm;exact h1 (aO hc h.box)
 ·obtain⟨cs,hc⟩:=az hr e.symm;exact h.known.cells hc
theorem cZ.otherRow {w0 w w':World} {base bb kb B sz n:Nat} {v v' r:Value} {t:TypeId} {xs:List Value} (h:cZ base bb kb v v' w0 w) (hr:w.ownsRow B t sz r n xs) (hg:w.grownBy w' r.ownBlock) (hB:w0.heap.size<=B) (hbz:base<=w0.heap.size):cZ base bb kb v v' w0 w':=
 ⟨h.below.grown hg (Nat.le_trans hbz h.below.size) (fun i hi=>Nat.le_trans (Nat.le_trans hbz hB) (hr.lt i hi).1),fun i h1 h2 h3 h4=>(hg.block i (Nat.lt_of_lt_of_le h1 h.below.size) (fun e=>by have:=(hr.lt i e.symm).1; omega)).trans (h.same i h1 h2 h3 h4),h.place⟩
theorem Ai (d p:ByteArray):Lib.trimPrefix (p.extract d.size p.size).data.toList [47]=no (bl d) (bl p):=by
 have e:(p.extract d.size p.size).data.toList=(bl p).drop (bl d).length:=by
  rw[Lib.extract_data,<-ay];exact List.take_of_length_le (by rw[List.length_drop,ay]; exact Nat.le_refl _)
 rw[e];unfold no Lib.trimPrefix Lib.hasPrefix
 cases hd:(bl p).drop (bl d).length with
 | nil=>simp
 | cons y ys=>
  by_cases hy:y=47
  ·subst hy; simp
  ·simp[hy];intro h; exact absurd h.symm hy
theorem vA (d p:ByteArray) (w:World) (h:d.size<=p.size):Calls Tryz.prog 121 #[.string d, .string p] w fun e w'=>e= .returned (.string ⟨(no (bl d) (bl p)).toArray⟩)/\w=w':=by
 go_enter Tryz.func121,Tryz.ntmps121
 go_wp2_with fail;refine(Tryz.strings_TrimPrefix _ _ w).mono ?_;rintro e w' ⟨rfl,rfl⟩;rw[Ai d p];obtain⟨q,hq⟩: ∃q,q=no (bl d) (bl p):=⟨_,rfl⟩;rw[<-hq];have HQ:=ab hq;clear hq;go_wp2_with fail;go_ret;obtain rfl:=HQ.out;exact⟨rfl,rfl⟩
structure BD (w : World) (base bb im kb B : Nat) (k : bI) (c : dN) (gv v pv : Value) (ys : List (Value × List UInt8)) (wr : World) (v2 rv : Value) (bs2 : List bM) (rs : List aG) : Prop where
 bd:ep wr base bb k c gv im kb v2 bs2
 kp:cZ base bb kb v v2 w wr
 row:wr.ownsRow w.heap.size 26 3 rv rs.length (rs.flatMap cG)
 pcs:wr.ownsRow B 29 1 pv ys.length (ys.map Prod.fst)/\ ∀y∈ys,wr.ownsRow B 5 1 y.1 y.2.length (y.2.map au)
section
variable {w wr w' : World} {base bb im kb B : Nat} {k : bI} {c : dN} {gv v pv v2 v3 rv : Value} {ys : List (Value × List UInt8)} {bs2 bs3 : List bM} {rs : List aG}
theorem BD.step (h:BD w base bb im kb B k c gv v pv ys wr v2 rv bs2 rs) (h1:ep w' base bb k c gv im kb v3 bs3) (h2:cZ base bb kb v2 v3 wr w'):BD w base bb im kb B k c gv v pv ys w' v3 rv bs3 rs:=
 ⟨h1,h.kp.trans h2,h2.row h.bd h.row (by decide) (by decide),h2.row h.bd h.pcs.1 (by decide) (by decide),fun y hy=>h2.row h.bd (h.pcs.2 y hy) (by decide) (by decide)⟩
theorem BD.below (h:BD w base bb im kb B k c gv v pv ys wr v2 rv bs2 rs) (hb:Below wr.heap.size wr w') (hbz:base<=wr.heap.size):BD w base bb im kb B k c gv v pv ys w' v2 rv bs2 rs:=
 h.step (h.bd.below hb) (cZ.ofBelow hb hbz)
theorem BD.push {rv':Value} {r:aG} (h:BD w base bb im kb B k c gv v pv ys wr v2 rv bs2 rs) (hown:w'.ownsRow w.heap.size 26 3 rv' (rs.length+1) (rs.flatMap cG++cG r)) (hg:wr.grownBy w' rv.ownBlock) (hbz:base<=w.heap.size):BD w base bb im kb B k c gv v pv ys w' v2 rv' bs2 (rs++[r]):=
 ⟨h.bd.otherRow h.row hg (by decide) (by decide) (by decide),h.kp.otherRow h.row hg (Nat.le_refl _) hbz,by rw[List.length_append,List.flatMap_append]; simpa using hown,fB h.pcs.1 h.row hg (by decide),fun y hy=>fB (h.pcs.2 y hy) h.row hg (by decide)⟩
end
def Gn (base bb im kb:Nat) (k:bI) (c:dN) (gs:List (ByteArray×Int)) (gv v:Value) (bs:List bM) (x:List UInt8) (w:World) (e:Ending) (w':World):Prop:=
 ∃rv v',e= .returned (.tuple #[rv, .int .i64 0])/\w'.ownsRow w.heap.size 26 3 rv ((fG c x).map (be k gs)).length (((fG c x).map (be k gs)).flatMap cG)/\ep w' base bb k c gv im kb v' (bJ k gs (fG c x) bs)/\cZ base bb kb v v' w w'
theorem EX (k:bI) (gs:List (ByteArray×Int)) (bs:List bM) (x:List UInt8):(gI k gs bs x).length<=bs.length+1:=by
 unfold gI
 split
 ·omega
 ·simp
theorem qY (k:bI) (gs:List (ByteArray×Int)): ∀(cs:List (List UInt8)) (bs:List bM),(bJ k gs cs bs).length<=bs.length+cs.length
 | [],bs=>Nat.le_refl _
 | x::cs,bs=>by
  have h1:=qY k gs cs (gI k gs bs x);have h2:=EX k gs bs x
  show(bJ k gs cs (gI k gs bs x)).length<=_
  rw[List.length_cons]; omega
theorem ui {k:bI} {gs:List (ByteArray×Int)} {cs:List (List UInt8)} {bs:List bM} {j:Nat} {x:List UInt8} (h:cs[j]? =some x):bJ k gs (cs.take (j+1)) bs=gI k gs (bJ k gs (cs.take j) bs) x:=by
 rw[bh h,dn]; rfl
theorem tg {c:dN} (hc:iI c=true) (x:List UInt8): ∀y∈fG c x,1<=y.length/\y.length<=32768:=by
 have hv:=km.1 hc;intro y hy;have:=At (mx:=c.mx.toNat) (by omega) (rB) y hy;omega
theorem zu (S:Nat->Prop) (base bb kb im:Nat) (k:bI) (c:dN) (gs:List (ByteArray×Int)) (gv v cv:Value) (bs:List bM) (x:List UInt8) (w:World) (h:ep w base bb k c gv im kb v bs) (hk:fP k=true) (hc:iI c=true) (hsd:c.seed<18446744073709551616) (hg:iu (· <base) w gv gs) (hgs: ∀p∈gs,0<=p.2/\p.2<=1099511627776)
  (hx:aD S w cv x) (hl:x.length<=1048576) (hE:kS w) (hbb:base<=bb) (hkb:base<=kb) (hbz:base<=w.heap.size) (h7:7<=base) (hn:bs.length+(fG c x).length<1000000000000):
  Calls Tryz.prog 122 #[.pointer (some ⟨bb,0,none⟩),cv] w (Gn base bb im kb k c gs gv v bs x w):=by
 have HH:=ab h;have HK:=ab hk;have HG:=ab hg;have HGS:=ab hgs;have HE:=ab hE;have HCO:=ab (tg hc x);have hsp:=oL S c x cv w hc hsd hx hl hE.deb;obtain⟨L,hL⟩: ∃L,L=fG c x:=⟨_,rfl⟩;have HL:=ab hL;rw[<-hL]at hn;unfold fG at hL;rw[<-hL]at hsp;unfold fH at hsp;have HSP:=ab hsp;have HBOX:=ab h.box;have k5:=aa (k:=5) HBOX.out;have k6:=aa (k:=6) HBOX.out
 have k7:=aa (k:=7) HBOX.out;have k8:=aa (k:=8) HBOX.out;have k9:=aa (k:=9) HBOX.out;simp only[fZ,dh,dA,List.cons_append,List.nil_append,aN]at k5 k6 k7 k8 k9;clear h hk hg hgs hx hE hL hsp
 go_enter Tryz.func122,Tryz.ntmps122
 go_wp2_with fail;refine HSP.out.mono ?_;rintro e w1 ⟨pv,rfl,⟨ys,hys,hrow,hdat⟩,hb1⟩;have HB1:=ab hb1;obtain⟨pa,pc,rfl,hpc,hpm⟩:=aj hrow;unfold maxLen at hpm;have HYS:=ab hys;have HFL:=ab (show BD w base bb im kb w.heap.size k c gv v (.slice pa ys.length pc) ys w1 v (.slice none 0 0) bs []from⟨HH.out.below hb1,cZ.ofBelow hb1 hbz,World.ownsRow_nil _ _ _ _,hrow,hdat⟩)
 obtain⟨m,hm⟩: ∃m,m=ys.length:=⟨_,rfl⟩;rw[<-hm]at HFL hpc ⊢;have HM:=ab hm;have HML:=ab (show m=L.length by rw[hm,<-hys,List.length_map]);clear hb1 hrow hdat hys hm k5 k6 k7 k8 k9;go_wp2_with fail
 go_loopw [8,27] (fun rv i wr=> ∃(j:Nat) (v2:Value),j<=m/\i= .int .i64 (j:Int)/\BD w base bb im kb w.heap.size k c gv v (.slice pa m pc) ys wr v2 rv (bJ k gs (L.take j) bs) ((L.take j).map (be k gs))) (fun _ i _=>m-(intOf i).toNat)
 case atStart=>exact⟨0,v,Nat.zero_le _,rfl,HFL.out⟩
 case round=>
  obtain⟨j,v2,hj,rfl,hin⟩:=hrel;have HIN:=ab hin;obtain⟨rs,hrs⟩: ∃rs,rs=(L.take j).map (be k gs):=⟨_,rfl⟩;rw[<-hrs]at hin;obtain⟨ra,rc,hrv,-,-⟩:=aj hin.row;subst hrv;have HIN:=ab hin;have HRS:=ab hrs;have hrl:rs.length<=j:=by rw[hrs,List.length_map,List.length_take]; omega
  clear hin hrs
  by_cases hlt:j<m
  ·obtain⟨⟨yv,yb⟩,hyp⟩: ∃yp,ys[j]? =some yp:=⟨ys[j]'(by rw[<-HM.out]; exact hlt),by simp⟩;have HLJ:=ab (show L[j]? =some yb by rw[<-HYS.out,List.getElem?_map,hyp]; rfl);obtain⟨_,pa',pc',hpe,_,_,hp0⟩:=bq HIN.out.pcs.1
   cases hpe
   obtain⟨pb,po,rfl,-,hpcell⟩:=hp0.resolve_left (by omega);have q0:=hpcell j yv (by rw[List.getElem?_map,hyp]; rfl);have hown:=HIN.out.pcs.2 (yv,yb) (List.mem_of_getElem? hyp);obtain⟨ya,yc,hyv,-,-⟩:=aj hown;simp only at hyv;subst hyv;have hyb:=HCO.out yb (by rw[<-HL.out]; exact List.mem_of_getElem? HLJ.out);have hbl:=qY k gs (L.take j) bs;have hlt2:(L.take j).length<=L.length:=by rw[List.length_take]; omega
   have had:=yt (fun _=>True) base bb kb im k c gs gv v2 (.slice ya yb.length yc) (bJ k gs (L.take j) bs) yb wr HIN.out.bd HK.out (HG.out.keep (fun i h1 _=>HIN.out.kp.below.block i h1)) HGS.out
    (aS.weak (bq hown) (fun _ _=>trivial)) hyb.2 (HE.out.keep HIN.out.kp.below h7) hbb hkb (Nat.le_trans hbz HIN.out.kp.below.size) h7 (by omega)
   unfold wF aX at had;rw[<-ui HLJ.out]at had;obtain⟨r,hr⟩: ∃r,r=be k gs yb:=⟨_,rfl⟩;rw[<-hr]at had;have HRE:=ab hr;have HAD:=ab had;obtain⟨rn,hrn⟩: ∃rn,rn=rs.length:=⟨_,rfl⟩;rw[<-hrn]at hrl ⊢;have HRNN:=ab hrn;clear hyp hp0 hpcell hown hyb hbl hlt2 had hr hrn;go_wp2_with fail;refine HAD.out.mono ?_;rintro e w3 ⟨rfl,v3,hbd3,hkp3⟩;have HIN3:=ab (HIN.out.step hbd3 hkp3)
   have HZ3:=ab (show base<=w3.heap.size from Nat.le_trans hbz (HIN3.out.kp.below.size));obtain⟨W4,hW4⟩: ∃W4,W4=w3.alloc (.cells #[.string r.name, .int .i64 r.gen, .int .i64 r.size] 26):=⟨_,rfl⟩;have HIN4:=ab (HIN3.out.below (w':=W4) (by rw[hW4]; exact(Below.refl _ _).alloc (Nat.le_refl _) _) HZ3.out);have hf4:W4.heap[w3.heap.size]? =some (.cells #[.string r.name, .int .i64 r.gen, .int .i64 r.size] 26 (0,0)):=by rw[hW4]; exact bZ w3 _
   have f0:=aa (k:=0) hf4;have f1:=aa (k:=1) hf4;have f2:=aa (k:=2) hf4;simp only[aN]at f0 f1 f2;have HROW:=ab (show W4.ownsRow w.heap.size 26 3 (.slice ra rn rc) rn (rs.flatMap cG) by have h1:=HIN4.out.row; rw[<-HRNN.out]at h1; exact h1);have hz4:w.heap.size<=W4.heap.size:=HIN4.out.kp.below.size;have hrb:rn<1099511627775:=by have:=HML.out; omega
   clear hbd3 hkp3 q0 hf4
   go_upto_region 11 with(fail)
   rw[<-hW4];clear hW4;go_wp2_with (at_builtin; go_must (refine aK Tryz.appRefs rfl _ _ rfl w.heap.size (.slice ra rn rc) rn (rs.flatMap cG) rfl W4 [.string r.name, .int .i64 r.gen, .int .i64 r.size] _ rfl rfl (gL (r:=r)) HROW.out hrb hz4 ?_); intro v' wc hown' hgrow' _ _; obtain⟨ae,ce,rfl,-,-⟩:=aj hown'; have HPU:=ab (HIN4.out.push (r:=r) (by rw[<-HRNN.out]; exact hown') (by rw[<-HRNN.out]; exact hgrow') hbz); clear hown' hgrow')
   go_roundw
   case rel=>
    refine⟨j+1,v3,by omega,by go_num, ?_⟩;have h1:=HPU.out;rw[HRS.out,HRE.out]at h1;rw[bh HLJ.out,List.map_append,<-bh HLJ.out];exact h1
   case measure=>simp[intOf]; omega
  ·have hk2:j=m:=by omega
   subst hk2;go_wp2_with fail
   go_ret2
   have h1:=HIN.out;have h2:L.take j=L:=by rw[HML.out,List.take_length]
   have h3:rs=L.map (be k gs):=by rw[HRS.out,h2]
   rw[h2]at h1;refine⟨_,v2,rfl, ?_, ?_,h1.kp⟩
   ·rw[<-HL.out,<-h3]; exact h1.row
   ·rw[<-HL.out]; exact h1.bd
structure tW where
 dir:ByteArray
 val:Value
 ents:List ji
def gC (g:tW):Value×Value:=(.string g.dir,g.val)
structure jH (w : World) (base im : Nat) (G : List tW) : Prop where
 map:cT Tryz.prog 9 w im (G.map gC)
 own: ∀g∈G,w.ownsRow base 79 6 g.val g.ents.length (df g.ents)
 dat: ∀g∈G,∀y∈g.ents,bH (· <base) w y.1 y.2.data/\gS y.2
 apart:G.Pairwise fun a b=> ∀i,a.val.ownBlock=some i->b.val.ownBlock≠some i
 key: ∀g∈G,g.dir.size<=maxLen
def fw (G:List tW) (d:ByteArray):List bD:=match G.find? (fun g=>decide (g.dir=d))with
 | none=>[]
 | some g=>g.ents.map Prod.snd
def wH (w:World) (base im:Nat) (tree:List bD):Prop:= ∃G,jH w base im G/\ ∀d,fw G d=ci tree d
theorem jm {B:Nat} {w w':World} {v:Value} {bs:List UInt8} (h:bH (· <B) w v bs) (hb:Below B w w'):bH (· <B) w' v bs:=aS.same h (fun k hk=>hb.block k hk)
theorem cT.ncells {P:Program} {k:TypeId} {w:World} {b:Nat} {m:List (Value×Value)} (h:cT P k w b m) {cs:Array Value} {t:TypeId} {z:Nat×Nat} :w.heap[b]? ≠some (.cells cs t z):=fun e=>by
 obtain⟨es,clock,hb,_⟩:=h;rw[hb]at e; cases e
theorem cZ.blk {w w':World} {base bb im kb i:Nat} {k:bI} {c:dN} {gv v v':Value} {bs:List bM} {cs:Array Value} {t:TypeId} {z:Nat×Nat} (h:ep w base bb k c gv im kb v bs) (hk:cZ base bb kb v v' w w') (hx:w.heap[i]? =some (.cells cs t z)) (h1:t≠122) (h2:t≠53):w'.heap[i]? =some (.cells cs t z):=by
 refine(hk.same i (lt_of_block hx) (fun e=> ?_) (fun e=> ?_) (fun e=> ?_)).trans hx
 ·subst e; exact h1 (aO hx h.box)
 ·subst e; exact h.known.cells hx
 ·obtain⟨zs,_,ho,_⟩:=h.own;obtain⟨cs2,hc2⟩:=az ho e;exact h2 (aO hx hc2)
theorem jH.keep {w w':World} {base bb im kb:Nat} {k:bI} {c:dN} {gv v v':Value} {bs:List bM} {G:List tW} (hg:jH w base im G) (h:ep w base bb k c gv im kb v bs) (hk:cZ base bb kb v v' w w') (hne:im≠kb):jH w' base im G:=by
 refine⟨hg.map.same (hk.same im hg.map.lt (fun e=> ?_) hne (fun e=> ?_)),fun g hm=>hk.row h (hg.own g hm) (by decide) (by decide),fun g hm y hy=>⟨jm (hg.dat g hm y hy).1 hk.below,(hg.dat g hm y hy).2⟩,hg.apart,hg.key⟩
 ·exact hg.map.ncells (by rw[e]; exact h.box)
 ·obtain⟨zs,_,ho,_⟩:=h.own;obtain⟨cs2,hc2⟩:=az ho e;exact hg.map.ncells hc2
theorem wH.keep {w w':World} {base bb im kb:Nat} {k:bI} {c:dN} {gv v v':Value} {bs:List bM} {tree:List bD} (hg:wH w base im tree) (h:ep w base bb k c gv im kb v bs) (hk:cZ base bb kb v v' w w') (hne:im≠kb):wH w' base im tree:=by
 obtain⟨G,h1,h2⟩:=hg;exact⟨G,h1.keep h hk hne,h2⟩
theorem Cr {w:World} {base im:Nat} {tree:List bD} (hg:wH w base im tree) {d:ByteArray} (hd:d.size<=maxLen):
  ∃(v:Value) (ys:List ji),(Instr.lookup 119 (.map (some im)) (.string d) false).run Tryz.prog w= .ok v w/\ys.map Prod.snd=ci tree d/\w.ownsRow base 79 6 v ys.length (df ys)/\ ∀y∈ys,bH (· <base) w y.1 y.2.data/\gS y.2:=by
 obtain⟨G,h1,h2⟩:=hg;have ht:Tryz.prog.underlying 119=some (.map 9 46):=Tryz.underlying119;have hz:(zeroValue 46).run Tryz.prog w= .ok (.slice none 0 0) w:=by kernel_rfl
 have h3:=h2 d;unfold fw at h3
 cases hf:G.find? (fun g=>decide (g.dir=d))with
 | none=>
  rw[hf]at h3;refine⟨.slice none 0 0,[], ?_,h3,World.ownsRow_nil _ _ _ _,by simp⟩;have:=h1.map.is.miss bS ht hz (cF hd) (fun q hq e=>by
   obtain⟨x,hx,rfl⟩:=List.mem_map.1 hq;simp only[gC,Value.string.injEq]at e;have:=List.find?_eq_none.1 hf x hx;simp[e]at this) false
  simpa using this
 | some g=>
  rw[hf]at h3;have h4:=List.mem_of_find?_eq_some hf;have h5:=List.find?_some hf;simp only[decide_eq_true_eq]at h5;refine⟨g.val,g.ents, ?_,h3,h1.own g h4,h1.dat g h4⟩;have:=h1.map.is.hit bS ht (cF hd) (val:=g.val) (List.mem_map.2 ⟨g,h4,by rw[<-h5]; rfl⟩) false
  simpa using this
abbrev qV :=Value×aE
def mC (zs:List qV):List Value:=zs.flatMap fun z=>cP z.1 z.2
theorem zW (zs:List qV) (z:qV):mC (zs++[z])=mC zs++cP z.1 z.2:=by simp[mC]
structure jf (w : World) (B : Nat) (iv : Value) (its : List aE) : Prop where
 row: ∃zs:List qV,zs.map Prod.snd=its/\w.ownsRow B 28 10 iv zs.length (mC zs)/\ ∀z∈zs,w.ownsRow B 26 3 z.1 z.2.chunks.length (z.2.chunks.flatMap cG)/\cB z.2/\ ∀r∈z.2.chunks,aW r
theorem rN {S:Nat->Prop} {w:World} : ∀ {zs:List qV},(∀z∈zs,aM S w z.1 z.2.chunks/\cB z.2)->bR (dO S w) (mC zs) (zs.map Prod.snd)
 | [],_=>rfl
 | z::zs,h=>⟨cP z.1 z.2,mC zs,by simp[mC],⟨z.1,rfl,(h z (by simp)).1,(h z (by simp)).2⟩,rN (fun y hy=>h y (by simp[hy]))⟩
theorem jf.at {w:World} {B:Nat} {iv:Value} {its:List aE} (h:jf w B iv its):ba (fun _=>True) w iv its:=by
 obtain⟨zs,rfl,h1,h2⟩:=h.row;refine⟨mC zs, ?_,rN (fun z hz=>⟨aM.same (dr (h2 z hz).1 (h2 z hz).2.2) (fun _ _ _=>⟨trivial,rfl⟩),(h2 z hz).2.1⟩)⟩;rw[List.length_map];exact aS.weak (bq h1) (fun _ _=>trivial)
theorem jf.nil (w:World) (B:Nat):jf w B (.slice none 0 0) []:=⟨[],rfl,World.ownsRow_nil _ _ _ _,by simp⟩
structure wG (w : World) (base bb im kb : Nat) (k : bI) (c : dN) (gv v ev : Value) (ys : List ji) (wr : World) (v2 iv : Value) (bs2 : List bM) (its : List aE) : Prop where
 bd:ep wr base bb k c gv im kb v2 bs2
 kp:cZ base bb kb v v2 w wr
 its:jf wr w.heap.size iv its
 ents:wr.ownsRow base 79 6 ev ys.length (df ys)
 res:wr.heap[w.heap.size]? =some (.cells #[.string ⟨#[]⟩, .int .i64 0, .int .i64 0] 26 (0,0))
theorem jf.keep {w w':World} {base bb im kb B:Nat} {k:bI} {c:dN} {gv v v' iv:Value} {bs:List bM} {its:List aE} (hi:jf w B iv its) (h:ep w base bb k c gv im kb v bs) (hk:cZ base bb kb v v' w w'):jf w' B iv its:=by
 obtain⟨zs,h1,h2,h3⟩:=hi.row;exact⟨zs,h1,hk.row h h2 (by decide) (by decide),fun z hz=>⟨hk.row h (h3 z hz).1 (by decide) (by decide),(h3 z hz).2⟩⟩
section
variable {w wr w' : World} {base bb im kb : Nat} {k : bI} {c : dN} {gv v ev v2 v3 iv : Value} {ys : List ji} {bs2 bs3 : List bM} {its : List aE}
theorem wG.step (h:wG w base bb im kb k c gv v ev ys wr v2 iv bs2 its) (h1:ep w' base bb k c gv im kb v3 bs3) (h2:cZ base bb kb v2 v3 wr w'):wG w base bb im kb k c gv v ev ys w' v3 iv bs3 its:=
 ⟨h1,h.kp.trans h2,h.its.keep h.bd h2,h2.row h.bd h.ents (by decide) (by decide),h2.blk h.bd h.res (by decide) (by decide)⟩
theorem wG.below (h:wG w base bb im kb k c gv v ev ys wr v2 iv bs2 its) (hb:Below wr.heap.size wr w') (hbz:base<=wr.heap.size):wG w base bb im kb k c gv v ev ys w' v2 iv bs2 its:=
 h.step (h.bd.below hb) (cZ.ofBelow hb hbz)
theorem wG.push {iv' rv:Value} {it:aE} {zs:List qV} (h:wG w base bb im kb k c gv v ev ys wr v2 iv bs2 its) (hz:zs.map Prod.snd=its) (hrow:wr.ownsRow w.heap.size 28 10 iv zs.length (mC zs)) (hdat: ∀z∈zs,wr.ownsRow w.heap.size 26 3 z.1 z.2.chunks.length (z.2.chunks.flatMap cG)/\cB z.2/\ ∀r∈z.2.chunks,aW r)
  (hown:w'.ownsRow w.heap.size 28 10 iv' (zs.length+1) (mC zs++cP rv it)) (hg:wr.grownBy w' iv.ownBlock) (hrv:wr.ownsRow w.heap.size 26 3 rv it.chunks.length (it.chunks.flatMap cG)) (hok:cB it) (hrs: ∀r∈it.chunks,aW r) (hbz:base<=w.heap.size):
  wG w base bb im kb k c gv v ev ys w' v2 iv' bs2 (its++[it]):=by
 refine⟨h.bd.otherRow hrow hg (by decide) (by decide) (by decide),h.kp.otherRow hrow hg (Nat.le_refl _) hbz,⟨zs++[(rv,it)],by simp[hz],by rw[List.length_append,List.length_singleton,zW]; exact hown,fun z hm=> ?_⟩,fB h.ents hrow hg (by decide), ?_⟩
 ·rcases List.mem_append.1 hm with hm | hm
  ·exact⟨fB (hdat z hm).1 hrow hg (by decide),(hdat z hm).2⟩
  ·rw[List.mem_singleton]at hm;subst hm;exact⟨fB hrv hrow hg (by decide),hok,hrs⟩
 ·refine(hg.block _ (lt_of_block h.res) (fun e=> ?_)).trans h.res;obtain⟨cs2,hc2⟩:=az hrow e.symm;exact absurd (aO h.res hc2) (by decide)
theorem wG.otherSet {i q:Nat} {u:Value} {cs:Array Value} {t:TypeId} {z:Nat×Nat} (h:wG w base bb im kb k c gv v ev ys wr v2 iv bs2 its) (hx:wr.heap[i]? =some (.cells cs t z)) (h1:t≠122) (h2:t≠53) (h3:t≠5) (h4:t≠26) (h5:t≠79) (h6:iv.ownBlock≠some i) (hi:w.heap.size<=i) (hbz:base<=w.heap.size):wG w base bb im kb k c gv v ev ys (wr.setCell ⟨i,q,none⟩ u) v2 iv bs2 its:=by
 have hs: ∀j,j≠i->(wr.setCell ⟨i,q,none⟩ u).heap[j]? =wr.heap[j]? :=fun j hj=>Below.heap_setCell _ _ _ _ hj
 refine⟨h.bd.other hx h1 h2 h3 (fun j hj _=>hs j hj),h.kp.setNew hi hbz, ?_,dz h.ents (fun j hj hu=>hs j (fun e=> ?_)),(hs _ (fun e=> ?_)).trans h.res⟩
 ·obtain⟨zs,hz,hr,hd⟩:=h.its.row;refine⟨zs,hz,dz hr (fun j hj hu=>hs j (fun e=>h6 (e▸hu))),fun y hy=>⟨dz (hd y hy).1 (fun j hj hu=>hs j (fun e=> ?_)),(hd y hy).2⟩⟩;obtain⟨cs2,hc2⟩:=az (hd y hy).1 hu;exact h4 (aO hx (e▸hc2))
 ·obtain⟨cs2,hc2⟩:=az h.ents hu;exact h5 (aO hx (e▸hc2))
 ·exact h4 (aO hx (e▸h.res))
end
end Go.Proofs.YtpffpjbkbaleiaaGreatDoor
