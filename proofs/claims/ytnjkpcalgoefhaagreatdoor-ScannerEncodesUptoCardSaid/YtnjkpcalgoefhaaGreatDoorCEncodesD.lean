/- Texts of this proof, one after the other: ScnG, Rng, RngP, EncA, EncB, EncC, EncD, EndA, EndB, RoundR, EndC, ScnI, ScnK, ScnL, ScnN. -/
import Derived.Test.YtnjkpcalgoefhaaGreatDoorCEncodesC
set_option maxRecDepth 100000
set_option maxHeartbeats 8000000
namespace Go.Proofs.YtnjkpcalgoefhaaGreatDoor
open Go Go.RowKit Go.Maps
def jK (a b:List aw) (n m:Nat) (out:List (ByteArray×Int)):Prop:=out.length<=n+m/\ ∃k,(a.drop n).length+(b.drop m).length<=k/\qE a b=out++jG k (a.drop n) (b.drop m)
section
variable {a b : List aw} {n m : Nat} {out : List (ByteArray × Int)} {f g : aw}
theorem jK.start (a b:List aw):jK a b 0 0 []:=⟨by simp,_,Nat.le_refl _,rfl⟩
theorem oQ {l r:List aw} {k:Nat} (h:l.length+r.length<=k) (hl:l≠[]\/r≠[]): ∃j,k=j+1:=by
 refine⟨k-1, ?_⟩
 rcases hl with hl | hl
 ·have:=List.length_pos_iff.2 hl; omega
 ·have:=List.length_pos_iff.2 hl; omega
theorem jK.rem (h:jK a b n m out) (hf:a[n]? =some f) (hc:b.length<=m\/ ∃g,b[m]? =some g/\cz (bl f.path) (bl g.path)<0):jK a b (n+1) m (out++[(f.path,4)]):=by
 obtain⟨h1,k,h2,h3⟩:=h;rw[fG hf]at h2 h3;obtain⟨j,rfl⟩:=oQ h2 (.inl (by simp));refine⟨by simp; omega,j,by simp at h2 ⊢; omega, ?_⟩
 rcases hc with hc | ⟨g,hg,hc⟩
 ·rw[List.drop_eq_nil_of_le hc]at h3 ⊢;rw[h3];simp[jG]
 ·rw[fG hg]at h3 ⊢;rw[h3];simp[jG,hc]
theorem jK.add (h:jK a b n m out) (hg:b[m]? =some g) (hc:a.length<=n\/ ∃f,a[n]? =some f/\0<cz (bl f.path) (bl g.path)):jK a b n (m+1) (out++[(g.path,1)]):=by
 obtain⟨h1,k,h2,h3⟩:=h;rw[fG hg]at h2 h3;obtain⟨j,rfl⟩:=oQ h2 (.inr (by simp));refine⟨by simp; omega,j,by simp at h2 ⊢; omega, ?_⟩
 rcases hc with hc | ⟨f,hf,hc⟩
 ·rw[List.drop_eq_nil_of_le hc]at h3 ⊢;rw[h3];simp[jG]
 ·rw[fG hf]at h3 ⊢;rw[h3];have: ¬cz (bl f.path) (bl g.path)<0:=by omega
  simp[jG,hc,this]
theorem jK.both (h:jK a b n m out) (hf:a[n]? =some f) (hg:b[m]? =some g) (hc:cz (bl f.path) (bl g.path)=0):jK a b (n+1) (m+1) (out++if gO f g=0 then []else [(g.path,gO f g)]):=by
 obtain⟨h1,k,h2,h3⟩:=h;rw[fG hf,fG hg]at h2 h3;obtain⟨j,rfl⟩:=oQ h2 (.inr (by simp));refine⟨by split<;> simp<;> omega,j,by simp at h2 ⊢; omega, ?_⟩;rw[h3];simp only[jG,hc,Int.lt_irrefl,if_false]
 split<;> simp
theorem jK.done (h:jK a b n m out) (hn:a.length<=n) (hm:b.length<=m):out=qE a b:=by
 obtain⟨h1,k,h2,h3⟩:=h;rw[h3,List.drop_eq_nil_of_le hn,List.drop_eq_nil_of_le hm]
 cases k<;> simp[jG]
end
def eX (p:ByteArray×Int):List Value:=[.string p.1, .int .i64 p.2]
def gt (l:List (ByteArray×Int)):List Value:=l.flatMap eX
theorem gN (l:List (ByteArray×Int)) (p:ByteArray×Int):gt (l++[p])=gt l++eX p:=by simp[gt]
theorem jT {p:ByteArray×Int} : ∀u∈eX p,u.oneCell'=true:=by
 intro u hu;simp only[eX,List.mem_cons,List.not_mem_nil,or_false]at hu
 rcases hu with rfl | rfl<;> rfl
theorem Tryz.appChg :cY Tryz.prog 51 60 2 24:=cY.mk' (z:= .agg #[.string ⟨#[]⟩, .int .i64 0]) Tryz.underlying51 (by kernel_rfl) rfl (by decide) (by decide)
theorem ld (S T:Nat->Prop) (f g:aw) (pv qv:Value) (d:Int) (w:World) (hp:aP S w pv f.parts) (hq:aP T w qv g.parts) (h:gO f g=d):
  Calls Tryz.prog 78 #[dU pv f,dU qv g] w fun e w'=>e= .returned (.int .i64 d)/\Below w.heap.size w w':=by
 rw[<-h]; exact pg S T f g pv qv w hp hq
structure iF (W wr : World) (v : Value) (out : List (ByteArray × Int)) : Prop where
 own:wr.ownsRow W.heap.size 60 2 v out.length (gt out)
 below:Below W.heap.size W wr
theorem iF.next {W wr w':World} {v:Value} {out:List (ByteArray×Int)} (h:iF W wr v out) (hb:Below wr.heap.size wr w'):iF W w' v out:=⟨aV h.own hb,ak h.below hb⟩
theorem uh (S T:Nat->Prop) (a b:cA) (va vb:Value) (w:World) (ha:aT S w va a.files) (hb:aT T w vb b.files) (hla:a.files.length<=4096) (hlb:b.files.length<=4096):
  Calls Tryz.prog 42 #[dQ va a.tm,dQ vb b.tm] w fun e w'=> ∃v,e= .returned v/\w'.ownsRow w.heap.size 60 2 v (qE a.files b.files).length (gt (qE a.files b.files))/\Below w.heap.size w w':=by
 obtain⟨ca,pa,rfl,hca,hma,-⟩:=aY.shape ha dT.len;obtain⟨cb,pb,rfl,hcb,hmb,-⟩:=aY.shape hb dT.len;unfold maxLen at hma hmb;have HA:=ab ha;have HB:=ab hb;clear ha hb;obtain⟨an,han⟩: ∃n,n=a.files.length:=⟨_,rfl⟩;obtain⟨bn,hbn⟩: ∃n,n=b.files.length:=⟨_,rfl⟩;rw[<-han]at HA hca hla ⊢;rw[<-hbn]at HB hcb hlb ⊢;have HAN:=ab han;have HBN:=ab hbn
 clear han hbn;obtain⟨W,hW⟩: ∃W,W=(w.alloc (.cells #[.int .i64 a.tm, .slice ca an pa] 24)).alloc (.cells #[.int .i64 b.tm, .slice cb bn pb] 24):=⟨_,rfl⟩;have HBW:=ab (show Below w.heap.size w W by rw[hW]; exact((Below.refl _ _).alloc (Nat.le_refl _) _).alloc (by simp) _);have HX:=ab (show W.heap[w.heap.size]? =some (.cells #[.int .i64 a.tm, .slice ca an pa] 24 (0,0)) by rw[hW]; exact jQ (heap_alloc_new w _) _)
 have HY:=ab (show W.heap[w.heap.size+1]? =some (.cells #[.int .i64 b.tm, .slice cb bn pb] 24 (0,0)) by rw[hW]; exact heap_alloc2_new w _ _);have HSZ:=ab (show W.heap.size=w.heap.size+2 by rw[hW]; simp);unfold dQ
 go_enter Tryz.func42,Tryz.ntmps42
 go_upto_region 1 with fail
 change Code.wp _ _ _ _ ((w.alloc (.cells #[.int .i64 a.tm, .slice ca an pa] 24)).alloc (.cells #[.int .i64 b.tm, .slice cb bn pb] 24))
 rw[<-hW];clear hW;have HAW:=ab (aT.below HA.out HBW.out);have HBB:=ab (aT.below HB.out HBW.out);have HI0:=ab (show iF W W (.slice none 0 0) []from⟨World.ownsRow_nil _ _ _ _,Below.refl _ _⟩);have HC0:=ab (jK.start a.files b.files);go_wp2_with fail
 go_loopw [5,6,7] (fun v i j wr=> ∃(n m:Nat) (out:List (ByteArray×Int)),n<=an/\m<=bn/\i= .int .i64 n/\j= .int .i64 m/\jK a.files b.files n m out/\iF W wr v out) (fun _ i j _=>(an-(intOf i).toNat)+(bn-(intOf j).toNat))
 case atStart=>exact⟨0,0,[],Nat.zero_le _,Nat.zero_le _,rfl,rfl,HC0.out,HI0.out⟩
 case round=>
  obtain⟨n,m,out,hn,hm,rfl,rfl,hci,hat⟩:=hrel;have HCI:=ab hci;have HI:=ab hat
  have hol:=hci.1;obtain⟨av,cv,hsv,hvn,hvm⟩:=au hat.own;subst hsv;unfold maxLen at hvm;clear hci hat
  have x1:=(HI.out.below.cell (p:=⟨w.heap.size,1,none⟩) (lt_of_block HX.out)).trans (ai (k:=1) HX.out);have y1:=(HI.out.below.cell (p:=⟨w.heap.size+1,1,none⟩) (lt_of_block HY.out)).trans (ai (k:=1) HY.out);simp only[List.getElem?_toArray,bV]at x1 y1
  by_cases hln:n<an
  ·obtain⟨f,hf⟩: ∃f,a.files[n]? =some f:=⟨_,List.getElem?_eq_getElem (show n<a.files.length by rw[<-HAN.out]; exact hln)⟩;obtain⟨b1,o1,pa1,pc1,rfl,hok1,hpa1,hbl1,-,hcl1⟩:=cQ HAW.out (Below.refl _ _) hf;have HQ0:=ab (show W.cell? ⟨b1,o1+n*7,none⟩=some (.string f.path)from hcl1 0 (by omega));have HOK1:=ab hok1;have HCL1:=ab hcl1;have HPA1:=ab hpa1;have HF:=ab hf
   have hne1: ¬(n:Int)=(an:Int):=by omega
   clear hf hok1 hpa1 hcl1
   by_cases hlm:m<bn
   ·obtain⟨g,hg⟩: ∃g,b.files[m]? =some g:=⟨_,List.getElem?_eq_getElem (show m<b.files.length by rw[<-HBN.out]; exact hlm)⟩;obtain⟨b2,o2,pa2,pc2,rfl,hok2,hpa2,hbl2,-,hcl2⟩:=cQ HBB.out (Below.refl _ _) hg;have HP0:=ab (show W.cell? ⟨b2,o2+m*7,none⟩=some (.string g.path)from hcl2 0 (by omega));have HCL2:=ab hcl2;have HPA2:=ab hpa2;have HG:=ab hg;have hne2: ¬(m:Int)=(bn:Int):=by omega
    clear hg hok2 hpa2 hcl2;obtain⟨W6,hW6⟩: ∃W6:World,W6=wr.drew:=⟨_,rfl⟩;have HI6:=ab (show iF W W6 (.slice av out.length cv) out by rw[hW6]; exact HI.out.next (Below.refl _ _).drew);have x2:=(HI6.out.below.cell (p:=⟨w.heap.size,1,none⟩) (lt_of_block HX.out)).trans (ai (k:=1) HX.out);have y2:=(HI6.out.below.cell (p:=⟨w.heap.size+1,1,none⟩) (lt_of_block HY.out)).trans (ai (k:=1) HY.out)
    have q0:=(HI6.out.below.cell (p:=⟨b1,o1+n*7,none⟩) hbl1).trans HQ0.out;have p0:=(HI6.out.below.cell (p:=⟨b2,o2+m*7,none⟩) hbl2).trans HP0.out;simp only[List.getElem?_toArray,bV]at x2 y2;obtain⟨o,ho⟩: ∃o,cz (bl f.path) (bl g.path)=o:=⟨_,rfl⟩;have HO:=ab ho;clear ho
    by_cases hneg:o<0
    ·have HC2:=ab (HCI.out.rem HF.out (.inr ⟨g,HG.out,by rw[HO.out]; exact hneg⟩));go_wp2_with fail;refine aA [some 12,none,some 1] (by kernel_rfl) (by kernel_rfl) (by kernel_rfl) ?_;simp only[bz,List.take_succ_cons,List.take_zero,List.drop_succ_cons,List.drop_zero];rw[<-hW6];clear hW6
     repeat (first | (refine aD rfl ?_; simp only[Act.put,aH,aI,aJ]) | (refine aM rfl (fun K hK=> ?_); go_simp; refine hK _ ?_; clear hK K))
     refine aL ?_;clear x1 y1 q0 p0;refine bE rfl (fun K hK=> ?_);go_wp2_with (go_at_call 65; refine(iJ f.path g.path _ _ HOK1.out.pth HO.out).mono ?_; rintro e w7 ⟨rfl,hb7⟩; have HI7:=ab (HI6.out.next hb7); clear hb7);have x1:=(HI7.out.below.cell (p:=⟨w.heap.size,1,none⟩) (lt_of_block HX.out)).trans (ai (k:=1) HX.out);have y1:=(HI7.out.below.cell (p:=⟨w.heap.size+1,1,none⟩) (lt_of_block HY.out)).trans (ai (k:=1) HY.out)
     have q0:=(HI7.out.below.cell (p:=⟨b1,o1+n*7,none⟩) hbl1).trans HQ0.out;have p0:=(HI7.out.below.cell (p:=⟨b2,o2+m*7,none⟩) hbl2).trans HP0.out;simp only[List.getElem?_toArray,bV]at x1 y1
     repeat (first | (refine aD rfl ?_; simp only[Act.put,aH,aI,aJ]) | (refine aM rfl (fun K hK=> ?_); go_simp; refine hK _ ?_; clear hK K))
     refine aL ?_;have HAL:=ab ((Below.refl w7.heap.size w7).alloc (Nat.le_refl _) (.cells (eX (f.path,4)).toArray 60));have HOA:=ab (aV HI7.out.own HAL.out);have HRL:=ab (fS (n:=1) (sz:=2) (cells:=eX (f.path,4)) (heap_alloc_new w7 (.cells (eX (f.path,4)).toArray 60)) rfl (by decide));have HZ:=ab (show W.heap.size<=(w7.alloc (.cells (eX (f.path,4)).toArray 60)).heap.size by have:=HI7.out.below.size; simp; omega)
     go_wp2_with (at_builtin; go_must (refine bI Tryz.appChg rfl _ _ rfl W.heap.size (.slice av out.length cv) out.length (gt out) rfl HOA.out _ 1 (eX (f.path,4)) rfl HRL.out jT (by omega) HZ.out ?_); intro v9 w9 hown9 hg9; obtain⟨a9,c9,rfl,-,-⟩:=au hown9; have HO9:=ab hown9; have HG9:=ab hg9; clear hown9 hg9);have HI9:=ab (show iF W w9 (.slice a9 (out.length+1) c9) (out++[(f.path,4)])from⟨by rw[List.length_append,List.length_singleton,gN]; exact HO9.out,aZ (ak HI7.out.below HAL.out) HOA.out HG9.out (Nat.le_refl _) HZ.out⟩)
     exact⟨⟨n+1,m,_,by omega,hm,rfl,rfl,HC2.out,HI9.out⟩,by simp only[intOf,Int.toNat_natCast]; omega⟩
    ·by_cases hpos:0<o
     ·have HC2:=ab (HCI.out.add HG.out (.inr ⟨f,HF.out,by rw[HO.out]; exact hpos⟩));go_wp2_with fail;refine aA [some 12,none,some 1] (by kernel_rfl) (by kernel_rfl) (by kernel_rfl) ?_;simp only[bz,List.take_succ_cons,List.take_zero,List.drop_succ_cons,List.drop_zero];rw[<-hW6];clear hW6
      repeat (first | (refine aD rfl ?_; simp only[Act.put,aH,aI,aJ]) | (refine aM rfl (fun K hK=> ?_); go_simp; refine hK _ ?_; clear hK K))
      refine aL ?_;clear x1 y1 q0 p0;refine bE rfl (fun K hK=> ?_);go_wp2_with (go_at_call 65; refine(iJ f.path g.path _ _ HOK1.out.pth HO.out).mono ?_; rintro e w7 ⟨rfl,hb7⟩; have HI7:=ab (HI6.out.next hb7); clear hb7);have x1:=(HI7.out.below.cell (p:=⟨w.heap.size,1,none⟩) (lt_of_block HX.out)).trans (ai (k:=1) HX.out);have y1:=(HI7.out.below.cell (p:=⟨w.heap.size+1,1,none⟩) (lt_of_block HY.out)).trans (ai (k:=1) HY.out)
      have q0:=(HI7.out.below.cell (p:=⟨b1,o1+n*7,none⟩) hbl1).trans HQ0.out;have p0:=(HI7.out.below.cell (p:=⟨b2,o2+m*7,none⟩) hbl2).trans HP0.out;simp only[List.getElem?_toArray,bV]at x1 y1
      repeat (first | (refine aD rfl ?_; simp only[Act.put,aH,aI,aJ]) | (refine aM rfl (fun K hK=> ?_); go_simp; refine hK _ ?_; clear hK K))
      refine aL ?_;have HAL:=ab ((Below.refl w7.heap.size w7).alloc (Nat.le_refl _) (.cells (eX (g.path,1)).toArray 60));have HOA:=ab (aV HI7.out.own HAL.out);have HRL:=ab (fS (n:=1) (sz:=2) (cells:=eX (g.path,1)) (heap_alloc_new w7 (.cells (eX (g.path,1)).toArray 60)) rfl (by decide));have HZ:=ab (show W.heap.size<=(w7.alloc (.cells (eX (g.path,1)).toArray 60)).heap.size by have:=HI7.out.below.size; simp; omega)
      go_wp2_with (at_builtin; go_must (refine bI Tryz.appChg rfl _ _ rfl W.heap.size (.slice av out.length cv) out.length (gt out) rfl HOA.out _ 1 (eX (g.path,1)) rfl HRL.out jT (by omega) HZ.out ?_); intro v9 w9 hown9 hg9; obtain⟨a9,c9,rfl,-,-⟩:=au hown9; have HO9:=ab hown9; have HG9:=ab hg9; clear hown9 hg9);have HI9:=ab (show iF W w9 (.slice a9 (out.length+1) c9) (out++[(g.path,1)])from⟨by rw[List.length_append,List.length_singleton,gN]; exact HO9.out,aZ (ak HI7.out.below HAL.out) HOA.out HG9.out (Nat.le_refl _) HZ.out⟩)
      exact⟨⟨n,m+1,_,hn,by omega,rfl,rfl,HC2.out,HI9.out⟩,by simp only[intOf,Int.toNat_natCast]; omega⟩
     ·obtain rfl:o=0:=by omega
      have HC2:=ab (HCI.out.both HF.out HG.out HO.out);obtain⟨d,hd⟩: ∃d,gO f g=d:=⟨_,rfl⟩;rw[hd]at HC2;have HD:=ab hd;clear hd;go_wp2_with fail;refine aA [some 12,none,some 1] (by kernel_rfl) (by kernel_rfl) (by kernel_rfl) ?_;simp only[bz,List.take_succ_cons,List.take_zero,List.drop_succ_cons,List.drop_zero];rw[<-hW6];clear hW6
      repeat (first | (refine aD rfl ?_; simp only[Act.put,aH,aI,aJ]) | (refine aM rfl (fun K hK=> ?_); go_simp; refine hK _ ?_; clear hK K))
      refine aL ?_;clear x1 y1 q0 p0;refine bE rfl (fun K hK=> ?_);go_wp2_with (go_at_call 65; refine(iJ f.path g.path _ _ HOK1.out.pth HO.out).mono ?_; rintro e w7 ⟨rfl,hb7⟩; have HI7:=ab (HI6.out.next hb7); clear hb7);have x1:=(HI7.out.below.cell (p:=⟨w.heap.size,1,none⟩) (lt_of_block HX.out)).trans (ai (k:=1) HX.out);have y1:=(HI7.out.below.cell (p:=⟨w.heap.size+1,1,none⟩) (lt_of_block HY.out)).trans (ai (k:=1) HY.out)
      have q0:=(HI7.out.below.cell (p:=⟨b1,o1+n*7,none⟩) hbl1).trans HQ0.out;have p0:=(HI7.out.below.cell (p:=⟨b2,o2+m*7,none⟩) hbl2).trans HP0.out;simp only[List.getElem?_toArray,bV]at x1 y1
      repeat (first | (refine aD rfl ?_; simp only[Act.put,aH,aI,aJ]) | (refine aM rfl (fun K hK=> ?_); go_simp; refine hK _ ?_; clear hK K))
      refine aL ?_
      by_cases hd0:d=0
      ·subst hd0;obtain⟨W8,hW8⟩: ∃W8:World,W8=w7.drew:=⟨_,rfl⟩;have HI8:=ab (show iF W W8 (.slice av out.length cv) out by rw[hW8]; exact HI7.out.next (Below.refl _ _).drew);have x3:=(HI8.out.below.cell (p:=⟨w.heap.size,1,none⟩) (lt_of_block HX.out)).trans (ai (k:=1) HX.out);have y3:=(HI8.out.below.cell (p:=⟨w.heap.size+1,1,none⟩) (lt_of_block HY.out)).trans (ai (k:=1) HY.out)
       have hq: ∀j,j<7->W8.cell? ⟨b1,o1+n*7+j,none⟩=(bM (.slice pa1 f.parts.length pc1) f)[j]? :=fun j hj=>(HI8.out.below.cell (p:=⟨b1,o1+n*7+j,none⟩) hbl1).trans (HCL1.out j hj)
       have hp: ∀j,j<7->W8.cell? ⟨b2,o2+m*7+j,none⟩=(bM (.slice pa2 g.parts.length pc2) g)[j]? :=fun j hj=>(HI8.out.below.cell (p:=⟨b2,o2+m*7+j,none⟩) hbl2).trans (HCL2.out j hj)
       have u0:=hq 0 (by omega);have u1:=hq 1 (by omega);have u2:=hq 2 (by omega);have u3:=hq 3 (by omega);have u4:=hq 4 (by omega);have u5:=hq 5 (by omega);have u6:=hq 6 (by omega);have z0:=hp 0 (by omega);have z1:=hp 1 (by omega);have z2:=hp 2 (by omega);have z3:=hp 3 (by omega);have z4:=hp 4 (by omega);have z5:=hp 5 (by omega);have z6:=hp 6 (by omega);simp only[bM,List.getElem?_toArray,bV,Nat.add_zero]at x3 y3 u0 u1 u2 u3 u4 u5 u6 z0 z1 z2 z3 z4 z5 z6
       clear hq hp;go_wp2_with fail;refine aA [some 10,none,some 1] (by kernel_rfl) (by kernel_rfl) (by kernel_rfl) ?_;simp only[bz,List.take_succ_cons,List.take_zero,List.drop_succ_cons,List.drop_zero];rw[<-hW8];clear hW8
       repeat (first | (refine aD rfl ?_; simp only[Act.put,aH,aI,aJ]) | (refine aM rfl (fun K hK=> ?_); go_simp; refine hK _ ?_; clear hK K))
       refine aL ?_;clear x3 y3 u0 u1 u2 u3 u4 u5 u6 z0 z1 z2 z3 z4 z5 z6 x1 y1 q0 p0;refine bE rfl (fun K hK=> ?_);go_wp2_with (go_at_call 78; refine(ld S T f g (.slice pa1 f.parts.length pc1) (.slice pa2 g.parts.length pc2) _ _ (aP.below HPA1.out HI8.out.below) (aP.below HPA2.out HI8.out.below) HD.out).mono ?_; rintro e wd ⟨rfl,hbd⟩; have HID:=ab (HI8.out.next hbd); clear hbd)
       have x1:=(HID.out.below.cell (p:=⟨w.heap.size,1,none⟩) (lt_of_block HX.out)).trans (ai (k:=1) HX.out);have y1:=(HID.out.below.cell (p:=⟨w.heap.size+1,1,none⟩) (lt_of_block HY.out)).trans (ai (k:=1) HY.out);have p0:=(HID.out.below.cell (p:=⟨b2,o2+m*7,none⟩) hbl2).trans HP0.out;simp only[List.getElem?_toArray,bV]at x1 y1
       repeat (first | (refine aD rfl ?_; simp only[Act.put,aH,aI,aJ]) | (refine aM rfl (fun K hK=> ?_); go_simp; refine hK _ ?_; clear hK K))
       refine aL ?_;go_wp2_with fail;have HC3:jK a.files b.files (n+1) (m+1) out:=by have:=HC2.out; simpa using this
       exact⟨⟨n+1,m+1,_,by omega,by omega,rfl,rfl,HC3,HID.out⟩,by simp only[intOf,Int.toNat_natCast]; omega⟩
      ·have HC3:=ab (show jK a.files b.files (n+1) (m+1) (out++[(g.path,d)]) by have:=HC2.out; rwa [if_neg hd0]at this);obtain⟨W8,hW8⟩: ∃W8:World,W8=w7.drew:=⟨_,rfl⟩;have HI8:=ab (show iF W W8 (.slice av out.length cv) out by rw[hW8]; exact HI7.out.next (Below.refl _ _).drew);have x3:=(HI8.out.below.cell (p:=⟨w.heap.size,1,none⟩) (lt_of_block HX.out)).trans (ai (k:=1) HX.out)
       have y3:=(HI8.out.below.cell (p:=⟨w.heap.size+1,1,none⟩) (lt_of_block HY.out)).trans (ai (k:=1) HY.out);have hq: ∀j,j<7->W8.cell? ⟨b1,o1+n*7+j,none⟩=(bM (.slice pa1 f.parts.length pc1) f)[j]? :=fun j hj=>(HI8.out.below.cell (p:=⟨b1,o1+n*7+j,none⟩) hbl1).trans (HCL1.out j hj)
       have hp: ∀j,j<7->W8.cell? ⟨b2,o2+m*7+j,none⟩=(bM (.slice pa2 g.parts.length pc2) g)[j]? :=fun j hj=>(HI8.out.below.cell (p:=⟨b2,o2+m*7+j,none⟩) hbl2).trans (HCL2.out j hj)
       have u0:=hq 0 (by omega);have u1:=hq 1 (by omega);have u2:=hq 2 (by omega);have u3:=hq 3 (by omega);have u4:=hq 4 (by omega);have u5:=hq 5 (by omega);have u6:=hq 6 (by omega);have z0:=hp 0 (by omega);have z1:=hp 1 (by omega);have z2:=hp 2 (by omega);have z3:=hp 3 (by omega);have z4:=hp 4 (by omega);have z5:=hp 5 (by omega);have z6:=hp 6 (by omega);simp only[bM,List.getElem?_toArray,bV,Nat.add_zero]at x3 y3 u0 u1 u2 u3 u4 u5 u6 z0 z1 z2 z3 z4 z5 z6
       clear hq hp;go_wp2_with fail;refine aA [some 10,none,some 1] (by kernel_rfl) (by kernel_rfl) (by kernel_rfl) ?_;simp only[bz,List.take_succ_cons,List.take_zero,List.drop_succ_cons,List.drop_zero];rw[<-hW8];clear hW8
       repeat (first | (refine aD rfl ?_; simp only[Act.put,aH,aI,aJ]) | (refine aM rfl (fun K hK=> ?_); go_simp; refine hK _ ?_; clear hK K))
       refine aL ?_;clear x3 y3 u0 u1 u2 u3 u4 u5 u6 z0 z1 z2 z3 z4 z5 z6 x1 y1 q0 p0;refine bE rfl (fun K hK=> ?_);go_wp2_with (go_at_call 78; refine(ld S T f g (.slice pa1 f.parts.length pc1) (.slice pa2 g.parts.length pc2) _ _ (aP.below HPA1.out HI8.out.below) (aP.below HPA2.out HI8.out.below) HD.out).mono ?_; rintro e wd ⟨rfl,hbd⟩; have HID:=ab (HI8.out.next hbd); clear hbd)
       have x1:=(HID.out.below.cell (p:=⟨w.heap.size,1,none⟩) (lt_of_block HX.out)).trans (ai (k:=1) HX.out);have y1:=(HID.out.below.cell (p:=⟨w.heap.size+1,1,none⟩) (lt_of_block HY.out)).trans (ai (k:=1) HY.out);have p0:=(HID.out.below.cell (p:=⟨b2,o2+m*7,none⟩) hbl2).trans HP0.out;simp only[List.getElem?_toArray,bV]at x1 y1
       repeat (first | (refine aD rfl ?_; simp only[Act.put,aH,aI,aJ]) | (refine aM rfl (fun K hK=> ?_); go_simp; refine hK _ ?_; clear hK K))
       refine aL ?_;have HAL:=ab ((Below.refl wd.heap.size wd).alloc (Nat.le_refl _) (.cells (eX (g.path,d)).toArray 60));have HOA:=ab (aV HID.out.own HAL.out);have HRL:=ab (fS (n:=1) (sz:=2) (cells:=eX (g.path,d)) (heap_alloc_new wd (.cells (eX (g.path,d)).toArray 60)) rfl (by decide));have HZ:=ab (show W.heap.size<=(wd.alloc (.cells (eX (g.path,d)).toArray 60)).heap.size by have:=HID.out.below.size; simp; omega)
       go_wp2_with (at_builtin; go_must (refine bI Tryz.appChg rfl _ _ rfl W.heap.size (.slice av out.length cv) out.length (gt out) rfl HOA.out _ 1 (eX (g.path,d)) rfl HRL.out jT (by omega) HZ.out ?_); intro v9 w9 hown9 hg9; obtain⟨a9,c9,rfl,-,-⟩:=au hown9; have HO9:=ab hown9; have HG9:=ab hg9; clear hown9 hg9);have HI9:=ab (show iF W w9 (.slice a9 (out.length+1) c9) (out++[(g.path,d)])from⟨by rw[List.length_append,List.length_singleton,gN]; exact HO9.out,aZ (ak HID.out.below HAL.out) HOA.out HG9.out (Nat.le_refl _) HZ.out⟩)
       exact⟨⟨n+1,m+1,_,by omega,by omega,rfl,rfl,HC3.out,HI9.out⟩,by simp only[intOf,Int.toNat_natCast]; omega⟩
   ·have hmm:m=bn:=by omega
    subst hmm;have HC2:=ab (HCI.out.rem HF.out (.inl (by rw[<-HBN.out]; exact Nat.le_refl _)));have q0:=(HI.out.below.cell (p:=⟨b1,o1+n*7,none⟩) hbl1).trans HQ0.out;have HAL:=ab ((Below.refl wr.heap.size wr).alloc (Nat.le_refl _) (.cells (eX (f.path,4)).toArray 60));have HOA:=ab (aV HI.out.own HAL.out);have HRL:=ab (fS (n:=1) (sz:=2) (cells:=eX (f.path,4)) (heap_alloc_new wr (.cells (eX (f.path,4)).toArray 60)) rfl (by decide))
    have HZ:=ab (show W.heap.size<=(wr.alloc (.cells (eX (f.path,4)).toArray 60)).heap.size by have:=HI.out.below.size; simp; omega);go_wp2_with (at_builtin; go_must (refine bI Tryz.appChg rfl _ _ rfl W.heap.size (.slice av out.length cv) out.length (gt out) rfl HOA.out _ 1 (eX (f.path,4)) rfl HRL.out jT (by omega) HZ.out ?_); intro v9 w9 hown9 hg9; obtain⟨a9,c9,rfl,-,-⟩:=au hown9; have HO9:=ab hown9; have HG9:=ab hg9; clear hown9 hg9)
    have HI9:=ab (show iF W w9 (.slice a9 (out.length+1) c9) (out++[(f.path,4)])from⟨by rw[List.length_append,List.length_singleton,gN]; exact HO9.out,aZ (ak HI.out.below HAL.out) HOA.out HG9.out (Nat.le_refl _) HZ.out⟩);exact⟨⟨n+1,m,_,by omega,Nat.le_refl _,rfl,rfl,HC2.out,HI9.out⟩,by simp only[intOf,Int.toNat_natCast]; omega⟩
  ·have hnn:n=an:=by omega
   subst hnn
   by_cases hlm:m<bn
   ·obtain⟨g,hg⟩: ∃g,b.files[m]? =some g:=⟨_,List.getElem?_eq_getElem (show m<b.files.length by rw[<-HBN.out]; exact hlm)⟩;obtain⟨b2,o2,pa2,pc2,rfl,hok2,hpa2,hbl2,-,hcl2⟩:=cQ HBB.out (Below.refl _ _) hg;have HP0:=ab (show W.cell? ⟨b2,o2+m*7,none⟩=some (.string g.path)from hcl2 0 (by omega));have p0:=(HI.out.below.cell (p:=⟨b2,o2+m*7,none⟩) hbl2).trans HP0.out
    have HC2:=ab (HCI.out.add hg (.inl (by rw[<-HAN.out]; exact Nat.le_refl _)));clear hg hok2 hpa2 hcl2;have HAL:=ab ((Below.refl wr.heap.size wr).alloc (Nat.le_refl _) (.cells (eX (g.path,1)).toArray 60));have HOA:=ab (aV HI.out.own HAL.out);have HRL:=ab (fS (n:=1) (sz:=2) (cells:=eX (g.path,1)) (heap_alloc_new wr (.cells (eX (g.path,1)).toArray 60)) rfl (by decide))
    have HZ:=ab (show W.heap.size<=(wr.alloc (.cells (eX (g.path,1)).toArray 60)).heap.size by have:=HI.out.below.size; simp; omega);go_wp2_with (at_builtin; go_must (refine bI Tryz.appChg rfl _ _ rfl W.heap.size (.slice av out.length cv) out.length (gt out) rfl HOA.out _ 1 (eX (g.path,1)) rfl HRL.out jT (by omega) HZ.out ?_); intro v9 w9 hown9 hg9; obtain⟨a9,c9,rfl,-,-⟩:=au hown9; have HO9:=ab hown9; have HG9:=ab hg9; clear hown9 hg9)
    have HI9:=ab (show iF W w9 (.slice a9 (out.length+1) c9) (out++[(g.path,1)])from⟨by rw[List.length_append,List.length_singleton,gN]; exact HO9.out,aZ (ak HI.out.below HAL.out) HOA.out HG9.out (Nat.le_refl _) HZ.out⟩);exact⟨⟨n,m+1,_,Nat.le_refl _,by omega,rfl,rfl,HC2.out,HI9.out⟩,by simp only[intOf,Int.toNat_natCast]; omega⟩
   ·have hmm:m=bn:=by omega
    subst hmm;have HOUT:=ab (HCI.out.done (by rw[<-HAN.out]; exact Nat.le_refl _) (by rw[<-HBN.out]; exact Nat.le_refl _));go_wp2_with fail;go_ret;refine⟨_,rfl, ?_,HBW.out.trans (HI.out.below.mono (by have:=HSZ.out; omega))⟩;rw[<-HOUT.out];exact ci HI.out.own (by have:=HSZ.out; omega)
end Go.Proofs.YtnjkpcalgoefhaaGreatDoor
namespace Go.Proofs.YtnjkpcalgoefhaaGreatDoor
open Go Go.RowKit
def Da {α:Type} (Kp:World->World->Prop) (I:List α->World->Prop) (Ix:Code->List α->World->Prop) (xs:List α) (W:World):Exit->Act->World->Prop
 | .normal,_,B=>KeepsOthers W B/\Kp W B/\I xs B
 | .ret,_,B=>KeepsOthers W B/\Ix .ret xs B
 | .exit id,_,B=>KeepsOthers W B/\Ix (.exit id) xs B
 | .goto t,_,B=>KeepsOthers W B/\Ix (.goto t) xs B
 | .panic _,_,_=>False
 | .outgrown,_,_=>False
section
variable {P : Program} {α : Type}
theorem wL {W W':World} (h:Below W.heap.size W W'):W.grownBy W' none:=⟨h.os,h.tape,h.output,h.size,fun k hk _=>h.block k hk⟩
theorem oL {W:World} {l:Nat} {r:Loop} (h:W.heap[l]? =some (.loop r)) (o:Obj):(W.putObj l o).heap[l]? =some o:=World.putObj_heap_same (Array.getElem?_eq_some_iff.1 h).1
end
def yp {σ:Type} (mt:TypeId) (n:Nat) (I:σ->World->Prop):Prop:=
 ∀s A B row,I s A->A.grownBy B row->(∀r,row=some r->n<=r/\ ∃cs,A.heap[r]? =some (.cells cs mt (0,0)))->I s B
def Gl {α:Type} (P:Program) (g:Nat) (lb:Array Value) (encs:α->Array Value) (D:List α->α->World->Prop) (Kp:World->World->Prop) (S Sp:List α->Prop) (N:Nat) (mt:TypeId) (w:World):Prop:=
 ∀(l:Nat) (J Jx:List α->World->Prop) (W:World),Below w.heap.size w W->yp mt W.heap.size J->
  (∀pre x A,J pre A->D pre x A->pre.length<N->YieldAt Fence.wide 2 P l (encs x) A fun e B=>(e= .returned (.bool true)/\J (pre++[x]) B/\Kp A B)\/(e= .returned (.bool false)/\Jx (pre++[x]) B))->
  J [] W->
  CallsIn Fence.wide 3 P g (#[.func (.yield l) #[] #[]]++lb) W fun e B=>(∃v,e= .returned v)/\((∃xs,S xs/\J xs B)\/(∃pre,Sp pre/\Jx pre B))
section
variable {P : Program} {α : Type}
theorem Bo {g:Operand} {ps:Array Tmp} {assign body:Code} {Q:Exit->Act->World->Prop} {a:Act} {w:World} {gf:Nat} {lb:Array Value} (hg:a.eval g= .func (.func gf) #[] lb) (eg: ∀args w,(callFunc gf args).run P w= .ok (.enter gf args) w)
  {encs:α->Array Value} {D:List α->α->World->Prop} {Kp:World->World->Prop} {S Sp:List α->Prop} {N:Nat} {mt:TypeId} (hseq:Gl P gf lb encs D Kp S Sp N mt w)
  (hKt: ∀ {A B C:World},Kp A B->Kp B C->Kp A C) (hKb: ∀(W:World) (l:Nat) (o o':Obj),w.heap.size<=l->W.heap[l]? =some o->o.isCells=false->o.isWalk=false->Kp W (W.putObj l o')) (hps: ∀x,(encs x).size=ps.size)
  (I:List α->World->Prop) (Ix:Code->List α->World->Prop) (Ax:List α->α->Act->World->Prop) (hI:OwnFrom w.heap.size I) (hI2:yp mt w.heap.size I) (hIx: ∀c,OwnFrom w.heap.size (Ix c))
  (hAx:OwnFrom w.heap.size (fun(s:List α×α×Act) W=>Ax s.1 s.2.1 s.2.2 W)) (h0:I [] w)
  (hassign: ∀(l:Nat) (pre:List α) (x:α) (W:World),w.heap.size<W.heap.size->I pre W->D pre x W->pre.length<N->assign.wpIn (Fence.wide.inRound l) 2 P (Exit.then (fun a₁ B=>KeepsOthers W B/\Kp W B/\Ax pre x a₁ B) (fun _ _ _=>False)) {tmps:=(ps.zip (encs x)).foldl (fun t (p,v)=>t.setIfInBounds p v) a.tmps,defers:=[]} W)
  (hbody: ∀(l:Nat) (pre:List α) (x:α) (a₁:Act) (W:World),Ax pre x a₁ W->body.wpIn (Fence.wide.inRound l) 2 P (Da Kp I Ix (pre++[x]) W) a₁ W)
  (hdone: ∀(Dl:Nat) (xs:List α) (W:World),w.heap.size<=Dl->S xs->I xs W->W.heap[Dl]? =some (.deferred (some []))->Q .normal {a with defers:= {target:= .collected Dl,args:= #[]} ::a.defers} W)
  (hstop: ∀(Dl:Nat) (c:Code) (pre:List α) (W:World),w.heap.size<=Dl->Sp pre->Ix c pre W->W.heap[Dl]? =some (.deferred (some []))->c.wp P Q {a with defers:= {target:= .collected Dl,args:= #[]} ::a.defers} W):
  (Code.rangeFunc g ps assign body).wp P Q a w:=by
 refine(wpIn_wide (n:=4)).1 (wpIn_rangeFunc (fun fn hfn=> ?_))
 show ∃l mark w₁ d w₁' f args w₂,_
 let rec_:LoopState->Option Code->Loop:=fun st pe=> {state:=st,pending:=pe,fn:=fn,tmps:=a.tmps,params:=ps,assign:=assign,body:=body,defers:=w.heap.size}
 obtain⟨rec,hrec⟩: ∃r,r=rec_:=⟨_,rfl⟩;have hrp: ∀st pe,(rec st pe).params=ps:=fun st pe=>by rw[hrec]
 have hrs: ∀st pe,(rec st pe).state=st:=fun st pe=>by rw[hrec]
 have hrj: ∀st pe,(rec st pe).pending=pe:=fun st pe=>by rw[hrec]
 obtain⟨L,hL⟩: ∃L,L=w.heap.size+1:=⟨_,rfl⟩;obtain⟨V,hV⟩: ∃V,(w.alloc (.deferred (some []))).alloc (.loop (rec .ready none))=V:=⟨_,rfl⟩;have hVL:V.heap[L]? =some (.loop (rec .ready none)):=by
  rw[<-hV,hL]; have:=World.alloc_heap_new (w.alloc (.deferred (some []))) (.loop (rec .ready none)); rwa [World.size_alloc]at this
 have hVD:V.heap[w.heap.size]? =some (.deferred (some [])):=by
  rw[<-hV]; exact(Below.heap_alloc _ _ _ (by simp)).trans (World.alloc_heap_new w _)
 have hVI:I [] V:=by rw[<-hV]; exact hI.alloc _ (hI.alloc _ h0)
 have hVB:Below w.heap.size w V:=by rw[<-hV]; exact((Below.refl _ w).alloc (Nat.le_refl _) _).alloc (by simp) _
 let J:List α->World->Prop:=fun pre W=>I pre W/\W.heap[L]? =some (.loop (rec .ready none))/\W.heap[w.heap.size]? =some (.deferred (some []))
 let Jx:List α->World->Prop:=fun pre W=> ∃c,Ix c pre W/\W.heap[L]? =some (.loop (rec .done (some c)))/\W.heap[w.heap.size]? =some (.deferred (some []))
 have hVs:w.heap.size+2<=V.heap.size:=by rw[<-hV]; simp
 have hJ:yp mt V.heap.size J:=by
  rintro s A B row ⟨h1,h2,h3⟩ hg hr;have hne: ∀(k:Nat) (o:Obj),A.heap[k]? =some o->o.isCells=false->row≠some k:=fun k o hk hw e=>by
   obtain⟨_,cs,ho⟩:=hr k e;rw[hk]at ho; cases ho; cases hw
  refine⟨hI2 s A B row h1 hg (fun r e=> ?_), ?_, ?_⟩
  ·obtain⟨h4,cs,ho⟩:=hr r e;exact⟨by omega,cs,ho⟩
  ·exact(hg.block _ (Array.getElem?_eq_some_iff.1 h2).1 (fun e=>hne _ _ h2 rfl e.symm)).trans h2
  ·exact(hg.block _ (Array.getElem?_eq_some_iff.1 h3).1 (fun e=>hne _ _ h3 rfl e.symm)).trans h3
 have hend: ∀(jump:Option Code) (W B:World),W.heap[L]? =some (.loop (rec .busy none))->W.heap[w.heap.size]? =some (.deferred (some []))->KeepsOthers W B->
   (Instr.endRound L jump).run P B= .ok (.bool jump.isNone) (B.putObj L (.loop (rec (if jump.isNone then .ready else .done) jump)))/\B.heap[L]? =some (.loop (rec .busy none))/\
   (B.putObj L (.loop (rec (if jump.isNone then .ready else .done) jump))).heap[L]? =some (.loop (rec (if jump.isNone then .ready else .done) jump))/\
   (B.putObj L (.loop (rec (if jump.isNone then .ready else .done) jump))).heap[w.heap.size]? =some (.deferred (some [])):=by
  intro jump W B h1 h2 hk;have hb:=hk.same _ _ h1 rfl;have hd:=hk.same _ _ h2 rfl;have:=run_endRound (P:=P) jump hb;refine⟨?_,hb,oL hb _,(World.putObj_heap_other (by omega)).trans hd⟩;rw[this,hrec]
 have hround: ∀pre x A,J pre A->D pre x A->pre.length<N->YieldAt Fence.wide 2 P L (encs x) A fun e B=>(e= .returned (.bool true)/\J (pre++[x]) B/\Kp A B)\/(e= .returned (.bool false)/\Jx (pre++[x]) B):=by
  rintro pre x A ⟨hi,hl,hk⟩ hd hN;have hlt:L<A.heap.size:=(Array.getElem?_eq_some_iff.1 hl).1;have hy:=run_yield (P:=P) (args:=encs x) hl (by rw[hrp]; exact hps x);refine⟨_,_,_,_,hy, ?_⟩;rw[hrec];refine roundIn_of_wpIn hfn (wpIn_mono (hassign L pre x A (by omega) hi hd hN) ?_);rintro e a₁ B hB
  cases e with
  | normal=>
   obtain⟨hko,hkp,hax⟩:=hB;have hl1:=hko.same _ _ hl rfl;have hk1:=hko.same _ _ hk rfl;have hbr:=run_beginRound (P:=P) hl1 (hrs _ _);refine⟨_,hbr, ?_⟩;have hbz:({rec .ready none with state:= .busy} :Loop)=rec .busy none:=by rw[hrec]
   rw[hbz];have hl2:=oL hl1 (.loop (rec .busy none));have hk2:(B.putObj L (.loop (rec .busy none))).heap[w.heap.size]? =some (.deferred (some [])):=(World.putObj_heap_other (by omega)).trans hk1;have hax2:Ax pre x a₁ (B.putObj L (.loop (rec .busy none))):=hAx.putObj (s:=(pre,x,a₁)) _ hax (by omega) hl1 rfl;have hkp2:Kp A (B.putObj L (.loop (rec .busy none))):=hKt hkp (hKb _ _ _ _ (by omega) hl1 rfl rfl)
   refine wpIn_mono (hbody L pre x a₁ _ hax2) ?_;rintro e a3 C hC
   cases e with
   | normal=>
    obtain⟨c1,c2,c3⟩:=hC;obtain⟨r1,r2,r3,r4⟩:=hend none _ C hl2 hk2 c1;exact⟨_,_,r1, .inl ⟨rfl,⟨hI.putObj _ c3 (by omega) r2 rfl,r3,r4⟩,hKt (hKt hkp2 c2) (hKb _ _ _ _ (by omega) r2 rfl rfl)⟩⟩
   | ret=>
    obtain⟨c1,c3⟩:=hC;obtain⟨r1,r2,r3,r4⟩:=hend (some .ret) _ C hl2 hk2 c1;exact⟨_,_,r1, .inr ⟨rfl,_,(hIx _).putObj _ c3 (by omega) r2 rfl,r3,r4⟩⟩
   | exit id=>
    obtain⟨c1,c3⟩:=hC;obtain⟨r1,r2,r3,r4⟩:=hend (some (.exit id)) _ C hl2 hk2 c1;exact⟨_,_,r1, .inr ⟨rfl,_,(hIx _).putObj _ c3 (by omega) r2 rfl,r3,r4⟩⟩
   | goto t=>
    obtain⟨c1,c3⟩:=hC;obtain⟨r1,r2,r3,r4⟩:=hend (some (.goto t)) _ C hl2 hk2 c1;exact⟨_,_,r1, .inr ⟨rfl,_,(hIx _).putObj _ c3 (by omega) r2 rfl,r3,r4⟩⟩
   | panic ch=>exact hC.elim
   | outgrown=>exact hC.elim
  | ret=>exact hB.elim
  | exit id=>exact hB.elim
  | goto t=>exact hB.elim
  | panic ch=>exact hB.elim
  | outgrown=>exact hB.elim
 refine⟨L,[{target:= .collected w.heap.size,args:= #[]}],V,{target:= .fn (.func gf) lb,args:= #[.func (.yield L) #[] #[]]},V,gf, #[.func (.yield L) #[] #[]]++lb,V, ?_, ?_,fun _ _=>trivial, ?_,fun _=>by omega, ?_⟩
 ·rw[<-hV,hL,hrec]; exact run_enterLoop_outer _ _ _ _ _
 ·simp only[resolve,hg];simp[go_sem]
 ·simp[invoke,go_sem,eg]
 ·refine(hseq L J Jx V hVB hJ hround ⟨hVI,hVL,hVD⟩).mono ?_;rintro e B ⟨⟨v,rfl⟩,hB⟩
  rcases hB with⟨xs,hS,hi,hl,hk⟩ | ⟨pre,hS,c,hi,hl,hk⟩
  ·have:=run_endLoop (P:=P) hl (by rw[hrs]; simp);rw[hrj]at this;exact⟨none,_,this,hdone _ xs _ (Nat.le_refl _) hS (hI.putObj _ hi (by omega) hl rfl) ((World.putObj_heap_other (by omega)).trans hk)⟩
  ·have:=run_endLoop (P:=P) hl (by rw[hrs]; simp);rw[hrj]at this;exact⟨some c,_,this,(wpIn_wide (n:=4)).2 (hstop _ c pre _ (Nat.le_refl _) hS ((hIx c).putObj _ hi (by omega) hl rfl) ((World.putObj_heap_other (by omega)).trans hk))⟩
end
end Go.Proofs.YtnjkpcalgoefhaaGreatDoor
namespace Go.Proofs.YtnjkpcalgoefhaaGreatDoor
open Go.RowKit
def ep :Nat->Nat->List UInt8
 | 0,n=>[UInt8.ofNat n]
 | f+1,n=>if 127<n then UInt8.ofNat (n%128+128)::ep f (n/128)else [UInt8.ofNat n]
def aB (n:Nat):List UInt8:=ep 10 n
theorem vk : ∀(f n:Nat),(ep f n).length<=f+1
 | 0,_=>by simp[ep]
 | f+1,n=>by
  rw[ep]
  split
  ·have:=vk f (n/128); simp; omega
  ·simp
theorem dP (n:Nat):(aB n).length<=11:=vk 10 n
def Bt (bs:List UInt8) (w:World) (e:Ending) (w':World):Prop:= ∃v,e= .returned v/\bi (w.heap.size<= ·) w' v bs/\Below w.heap.size w w'
theorem kE {n:Nat} (h:n<256):aN (UInt8.ofNat n)= .int .u8 (n:Int):=by
 unfold aN; rw[UInt8.toNat_ofNat_of_lt' (by exact h)]
theorem mh (b:UInt8): ∀u∈[aN b],u.oneCell'=true:=by simp[aN,Value.oneCell']
theorem fQ (n:Nat) (w:World) (hn:n<18446744073709551616):Calls Tryz.prog 92 #[.int .u64 (n:Int)] w (Bt (aB n) w):=by
 have HO:=ab (World.ownsRow_lit (e:=5) (size:=1) (base:=w.heap.size) w #[] 0 (Nat.le_refl _) (Nat.zero_le _) (by simp));have HB:=ab ((Below.refl w.heap.size w).alloc (Nat.le_refl _) (.cells #[] 5))
 go_enter Tryz.func92,Tryz.ntmps92
 go_wp2_with fail
 go_loopw [0,3] (fun x o wr=> ∃(f m:Nat) (acc:List UInt8),x= .int .u64 (m:Int)/\m<18446744073709551616/\m<2^(7*f)/\acc++ep f m=aB n/\wr.ownsRow w.heap.size 5 1 o acc.length (acc.map aN)/\acc.length<=20/\Below w.heap.size w wr) (fun x _ _=>(intOf x).toNat)
 case atStart=>exact⟨10,n,[],rfl,hn,Nat.lt_trans hn (by decide),rfl,HO.out,by simp,HB.out⟩
 case round=>
  obtain⟨f,m,acc,rfl,hm,hmf,henc,hown,hal,hb⟩:=hrel;have HE:=ab henc;have HO2:=ab hown;have HB2:=ab hb;have HMF:=ab hmf;have hbz:=hb.size;obtain⟨ao,co,rfl,h1,h2⟩:=au hown;clear henc hown hb hmf HO HB
  by_cases hlt:127<m
  ·have hv:Value.int .u8 ((m:Int)%128+128)=aN (UInt8.ofNat (m%128+128)):=by rw[kE (by omega)]; simp
   have HV:=ab hv;obtain⟨f,rfl⟩: ∃g,f=g+1:=⟨f-1,by
    cases f with
    | zero=>have:=HMF.out; simp at this; omega
    | succ g=>rfl⟩
   have HE2:=ab (show(acc++[UInt8.ofNat (m%128+128)])++ep f (m/128)=aB n by rw[<-HE.out,ep,if_pos hlt]; simp);have HMF2:=ab (show m/128<2^(7*f) by
    have h3:=HMF.out;rw[show 7*(f+1)=7*f+7 by omega,Nat.pow_add]at h3;exact Nat.div_lt_of_lt_mul (by omega))
   have hal2:acc.length<=10:=by
    have h4:=dP n;rw[<-HE.out,List.length_append,ep,if_pos hlt,List.length_cons]at h4;omega
   clear hv;go_wp2_with (at_builtin; go_must (refine dB Tryz.appBytes rfl _ _ rfl w.heap.size (.slice ao acc.length co) acc.length (acc.map aN) rfl wr [.int .u8 ((m:Int)%128+128)] _ rfl rfl (by rw[HV.out]; exact mh _) HO2.out (by omega) hbz ?_); intro v' wc hown' hgrow' _; have HB3:=ab (aZ HB2.out HO2.out hgrow' (Nat.le_refl _) hbz); have HO3:=ab (show wc.ownsRow w.heap.size 5 1 v' (acc++[UInt8.ofNat (m%128+128)]).length ((acc++[UInt8.ofNat (m%128+128)]).map aN) by rw[List.length_append,List.map_append,List.map_cons,List.map_nil,<-HV.out]; exact hown'); obtain⟨ae,ce,rfl,-,-⟩:=au hown'; clear hown' hgrow')
   go_roundw
   case rel=>exact⟨f,m/128,acc++[UInt8.ofNat (m%128+128)],by simp,by omega,HMF2.out,HE2.out,HO3.out,by simp; omega,HB3.out⟩
   case measure=>simp[intOf]; omega
  ·have hv:Value.int .u8 (m:Int)=aN (UInt8.ofNat m):=by rw[kE (by omega)]
   have HV:=ab hv;have HE2:=ab (show acc++[UInt8.ofNat m]=aB n by
    rw[<-HE.out]
    cases f with
    | zero=>rfl
    | succ f=>rw[ep,if_neg hlt])
   clear hv;go_wp2_with (at_builtin; go_must (refine dB Tryz.appBytes rfl _ _ rfl w.heap.size (.slice ao acc.length co) acc.length (acc.map aN) rfl wr [.int .u8 (m:Int)] _ rfl rfl (by rw[HV.out]; exact mh _) HO2.out (by omega) hbz ?_); intro v' wc hown' hgrow' _; have HB3:=ab (aZ HB2.out HO2.out hgrow' (Nat.le_refl _) hbz); have HO3:=ab (show wc.ownsRow w.heap.size 5 1 v' (acc++[UInt8.ofNat m]).length ((acc++[UInt8.ofNat m]).map aN) by rw[List.length_append,List.map_append,List.map_cons,List.map_nil,<-HV.out]; exact hown'); obtain⟨ae,ce,rfl,-,-⟩:=au hown'; clear hown' hgrow')
   go_ret;rw[<-HE2.out];exact⟨_,rfl,(bp HO3.out).weak (fun k hk=>hk.1),HB3.out⟩
structure eB where
 kind:Int
 u:Nat
 n:Int
 b:Bool
 s:ByteArray
 most:Int
def qe (x:eB):List Value:=[.int .i64 x.kind, .int .u64 (x.u:Int), .int .i64 x.n, .bool x.b, .string x.s, .int .i64 x.most]
structure tY (x : eB) : Prop where
 u:x.u<18446744073709551616
 n: -9223372036854775808<=x.n/\x.n<=9223372036854775807
 s:x.s.size<=65536
 k:x.kind≠2
def RvR (c:List Value) (x:eB):Prop:=c=qe x/\tY x
theorem RvR.len (c:List Value) (x:eB) (h:RvR c x):c.length=6:=by rw[h.1]; rfl
def BD (S:Nat->Prop) (w:World) (v:Value) (l:List eB):Prop:=aY S w 6 RvR v l
theorem FY {S:Nat->Prop} {w w':World} {a:Option Addr} {n cap:Nat} {l:List eB} (hv:BD S w (.slice a n cap) l) (hb:Below w.heap.size w w') {k:Nat} {x:eB} (hr:l[k]? =some x):
  ∃b o,a=some ⟨b,o,none⟩/\tY x/\ ∀j,j<6->w'.cell? ⟨b,o+k*6+j,none⟩=(qe x)[j]? :=by
 obtain⟨a',cap',hv',_,_,hx⟩:=aY.shape hv RvR.len
 cases hv'
 obtain⟨b,o,c,rfl,hS,⟨rfl,hok⟩,_,hcl⟩:=hx k x hr;have q0:=hcl 0 (by omega);have hlt:b<w.heap.size:=aE (a:=⟨b,o+(k*6+0),none⟩) (v:= .int .i64 x.kind) q0;refine⟨b,o,rfl,hok,fun j hj=> ?_⟩;rw[Nat.add_assoc];exact(hb.cell (p:=⟨b,o+(k*6+j),none⟩) hlt).trans (hcl j hj)
def fd (x:eB):Except Int (List UInt8):=
 if x.kind=1 then .ok (aB x.u)
 else if x.kind=3 then .ok [if x.b then 1 else 0]
 else if x.kind=4\/x.kind=5 then .ok (aB x.s.size++bl x.s)
 else if x.kind=6 then(if x.s.size=32 then .ok (bl x.s)else .error 1)
 else if x.kind=7 then(if x.n<0 then .error 1 else .ok (aB x.n.toNat))
 else .ok []
def bR :List eB->Except Int (List UInt8)
 | []=> .ok []
 | x::l=>match fd x with
  | .error e=> .error e
  | .ok a=>match bR l with
   | .error e=> .error e
   | .ok b=> .ok (a++b)
theorem lF {x:eB} {e:Int} : ∀ {l:List eB} {k:Nat} {a:List UInt8},bR (l.take k)= .ok a->l[k]? =some x->fd x= .error e->bR l= .error e
 | [],k,a,_,h2,_=>by simp at h2
 | y::l,0,a,_,h2,h3=>by
  simp at h2; subst h2;simp only[bR,h3]
 | y::l,k+1,a,h1,h2,h3=>by
  rw[List.take_succ_cons,bR]at h1
  cases hy:fd y with
  | error e=>rw[hy]at h1; simp at h1
  | ok b=>
   rw[hy]at h1;simp only at h1
   cases hk:bR (l.take k)with
   | error e=>rw[hk]at h1; simp at h1
   | ok c=>
    have:=lF hk (by simpa using h2) h3;simp only[bR,hy,this]
theorem dq {x:eB} {b:List UInt8} : ∀ {l:List eB} {a:List UInt8},bR l= .ok a->fd x= .ok b->bR (l++[x])= .ok (a++b)
 | [],a,h1,h2=>by
  simp only[bR,Except.ok.injEq]at h1;subst h1;simp[bR,h2]
 | y::l,a,h1,h2=>by
  rw[bR]at h1
  cases hy:fd y with
  | error e=>rw[hy]at h1; simp at h1
  | ok c=>
   rw[hy]at h1;simp only at h1
   cases hk:bR l with
   | error e=>rw[hk]at h1; simp at h1
   | ok d=>
    rw[hk]at h1;simp only[Except.ok.injEq]at h1;subst h1;simp only[List.cons_append,bR,hy,dq hk h2,List.append_assoc]
def tz (l:List eB):Except Int (List UInt8):=match bR l with
 | .error e=> .error e
 | .ok out=>if 1048576<out.length then .error 2 else .ok out
def Bv (res:Except Int (List UInt8)) (w:World) (e:Ending) (w':World):Prop:=Below w.heap.size w w'/\match res with
 | .error x=>e= .returned (.tuple #[.slice none 0 0, .int .i64 x])/\x≠0
 | .ok bs=> ∃v,e= .returned (.tuple #[v, .int .i64 0])/\bi (w.heap.size<= ·) w' v bs
theorem vY (s:ByteArray):Lib.strCells s=(bl s).map aN:=rfl
theorem eN {ops:Array Oper} {rest:List Oper} {o:Oper} {a:Act} {Q:Exit->Act->World->Prop} {w:World} (hgd:o.guard=none) (sl x:Operand)
  (ho:o.op= .call {callee:= .builtin .append,args:= #[sl,x],argTypes:= #[28,9]}) (base:Nat) (v:Value) (acc:List UInt8) (hs:a.eval sl=v) (hown:w.ownsRow base 5 1 v acc.length (acc.map aN)) (s:ByteArray) (hx:a.eval x= .string s)
  (hn:acc.length+s.size<1099511627775) (hbase:base<=w.heap.size)
  (h: ∀v' w',w'.ownsRow base 5 1 v' (acc.length+s.size) (acc.map aN++(bl s).map aN)->w.grownBy w' v.ownBlock->wpList Tryz.prog ops Q rest (a.put o.dst v') w'):wpList Tryz.prog ops Q (o::rest) a w:=by
 obtain⟨ht,⟨i,z,h11,h12,h13,h14,h15⟩,hpos,hsm⟩:=Tryz.appBytes;have hz:i.zero=some (.int .u8 0):=by
  have:(Tryz.prog.info? 5).map (fun i=>i.zero)=some (some (.int .u8 0)):=by kernel_rfl
  rw[h11]at this;exact Option.some.inj this
 refine Lib.wpList_append_own_string w hgd sl x 28 9 ho base 5 i ht Tryz.underlying9 h11 hz h13 h14 v acc.length _ hs hown s hx (by unfold maxLen; omega) (by omega) hbase fun v' w' h1 h2 _=>h v' w' ?_ h2
 rw[<-vY];exact h1
theorem pM {w:World} {base:Nat} {e:TypeId} {sz:Nat} {v:Value} {n:Nat} {xs:List Value} {k:Nat} (h:w.ownsRow base e sz v n xs) (hk:v.ownBlock=some k): ∃cs,w.heap[k]? =some (.cells cs e (0,0)):=by
 obtain⟨_,h2⟩:=h
 rcases h2 with⟨rfl,rfl⟩ | ⟨g,cap,cur,rfl,_,hh,_⟩
 ·cases hk
 ·have:g=k:=by simpa [Value.ownBlock]using hk
  subst this;exact⟨cur,hh⟩
theorem wX (S:Nat->Prop) (v:Value) (l:List eB) (w:World) (hv:BD S w v l) (hlen:l.length<=1000000):Calls Tryz.prog 58 #[v] w (Bv (tz l) w):=by
 obtain⟨a,cap,rfl,hc,hm,-⟩:=aY.shape hv RvR.len;unfold maxLen at hm;have HV:=ab hv;have HO0:=ab (World.ownsRow_lit (e:=5) (size:=1) (base:=w.heap.size) w #[] 0 (Nat.le_refl _) (Nat.zero_le _) (by simp));have HB0:=ab ((Below.refl w.heap.size w).alloc (Nat.le_refl _) (.cells #[] 5));clear hv
 go_enter Tryz.func58,Tryz.ntmps58
 go_wp2_with fail
 go_loopw [4,5] (fun o i wr=> ∃(k:Nat) (acc:List UInt8),k<=l.length/\i= .int .i64 k/\bR (l.take k)= .ok acc/\wr.ownsRow w.heap.size 5 1 o acc.length (acc.map aN)/\acc.length<=k*65556/\Below w.heap.size w wr) (fun _ i _=>l.length-(intOf i).toNat)
 case atStart=>exact⟨0,[],Nat.zero_le _,rfl,rfl,HO0.out,by simp,HB0.out⟩
 case round=>
  obtain⟨k,acc,hk,rfl,henc,hown,hal,hb⟩:=hrel;have HE:=ab henc;have HO:=ab hown;have HB:=ab hb;obtain⟨ao,co,rfl,hn1,hn2⟩:=au hown;clear henc hown hb HO0 HB0
  by_cases hlt:k<l.length
  ·obtain⟨x,hx⟩: ∃x,l[k]? =some x:=⟨l[k],by simp[hlt]⟩;obtain⟨b0,o,rfl,hok,hcl⟩:=FY HV.out HB.out hx;have HG:=ab hx;have HSN:=ab (aX hx);have hus:=hok.u;have hss:=hok.s;have hk2:=hok.k;obtain⟨hnw1,hnw2⟩:=hok.n;have q0:=hcl 0 (by omega);have q1:=hcl 1 (by omega);have q2:=hcl 2 (by omega);have q3:=hcl 3 (by omega);have q4:=hcl 4 (by omega);have q5:=hcl 5 (by omega)
   simp only[qe,bV,Nat.add_zero]at q0 q1 q2 q3 q4 q5;obtain⟨kd,u,n,b,s,mo⟩:=x;simp only at hus hss hk2 hnw1 hnw2 q0 q1 q2 q3 q4 q5;clear hx hcl hok;have HAL:=ab ((Below.refl wr.heap.size wr).alloc (Nat.le_refl _) (.cells #[.int .i64 kd, .int .u64 (u:Int), .int .i64 n, .bool b, .string s, .int .i64 mo] 118));have HO1:=ab (eS HO.out HAL.out);have HB1:=ab (ak HB.out HAL.out)
   by_cases h1:kd=1
   ·subst h1;have HX:=ab (show fd ⟨1,u,n,b,s,mo⟩= .ok (aB u)from rfl);have HBD:=ab (show acc.length+(aB u).length<=(k+1)*65556 by have:=dP u; omega);have hnl:=dP u;go_wp2_with fail;refine(fQ u _ (by omega)).mono ?_;rintro e w1 ⟨nv,rfl,hnv,hb1⟩;have HNV:=ab hnv;have HBL:=ab (ak HB1.out hb1);have HOL:=ab (eS HO1.out hb1)
    have hbz:=HBL.out.size;obtain⟨_,na,nc,rfl,hnn1,hnn2,-⟩:=hnv;clear hb1 q0 q1 q2 q3 q4 q5;go_wp2_with (at_builtin; go_must (refine bI Tryz.appBytes rfl _ _ rfl w.heap.size (.slice ao acc.length co) acc.length (acc.map aN) rfl HOL.out _ (aB u).length ((aB u).map aN) rfl HNV.out (fD _) (by omega) hbz ?_); intro v' wc hown' hgrow'; have HO3:=ab hown'; have HB3:=ab (aZ HBL.out HOL.out hgrow' (Nat.le_refl _) hbz); obtain⟨ae,ce,rfl,-,-⟩:=au hown'; clear hown' hgrow')
    go_roundw
    case rel=>exact⟨k+1,acc++(aB u),by omega,by go_num,by rw[HSN.out]; exact dq HE.out HX.out,by rw[List.length_append,List.map_append]; exact HO3.out,by rw[List.length_append]; exact HBD.out,HB3.out⟩
    case measure=>simp[intOf]; omega
   ·by_cases h3:kd=3
    ·subst h3;have hbz:=HB1.out.size
     cases b
     ·have HX:=ab (show fd ⟨3,u,n,false,s,mo⟩= .ok [0]from rfl);have HBD:=ab (show acc.length+([0]:List UInt8).length<=(k+1)*65556 by simp; omega);obtain⟨W,hW⟩: ∃W:World,W=wr.alloc (.cells #[.int .i64 3, .int .u64 (u:Int), .int .i64 n, .bool false, .string s, .int .i64 mo] 118):=⟨_,rfl⟩;rw[<-hW]at HO1 HB1 hbz;clear HAL
      go_upto_region 14 with(fail)
      rw[<-hW];clear hW q0 q1 q2 q3 q4 q5;go_wp2_with (at_builtin; go_must (refine dB Tryz.appBytes rfl _ _ rfl w.heap.size (.slice ao acc.length co) acc.length (acc.map aN) rfl W [.int .u8 0] _ rfl rfl (mh 0) HO1.out (by omega) hbz ?_); intro v' wc hown' hgrow' _; have HO3:=ab (show wc.ownsRow w.heap.size 5 1 v' (acc.length+([0]:List UInt8).length) (acc.map aN++([0]:List UInt8).map aN)from hown'); have HB3:=ab (aZ HB1.out HO1.out hgrow' (Nat.le_refl _) hbz); obtain⟨ae,ce,rfl,-,-⟩:=au hown'; clear hown' hgrow')
      go_roundw
      case rel=>exact⟨k+1,acc++([0]:List UInt8),by omega,by go_num,by rw[HSN.out]; exact dq HE.out HX.out,by rw[List.length_append,List.map_append]; exact HO3.out,by rw[List.length_append]; exact HBD.out,HB3.out⟩
      case measure=>simp[intOf]; omega
     ·have HX:=ab (show fd ⟨3,u,n,true,s,mo⟩= .ok [1]from rfl);have HBD:=ab (show acc.length+([1]:List UInt8).length<=(k+1)*65556 by simp; omega);obtain⟨W,hW⟩: ∃W:World,W=wr.alloc (.cells #[.int .i64 3, .int .u64 (u:Int), .int .i64 n, .bool true, .string s, .int .i64 mo] 118):=⟨_,rfl⟩;rw[<-hW]at HO1 HB1 hbz;clear HAL
      go_upto_region 13 with(fail)
      rw[<-hW];clear hW q0 q1 q2 q3 q4 q5;go_wp2_with (at_builtin; go_must (refine dB Tryz.appBytes rfl _ _ rfl w.heap.size (.slice ao acc.length co) acc.length (acc.map aN) rfl W [.int .u8 1] _ rfl rfl (mh 1) HO1.out (by omega) hbz ?_); intro v' wc hown' hgrow' _; have HO3:=ab (show wc.ownsRow w.heap.size 5 1 v' (acc.length+([1]:List UInt8).length) (acc.map aN++([1]:List UInt8).map aN)from hown'); have HB3:=ab (aZ HB1.out HO1.out hgrow' (Nat.le_refl _) hbz); obtain⟨ae,ce,rfl,-,-⟩:=au hown'; clear hown' hgrow')
      go_roundw
      case rel=>exact⟨k+1,acc++([1]:List UInt8),by omega,by go_num,by rw[HSN.out]; exact dq HE.out HX.out,by rw[List.length_append,List.map_append]; exact HO3.out,by rw[List.length_append]; exact HBD.out,HB3.out⟩
      case measure=>simp[intOf]; omega
    ·by_cases h4:kd=4\/kd=5
     ·have HX:=ab (show fd ⟨kd,u,n,b,s,mo⟩= .ok (aB s.size++bl s) by simp only[fd,if_neg h1,if_neg h3,if_pos h4]);have HBD:=ab (show acc.length+(aB s.size++bl s).length<=(k+1)*65556 by have:=dP s.size; rw[List.length_append,<-ay]; omega);have HBX:=ab (heap_alloc_new wr (.cells #[.int .i64 kd, .int .u64 (u:Int), .int .i64 n, .bool b, .string s, .int .i64 mo] 118))
      have hnl:=dP s.size;obtain⟨W,hW⟩: ∃W:World,W=wr.alloc (.cells #[.int .i64 kd, .int .u64 (u:Int), .int .i64 n, .bool b, .string s, .int .i64 mo] 118):=⟨_,rfl⟩;rw[<-hW]at HO1 HB1 HBX;clear h1 h3 hk2 HAL
      rcases h4 with rfl | rfl
      ·go_upto_region 17 with(fail)
       rw[<-hW];clear hW q0 q1 q2 q3 q4 q5;refine cX (fun w'=>w'.cell? ⟨wr.heap.size,4,none⟩=some (.string s)) (by kernel_rfl) ?_;obtain⟨W2,hW2⟩: ∃W2:World,W2=W.drew:=⟨_,rfl⟩;rw[<-hW2];have hbw:Below W.heap.size W W2:=by rw[hW2]; exact(Below.refl _ _).drew
       have HB2:=ab (ak HB1.out hbw);have HO2:=ab (eS HO1.out hbw);have HBX2:=ab ((hbw.block wr.heap.size (lt_of_block HBX.out)).trans HBX.out);clear hW2 hbw HBX;have c0:=ai (k:=4) HBX2.out;simp only[eE]at c0;refine ag 0 rfl (by kernel_rfl) (by kernel_rfl) (by kernel_rfl) (fun _ _ _ h=>h) rfl (by go_simp) (by intro w' hw'; go_simp; rfl) ?_;simp only[Act.put,aH,aI,aJ]
       refine ag 1 rfl (by kernel_rfl) (by kernel_rfl) (by kernel_rfl) (fun _ _ _ h=>h) rfl (by go_simp) (by intro w' hw'; go_simp; rfl) ?_;simp only[Act.put,aH,aI,aJ];refine ag 2 rfl (by kernel_rfl) (by kernel_rfl) (by kernel_rfl) (fun _ _ _ h=>h) rfl (by go_simp) (by intro w' hw'; go_simp; rfl) ?_;simp only[Act.put,aH,aI,aJ];refine ag 3 rfl (by kernel_rfl) (by kernel_rfl) (by kernel_rfl) (fun _ _ _ h=>h) rfl (by go_simp) (by intro w' hw'; go_simp; rfl) ?_
       simp only[Act.put,aH,aI,aJ];refine ag 4 rfl (by kernel_rfl) (by kernel_rfl) (by kernel_rfl) (fun _ _ _ h=>h) rfl (by go_simp) (by intro w' hw'; go_simp; rfl) ?_;simp only[Act.put,aH,aI,aJ];refine ag 7 rfl (by kernel_rfl) (by kernel_rfl) (by kernel_rfl) (fun _ _ _ h=>h) rfl (by go_simp) (by intro w' hw'; go_simp; rfl) ?_;simp only[Act.put,aH,aI,aJ];refine ag 8 rfl (by kernel_rfl) (by kernel_rfl) (by kernel_rfl) (fun _ _ _ h=>h) rfl (by go_simp) (by intro w' hw'; go_simp; rfl) ?_
       simp only[Act.put,aH,aI,aJ];refine aC 5 rfl (by kernel_rfl) rfl (fun K hK=> ?_);go_wp2_with (go_at_call 92; refine(fQ s.size _ (by omega)).mono ?_; rintro e w1 ⟨nv,rfl,hnv,hb1⟩);have HNV:=ab hnv;have HBL:=ab (ak HB2.out hb1);have HOL:=ab (eS HO2.out hb1);have HBX3:=ab ((hb1.block wr.heap.size (lt_of_block HBX2.out)).trans HBX2.out);have hbz:=HBL.out.size
       obtain⟨_,na,nc,rfl,hnn1,hnn2,-⟩:=hnv;have c1:=ai (k:=4) HBX3.out;simp only[eE]at c1;clear hb1 c0;refine⟨c1, ?_⟩;refine aC 6 rfl (by kernel_rfl) rfl (fun K hK=> ?_);go_wp2_with (at_builtin; go_must (refine bI Tryz.appBytes rfl _ _ rfl w.heap.size (.slice ao acc.length co) acc.length (acc.map aN) rfl HOL.out _ (aB s.size).length ((aB s.size).map aN) rfl HNV.out (fD _) (by omega) hbz ?_); intro v' wc hown' hgrow')
       have HBX4:=ab ((hgrow'.block wr.heap.size (lt_of_block HBX3.out) (fun e=>by have:=(HO.out.lt _ e.symm).2; omega)).trans HBX3.out);have HBL2:=ab (aZ HBL.out HOL.out hgrow' (Nat.le_refl _) hbz);have HOL2:=ab (show wc.ownsRow w.heap.size 5 1 v' (acc++aB s.size).length ((acc++aB s.size).map aN) by rw[List.length_append,List.map_append]; exact hown');have hbz2:=HBL2.out.size
       obtain⟨ae,ce,rfl,-,-⟩:=au hown';have c2:=ai (k:=4) HBX4.out;simp only[eE]at c2;have hlen2:(acc++aB s.size).length=acc.length+(aB s.size).length:=List.length_append;clear hown' hgrow' c1;refine⟨c2, ?_⟩;refine aC 9 rfl (by kernel_rfl) rfl (fun K hK=> ?_);have hlt5:(acc++aB s.size).length+s.size<1099511627775:=by omega
       have hvv:Value.slice ae (acc.length+(aB s.size).length) ce= .slice ae (acc++aB s.size).length ce:=by rw[hlen2]
       have HVV:=ab hvv;have HLT5:=ab hlt5;clear hlen2 hlt5 hvv;go_wp2_with (at_builtin; go_must (refine eN rfl _ _ rfl w.heap.size (.slice ae (acc.length+(aB s.size).length) ce) (acc++aB s.size) rfl HOL2.out s rfl HLT5.out hbz2 ?_); intro v' wd hown' hgrow');have HBX5:=ab ((hgrow'.block wr.heap.size (lt_of_block HBX4.out) (fun e=>by
        have h1:=HOL2.out;have h2:=(pM h1 e.symm);obtain⟨cs,h2⟩:=h2;have:=HBX4.out.symm.trans h2;simp at this)).trans HBX4.out)
       have HB3:=ab (aZ HBL2.out HOL2.out hgrow' (Nat.le_refl _) hbz2);have HO3:=ab (show wd.ownsRow w.heap.size 5 1 v' (acc.length+(aB s.size++bl s).length) (acc.map aN++(aB s.size++bl s).map aN) by
        have h1:=hown';rw[List.length_append,ay,Nat.add_assoc,<-List.length_append,List.map_append,List.append_assoc,<-List.map_append]at h1;exact h1)
       obtain⟨nb,hnb⟩: ∃nb,nb=aB s.size++bl s:=⟨_,rfl⟩;rw[<-hnb]at HO3 HX HBD;clear hnb;obtain⟨af,cf,rfl,-,-⟩:=au HO3.out;have c3:=ai (k:=4) HBX5.out;simp only[eE]at c3;clear hown' hgrow' c2;refine⟨c3, ?_⟩;refine ag 10 rfl (by kernel_rfl) (by kernel_rfl) (by kernel_rfl) (fun _ _ _ h=>h) rfl (by go_simp) (by intro w' hw'; go_simp; rfl) ?_;simp only[Act.put,aH,aI,aJ]
       refine bu (by kernel_rfl) ?_;go_wp2_with fail
       go_roundw
       case rel=>exact⟨k+1,acc++nb,by omega,by go_num,by rw[HSN.out]; exact dq HE.out HX.out,by rw[List.length_append,List.map_append]; exact HO3.out,by rw[List.length_append]; exact HBD.out,HB3.out⟩
       case measure=>simp[intOf]; omega
      ·go_upto_region 17 with(fail)
       rw[<-hW];clear hW q0 q1 q2 q3 q4 q5;refine cX (fun w'=>w'.cell? ⟨wr.heap.size,4,none⟩=some (.string s)) (by kernel_rfl) ?_;obtain⟨W2,hW2⟩: ∃W2:World,W2=W.drew:=⟨_,rfl⟩;rw[<-hW2];have hbw:Below W.heap.size W W2:=by rw[hW2]; exact(Below.refl _ _).drew
       have HB2:=ab (ak HB1.out hbw);have HO2:=ab (eS HO1.out hbw);have HBX2:=ab ((hbw.block wr.heap.size (lt_of_block HBX.out)).trans HBX.out);clear hW2 hbw HBX;have c0:=ai (k:=4) HBX2.out;simp only[eE]at c0;refine ag 0 rfl (by kernel_rfl) (by kernel_rfl) (by kernel_rfl) (fun _ _ _ h=>h) rfl (by go_simp) (by intro w' hw'; go_simp; rfl) ?_;simp only[Act.put,aH,aI,aJ]
       refine ag 1 rfl (by kernel_rfl) (by kernel_rfl) (by kernel_rfl) (fun _ _ _ h=>h) rfl (by go_simp) (by intro w' hw'; go_simp; rfl) ?_;simp only[Act.put,aH,aI,aJ];refine ag 2 rfl (by kernel_rfl) (by kernel_rfl) (by kernel_rfl) (fun _ _ _ h=>h) rfl (by go_simp) (by intro w' hw'; go_simp; rfl) ?_;simp only[Act.put,aH,aI,aJ];refine ag 3 rfl (by kernel_rfl) (by kernel_rfl) (by kernel_rfl) (fun _ _ _ h=>h) rfl (by go_simp) (by intro w' hw'; go_simp; rfl) ?_
       simp only[Act.put,aH,aI,aJ];refine ag 4 rfl (by kernel_rfl) (by kernel_rfl) (by kernel_rfl) (fun _ _ _ h=>h) rfl (by go_simp) (by intro w' hw'; go_simp; rfl) ?_;simp only[Act.put,aH,aI,aJ];refine ag 7 rfl (by kernel_rfl) (by kernel_rfl) (by kernel_rfl) (fun _ _ _ h=>h) rfl (by go_simp) (by intro w' hw'; go_simp; rfl) ?_;simp only[Act.put,aH,aI,aJ];refine ag 8 rfl (by kernel_rfl) (by kernel_rfl) (by kernel_rfl) (fun _ _ _ h=>h) rfl (by go_simp) (by intro w' hw'; go_simp; rfl) ?_
       simp only[Act.put,aH,aI,aJ];refine aC 5 rfl (by kernel_rfl) rfl (fun K hK=> ?_);go_wp2_with (go_at_call 92; refine(fQ s.size _ (by omega)).mono ?_; rintro e w1 ⟨nv,rfl,hnv,hb1⟩);have HNV:=ab hnv;have HBL:=ab (ak HB2.out hb1);have HOL:=ab (eS HO2.out hb1);have HBX3:=ab ((hb1.block wr.heap.size (lt_of_block HBX2.out)).trans HBX2.out);have hbz:=HBL.out.size
       obtain⟨_,na,nc,rfl,hnn1,hnn2,-⟩:=hnv;have c1:=ai (k:=4) HBX3.out;simp only[eE]at c1;clear hb1 c0;refine⟨c1, ?_⟩;refine aC 6 rfl (by kernel_rfl) rfl (fun K hK=> ?_);go_wp2_with (at_builtin; go_must (refine bI Tryz.appBytes rfl _ _ rfl w.heap.size (.slice ao acc.length co) acc.length (acc.map aN) rfl HOL.out _ (aB s.size).length ((aB s.size).map aN) rfl HNV.out (fD _) (by omega) hbz ?_); intro v' wc hown' hgrow')
       have HBX4:=ab ((hgrow'.block wr.heap.size (lt_of_block HBX3.out) (fun e=>by have:=(HO.out.lt _ e.symm).2; omega)).trans HBX3.out);have HBL2:=ab (aZ HBL.out HOL.out hgrow' (Nat.le_refl _) hbz);have HOL2:=ab (show wc.ownsRow w.heap.size 5 1 v' (acc++aB s.size).length ((acc++aB s.size).map aN) by rw[List.length_append,List.map_append]; exact hown');have hbz2:=HBL2.out.size
       obtain⟨ae,ce,rfl,-,-⟩:=au hown';have c2:=ai (k:=4) HBX4.out;simp only[eE]at c2;have hlen2:(acc++aB s.size).length=acc.length+(aB s.size).length:=List.length_append;clear hown' hgrow' c1;refine⟨c2, ?_⟩;refine aC 9 rfl (by kernel_rfl) rfl (fun K hK=> ?_);have hlt5:(acc++aB s.size).length+s.size<1099511627775:=by omega
       have hvv:Value.slice ae (acc.length+(aB s.size).length) ce= .slice ae (acc++aB s.size).length ce:=by rw[hlen2]
       have HVV:=ab hvv;have HLT5:=ab hlt5;clear hlen2 hlt5 hvv;go_wp2_with (at_builtin; go_must (refine eN rfl _ _ rfl w.heap.size (.slice ae (acc.length+(aB s.size).length) ce) (acc++aB s.size) rfl HOL2.out s rfl HLT5.out hbz2 ?_); intro v' wd hown' hgrow');have HBX5:=ab ((hgrow'.block wr.heap.size (lt_of_block HBX4.out) (fun e=>by
        have h1:=HOL2.out;have h2:=(pM h1 e.symm);obtain⟨cs,h2⟩:=h2;have:=HBX4.out.symm.trans h2;simp at this)).trans HBX4.out)
       have HB3:=ab (aZ HBL2.out HOL2.out hgrow' (Nat.le_refl _) hbz2);have HO3:=ab (show wd.ownsRow w.heap.size 5 1 v' (acc.length+(aB s.size++bl s).length) (acc.map aN++(aB s.size++bl s).map aN) by
        have h1:=hown';rw[List.length_append,ay,Nat.add_assoc,<-List.length_append,List.map_append,List.append_assoc,<-List.map_append]at h1;exact h1)
       obtain⟨nb,hnb⟩: ∃nb,nb=aB s.size++bl s:=⟨_,rfl⟩;rw[<-hnb]at HO3 HX HBD;clear hnb;obtain⟨af,cf,rfl,-,-⟩:=au HO3.out;have c3:=ai (k:=4) HBX5.out;simp only[eE]at c3;clear hown' hgrow' c2;refine⟨c3, ?_⟩;refine ag 10 rfl (by kernel_rfl) (by kernel_rfl) (by kernel_rfl) (fun _ _ _ h=>h) rfl (by go_simp) (by intro w' hw'; go_simp; rfl) ?_;simp only[Act.put,aH,aI,aJ]
       refine bu (by kernel_rfl) ?_;go_wp2_with fail
       go_roundw
       case rel=>exact⟨k+1,acc++nb,by omega,by go_num,by rw[HSN.out]; exact dq HE.out HX.out,by rw[List.length_append,List.map_append]; exact HO3.out,by rw[List.length_append]; exact HBD.out,HB3.out⟩
       case measure=>simp[intOf]; omega
     ·by_cases h6:kd=6
      ·subst h6
       by_cases hs32:s.size=32
       ·have HX:=ab (show fd ⟨6,u,n,b,s,mo⟩= .ok (bl s) by simp[fd,hs32]);have HBD:=ab (show acc.length+(bl s).length<=(k+1)*65556 by rw[<-ay]; omega);have e1:((s.size:Int) != 32)=false:=by simp; omega
        have hbz:=HB1.out.size;clear hs32;go_wp2_with (at_builtin; go_must (refine eN rfl _ _ rfl w.heap.size (.slice ao acc.length co) acc rfl HO1.out s rfl (by omega) hbz ?_); intro v' wc hown' hgrow'; have HO3:=ab (show wc.ownsRow w.heap.size 5 1 v' (acc.length+(bl s).length) (acc.map aN++(bl s).map aN) by rw[<-ay]; exact hown'); have HB3:=ab (aZ HB1.out HO1.out hgrow' (Nat.le_refl _) hbz); obtain⟨ae,ce,rfl,-,-⟩:=au hown'; clear hown' hgrow')
        go_roundw
        case rel=>exact⟨k+1,acc++(bl s),by omega,by go_num,by rw[HSN.out]; exact dq HE.out HX.out,by rw[List.length_append,List.map_append]; exact HO3.out,by rw[List.length_append]; exact HBD.out,HB3.out⟩
        case measure=>simp[intOf]; omega
       ·have HX:=ab (lF HE.out HG.out (show fd ⟨6,u,n,b,s,mo⟩= .error 1 by simp[fd,hs32]));have e1:((s.size:Int) != 32)=true:=by simp; omega
        clear hs32;go_wp2_with fail
        go_ret2
        exact⟨HB1.out,by unfold tz; rw[HX.out]; exact⟨rfl,by decide⟩⟩
      ·by_cases h7:kd=7
       ·subst h7
        by_cases hn0:n<0
        ·have HX:=ab (lF HE.out HG.out (show fd ⟨7,u,n,b,s,mo⟩= .error 1 by simp[fd,hn0]));go_wp2_with fail
         go_ret2
         exact⟨HB1.out,by unfold tz; rw[HX.out]; exact⟨rfl,by decide⟩⟩
        ·obtain⟨m,rfl⟩: ∃m:Nat,n=(m:Int):=⟨n.toNat,by omega⟩;have HX:=ab (show fd ⟨7,u,(m:Int),b,s,mo⟩= .ok (aB m) by simp[fd]);have HBD:=ab (show acc.length+(aB m).length<=(k+1)*65556 by have:=dP m; omega);have hnl:=dP m;go_wp2_with fail;refine(fQ m _ (by omega)).mono ?_;rintro e w1 ⟨nv,rfl,hnv,hb1⟩;have HNV:=ab hnv
         have HBL:=ab (ak HB1.out hb1);have HOL:=ab (eS HO1.out hb1);have hbz:=HBL.out.size;obtain⟨_,na,nc,rfl,hnn1,hnn2,-⟩:=hnv;clear hb1 q0 q1 q2 q3 q4 q5;go_wp2_with (at_builtin; go_must (refine bI Tryz.appBytes rfl _ _ rfl w.heap.size (.slice ao acc.length co) acc.length (acc.map aN) rfl HOL.out _ (aB m).length ((aB m).map aN) rfl HNV.out (fD _) (by omega) hbz ?_); intro v' wc hown' hgrow'; have HO3:=ab hown'; have HB3:=ab (aZ HBL.out HOL.out hgrow' (Nat.le_refl _) hbz); obtain⟨ae,ce,rfl,-,-⟩:=au hown'; clear hown' hgrow')
         go_roundw
         case rel=>exact⟨k+1,acc++(aB m),by omega,by go_num,by rw[HSN.out]; exact dq HE.out HX.out,by rw[List.length_append,List.map_append]; exact HO3.out,by rw[List.length_append]; exact HBD.out,HB3.out⟩
         case measure=>simp[intOf]; omega
       ·have HX:=ab (show fd ⟨kd,u,n,b,s,mo⟩= .ok [] by simp only[fd,if_neg h1,if_neg h3,if_neg h4,if_neg h6,if_neg h7]);have HBD:=ab (show acc.length+([]:List UInt8).length<=(k+1)*65556 from Nat.le_trans hal (Nat.mul_le_mul_right _ (Nat.le_succ k)));have h4a: ¬kd=4:=fun e=>h4 (.inl e)
        have h5a: ¬kd=5:=fun e=>h4 (.inr e)
        have e1:(kd == 1)=false:=by simpa using h1
        have e2:(kd == 2)=false:=by simpa using hk2
        have e3:(kd == 3)=false:=by simpa using h3
        have e4:(kd == 4)=false:=by simpa using h4a
        have e5:(kd == 5)=false:=by simpa using h5a
        have e6:(kd == 6)=false:=by simpa using h6
        have e7:(kd == 7)=false:=by simpa using h7
        have HO3:=ab (show World.ownsRow (wr.alloc (.cells #[.int .i64 kd, .int .u64 (u:Int), .int .i64 n, .bool b, .string s, .int .i64 mo] 118)) w.heap.size 5 1 (.slice ao acc.length co) (acc.length+([]:List UInt8).length) (acc.map aN++([]:List UInt8).map aN) by simpa using HO1.out);have HB3:=HB1;clear h1 h3 h4 h6 h7 hk2 h4a h5a;go_wp2_with fail
        go_roundw
        case rel=>exact⟨k+1,acc++([]:List UInt8),by omega,by go_num,by rw[HSN.out]; exact dq HE.out HX.out,by rw[List.length_append,List.map_append]; exact HO3.out,by rw[List.length_append]; exact HBD.out,HB3.out⟩
        case measure=>simp[intOf]; omega
  ·obtain rfl:k=l.length:=by omega
   have HEL:=ab (show bR l= .ok acc by have:=HE.out; rwa [List.take_of_length_le (Nat.le_refl _)]at this)
   by_cases hbig:1048576<acc.length
   ·have HX:=ab (show tz l= .error 2 by unfold tz; rw[HEL.out]; simp only[if_pos hbig]);go_wp2_with fail
    go_ret2
    exact⟨HB.out,by rw[HX.out]; exact⟨rfl,by decide⟩⟩
   ·have HX:=ab (show tz l= .ok acc by unfold tz; rw[HEL.out]; simp only[if_neg hbig]);go_wp2_with fail
    go_ret2
    exact⟨HB.out,by rw[HX.out]; exact⟨_,rfl,(bp HO.out).weak (fun k hk=>hk.1)⟩⟩
def rvV (x:eB):Value:= .agg #[.int .i64 x.kind, .int .u64 (x.u:Int), .int .i64 x.n, .bool x.b, .string x.s, .int .i64 x.most]
def jH (n:Int):eB:=⟨1,(n%18446744073709551616).toNat,0,false,⟨#[]⟩,0⟩
def yd (s:ByteArray):eB:=⟨6,0,0,false,s,0⟩
def ku (s:ByteArray):eB:=⟨5,0,0,false,s,0⟩
def eR (n:Nat):eB:=⟨7,0,(n:Int),false,⟨#[]⟩,0⟩
theorem kP (n:Int):tY (jH n):=⟨by simp only[jH]; omega,by simp[jH],by simp only[jH]; decide,by simp[jH]⟩
theorem Fj {s:ByteArray} (h:s.size<=65536):tY (yd s):=⟨by simp[yd],by simp[yd],h,by simp[yd]⟩
theorem wj {s:ByteArray} (h:s.size<=65536):tY (ku s):=⟨by simp[ku],by simp[ku],h,by simp[ku]⟩
theorem rE {n:Nat} (h:n<=1000000):tY (eR n):=⟨by simp[eR],by simp only[eR]; omega,by simp only[eR]; decide,by simp[eR]⟩
theorem yZ : ∀ {l:List eB},(∀x∈l,tY x)->bB RvR (l.flatMap qe) l
 | [],_=>rfl
 | x::l,h=>⟨qe x,l.flatMap qe,rfl,⟨rfl,h x (by simp)⟩,yZ (fun y hy=>h y (by simp[hy]))⟩
theorem wrap_u64 (n:Int):IntKind.u64.wrap n=((n%18446744073709551616).toNat:Int):=by rw[IntKind.wrap_u64]; omega
theorem Tryz.appVals :cY Tryz.prog 120 118 6 56:=cY.mk' (z:= .agg #[.int .i64 0, .int .u64 0, .int .i64 0, .bool false, .string ⟨#[]⟩, .int .i64 0]) Tryz.underlying120 (by kernel_rfl) rfl (by decide) (by decide)
theorem yX {l:List eB} : ∀u∈l.flatMap qe,u.oneCell'=true:=by
 intro u hu;obtain⟨x,_,hx⟩:=List.mem_flatMap.1 hu;simp only[qe,List.mem_cons,List.not_mem_nil,or_false]at hx
 rcases hx with rfl | rfl | rfl | rfl | rfl | rfl<;> rfl
open Go Go.RowKit
attribute [local go_sem] Oper.semAt_some
def dG (t:TypeId) (A B:World):Prop:= ∀(k:Nat) (cs:Array Value),A.heap[k]? =some (.cells cs t (0,0))->B.heap[k]? =A.heap[k]?
section
variable {t : TypeId} {A B C : World} {n : Nat}
theorem dG.refl (A:World):dG t A A:=fun _ _ _=>rfl
theorem dG.trans (h:dG t A B) (k:dG t B C):dG t A C:=fun i cs hi=>(k i cs ((h i cs hi).trans hi)).trans (h i cs hi)
theorem dG.below (h:Below A.heap.size A B):dG t A B:=fun i _ hi=>h.block i (Array.getElem?_eq_some_iff.1 hi).1
theorem dG.grown {row:Option Nat} (h:A.grownBy B row) (hr: ∀r,row=some r-> ∀cs,A.heap[r]? ≠some (.cells cs t (0,0))):dG t A B:=fun i cs hi=>h.block i (Array.getElem?_eq_some_iff.1 hi).1 (fun e=>hr i e.symm cs hi)
end
theorem lL {A:World} {base sz m k:Nat} {t:TypeId} {v:Value} {xs:List Value} (h:A.ownsRow base t sz v m xs) (hk:v.ownBlock=some k):base<=k/\ ∃cur,A.heap[k]? =some (.cells cur t (0,0)):=by
 rcases h.2 with⟨rfl,_⟩ | ⟨g,cap,cur,rfl,hb,hgb,_⟩
 ·cases hk
 ·simp only[Value.ownBlock,Option.some.injEq]at hk;subst hk;exact⟨hb,cur,hgb⟩
theorem At {seed W:Nat} :kY seed W [] (eK seed (List.replicate 64 0) W 0 0 0):=by
 have h0:iR W []=[]:=by unfold iR; simp
 have ht:=mM seed;have g: ∀i,256<=i->(eK seed (List.replicate 64 0) W 0 0 0)[i]? =((List.replicate 64 (0:UInt8)).map aN++[Value.int .i64 (W:Int), .int .i64 0, .int .i64 0, .int .u64 0])[i-256]? :=fun i hi=>by
  unfold eK; rw[List.getElem?_append_right (by omega),ht]; rfl
 refine⟨fun i hi=> ?_,fun j hj=>⟨0, ?_⟩, ?_,⟨0,by decide, ?_,fun j b hb=>by rw[h0]at hb; cases hb⟩, ?_, ?_⟩
 ·unfold eK;rw[List.getElem?_append_left (by omega)];unfold nt;rw[List.getElem?_map,List.getElem?_range hi]; rfl
 ·rw[g _ (by omega),Nat.add_sub_cancel_left,List.getElem?_append_left (by simpa using hj),List.getElem?_map,List.getElem?_replicate,if_pos hj]; rfl
 ·rw[g _ (by decide)]; rfl
 ·rw[g _ (by decide)]; rfl
 ·rw[g _ (by decide)]; simp
 ·rw[g _ (by decide),h0]; rfl
theorem zS {c:eU} (hc:fq c=true) (data:List UInt8):nD c data 0 (lq c (eK c.seed (List.replicate 64 0) c.win.toNat 0 0 0) 0 (-c.mn)):=by
 have hv:=fo.1 hc;have hl:(eK c.seed (List.replicate 64 0) c.win.toNat 0 0 0).length=324:=nj _ (by simp) _ _ _ _;have h:=At (seed:=c.seed) (W:=c.win.toNat);have lo: ∀i,i<324->(lq c (eK c.seed (List.replicate 64 0) c.win.toNat 0 0 0) 0 (-c.mn))[i]? =(eK c.seed (List.replicate 64 0) c.win.toNat 0 0 0)[i]? :=fun i hi=>by
  unfold lq; rw[List.getElem?_append_left (by omega)]
 have hi': ∀i,(lq c (eK c.seed (List.replicate 64 0) c.win.toNat 0 0 0) 0 (-c.mn))[324+i]? =(cT c++[Value.int .i64 0,Value.int .i64 (-c.mn)])[i]? :=fun i=>by
  unfold lq; rw[List.getElem?_append_right (by omega),hl,Nat.add_sub_cancel_left]
 refine⟨⟨fun i hi=> ?_,fun j hj=> ?_, ?_, ?_, ?_, ?_⟩,mZ c hl _ _,fun i hi=> ?_, ?_, ?_⟩
 ·rw[lo _ (by omega)]; exact h.tab i hi
 ·rw[lo _ (by omega)]; exact h.rng j hj
 ·rw[lo _ (by omega)]; exact h.win
 ·obtain⟨s,h1,h2,h3⟩:=h.st;exact⟨s,h1,by rw[lo _ (by omega)]; exact h2,fun j b hb=>by rw[lo _ (by omega)]; exact h3 j b hb⟩
 ·rw[lo _ (by omega)]; exact h.len
 ·rw[lo _ (by omega)]; exact h.sum
 ·rw[hi',List.getElem?_append_left (by simpa [cT]using hi)]
 ·rw[show 329=324+5 from rfl,hi']; rfl
 ·rw[show 330=324+6 from rfl,hi',jA];have: -c.mn= -((c.mn.toNat:Nat):Int):=by omega
  rw[this]; rfl
theorem pm (mk:Nat->Bool) (mn mx len:Nat): ∀p,(eC mk mn mx len p).length<=p/\gd (eC mk mn mx len p)<=p
 | 0=>⟨by simp[eC],by simp[eC,gd]⟩
 | p+1=>by
  have:=pm mk mn mx len p;rw[eC]
  split
  ·rw[List.length_append,fJ]; simp; omega
  ·omega
def eA (c:eU) (dv:Value) (b1 b2:Nat) (w:World):Prop:=w.heap[b1]? =some (.cells (cT c).toArray 48 (0,0))/\w.heap[b2]? =some (.cells #[dv] 28 (0,0))
def BH (b1 b2:Nat) (A B:World):Prop:=B.heap[b1]? =A.heap[b1]? /\B.heap[b2]? =A.heap[b2]?
theorem eA.same {c:eU} {dv:Value} {b1 b2:Nat} {A B:World} (h:eA c dv b1 b2 A) (hk:BH b1 b2 A B):eA c dv b1 b2 B:=⟨hk.1.trans h.1,hk.2.trans h.2⟩
theorem eA.below {c:eU} {dv:Value} {b1 b2:Nat} {A B:World} (h:eA c dv b1 b2 A) (hb:Below A.heap.size A B):eA c dv b1 b2 B:=h.same ⟨hb.block _ (lt_of_block h.1),hb.block _ (lt_of_block h.2)⟩
theorem eA.grown {c:eU} {dv:Value} {b1 b2 r:Nat} {A B:World} (h:eA c dv b1 b2 A) (hg:A.grownBy B (some r)) (h1:b1<r) (h2:b2<r):eA c dv b1 b2 B:=
 h.same ⟨hg.block _ (lt_of_block h.1) (fun e=>by cases e; omega),hg.block _ (lt_of_block h.2) (fun e=>by cases e; omega)⟩
theorem eA.mx {c:eU} {dv:Value} {b1 b2:Nat} {A:World} (h:eA c dv b1 b2 A):A.cell? ⟨b1,1,none⟩=some (.int .i64 c.mx):=(cell_of_row A _ 1 _ _ _ h.1).trans rfl
theorem eA.dat {c:eU} {dv:Value} {b1 b2:Nat} {A:World} (h:eA c dv b1 b2 A):A.cell? ⟨b2,0,none⟩=some dv:=(cell_of_row A _ 0 _ _ _ h.2).trans rfl
def DN (c:eU) (data:List UInt8) (b1 b2 n₀:Nat) (w:World):Prop:=
 Gl Tryz.prog 174 #[.pointer (some ⟨b1,0,none⟩), .pointer (some ⟨b2,0,none⟩)] (fun q:Nat=> #[.int .i64 (q:Int)]) (fun pre q _=>gd pre<q/\q<=data.length)
  (fun A B=>Below n₀ A B/\dG 244 A B/\BH b1 b2 A B) (fun xs=>xs=uG (tE c data) c.mn.toNat c.mx.toNat data.length) (fun _=>True) data.length 244 w
theorem fC {B b:Nat} {w0 w w':World} (hb:Below B w0 w) (h:w.grownBy w' (some b)) (h1:B<=b) (h2:B<=w.heap.size):Below B w0 w':=
 hb.trans ⟨h.os,h.tape,h.output,h.size,fun k hk=>h.block k (by omega) (fun e=>by cases e; omega)⟩
theorem oC (c:eU) (data:List UInt8) (p:Nat) (b:UInt8) (pr:Bool) (mb:Nat) (ty:TypeId) (cs:List Value) (w:World) (hc:fq c=true) (hb:data[p]? =some b) (hp:data.length<=1048576) (hbox:w.heap[mb]? =some (.cells cs.toArray ty (0,0))) (hm:nD c data p cs) (hT:tW w) (hmb:mb≠5) (hpr:pr=pU (tE c data) c.mn.toNat (p+1)):
  Calls Tryz.prog 176 #[.pointer (some ⟨mb,0,none⟩), .int .u8 (b.toNat:Int)] w fun e w'=>e= .returned (.bool pr)/\(∃cs',w'.heap[mb]? =some (.cells cs'.toArray ty (0,0))/\nD c data (p+1) cs')/\w.grownBy w' (some mb):=by
 rw[hpr]; exact Dq c data p b mb ty cs w hc hb hp hbox hm hT hmb
theorem Cl (S:Nat->Prop) (c:eU) (data:List UInt8) (dv:Value) (b1 b2:Nat) (w wc:World) (hc:fq c=true) (hs:c.seed<18446744073709551616) (hx:eA c dv b1 b2 wc) (hd:bi S w dv data) (hl:data.length<=1048576) (hT:tW w) (hbc:Below w.heap.size w wc):
  DN c data b1 b2 w.heap.size wc:=by
 intro l J Jx W hbW' hJ hY h0;have hbW:=ak hbc hbW';have HBW:=ab hbW;have HV:=ab hc;have HD:=ab hd;have HT:=ab hT;have HJ:=ab hJ;have HY:=ab hY;have H0:=ab h0;have HCP:=ab (hx.below hbW');have HCL:=ab (show b1<W.heap.size/\b2<W.heap.size from⟨lt_of_block HCP.out.1,lt_of_block HCP.out.2⟩);obtain⟨_,da,dcap,rfl,hdc,hdm,hdr⟩:=id hd;obtain⟨n,hn⟩: ∃n,n=data.length:=⟨_,rfl⟩
 rw[<-hn]at HCP hdc hl;have HN:=ab hn;have hv:=fo.1 hc;obtain⟨mx,hmx⟩: ∃mx,mx=c.mx.toNat:=⟨_,rfl⟩;obtain⟨mn,hmn⟩: ∃mn,mn=c.mn.toNat:=⟨_,rfl⟩;have hmxi:c.mx=(mx:Int):=by omega
 have hmx1:mx<=32768:=by omega
 have HMX:=ab (And.intro hmx (And.intro hmxi hmn));have HCW:=ab (show c.win=(c.win.toNat:Int)/\1<=c.win.toNat/\c.win.toNat<=64/\0<=c.mn/\c.mn<=32768 by omega);have hr:=su HCP.out.1;have HR:=ab hr;have HI5:=ab (show(Tryz.prog.info? 48).map (·.size)=some (cT c).length by kernel_rfl);clear hJ hY h0 hbW hbW' hbc hc hd hT hx hn hv hmx hmn hmxi hr;have y2:=HCP.out.dat
 refine callsIn_wide.2 ?_
 show Calls Tryz.prog 174 #[.func (.yield l) #[] #[], .pointer (some ⟨b1,0,none⟩), .pointer (some ⟨b2,0,none⟩)] W _
 go_enter Tryz.func174,Tryz.ntmps174
 go_wp2_with (first | (refine wpList_load_mid rfl 48 _ rfl b1 0 rfl (cT c) _ HR.out Tryz.underlying48 rfl HI5.out ?_) | fail);refine(qQ c c.win.toNat W hs HCW.out.1 HCW.out.2.1 HCW.out.2.2.1 HCW.out.2.2.2).mono ?_;rintro e w5 ⟨rfl,hb5⟩;obtain⟨mc,hmc⟩: ∃mc,mc=lq c (eK c.seed (List.replicate 64 0) c.win.toNat 0 0 0) 0 (-c.mn):=⟨_,rfl⟩;rw[<-hmc];have hml:mc.length=331:=by rw[hmc]; exact mZ c (nj _ (by simp) _ _ _ _) _ _
 have HMC:=ab hmc;have HML:=ab (show nD c data 0 mc by rw[hmc]; exact zS HV.out data);have HI331:=ab (show(Tryz.prog.info? 244).map (·.size)=some mc.toArray.size by rw[List.size_toArray,hml]; kernel_rfl);have HOLD:=ab (show Tryz.zeroCells244.size=mc.toArray.size by rw[show mc.toArray.size=331 from by rw[List.size_toArray]; exact hml]; kernel_rfl);have HONE:=ab (show mc.toArray.all (·.oneCell')=true from all_oneCell_toArray (by rw[hmc]; exact rW c _ _ _))
 have HB5:=ab hb5;clear hb5 hmc hml y2;have y2:=(HCP.out.below HB5.out).dat
 have HB6:=ab (show Below w5.heap.size w5 ((w5.alloc (.cells Tryz.zeroCells244 244)).setRow w5.heap.size mc.toArray)from below_setRow ((Below.refl _ _).alloc (Nat.le_refl _) _) (Nat.le_refl _) _);have HX6:=ab (show((w5.alloc (.cells Tryz.zeroCells244 244)).setRow w5.heap.size mc.toArray).heap[w5.heap.size]? =some (.cells mc.toArray 244 (0,0))from setRow_heap _ _ _ _ _ _ (heap_alloc_new w5 _))
 have y3:=(HB6.out.cell (aE y2)).trans y2;go_wp2_with (first | (refine wpList_store_row rfl 244 _ _ rfl w5.heap.size _ rfl rfl _ _ (heap_alloc_new w5 _) HI331.out HOLD.out HONE.out ?_) | fail)
 generalize (w5.alloc (.cells Tryz.zeroCells244 244)).setRow w5.heap.size mc.toArray=w6 at *
 obtain⟨mb,hmb⟩: ∃mb,mb=w5.heap.size:=⟨_,rfl⟩;have HMB:=ab (show W.heap.size<=mb/\mb≠5 by
  have h1:=HB5.out.size;have h2:=HBW.out.size;have h3:=HT.out.lt
  omega)
 have HB6w:=ab (ak HB5.out HB6.out);rw[<-hmb]at HB6 HX6 ⊢;clear hmb y2 y3
 go_loopw [13,5] (fun i s wr=> ∃(k:Nat) (pre:List Nat) (cs:List Value),k<=n/\i= .int .i64 (k:Int)/\pre=eC (tE c data) mn mx n k/\s= .int .i64 ((gd pre:Nat):Int)/\J pre wr/\Below w.heap.size w wr/\wr.heap[mb]? =some (.cells cs.toArray 244 (0,0))/\nD c data k cs/\eA c (.slice da n dcap) b1 b2 wr) (fun i _ _=>n-(intOf i).toNat)
 case atStart=>exact⟨0,[],mc,Nat.zero_le _,rfl,rfl,rfl,HJ.out _ _ _ none H0.out (wL HB6w.out) (fun r e=>by cases e),ak HBW.out HB6w.out,HX6.out,HML.out,HCP.out.below HB6w.out⟩
 case round=>
  obtain⟨k,pre,cs,hk,rfl,hpre,rfl,hJk,hbr,hbx,hml,hcr⟩:=hrel;have HCR:=ab hcr;have HPRE:=ab hpre;have HJK:=ab hJk;have HBR:=ab hbr;have HBX:=ab hbx;have HML2:=ab hml;have hpl:=pm (tE c data) mn mx n k;rw[<-hpre]at hpl;obtain⟨sn,hsn⟩: ∃sn,sn=gd pre:=⟨_,rfl⟩;rw[<-hsn]at hpl ⊢;have HSN:=ab hsn;clear hpre hJk hbr hbx hml hsn hcr
  by_cases hlt:k<n
  ·obtain⟨b,hb⟩: ∃b,data[k]? =some b:=⟨data[k]'(by rw[<-HN.out]; exact hlt),by simp⟩
   rcases hdr with hdr | ⟨db,dof,rfl,hS,hcc⟩
   ·rw[<-HN.out]at hdr; omega
   have hcell:=(HBR.out.cell (aE (hcc k (aN b) (by rw[List.getElem?_map,hb]; rfl)))).trans (hcc k (aN b) (by rw[List.getElem?_map,hb]; rfl));have y2:=HCR.out.dat
   have hki:(k:Int)<(n:Int):=by omega
   have hinc:IntKind.i64.wrap ((k:Int)+1)=((k+1:Nat):Int):=by rw[IntKind.wrap_i64]; omega
   have HB:=ab hb;clear hcc hb hS;unfold maxLen at hdm
   change wr.cell? ⟨db,dof+k,none⟩=some (.int .u8 (b.toNat:Int))at hcell
   obtain⟨pr,hpr⟩: ∃pr,pr=pU (tE c data) c.mn.toNat (k+1):=⟨_,rfl⟩;have HPR:=ab hpr;clear hpr;have hsub:IntKind.i64.wrap ((k:Int)+1-(sn:Int))=(k:Int)+1-(sn:Int):=by rw[IntKind.wrap_i64]; omega
   by_cases hp:pr=true
   ·subst hp;have HST:=ab (show gY (tE c data) mn mx n sn (k+1)=true by unfold gY; rw[HMX.out.2.2,<-HPR.out]; rfl)
    go_upto_region 7 with(fail)
    refine(oC c data k b _ mb 244 cs _ HV.out HB.out (by rw[<-HN.out]; exact hl) HBX.out HML2.out (HT.out.block (HBR.out.block _ HT.out.lt) HBR.out.size) HMB.out.2 HPR.out).mono ?_;rintro e w7 ⟨rfl,⟨cs7,hx7,hm7⟩,hg7⟩;have HX7:=ab hx7;have HM7:=ab hm7;have HG7:=ab hg7;have HB7:=ab (fC HBR.out hg7 (Nat.le_trans HBW.out.size HMB.out.1) HBR.out.size);clear hx7 hm7 hg7;have HCE:=ab (HCR.out.grown HG7.out (Nat.lt_of_lt_of_le HCL.out.1 HMB.out.1) (Nat.lt_of_lt_of_le HCL.out.2 HMB.out.1)); have z2:=HCE.out.dat
    have z1:=HCE.out.mx; rw[HMX.out.2.1]at z1
    go_upto_region 7 with(fail)
    have HJ7:=ab (HJ.out _ _ _ _ HJK.out HG7.out (fun r e=>by cases e; exact⟨HMB.out.1,cs.toArray,HBX.out⟩));have HDQ:=ab (show gd pre<k+1/\k+1<=data.length from⟨by rw[<-HSN.out]; omega,by rw[<-HN.out]; omega⟩);have HPL:=ab (show pre.length<data.length by rw[<-HN.out]; omega);obtain⟨fn,tmps,assign,body,hy,hR⟩:=HY.out pre (k+1) w7 HJ7.out HDQ.out HPL.out;rw[show(((k+1:Nat):Int))=(k:Int)+1 from rfl]at hy
    refine(wpIn_wide (n:=3)).1 ?_
    gi_wp2_with (fail)
    refine hR.mono ?_;rintro e6 w8 (⟨rfl,hj8,hk8⟩ | ⟨rfl,hj8⟩)
    ·have HJ8:=ab hj8;have HK8:=ab hk8;clear hj8 hk8 hy hR
     gi_wp2
     go_wp2_with fail
     go_roundw
     case rel=>
      refine⟨k+1,pre++[k+1],cs7,by omega,by go_num, ?_,by rw[fJ]; rfl,HJ8.out,HB7.out.trans HK8.out.1,(HK8.out.2.1 mb _ HX7.out).trans HX7.out,HM7.out,HCE.out.same HK8.out.2.2⟩;rw[eC,<-HPRE.out,<-HSN.out,HST.out,if_pos rfl]
     case measure=>simp[intOf]; omega
    ·have HJ8:=ab hj8;clear hj8 hy hR
     gi_wp2
     go_wp2_with fail;refine bodyPost_ret (results_none rfl _ _ _) rfl ?_;exact⟨⟨_,rfl⟩, .inr ⟨pre++[k+1],trivial,HJ8.out⟩⟩
   ·have hp0:pr=false:=by simpa using hp
    subst hp0;clear hp
    by_cases hm:sn+mx<=k+1
    ·have hmi:(mx:Int)<=(k:Int)+1-(sn:Int):=by omega
     have hmj: ¬(k:Int)+1-(sn:Int)<(mx:Int):=by omega
     have HST:=ab (show gY (tE c data) mn mx n sn (k+1)=true by unfold gY; rw[decide_eq_true hm]; simp)
     go_upto_region 7 with(fail)
     refine(oC c data k b _ mb 244 cs _ HV.out HB.out (by rw[<-HN.out]; exact hl) HBX.out HML2.out (HT.out.block (HBR.out.block _ HT.out.lt) HBR.out.size) HMB.out.2 HPR.out).mono ?_;rintro e w7 ⟨rfl,⟨cs7,hx7,hm7⟩,hg7⟩;have HX7:=ab hx7;have HM7:=ab hm7;have HG7:=ab hg7;have HB7:=ab (fC HBR.out hg7 (Nat.le_trans HBW.out.size HMB.out.1) HBR.out.size);clear hx7 hm7 hg7;have HCE:=ab (HCR.out.grown HG7.out (Nat.lt_of_lt_of_le HCL.out.1 HMB.out.1) (Nat.lt_of_lt_of_le HCL.out.2 HMB.out.1)); have z2:=HCE.out.dat
     have z1:=HCE.out.mx; rw[HMX.out.2.1]at z1
     go_upto_region 7 with(fail)
     have HJ7:=ab (HJ.out _ _ _ _ HJK.out HG7.out (fun r e=>by cases e; exact⟨HMB.out.1,cs.toArray,HBX.out⟩));have HDQ:=ab (show gd pre<k+1/\k+1<=data.length from⟨by rw[<-HSN.out]; omega,by rw[<-HN.out]; omega⟩);have HPL:=ab (show pre.length<data.length by rw[<-HN.out]; omega);obtain⟨fn,tmps,assign,body,hy,hR⟩:=HY.out pre (k+1) w7 HJ7.out HDQ.out HPL.out;rw[show(((k+1:Nat):Int))=(k:Int)+1 from rfl]at hy
     refine(wpIn_wide (n:=3)).1 ?_
     gi_wp2_with (fail)
     refine hR.mono ?_;rintro e6 w8 (⟨rfl,hj8,hk8⟩ | ⟨rfl,hj8⟩)
     ·have HJ8:=ab hj8;have HK8:=ab hk8;clear hj8 hk8 hy hR
      gi_wp2
      go_wp2_with fail
      go_roundw
      case rel=>
       refine⟨k+1,pre++[k+1],cs7,by omega,by go_num, ?_,by rw[fJ]; rfl,HJ8.out,HB7.out.trans HK8.out.1,(HK8.out.2.1 mb _ HX7.out).trans HX7.out,HM7.out,HCE.out.same HK8.out.2.2⟩;rw[eC,<-HPRE.out,<-HSN.out,HST.out,if_pos rfl]
      case measure=>simp[intOf]; omega
     ·have HJ8:=ab hj8;clear hj8 hy hR
      gi_wp2
      go_wp2_with fail;refine bodyPost_ret (results_none rfl _ _ _) rfl ?_;exact⟨⟨_,rfl⟩, .inr ⟨pre++[k+1],trivial,HJ8.out⟩⟩
    ·have hmi:(k:Int)+1-(sn:Int)<(mx:Int):=by omega
     by_cases he:n<=k+1
     ·have hei:(n:Int)<=(k:Int)+1:=by omega
      have hej: ¬(k:Int)+1<(n:Int):=by omega
      have HST:=ab (show gY (tE c data) mn mx n sn (k+1)=true by unfold gY; rw[decide_eq_true he]; simp)
      go_upto_region 7 with(fail)
      refine(oC c data k b _ mb 244 cs _ HV.out HB.out (by rw[<-HN.out]; exact hl) HBX.out HML2.out (HT.out.block (HBR.out.block _ HT.out.lt) HBR.out.size) HMB.out.2 HPR.out).mono ?_;rintro e w7 ⟨rfl,⟨cs7,hx7,hm7⟩,hg7⟩;have HX7:=ab hx7;have HM7:=ab hm7;have HG7:=ab hg7;have HB7:=ab (fC HBR.out hg7 (Nat.le_trans HBW.out.size HMB.out.1) HBR.out.size);clear hx7 hm7 hg7;have HCE:=ab (HCR.out.grown HG7.out (Nat.lt_of_lt_of_le HCL.out.1 HMB.out.1) (Nat.lt_of_lt_of_le HCL.out.2 HMB.out.1)); have z2:=HCE.out.dat
      have z1:=HCE.out.mx; rw[HMX.out.2.1]at z1
      go_upto_region 7 with(fail)
      have HJ7:=ab (HJ.out _ _ _ _ HJK.out HG7.out (fun r e=>by cases e; exact⟨HMB.out.1,cs.toArray,HBX.out⟩));have HDQ:=ab (show gd pre<k+1/\k+1<=data.length from⟨by rw[<-HSN.out]; omega,by rw[<-HN.out]; omega⟩);have HPL:=ab (show pre.length<data.length by rw[<-HN.out]; omega);obtain⟨fn,tmps,assign,body,hy,hR⟩:=HY.out pre (k+1) w7 HJ7.out HDQ.out HPL.out;rw[show(((k+1:Nat):Int))=(k:Int)+1 from rfl]at hy
      refine(wpIn_wide (n:=3)).1 ?_
      gi_wp2_with (fail)
      refine hR.mono ?_;rintro e6 w8 (⟨rfl,hj8,hk8⟩ | ⟨rfl,hj8⟩)
      ·have HJ8:=ab hj8;have HK8:=ab hk8;clear hj8 hk8 hy hR
       gi_wp2
       go_wp2_with fail
       go_roundw
       case rel=>
        refine⟨k+1,pre++[k+1],cs7,by omega,by go_num, ?_,by rw[fJ]; rfl,HJ8.out,HB7.out.trans HK8.out.1,(HK8.out.2.1 mb _ HX7.out).trans HX7.out,HM7.out,HCE.out.same HK8.out.2.2⟩;rw[eC,<-HPRE.out,<-HSN.out,HST.out,if_pos rfl]
       case measure=>simp[intOf]; omega
      ·have HJ8:=ab hj8;clear hj8 hy hR
       gi_wp2
       go_wp2_with fail;refine bodyPost_ret (results_none rfl _ _ _) rfl ?_;exact⟨⟨_,rfl⟩, .inr ⟨pre++[k+1],trivial,HJ8.out⟩⟩
     ·have hei:(k:Int)+1<(n:Int):=by omega
      have HST:=ab (show gY (tE c data) mn mx n sn (k+1)=false by unfold gY; rw[decide_eq_false he,decide_eq_false hm,HMX.out.2.2,<-HPR.out]; rfl);go_wp2_with (go_at_call 176; refine(oC c data k b _ mb 244 cs _ HV.out HB.out (by rw[<-HN.out]; exact hl) HBX.out HML2.out (HT.out.block (HBR.out.block _ HT.out.lt) HBR.out.size) HMB.out.2 HPR.out).mono ?_; rintro e w7 ⟨rfl,⟨cs7,hx7,hm7⟩,hg7⟩; have HX7:=ab hx7; have HM7:=ab hm7; have HG7:=ab hg7; have HB7:=ab (fC HBR.out hg7 (Nat.le_trans HBW.out.size HMB.out.1) HBR.out.size); clear hx7 hm7 hg7; have HCE:=ab (HCR.out.grown HG7.out (Nat.lt_of_lt_of_le HCL.out.1 HMB.out.1) (Nat.lt_of_lt_of_le HCL.out.2 HMB.out.1)); have z2:=HCE.out.dat; have z1:=HCE.out.mx; rw[HMX.out.2.1]at z1)
      go_roundw
      case rel=>
       refine⟨k+1,pre,cs7,by omega,by go_num, ?_,by rw[HSN.out], ?_,HB7.out,HX7.out,HM7.out,HCE.out⟩
       ·rw[eC,<-HPRE.out,<-HSN.out,HST.out,if_neg (by decide)]
       ·exact HJ.out _ _ _ _ HJK.out HG7.out (fun r e=>by cases e; exact⟨HMB.out.1,cs.toArray,HBX.out⟩)
      case measure=>simp[intOf]; omega
  ·have hk2:k=n:=by omega
   go_wp2_with fail
   go_end0
   refine⟨⟨_,rfl⟩, .inl ⟨pre, ?_,HJK.out⟩⟩;rw[HPRE.out,hk2,HN.out,HMX.out.1,HMX.out.2.2]; rfl
theorem Be {S:Nat->Prop} {w:World} {a:Option Addr} {n cap:Nat} {bs:List UInt8} (h:bi S w (.slice a n cap) bs) {s e:Nat} (hs:s<e) (he:e<=bs.length):
  ∃a' cap',(∀w',(Instr.slice 28 (.slice a n cap) (some (.int .i64 (s:Int))) (some (.int .i64 (e:Int))) none).run Tryz.prog w'= .ok (.slice a' (gp bs s e).length cap') w')/\bi S w (.slice a' (gp bs s e).length cap') (gp bs s e):=by
 obtain⟨hl,a0,cap0,hv,hn,hm,h0⟩:=h;simp only[Value.slice.injEq]at hv;obtain⟨rfl,rfl,rfl⟩:=hv;have hz: ∀w',(sizeOf (Tryz.prog.elem 28)).run Tryz.prog w'= .ok 1 w':=fun _=>by kernel_rfl
 have hpl:(gp bs s e).length=e-s:=by unfold gp; rw[List.length_take,List.length_drop]; omega
 refine⟨if cap-s=0 then a else a.map (fun p=>p.add s),cap-s,fun w'=> ?_, ?_⟩
 ·rw[run_slice_lh _ _ _ _ _ Tryz.underlying28 .i64 .i64 (s:Int) (e:Int) (by omega) (by omega) (by omega),hz,hpl];simp only[Result.andThen,sliced,Int.toNat_natCast,Nat.mul_one];rw[if_neg (by omega: ¬cap-s=0)]
  try rw[if_neg (by omega)]
 ·refine⟨by simp,_,_,rfl,by omega,by omega, ?_⟩
  rcases h0 with h0 | ⟨b,o,rfl,hS,hc⟩
  ·omega
  ·refine .inr ⟨b,o+s, ?_,hS,fun j x hj=> ?_⟩
   ·rw[if_neg (by omega),Option.map_some,Addr.add_mid]
   ·rw[Nat.add_assoc];refine hc (s+j) x ?_;unfold gp at hj;rw[List.map_take,List.map_drop,List.getElem?_take]at hj
    split at hj
    ·rw[List.getElem?_drop]at hj; exact hj
    ·cases hj
def Gi (k n:Nat):Prop:=k=1-> ¬1048576<n
def lC (c:eU) (n:Nat):Int:=if fq c=true then(if 1048576<n then 2 else 0)else 1
theorem ik (c:eU) (b:Bool) (w:World) (h:fq c=b):Calls Tryz.prog 36 #[iw c] w fun e w'=>e= .returned (.bool b)/\Below w.heap.size w w':=by rw[<-h]; exact tp c w
theorem oS (c:eU) (a:Option Addr) (n cap sb:Nat) (w:World) (hx:w.cell? ⟨sb,0,none⟩=some (.slice a n cap)) (hm:n<=maxLen):
  Calls Tryz.prog 144 #[iw c, .slice (some ⟨sb,0,none⟩) 1 1] w fun e w'=>e= .returned (.int .i64 (lC c n))/\Below w.heap.size w w':=by
 unfold maxLen at hm;have HX:=ab hx;clear hx;unfold iw
 by_cases hv:fq c=true
 ·have HV:=ab hv;have HE:=ab (show lC c n=if 1048576<n then 2 else 0 by unfold lC; rw[if_pos hv]);clear hv
  go_enter Tryz.func144,Tryz.ntmps144
  go_wp2_with (go_at_call 36; refine(ik c true _ HV.out).mono ?_; rintro e w1 ⟨rfl,hb1⟩; have HB1:=ab (((Below.refl _ _).alloc (Nat.le_refl w.heap.size) _).trans (hb1.mono (by simp))); clear hb1)
  go_loopw [12] (fun i wr=> ∃k:Nat,k<=1/\i= .int .i64 (k:Int)/\Below w.heap.size w wr/\Gi k n) (fun i _=>1-(intOf i).toNat)
  case atStart=>exact⟨0,by omega,rfl,HB1.out,fun h=>by cases h⟩
  case round=>
   obtain⟨k,hk,rfl,hb,hdone⟩:=hrel;have HB:=ab hb;have HDN:=ab hdone;clear hb hdone
   by_cases h0:k=0
   ·subst h0;have hc:=(HB.out.cell (aE HX.out)).trans HX.out
    by_cases hn:1048576<n
    ·have hni:(1048576:Int)<(n:Int):=by omega
     go_wp2_with fail;go_ret;exact⟨bC (by rw[HE.out,if_pos hn]),HB.out⟩
    ·have hni:(n:Int)<=1048576:=by omega
     go_wp2_with fail
     go_roundw
     case rel=>exact⟨1,by omega,by go_num,HB.out,fun _=>hn⟩
     case measure=>simp[intOf]
   ·have h1:k=1:=by omega
    subst h1;go_wp2_with fail;go_ret;exact⟨bC (by rw[HE.out,if_neg (HDN.out rfl)]),HB.out⟩
 ·have HV:=ab (show fq c=false by simpa using hv);have HE:=ab (show lC c n=1 by unfold lC; rw[if_neg hv]);clear hv
  go_enter Tryz.func144,Tryz.ntmps144
  go_wp2_with (go_at_call 36; refine(ik c false _ HV.out).mono ?_; rintro e w1 ⟨rfl,hb1⟩; have HB1:=ab (((Below.refl _ _).alloc (Nat.le_refl w.heap.size) _).trans (hb1.mono (by simp))); clear hb1);go_ret;exact⟨bC HE.out.symm,HB1.out⟩
theorem Ck (c:eU) (dv:Value) (w:World) (hd: ∃a n cap,dv= .slice a n cap):Calls Tryz.prog 145 #[iw c,dv] w fun e w'=>e= .returned (.func (.func 174) #[] #[.pointer (some ⟨w.heap.size,0,none⟩), .pointer (some ⟨w.heap.size+1,0,none⟩)])/\
  eA c dv w.heap.size (w.heap.size+1) w'/\Below w.heap.size w w'/\w'.heap.size=w.heap.size+2:=by
 obtain⟨a,n,cap,rfl⟩:=hd;unfold iw
 go_enter Tryz.func145,Tryz.ntmps145
 go_wp2_with fail;go_ret;exact⟨rfl,⟨gw (ey w _) _,xw w _ _⟩,((Below.refl _ _).alloc (Nat.le_refl _) _).alloc (by simp) _,by simp⟩
end Go.Proofs.YtnjkpcalgoefhaaGreatDoor
namespace Go.Proofs.YtnjkpcalgoefhaaGreatDoor
open Go
section
variable {P : Program} {l n : Nat}
theorem uf {f:FuncId} {args:Array Value} {w:World} {R:Ending->World->Prop} (h:Calls P f args w R):CallsIn (Fence.wide.inRound l) n P f args w R:=CallsIn.inRound l (callsIn_wide.2 h)
theorem yh {o:Oper} {a:Act} {next:Act->World->Prop} {Q:Exit->Act->World->Prop} {r:Result Next} (h:o.upon P a next Q r):o.uponIn (Fence.wide.inRound l) n P a next Q r:=by
 cases r with
 | ok x w=>
  cases x with
  | value v=>exact h
  | skip=>exact h
  | defer d=>exact h
  | enter f args=>exact⟨fun e=>(by cases e),uf h⟩
  | row row args=>
   exact⟨fun e=>(by cases e),fun c cs _=>by
    obtain⟨v,w',h1,h2⟩:=(show Rows P row args w _ from h) c cs;exact⟨v,w',h1,stepsIn_wide.2 h2⟩⟩
  | _=>exact h.elim
 | halt x w=>
  cases x<;> first | exact h | exact h.elim
def jh (o:Oper):Bool:=match o.op with | .defer _=>false | _=>true
theorem CI {o:Oper} {a:Act} {w:World} {K:Act->World->Prop} {Q:Exit->Act->World->Prop} (hd:jh o=true) (h:o.wp P a w K Q):o.wpIn (Fence.wide.inRound l) n P a w K Q:=
 ⟨fun _ _=>trivial,by
  rw[Oper.semAt_eq _ _ _ (fun c e=>by simp[jh,e]at hd)];exact yh h⟩
theorem yk {L:List Oper} {Q:Exit->Act->World->Prop} (hd:L.all jh=true) (hno: ¬LetsOut Q) {i:Nat} {K:Act->World->Prop} {a:Act} {w:World} (h:wpOp P L.toArray Q i K a w):wpOpIn (Fence.wide.inRound l) n P L.toArray Q i K a w:=by
 unfold wpOp at h;unfold wpOpIn
 cases hx:L.toArray[i]? with
 | none=>rw[hx]at h; exact h
 | some x=>
  rw[hx]at h;simp only at h ⊢;have hdx:jh x=true:=List.all_eq_true.1 hd x (List.mem_of_getElem? (by simpa using hx))
  split at h
  ·rename_i hw;rw[if_pos hw]
   rcases h with h | h
   ·exact CI hdx h
   ·exact absurd h.2 hno
  ·rename_i hw;rw[if_neg hw];exact⟨fun _ _=>trivial,h⟩
theorem nY {L:List Oper} {md:Region.Mode} {Q:Exit->Act->World->Prop} (hd:L.all jh=true) (hno: ¬LetsOut Q): ∀(fuel:Nat) (listed:Array Bool) (a:Act) (w:World),wpAny P md L.toArray Q fuel listed a w->wpAnyIn (Fence.wide.inRound l) n P md L.toArray Q fuel listed a w
 | 0,_,_,_,h=>h
 | fuel+1,_,_,_,h=>⟨h.1,fun i hi=>wpOpIn_mono (fun a' w' h'=>nY hd hno fuel _ a' w' h') (yk hd hno (h.2 i hi))⟩
theorem xm {id:Nat} {a:Act} {w:World} {L:List Oper} {Q:Exit->Act->World->Prop} (S:World->Prop) (hm:P.follows .mixedOrders=true) (hnd:L.all jh=true) (hno: ¬LetsOut Q) (hB:ve .any L=true)
  (h:tU P L.dropLast.toArray (rh P L.toArray (L.length-1) Q) S (L.length-1) (Array.replicate L.length false) a w.drew):(Code.region id L.toArray true).wpIn (Fence.wide.inRound l) n P Q a w:=by
 simp only[ve,Bool.and_eq_true,decide_eq_true_eq]at hB;obtain⟨⟨hc,hpos⟩,hall⟩:=hB;have hall': ∀(i:Nat) (x:Oper),L[i]? =some x->(∀e∈x.after,e.on<i)/\ ∀j b,x.guard=some (j,b)->j<i:=fun i x hx=>by
  have:=List.all_eq_true.1 hall i (List.mem_range.2 (List.getElem?_eq_some_iff.1 hx).1);rw[hx]at this;simp only[Bool.and_eq_true]at this;refine⟨fun e he=> ?_,fun j b hg=> ?_⟩
  ·have:=Array.all_eq_true'.1 this.1 e he
   simpa using this
  ·have:=this.2;rw[hg]at this
   simpa using this
 refine wpIn_region_any hm ?_;have:=yr hc hpos (fun i x hx=>(hall' i x hx).1) (fun i x j b hx=>(hall' i x hx).2 j b) (L.length-1) _ a w.drew uT (wpAny_of_held _ _ _ _ (by simpa using h.out));rw[show L.length-1+1=L.length by omega]at this;refine nY hnd hno _ _ _ _ ?_
 simpa using this
def CE (Q:Exit->Act->World->Prop):Exit->Act->World->Prop
 | .outgrown,_,_=>False
 | e,a,w=>Q e a w
@[go_sem] theorem tF (Q:Exit->Act->World->Prop) (a:Act) (w:World):CE Q .normal a w=Q .normal a w:=rfl
theorem zY (Q:Exit->Act->World->Prop): ¬LetsOut (CE Q):=fun⟨_,_,h⟩=>h
theorem xk {id:Nat} {a:Act} {w:World} {L:List Oper} {Q:Exit->Act->World->Prop} (S:World->Prop) (hm:P.follows .mixedOrders=true) (hnd:L.all jh=true) (hB:ve .any L=true)
  (h:tU P L.dropLast.toArray (rh P L.toArray (L.length-1) (CE Q)) S (L.length-1) (Array.replicate L.length false) a w.drew):(Code.region id L.toArray true).wpIn (Fence.wide.inRound l) n P Q a w:=
 wpIn_mono (xm S hm hnd (zY Q) hB h) (fun e _ _ h=>by cases e<;> first | exact h | exact h.elim)
end
open Go Go.RowKit Go.Maps
attribute [local go_sem] Oper.semAt_some
theorem Tryz.appChunks :cY Tryz.prog 52 28 1 24:=cY.mk' (z:= .slice none 0 0) Tryz.underlying52 (by kernel_rfl) rfl (by decide) (by decide)
def cZ (B:Nat) (v:Value) (L:List (List UInt8)) (w:World):Prop:=
 ∃ys:List (Value×List UInt8),ys.map Prod.snd=L/\w.ownsRow B 28 1 v ys.length (ys.map Prod.fst)/\ ∀y∈ys,w.ownsRow B 5 1 y.1 y.2.length (y.2.map aN)
theorem gE {A B:World} {row:Option Nat} {base sz m:Nat} {t:TypeId} {v:Value} {xs:List Value} (h:A.ownsRow base t sz v m xs) (hg:A.grownBy B row) (hr: ∀r,row=some r-> ∀cs,A.heap[r]? ≠some (.cells cs t (0,0))):B.ownsRow base t sz v m xs:=by
 refine h.kept hg ?_
 rcases h.2 with⟨rfl,_⟩ | ⟨g,cap,cur,rfl,_,hgb,_⟩
 ·exact .inl rfl
 ·exact .inr fun e'=>hr g (by simpa [Value.ownBlock]using e'.symm) cur hgb
theorem xz {A:World} {b1 b2 s1 s2 m1 m2:Nat} {t1 t2:TypeId} {v1 v2:Value} {x1 x2:List Value} (h1:A.ownsRow b1 t1 s1 v1 m1 x1) (h2:A.ownsRow b2 t2 s2 v2 m2 x2) (ht:t1≠t2):v1.ownBlock=none\/v1.ownBlock≠v2.ownBlock:=by
 cases h:v1.ownBlock with
 | none=>exact .inl rfl
 | some k=>
  refine .inr fun e=> ?_
  obtain⟨_,c1,d1⟩:=lL h1 h;obtain⟨_,c2,d2⟩:=lL h2 e.symm;rw[d1]at d2
  cases d2
  exact ht rfl
def ChI (bx:Nat) (data:List UInt8) (w4:World) (pre:List Nat) (W:World):Prop:=
 (∃(ys:List (Value×List UInt8)) (v:Value),ys.map Prod.snd=er data 0 pre/\ys.length=pre.length/\W.heap[bx]? =some (.cells #[v] 52 (0,0))/\W.ownsRow (bx+4) 28 1 v ys.length (ys.map Prod.fst)/\ ∀y∈ys,W.ownsRow (bx+4) 5 1 y.1 y.2.length (y.2.map aN))/\
 W.heap[bx+1]? =some (.cells #[.int .i64 ((gd pre:Nat):Int)] 3 (0,0))/\Below bx w4 W
theorem ChI.turn {bx:Nat} {data:List UInt8} {w4:World} {pre:List Nat} {A B:World} {row:Option Nat} (h:ChI bx data w4 pre A) (h4:w4.heap.size=bx+4) (hg:A.grownBy B row) (hr: ∀r,row=some r->bx+4<=r/\ ∀cs t,A.heap[r]? =some (.cells cs t (0,0))->t=244):ChI bx data w4 pre B:=by
 obtain⟨⟨ys,v,h1,h2,h3,h5,h6⟩,h7,h8⟩:=h;have hs:=h8.size;refine⟨⟨ys,v,h1,h2,(hg.block _ (lt_of_block h3) (fun e=>by have:=(hr _ e.symm).1; omega)).trans h3,gE h5 hg (fun r e cs hc=>by have:=(hr r e).2 cs _ hc; cases this),fun y hy=>gE (h6 y hy) hg (fun r e cs hc=>by have:=(hr r e).2 cs _ hc; cases this)⟩,
  (hg.block _ (lt_of_block h7) (fun e=>by have:=(hr _ e.symm).1; omega)).trans h7,h8.grown hg (by omega) (fun k e=>by have:=(hr k e).1; omega)⟩
theorem yv {bx:Nat} {data:List UInt8} {w4:World} (h4:w4.heap.size=bx+4):OwnFrom w4.heap.size (ChI bx data w4):=fun _ _ _ _ h hg hr=>h.turn h4 hg (fun r e=>⟨by have:=(hr r e).1; omega,fun cs t hc=>by
 obtain⟨_,o,ho,hw⟩:=hr r e;rw[ho]at hc; cases hc; cases hw⟩)
theorem BT {bx:Nat} {data:List UInt8} {w4:World} (h4:w4.heap.size=bx+4):yp 244 w4.heap.size (ChI bx data w4):=fun _ _ _ _ h hg hr=>h.turn h4 hg (fun r e=>⟨by have:=(hr r e).1; omega,fun cs t hc=>by
 obtain⟨_,cs',ho⟩:=hr r e;rw[ho]at hc; cases hc; rfl⟩)
def vW (c:eU) (dv:Value) (w0 bx q:Nat):Act:=
 {tmps:= #[iw c,dv, .pointer (some ⟨w0,0,none⟩), .pointer (some ⟨w0+1,0,none⟩), .slice none 0 0, .int .i64 0, .int .i64 0, .pointer (some ⟨bx,0,none⟩), .pointer (some ⟨bx+1,0,none⟩), .int .i64 (q:Int),iw c,dv, .slice (some ⟨w0+1+1,0,none⟩) 1 1, .int .i64 0, .int .i64 0, .bool false,undef,iw c,dv,
   .func (.func 174) #[] #[.pointer (some ⟨bx+2,0,none⟩), .pointer (some ⟨bx+2+1,0,none⟩)], .int .i64 (q:Int),undef,undef,undef,undef,undef,undef,undef,undef,undef,undef],defers:=[]}
def ChA (c:eU) (dv:Value) (w0 bx:Nat) (data:List UInt8) (w4:World) (pre:List Nat) (q:Nat) (a:Act) (W:World):Prop:=
 ChI bx data w4 pre W/\(gd pre<q/\q<=data.length)/\pre.length<data.length/\a=vW c dv w0 bx q
theorem Eb {c:eU} {dv:Value} {w0 bx:Nat} {data:List UInt8} {w4:World} (h4:w4.heap.size=bx+4):OwnFrom w4.heap.size (fun(s:List Nat×Nat×Act) W=>ChA c dv w0 bx data w4 s.1 s.2.1 s.2.2 W):=fun s A B row h hg hr=>⟨yv h4 s.1 A B row h.1 hg hr,h.2⟩
theorem GJ {n b1 b2:Nat} {t:TypeId} {A B C:World} (h:Below n A B/\dG t A B/\BH b1 b2 A B) (k:Below n B C/\dG t B C/\BH b1 b2 B C):Below n A C/\dG t A C/\BH b1 b2 A C:=⟨h.1.trans k.1,h.2.1.trans k.2.1,k.2.2.1.trans h.2.2.1,k.2.2.2.trans h.2.2.2⟩
theorem oT (S:Nat->Prop) (c:eU) (data:List UInt8) (dv:Value) (w:World) (hc:fq c=true) (hs:c.seed<18446744073709551616) (hd:bi S w dv data) (hl:data.length<=1048576) (hT:tW w):
  Calls Tryz.prog 117 #[iw c,dv] w fun e w'=> ∃v,e= .returned (.tuple #[v, .int .i64 0])/\cZ w.heap.size v (er data 0 (uG (tE c data) c.mn.toNat c.mx.toNat data.length)) w'/\Below w.heap.size w w':=by
 have HC:=ab hc;have HD:=ab hd;have HT:=ab hT;obtain⟨_,da,dcap,rfl,hdc,hdm,-⟩:=id hd;obtain⟨n,hn⟩: ∃n,n=data.length:=⟨_,rfl⟩;rw[<-hn]at hdc hl HD ⊢;have HN:=ab hn;have HCK:=ab (show lC c n=0 by unfold lC; rw[if_pos hc,if_neg (by omega)]);have HNM:=ab (show n<=maxLen by unfold maxLen; omega);clear hc hd hT hn;refine(callsIn_wide (n:=4)).1 (callsIn_of_wp_marks Tryz.func117 rfl trivial ?_ rfl)
 simp only[Tryz.ntmps117,List.size_toArray,List.length_cons,List.length_nil,Nat.reduceAdd,Nat.reduceSub,Array.replicate_succ,Array.replicate_zero,List.push_toArray,List.append_toArray,List.nil_append,List.cons_append];refine(wpIn_wide (n:=4)).2 ?_;unfold iw;go_wp2_with fail;obtain⟨w1,hw1⟩: ∃w1,w1=((w.alloc (.cells #[.int .i64 c.mn, .int .i64 c.mx, .int .i64 c.win, .int .i64 c.bits, .int .u64 (c.seed:Int)] 48)).alloc (.cells #[.slice da n dcap] 28)).alloc (.cells #[.slice da n dcap] 28):=⟨_,rfl⟩
 rw[<-hw1];have HB1:=ab (show Below w.heap.size w w1 by rw[hw1]; exact(((Below.refl _ _).alloc (Nat.le_refl _) _).alloc (by simp) _).alloc (by simp; omega) _);have HX1:=ab (show w1.heap[w.heap.size]? =some (.cells (cT c).toArray 48 (0,0)) by rw[hw1]; exact gw (gw (ey w _) _) _);have HY1:=ab (show w1.heap[w.heap.size+1]? =some (.cells #[.slice da n dcap] 28 (0,0)) by rw[hw1]; exact gw (xw w _ _) _)
 have HZ1:=ab (show w1.heap[w.heap.size+1+1]? =some (.cells #[.slice da n dcap] 28 (0,0)) by rw[hw1]; exact(by have:=heap_alloc_new ((w.alloc (.cells #[.int .i64 c.mn, .int .i64 c.mx, .int .i64 c.win, .int .i64 c.bits, .int .u64 (c.seed:Int)] 48)).alloc (.cells #[.slice da n dcap] 28)) (.cells #[.slice da n dcap] 28); simpa using this));clear hw1;have hck:=oS c da n dcap (w.heap.size+1+1) w1 (al HZ1.out) HNM.out
 rw[HCK.out]at hck;unfold iw at hck;refine hck.mono ?_;rintro e w2 ⟨rfl,hb2⟩;have HB2:=ab (ak HB1.out hb2);have HX2:=ab ((hb2.block _ (lt_of_block HX1.out)).trans HX1.out);have HY2:=ab ((hb2.block _ (lt_of_block HY1.out)).trans HY1.out);clear hck hb2;have HX3:=ab (gw (gw HX2.out (.cells #[.slice none 0 0] 52)) (.cells #[.int .i64 0] 3));have HY3:=ab (gw (gw HY2.out (.cells #[.slice none 0 0] 52)) (.cells #[.int .i64 0] 3))
 have HBX3:=ab (gw (ey w2 (.cells #[.slice none 0 0] 52)) (.cells #[.int .i64 0] 3));have HBS3:=ab (xw w2 (.cells #[.slice none 0 0] 52) (.cells #[.int .i64 0] 3));have HB3:=ab (((Below.refl w2.heap.size w2).alloc (Nat.le_refl _) (.cells #[.slice none 0 0] 52)).alloc (by simp) (.cells #[.int .i64 0] 3));have hs3:((w2.alloc (.cells #[.slice none 0 0] 52)).alloc (.cells #[.int .i64 0] 3)).heap.size=w2.heap.size+2:=by simp
 have c0:=al (k:=0) HX3.out;have c1:=al (k:=1) HX3.out;have c2:=al (k:=2) HX3.out;have c3:=al (k:=3) HX3.out;have c4:=al (k:=4) HX3.out;have y0:=al (k:=0) HY3.out;simp only[cT,eE]at c0 c1 c2 c3 c4 y0;go_wp2_with fail
 generalize (w2.alloc (.cells #[.slice none 0 0] 52)).alloc (.cells #[.int .i64 0] 3)=w3 at *
 have he:=Ck c (.slice da n dcap) w3 ⟨_,_,_,rfl⟩;unfold iw at he;refine he.mono ?_;rintro e w4 ⟨rfl,hcp,hb4,hs4⟩;clear he c0 c1 c2 c3 c4 y0;obtain⟨bx,hbx⟩: ∃bx,bx=w2.heap.size:=⟨_,rfl⟩;rw[hs3]at hcp ⊢;rw[<-hbx]at HBX3 HBS3 hcp ⊢;have HB4:=ab (hb4.mono (by rw[hs3,hbx]; omega:bx<=w3.heap.size));have HB24:=ab (show Below w2.heap.size w2 w4 from HB3.out.trans (by rw[<-hbx]; exact HB4.out))
 have HBX4:=ab ((hb4.block _ (lt_of_block HBX3.out)).trans HBX3.out);have HBS4:=ab ((hb4.block _ (lt_of_block HBS3.out)).trans HBS3.out);have HY4:=ab ((hb4.block _ (lt_of_block HY3.out)).trans HY3.out);have hs44:w4.heap.size=bx+4:=by rw[hs4,hs3,hbx]
 have HCP:=ab hcp;have HWX:=ab (show w.heap.size+1<bx by rw[hbx]; exact lt_of_block HY2.out);have HBX:=ab hbx;have HD2:=ab (show bi S w2 (.slice da n dcap) data from HD.out.below (by decide) HB2.out);clear hcp hb4 hs4 hs3 hbx;go_wp2_with fail;refine Bo (gf:=174) (lb:= #[.pointer (some ⟨bx+2,0,none⟩), .pointer (some ⟨bx+2+1,0,none⟩)]) rfl (enters_of Tryz.func174 (by kernel_rfl) rfl)
  (Cl S c data (.slice da n dcap) (bx+2) (bx+2+1) w2 w4 HC.out hs HCP.out HD2.out (by rw[<-HN.out]; exact hl) (HT.out.block (HB2.out.block _ HT.out.lt) HB2.out.size) HB24.out) GJ (fun W l o o' hl' h1 h2 h3=> ?kb) (fun _=>rfl)
  (ChI bx data w4) (fun _ _ _=>False) (ChA c (.slice da n dcap) w.heap.size bx data w4) (yv hs44) (BT hs44) (fun _ _ _ _ _ h _ _=>h) (Eb hs44) ⟨⟨[], .slice none 0 0,rfl,rfl,HBX4.out,World.ownsRow_nil _ _ _ _,by simp⟩,HBS4.out,Below.refl _ _⟩ ?assign ?body ?done ?stop
 case kb=>
  have hlt:=(Array.getElem?_eq_some_iff.1 h1).1;have hb:=HBX.out;have hg:=grownBy_putObj' W l o';refine⟨fC (Below.refl _ _) hg (by omega) (by omega),dG.grown hg (fun r e cs hcs=>by cases e; rw[h1]at hcs; cases hcs; cases h2),hg.block _ (by omega) (fun e=>by cases e; omega),hg.block _ (by omega) (fun e=>by cases e; omega)⟩
 case assign=>
  rintro l pre q W hW hI hD hN
  gi_wp2
  exact⟨KeepsOthers.refl _,⟨Below.refl _ _,dG.refl _,rfl,rfl⟩,hI,hD,hN,rfl⟩
 case body=>
  rintro l pre q a₁ W ⟨hI,hD,hN,rfl⟩;obtain⟨⟨ys,v,h1,h2,h3,h5,h6⟩,h7,h8⟩:=hI;have H1:=ab h1;have H2:=ab h2;have H3:=ab h3;have H5:=ab h5;have H6:=ab h6;have H7:=ab h7;have H8:=ab h8;obtain⟨s,hsE⟩: ∃s,s=gd pre:=⟨_,rfl⟩;rw[<-hsE]at hD H7;have HSE:=ab hsE;have hsz:=h8.size;clear h1 h2 h3 h5 h6 h7 h8 hsE;obtain⟨av,cv,rfl,hvn,hvm⟩:=au H5.out
  have HDW:=ab (HD2.out.below (by decide) (HB24.out.trans (H8.out.mono (by rw[<-HBX.out]; omega))));have HYW:=ab ((H8.out.block _ (by have:=HWX.out; omega)).trans HY4.out);obtain⟨sa,sc,hsl,hsb⟩:=Be HDW.out hD.1 hD.2;obtain⟨pl,hpl⟩: ∃pl,pl=gp data s q:=⟨_,rfl⟩;rw[<-hpl]at hsl hsb;have HSB:=ab hsb;have HPL:=ab hpl;clear hsb hpl;simp only[vW]
  gi_wp2
  refine xk (fun w'=>w'.cell? ⟨bx,0,none⟩=some (.slice av ys.length cv)/\w'.cell? ⟨w.heap.size+1,0,none⟩=some (.slice da n dcap)/\w'.cell? ⟨bx+1,0,none⟩=some (.int .i64 (s:Int))) (by kernel_rfl) (by kernel_rfl) (by kernel_rfl) ?_;simp only[List.dropLast_cons_cons,List.dropLast_singleton,List.length_cons,List.length_nil,Nat.reduceAdd,Nat.reduceSub];obtain⟨V,hV⟩: ∃V:World,V=W.drew:=⟨_,rfl⟩
  rw[<-hV];have HBV:=ab (show Below W.heap.size W V by rw[hV]; exact(Below.refl _ _).drew);have hsV:V.heap.size=W.heap.size:=by rw[hV]; rfl
  clear hV;have k0:=al (k:=0) ((HBV.out.block _ (lt_of_block H3.out)).trans H3.out);have k1:=al (k:=0) ((HBV.out.block _ (lt_of_block HYW.out)).trans HYW.out);have k2:=al (k:=0) ((HBV.out.block _ (lt_of_block H7.out)).trans H7.out);simp only[List.getElem?_toArray,List.getElem?_cons_zero]at k0 k1 k2;refine ag 0 rfl (by kernel_rfl) (by kernel_rfl) (by kernel_rfl) (fun _ _ _ h=>h) rfl ⟨k0,k1,k2⟩ (by rintro w' ⟨hw1,hw2,hw3⟩; go_simp; first | rfl | (rw[hsl]; rfl)) ?_
  simp only[Act.put,aH,aI,aJ];refine ag 1 rfl (by kernel_rfl) (by kernel_rfl) (by kernel_rfl) (fun _ _ _ h=>h) rfl ⟨k0,k1,k2⟩ (by rintro w' ⟨hw1,hw2,hw3⟩; go_simp; first | rfl | (rw[hsl]; rfl)) ?_;simp only[Act.put,aH,aI,aJ];refine ag 2 rfl (by kernel_rfl) (by kernel_rfl) (by kernel_rfl) (fun _ _ _ h=>h) rfl ⟨k0,k1,k2⟩ (by rintro w' ⟨hw1,hw2,hw3⟩; go_simp; first | rfl | (rw[hsl]; rfl)) ?_
  simp only[Act.put,aH,aI,aJ];refine ag 3 rfl (by kernel_rfl) (by kernel_rfl) (by kernel_rfl) (fun _ _ _ h=>h) rfl ⟨k0,k1,k2⟩ (by rintro w' ⟨hw1,hw2,hw3⟩; go_simp; first | rfl | (rw[hsl]; rfl)) ?_;simp only[Act.put,aH,aI,aJ];refine ag 4 rfl (by kernel_rfl) (by kernel_rfl) (by kernel_rfl) (fun _ _ _ h=>h) rfl ⟨k0,k1,k2⟩ (by rintro w' ⟨hw1,hw2,hw3⟩; go_simp; first | rfl | (rw[hsl]; rfl)) ?_
  simp only[Act.put,aH,aI,aJ];have HSV:=ab (show bi S V (.slice sa pl.length sc) pl from HSB.out.below (by decide) HBV.out);refine aC 5 rfl (by kernel_rfl) rfl (fun K hK=> ?_);go_wp2_with fail;refine(zB S _ pl V HSV.out (by rw[HPL.out]; unfold gp; rw[List.length_take,List.length_drop]; rw[<-HN.out]at hD; omega)).mono ?_;rintro e w5 ⟨v5,rfl,ho5,hb5⟩;obtain⟨a5,e5,rfl,hn5,hm5⟩:=au ho5
  have HO5:=ab ho5;have HB5:=ab (show Below W.heap.size W w5 from HBV.out.trans (by rw[<-hsV]; exact hb5));clear ho5 hb5 k0 k1 k2;have k0:=al (k:=0) ((HB5.out.block _ (lt_of_block H3.out)).trans H3.out);have k1:=al (k:=0) ((HB5.out.block _ (lt_of_block HYW.out)).trans HYW.out);have k2:=al (k:=0) ((HB5.out.block _ (lt_of_block H7.out)).trans H7.out);simp only[List.getElem?_toArray,List.getElem?_cons_zero]at k0 k1 k2
  go_wp2_with fail;refine⟨⟨k0,k1,k2⟩, ?_⟩;have HB6:=ab (show Below w5.heap.size w5 (w5.alloc (.cells #[.slice a5 pl.length e5] 28))from(Below.refl _ _).alloc (Nat.le_refl _) _);have l0:=(HB6.out.cell (aE k0)).trans k0;have l1:=(HB6.out.cell (aE k1)).trans k1;have l2:=(HB6.out.cell (aE k2)).trans k2;refine aC 6 rfl (by kernel_rfl) rfl (fun K hK=> ?_);go_wp2_with fail
  refine⟨⟨l0,l1,l2⟩, ?_⟩;clear l0 l1 l2;have HOW:=ab (show w5.ownsRow (bx+4) 28 1 (.slice av ys.length cv) ys.length (ys.map Prod.fst)from aV H5.out HB5.out);have HLN:=ab (show ys.length<1099511627775 by rw[H2.out]; rw[<-HN.out]at hN; omega);have HBS:=ab (show bx+4<=w5.heap.size by have:=HB5.out.size; omega);refine aC 7 rfl (by kernel_rfl) rfl (fun K hK=> ?_);go_wp2_with (at_builtin; go_must (refine bK Tryz.appChunks rfl _ _ rfl (bx+4) (.slice av ys.length cv) ys.length (ys.map Prod.fst) rfl w5 [.slice a5 pl.length e5] 28 rfl rfl (by simp[Value.oneCell']) HOW.out HLN.out HBS.out ?_); intro v7 w7 hown' hgrow' hne7 hpl7; obtain⟨a7,c7,rfl,-,-⟩:=au hown')
  have hge: ∀k,(Value.slice av ys.length cv).ownBlock=some k->bx+4<=k:=fun k e=>(lL HOW.out e).1
  have hb7: ∀k,k<w5.heap.size->k<bx+4->w7.heap[k]? =w5.heap[k]? :=fun k h1 h2=>hgrow'.block k h1 (fun e=>by have:=hge k e.symm; omega)
  have hsz5:=HB5.out.size;have HX7:=ab (show w7.heap[bx]? =some (.cells #[.slice av ys.length cv] 52 (0,0)) by rw[hb7 _ (by omega) (by omega),HB5.out.block _ (lt_of_block H3.out),H3.out]);have HS7:=ab (show w7.heap[bx+1]? =some (.cells #[.int .i64 (s:Int)] 3 (0,0)) by rw[hb7 _ (by omega) (by omega),HB5.out.block _ (lt_of_block H7.out),H7.out]);have HY7:=ab (show w7.heap[w.heap.size+1]? =some (.cells #[.slice da n dcap] 28 (0,0)) by rw[hb7 _ (by have:=HWX.out; omega) (by have:=HWX.out; omega),HB5.out.block _ (lt_of_block HYW.out),HYW.out])
  have HOWN:=ab hown';have HGR:=ab hgrow';clear hown' hgrow' hne7 hpl7 hb7 k0 k1 k2;refine⟨⟨al HX7.out,al HY7.out,al HS7.out⟩, ?_⟩;simp only[Act.put,aH,aI,aJ];have k0:=al (k:=0) HX7.out;have f0:=uO (k:=0) HX7.out;have f1:=uO (k:=0) HS7.out;have k2:=al (k:=0) HS7.out;simp only[List.getElem?_toArray,List.getElem?_cons_zero]at k0 k2;refine bu (by kernel_rfl) ?_
  refine dd rfl rfl (fun K hK=> ?_);go_wp2_with fail;rw[tF]
  gi_wp2
  have hX1:(w7.setCell ⟨bx,0,none⟩ (.slice a7 (ys.length+1) c7)).heap[bx]? =some (.cells #[.slice a7 (ys.length+1) c7] 52 (0,0)):=by simpa using FE (k:=0) HX7.out (.slice a7 (ys.length+1) c7)
  have hX2:(w7.setCell ⟨bx,0,none⟩ (.slice a7 (ys.length+1) c7)).heap[bx+1]? =some (.cells #[.int .i64 (s:Int)] 3 (0,0)):=ql HS7.out (by omega) _;obtain⟨B,hBe⟩: ∃B,B=(w7.setCell ⟨bx,0,none⟩ (.slice a7 (ys.length+1) c7)).setCell ⟨bx+1,0,none⟩ (.int .i64 (q:Int)):=⟨_,rfl⟩;rw[<-hBe];have hB1:B.heap[bx]? =some (.cells #[.slice a7 (ys.length+1) c7] 52 (0,0)):=by rw[hBe]; exact ql hX1 (by omega) _
  have hB2:B.heap[bx+1]? =some (.cells #[.int .i64 (q:Int)] 3 (0,0)):=by rw[hBe]; simpa using FE (k:=0) hX2 (.int .i64 (q:Int))
  have hg1:=aG (w7) bx 0 (.slice a7 (ys.length+1) c7);have hg2:=aG (w7.setCell ⟨bx,0,none⟩ (.slice a7 (ys.length+1) c7)) (bx+1) 0 (.int .i64 (q:Int));rw[<-hBe]at hg2;have hk7: ∀k,k<w7.heap.size->k≠bx->k≠bx+1->B.heap[k]? =w7.heap[k]? :=fun k h1 h2 h3=>(hg2.block k (Nat.lt_of_lt_of_le h1 hg1.size) (fun e=>h3 (Option.some.inj e))).trans (hg1.block k h1 (fun e=>h2 (Option.some.inj e)))
  have hsz7:=HGR.out.size;have hkW: ∀k,k<W.heap.size->k≠bx->k≠bx+1->(Value.slice av ys.length cv).ownBlock≠some k->B.heap[k]? =W.heap[k]? :=fun k h1 h2 h3 h4=>by
   rw[hk7 k (by omega) h2 h3,HGR.out.block k (by omega) (fun e=>h4 e.symm),HB5.out.block k h1]
  have hszB:W.heap.size<=B.heap.size:=by have:=hg1.size; have:=hg2.size; omega
  have hos:B.os=W.os:=by rw[hg2.os,hg1.os,HGR.out.os,HB5.out.os]
  have htp:B.tape=W.tape:=by rw[hg2.tape,hg1.tape,HGR.out.tape,HB5.out.tape]
  have hou:B.output=W.output:=by rw[hg2.output,hg1.output,HGR.out.output,HB5.out.output]
  have hown: ∀(sz m:Nat) (t:TypeId) (u:Value) (xs:List Value),w5.ownsRow (bx+4) t sz u m xs->t=5->B.ownsRow (bx+4) t sz u m xs:=fun sz m t u xs h ht=>by
   have h7:w7.ownsRow (bx+4) t sz u m xs:=h.kept HGR.out (xz h HOW.out (by rw[ht]; decide));have h8:=gE h7 hg1 (fun r e cs hc=>by cases e; rw[HX7.out]at hc; cases hc; cases ht);exact gE h8 hg2 (fun r e cs hc=>by cases e; rw[hX2]at hc; cases hc; cases ht)
  have hblk: ∀k,k<bx+4->(Value.slice av ys.length cv).ownBlock≠some k:=fun k h1 e=>by have:=hge k e; omega
  refine⟨⟨hszB,fun k o hko hoc=> ?_⟩,⟨⟨hos,htp,hou,hszB,fun k hk=> ?_⟩,fun k cs hk=> ?_, ?_, ?_⟩,⟨ys++[(.slice a5 pl.length e5,pl)], .slice a7 (ys.length+1) c7, ?_, ?_,hB1, ?_, ?_⟩, ?_, ?_⟩
  ·rw[hkW k (Array.getElem?_eq_some_iff.1 hko).1 (fun e=>by rw[e,H3.out]at hko; cases hko; cases hoc) (fun e=>by rw[e,H7.out]at hko; cases hko; cases hoc) (fun e=>by
    obtain⟨_,cur,hcur⟩:=lL H5.out e;rw[hcur]at hko; cases hko; cases hoc)]
   exact hko
  ·rw[<-HBX.out]at hk;exact hkW k (by omega) (by omega) (by omega) (hblk k (by omega))
  ·exact hkW k (Array.getElem?_eq_some_iff.1 hk).1 (fun e=>by rw[e,H3.out]at hk; cases hk) (fun e=>by rw[e,H7.out]at hk; cases hk) (fun e=>by
    obtain⟨_,cur,hcur⟩:=lL H5.out e;rw[hcur]at hk; cases hk)
  ·exact hkW _ (by omega) (by omega) (by omega) (hblk _ (by omega))
  ·exact hkW _ (by omega) (by omega) (by omega) (hblk _ (by omega))
  ·rw[List.map_append,H1.out,gA,HPL.out,HSE.out]; rfl
  ·rw[List.length_append,List.length_append,H2.out]; rfl
  ·rw[List.length_append,List.map_append];have h8:=gE HOWN.out hg1 (fun r e cs hc=>by cases e; rw[HX7.out]at hc; cases hc);exact gE h8 hg2 (fun r e cs hc=>by cases e; rw[hX2]at hc; cases hc)
  ·intro y hy
   rcases List.mem_append.1 hy with hy | hy
   ·exact hown _ _ _ _ _ (aV (H6.out y hy) HB5.out) rfl
   ·rw[List.mem_singleton.1 hy];exact hown _ _ _ _ _ (ci HO5.out (by omega)) rfl
  ·rw[fJ]; exact hB2
  ·refine H8.out.trans ⟨hos,htp,hou,hszB,fun k hk=>hkW k (by omega) (by omega) (by omega) (hblk k (by omega))⟩
 case done=>
  rintro Dl ys W hDl hS ⟨⟨zs,v,h1,h2,h3,h5,h6⟩,h7,h8⟩ hK;have hc:=al (k:=0) h3;simp only[List.getElem?_toArray,List.getElem?_cons_zero]at hc;go_wp2_with fail;have hb2:=HB2.out;have hbx:=HBX.out;refine⟨by simp, .inl ⟨_,_,rfl,run_takeDeferred hK, ?_⟩⟩;have hsz2:=hb2.size;refine⟨_,results_tmp2 rfl _ _ _,v,rfl,⟨zs,by rw[h1,hS,HN.out],ownsRow_putObj (ci h5 (by omega)) _ hK rfl,fun y hy=>ownsRow_putObj (ci (h6 y hy) (by omega)) _ hK rfl⟩, ?_⟩
  have hWb:Below w.heap.size w W:=(hb2.trans (HB24.out.mono hsz2)).trans (h8.mono (by omega));exact fC hWb (grownBy_putObj' W Dl _) (by omega) hWb.size
 case stop=>
  rintro Dl c pre W _ _ h _;exact h.elim
structure jF (w : World) : Prop where
 env:jE w
 init:jM w
 kons:gH w
 ilt:1<w.heap.size
 klt:4<w.heap.size
 deb:tW w
theorem jF.below {w w':World} (h:jF w) (hb:Below w.heap.size w w'):jF w':=
 ⟨h.env.below hb,h.init.below hb h.ilt,h.kons.below hb h.klt,Nat.lt_of_lt_of_le h.ilt hb.size,Nat.lt_of_lt_of_le h.klt hb.size,h.deb.below hb h.deb.lt⟩
theorem xZ (S:Nat->Prop) (v:Value) (data:List UInt8) (w:World) (hv:bi S w v data) (hl:data.length<1152921504606846) (he:jF w):Calls Tryz.prog 118 #[v] w fun e w'=>e= .returned (.string (jI data))/\Below w.heap.size w w':=by
 have HV:=ab (show bi (fun k=>k<w.heap.size) w v data from aS.mono hv (fun k hk _=>hk) (by omega));have HE:=ab he;clear hv he
 go_enter Tryz.func118,Tryz.ntmps118
 go_wp2_with fail;refine(xQ _ HE.out.init).mono ?_;rintro e w1 ⟨rfl,hs1,hb1,hz1⟩;have HS1:=ab hs1;have HB1:=ab hb1;have HE1:=ab (HE.out.below hb1);clear hs1 hb1;go_wp2_with fail;refine(mL w.heap.size 248 [] [] data v w1 HS1.out (aS.mono (aS.below HV.out (by omega) HB1.out) (fun j hj hS=>by show j≠w.heap.size; have:j<w.heap.size:=hS; omega) (by omega)) (by simp; omega) HE1.out.kons HE1.out.klt (by have:=HE.out.klt; omega)).mono ?_
 rintro e w2 ⟨rfl,hs2,hg2⟩;rw[List.nil_append]at hs2;have HS2:=ab hs2;have HB2:=ab (show Below w.heap.size w w2 from fC HB1.out hg2 (Nat.le_refl _) HB1.out.size);have HE2:=ab (HE.out.below HB2.out);clear hs2 hg2;go_wp2_with fail;refine(xS w.heap.size 248 [] data w2 HS2.out (by omega) HE2.out.kons HE2.out.klt).mono ?_;rintro e w3 ⟨rfl,hb3⟩;go_wp2_with fail;go_ret;exact⟨rfl,ak HB2.out hb3⟩
def bg (l:List bm):List Value:=l.flatMap mD
theorem pQ : ∀l:List bm,(bg l).length=l.length*2
 | []=>rfl
 | p::l=>by
  have:=pQ l;unfold bg at this ⊢;rw[List.flatMap_cons,List.length_append,this,List.length_cons,show(mD p).length=2 from rfl]; omega
theorem nh {p:bm} : ∀u∈mD p,u.oneCell'=true:=by
 intro u hu;simp only[mD,List.mem_cons,List.not_mem_nil,or_false]at hu
 rcases hu with rfl | rfl<;> rfl
theorem xC {l:List bm} : ∀u∈bg l,u.oneCell'=true:=by
 intro u hu;obtain⟨p,_,hp⟩:=List.mem_flatMap.1 hu;exact nh u hp
theorem gh : ∀ {l:List bm},(∀p∈l,dk p)->bB dD (bg l) l
 | [],_=>rfl
 | p::l,h=>⟨mD p,bg l,by simp[bg],⟨rfl,h p (by simp)⟩,gh fun q hq=>h q (by simp[hq])⟩
theorem nT : ∀ {l:List bm} {cs:List Value},bB dD cs l->cs=bg l
 | [],cs,h=>h
 | p::l,cs,h=>by
  obtain⟨c,rest,rfl,hc,hr⟩:=h;rw[nT hr,hc.1]; simp[bg]
theorem Aj {S:Nat->Prop} {w:World} {v:Value} {l:List bm} (h:aP S w v l):aS S w 2 v l.length (bg l):=by
 obtain⟨cells,h1,h2⟩:=h;rw[nT h2]at h1;exact h1
theorem Tryz.appParts :cY Tryz.prog 25 62 2 24:=cY.mk' (z:= .agg #[.string ⟨#[]⟩, .int .i64 0]) Tryz.underlying25 (by kernel_rfl) rfl (by decide) (by decide)
theorem oV (S:Nat->Prop) (v:Value) (l:List bm) (w:World) (hv:aP S w v l) (hl:l.length<=1048576):
  Calls Tryz.prog 76 #[v] w fun e w'=> ∃v',e= .returned v'/\w'.ownsRow w.heap.size 62 2 v' l.length (bg l)/\Below w.heap.size w w':=by
 obtain⟨a,cap,rfl,hn,hm,-⟩:=aY.shape hv dD.len;unfold maxLen at hm;have HV:=ab (show aS S (w.alloc (.cells #[] 62)) 2 (.slice a l.length cap) l.length (bg l)from aS.below (Aj hv) (by omega) ((Below.refl _ _).alloc (Nat.le_refl _) _));have HO:=ab (World.ownsRow_made (base:=w.heap.size) (e:=62) (size:=2) w #[] 0 (Nat.le_refl _) (by unfold maxLen; omega) rfl)
 obtain⟨n,hnn⟩: ∃n,n=l.length:=⟨_,rfl⟩;rw[<-hnn]at HV hn hl ⊢;have HN:=ab hnn
 cases a with
 | none=>
  have hl0:l=[]:=by
   obtain⟨a',cap',he,_,_,h0⟩:=aY.shape hv dD.len
   cases he
   cases l with
   | nil=>rfl
   | cons p r=>obtain⟨b,o,c,h1,_⟩:=h0 0 p rfl; cases h1
  clear hv hnn;have heq:=Lib.run_eql_slice_nil (P:=Tryz.prog) w 25 62 none n cap 0 0 Tryz.underlying25;simp only[Option.isNone_none]at heq
  go_enter Tryz.func76,Tryz.ntmps76
  go_wp2_with fail;go_ret;refine⟨_,rfl, ?_,Below.refl _ _⟩;rw[HN.out,hl0];exact World.ownsRow_nil _ _ _ _
 | some ad=>
  clear hv hnn;have heq:=Lib.run_eql_slice_nil (P:=Tryz.prog) w 25 62 (some ad) n cap 0 0 Tryz.underlying25;simp only[Option.isNone_some]at heq
  go_enter Tryz.func76,Tryz.ntmps76
  go_wp2_with (at_builtin; go_must (refine bI Tryz.appParts rfl _ _ rfl w.heap.size _ 0 [] rfl HO.out _ n (bg l) rfl HV.out xC (by omega) (by simp) ?_); intro v5 w5 hown5 hgrow5; rw[Nat.zero_add,List.nil_append]at hown5; have HO5:=ab hown5; have HG5:=ab hgrow5; clear hown5 hgrow5);go_ret;exact⟨_,rfl,HO5.out,aZ ((Below.refl _ _).alloc (Nat.le_refl _) _) HO.out HG5.out (Nat.le_refl _) (by simp)⟩
theorem oU (S:Nat->Prop) (v:Value) (l:List UInt8) (w:World) (hv:bi S w v l) (hl:l.length<=1048576):
  Calls Tryz.prog 119 #[v] w fun e w'=> ∃v',e= .returned v'/\w'.ownsRow w.heap.size 5 1 v' l.length (l.map aN)/\Below w.heap.size w w':=by
 obtain⟨hlen,a,cap,rfl,hn,hm,h0⟩:=id hv;unfold maxLen at hm;have HV:=ab (show aS S (w.alloc (.cells #[] 5)) 1 (.slice a l.length cap) l.length (l.map aN)from aS.below hv (by omega) ((Below.refl _ _).alloc (Nat.le_refl _) _));have HO:=ab (World.ownsRow_made (base:=w.heap.size) (e:=5) (size:=1) w #[] 0 (Nat.le_refl _) (by unfold maxLen; omega) rfl)
 cases a with
 | none=>
  have hl0:l=[]:=by
   rcases h0 with h0 | ⟨b,o,h1,_⟩
   ·exact List.eq_nil_of_length_eq_zero (by simpa using h0)
   ·cases h1
  subst hl0;clear hv HV h0;have heq:=Lib.run_eql_slice_nil (P:=Tryz.prog) w 28 5 none 0 cap 0 0 Tryz.underlying28;simp only[Option.isNone_none]at heq
  go_enter Tryz.func119,Tryz.ntmps119
  go_wp2_with fail;go_ret;exact⟨_,rfl,World.ownsRow_nil _ _ _ _,Below.refl _ _⟩
 | some ad=>
  clear hv h0;have heq:=Lib.run_eql_slice_nil (P:=Tryz.prog) w 28 5 (some ad) l.length cap 0 0 Tryz.underlying28;simp only[Option.isNone_some]at heq
  go_enter Tryz.func119,Tryz.ntmps119
  go_wp2_with (at_builtin; go_must (refine bI Tryz.appBytes rfl _ _ rfl w.heap.size _ 0 [] rfl HO.out _ l.length (l.map aN) rfl HV.out (fD l) (by omega) (by simp) ?_); intro v5 w5 hown5 hgrow5; rw[Nat.zero_add,List.nil_append]at hown5; have HO5:=ab hown5; have HG5:=ab hgrow5; clear hown5 hgrow5);go_ret;exact⟨_,rfl,HO5.out,aZ ((Below.refl _ _).alloc (Nat.le_refl _) _) HO.out HG5.out (Nat.le_refl _) (by simp)⟩
theorem aQ {w:World} {k:Nat} {cs cs':Array Value} {t t':TypeId} {z z':Nat×Nat} (h:w.heap[k]? =some (.cells cs t z)) (h':w.heap[k]? =some (.cells cs' t' z')):t=t':=by
 have:=h.symm.trans h';simp at this;exact this.2.1
theorem bA {w w':World} {base sz n:Nat} {e:TypeId} {v:Value} {xs:List Value} (h:w.ownsRow base e sz v n xs) (hs: ∀k,k<w.heap.size->v.ownBlock=some k->w'.heap[k]? =w.heap[k]?):w'.ownsRow base e sz v n xs:=by
 obtain⟨hl,h2⟩:=h;refine⟨hl, ?_⟩
 rcases h2 with h2 | ⟨g,cap,cur,rfl,hg,hh,h3⟩
 ·exact .inl h2
 ·exact .inr ⟨g,cap,cur,rfl,hg,(hs g (lt_of_block hh) rfl).trans hh,h3⟩
theorem aK {w:World} {base:Nat} {v:Value} {e:TypeId} {sz:Nat} {n:Nat} {xs:List Value} {k:Nat} (h:w.ownsRow base e sz v n xs) (hk:v.ownBlock=some k): ∃cs,w.heap[k]? =some (.cells cs e (0,0)):=by
 obtain⟨_,h2⟩:=h
 rcases h2 with⟨rfl,rfl⟩ | ⟨g,cap,cur,rfl,_,hh,_⟩
 ·cases hk
 ·have:g=k:=by simpa [Value.ownBlock]using hk
  subst this;exact⟨cur,hh⟩
theorem fX.ncells {w:World} {mb:Nat} {L:List ByteArray} (h:fX w mb L) {cs:Array Value} {t:TypeId} {z:Nat×Nat} :w.heap[mb]? ≠some (.cells cs t z):=fun e=>by
 obtain⟨ps,⟨es,clock,hb,_⟩,_⟩:=h;rw[hb]at e; cases e
theorem cZ.same {B:Nat} {v:Value} {L:List (List UInt8)} {w w':World} (h:cZ B v L w) (hs: ∀k cs t,k<w.heap.size->B<=k->w.heap[k]? =some (.cells cs t (0,0))->(v.ownBlock=some k\/t=5)->w'.heap[k]? =w.heap[k]?):cZ B v L w':=by
 obtain⟨ys,h1,h2,h3⟩:=h;refine⟨ys,h1,bA h2 (fun k hk hv=> ?_),fun y hy=>bA (h3 y hy) (fun k hk hv=> ?_)⟩
 ·obtain⟨cs,hc⟩:=aK h2 hv;exact hs k cs _ hk (h2.lt k hv).1 hc (.inl hv)
 ·obtain⟨cs,hc⟩:=aK (h3 y hy) hv;exact hs k cs _ hk ((h3 y hy).lt k hv).1 hc (.inr rfl)
theorem cZ.below {B:Nat} {v:Value} {L:List (List UInt8)} {w w':World} (h:cZ B v L w) (hb:Below w.heap.size w w'):cZ B v L w':=h.same fun k _ _ hk _ _ _=>hb.block k hk
theorem cZ.le {B B':Nat} {v:Value} {L:List (List UInt8)} {w:World} (h:cZ B v L w) (hb:B'<=B):cZ B' v L w:=by
 obtain⟨ys,h1,h2,h3⟩:=h;exact⟨ys,h1,ci h2 hb,fun y hy=>ci (h3 y hy) hb⟩
theorem CP {B:Nat} {a:Option Addr} {n cap:Nat} {L:List (List UInt8)} {w:World} (h:cZ B (.slice a n cap) L w) {k:Nat} {pl:List UInt8} (hk:L[k]? =some pl):
  ∃b y,a=some ⟨b,0,none⟩/\B<=b/\b<w.heap.size/\n=L.length/\w.cell? ⟨b,k,none⟩=some y/\w.ownsRow B 5 1 y pl.length (pl.map aN):=by
 obtain⟨ys,h1,h2,h3⟩:=h;have hl:ys.length=L.length:=by rw[<-h1,List.length_map]
 rw[<-h1,List.getElem?_map,Option.map_eq_some_iff]at hk;obtain⟨y,hy,rfl⟩:=hk;have hr:=bp h2;obtain⟨_,a',cap',he,_,_,h0⟩:=hr;have hlt:=(List.getElem?_eq_some_iff.1 hy).1;simp only[Value.slice.injEq]at he;obtain⟨rfl,hn,rfl⟩:=he
 rcases h0 with h0 | ⟨b,o,rfl,hb,hc⟩
 ·omega
 ·have hob:=hb.2
  rcases h2.2 with⟨hz,_⟩ | ⟨g,cp,cur,hv,hbs,hh,_⟩
  ·simp at hz
  ·simp only[Value.slice.injEq,Option.some.injEq,Addr.mk.injEq,and_true]at hv;obtain⟨⟨rfl,rfl⟩,-,-⟩:=hv;refine⟨b,y.1,rfl,hbs,lt_of_block hh,by rw[hn,hl], ?_,h3 y (List.mem_of_getElem? hy)⟩;have:=hc k y.1 (by rw[List.getElem?_map,hy]; rfl)
   rwa [Nat.zero_add]at this
def cP (zs:List jN):List Value:=zs.flatMap fun z=>bM z.1 z.2
theorem ka (zs:List jN) (z:jN):cP (zs++[z])=cP zs++bM z.1 z.2:=by simp[cP]
theorem jZ {S:Nat->Prop} {w:World} : ∀ {zs:List jN},(∀z∈zs,aP S w z.1 z.2.parts/\dj z.2)->bB (dT S w) (cP zs) (zs.map Prod.snd)
 | [],_=>rfl
 | z::zs,h=>⟨bM z.1 z.2,cP zs,by simp[cP],⟨z.1,rfl,h z (by simp)⟩,jZ fun y hy=>h y (by simp[hy])⟩
structure bQ (w : World) (base : Nat) (fv : Value) (fs : List aw) : Prop where
 row: ∃zs:List jN,zs.map Prod.snd=fs/\w.ownsRow base 27 7 fv zs.length (cP zs)/\ ∀z∈zs,w.ownsRow base 62 2 z.1 z.2.parts.length (bg z.2.parts)/\dj z.2/\ ∀p∈z.2.parts,dk p
theorem bQ.nil (w:World) (base:Nat):bQ w base (.slice none 0 0) []:=⟨[],rfl,World.ownsRow_nil _ _ _ _,by simp⟩
theorem bQ.at {w:World} {base:Nat} {fv:Value} {fs:List aw} (h:bQ w base fv fs):aT (fun k=>base<=k) w fv fs:=by
 obtain⟨zs,rfl,h2,h3⟩:=h.row;refine⟨cP zs, ?_,jZ fun z hz=>⟨?_,(h3 z hz).2.1⟩⟩
 ·rw[List.length_map];exact(bp h2).weak fun k hk=>hk.1
 ·exact⟨_,(bp (h3 z hz).1).weak fun k hk=>hk.1,gh (h3 z hz).2.2⟩
theorem bQ.same {w w':World} {base:Nat} {fv:Value} {fs:List aw} (h:bQ w base fv fs) (hs: ∀k cs t,k<w.heap.size->base<=k->w.heap[k]? =some (.cells cs t (0,0))->((t=27/\fv.ownBlock=some k)\/t=62)->w'.heap[k]? =w.heap[k]?):bQ w' base fv fs:=by
 obtain⟨zs,h1,h2,h3⟩:=h.row;refine⟨zs,h1,bA h2 (fun k hk hv=> ?_),fun z hz=>⟨bA (h3 z hz).1 (fun k hk hv=> ?_),(h3 z hz).2⟩⟩
 ·obtain⟨cs,hc⟩:=aK h2 hv;exact hs k cs _ hk (h2.lt k hv).1 hc (.inl ⟨rfl,hv⟩)
 ·obtain⟨cs,hc⟩:=aK (h3 z hz).1 hv;exact hs k cs _ hk ((h3 z hz).1.lt k hv).1 hc (.inr rfl)
theorem bQ.below {w w':World} {base:Nat} {fv:Value} {fs:List aw} (h:bQ w base fv fs) (hb:Below w.heap.size w w'):bQ w' base fv fs:=h.same fun k _ _ hk _ _ _=>hb.block k hk
theorem bQ.le {w:World} {base B:Nat} {fv:Value} {fs:List aw} (h:bQ w base fv fs) (hb:B<=base):bQ w B fv fs:=by
 obtain⟨zs,h1,h2,h3⟩:=h.row;exact⟨zs,h1,ci h2 hb,fun z hz=>⟨ci (h3 z hz).1 hb,(h3 z hz).2⟩⟩
structure iE where
 tm0:Int
 fv:Value
 cv:Value
 rd:Nat
 kp:Nat
 at0:Int
 mb:Nat
 cut:eU
def cO (q:iE) (kb:Nat) (nv:Value):List Value:=[.int .i64 q.tm0,q.fv,q.cv,nv, .int .i64 (q.rd:Int), .int .i64 (q.kp:Int), .int .i64 q.at0, .map (some q.mb), .map (some kb)]++cT q.cut
structure fU (w : World) (base cb kb : Nat) (q : iE) (nv : Value) (known : List ByteArray) (news : List (List UInt8)) : Prop where
 box:w.heap[cb]? =some (.cells (cO q kb nv).toArray 95 (0,0))
 news:cZ base nv news w
 known:fX w kb known
structure gv (base cb kb : Nat) (nv nv' : Value) (w w' : World) : Prop where
 below:Below base w w'
 same: ∀k,k<w.heap.size->k≠cb->k≠kb->nv.ownBlock≠some k->w'.heap[k]? =w.heap[k]?
 place: ∀k,nv'.ownBlock=some k->nv.ownBlock=some k\/w.heap.size<=k
theorem gv.refl (base cb kb:Nat) (nv:Value) (w:World):gv base cb kb nv nv w w:=⟨Below.refl _ _,fun _ _ _ _ _=>rfl,fun _ h=> .inl h⟩
theorem gv.trans {base cb kb:Nat} {v v1 v2:Value} {A B C:World} (h:gv base cb kb v v1 A B) (k:gv base cb kb v1 v2 B C):gv base cb kb v v2 A C:=by
 have hs:=h.below.size;refine⟨h.below.trans k.below,fun i h1 h2 h2' h3=>(k.same i (by omega) h2 h2' (fun e=> ?_)).trans (h.same i h1 h2 h2' h3),fun i e=> ?_⟩
 ·rcases h.place i e with e2 | e2
  ·exact h3 e2
  ·omega
 ·rcases k.place i e with e2 | e2
  ·exact h.place i e2
  ·exact .inr (by omega)
theorem gv.ofBelow {base cb kb:Nat} {v:Value} {w w':World} (h:Below w.heap.size w w') (hb:base<=w.heap.size):gv base cb kb v v w w':=⟨h.mono hb,fun k h1 _ _ _=>h.block k h1,fun _ e=> .inl e⟩
theorem fU.ne {w:World} {base cb kb:Nat} {q:iE} {nv:Value} {known:List ByteArray} {news:List (List UInt8)} (h:fU w base cb kb q nv known news) {k:Nat} {cs:Array Value} {t:TypeId} (hk:w.heap[k]? =some (.cells cs t (0,0))) (h1:t≠95) (h2:t≠28):k≠cb/\k≠kb/\nv.ownBlock≠some k:=by
 refine⟨fun e=> ?_,fun e=> ?_,fun e=> ?_⟩
 ·subst e; exact h1 (aQ hk h.box)
 ·subst e; exact h.known.ncells hk
 ·obtain⟨ys,_,h3,_⟩:=h.news;obtain⟨cs2,hc⟩:=aK h3 e;exact h2 (aQ hk hc)
theorem fU.below {w w':World} {base cb kb:Nat} {q:iE} {nv:Value} {known:List ByteArray} {news:List (List UInt8)} (h:fU w base cb kb q nv known news) (hb:Below w.heap.size w w'):fU w' base cb kb q nv known news:=
 ⟨(hb.block cb (lt_of_block h.box)).trans h.box,h.news.below hb,h.known.below hb⟩
theorem fU.turn {w w':World} {base cb kb:Nat} {q:iE} {nv:Value} {known:List ByteArray} {news:List (List UInt8)} (h:fU w base cb kb q nv known news) {r:Option Nat} (hg:w.grownBy w' r) (hr: ∀k,r=some k->(∃cs t,w.heap[k]? =some (.cells cs t (0,0))/\t≠95/\t≠28/\t≠5)):fU w' base cb kb q nv known news:=by
 have hne: ∀k cs t,w.heap[k]? =some (.cells cs t (0,0))->(t=95\/t=28\/t=5)->r≠some k:=by
  intro k cs t hk ht e;obtain⟨cs2,t2,h2,n1,n2,n3⟩:=hr k e;have:=aQ hk h2;subst this
  rcases ht with ht | ht | ht
  ·exact n1 ht
  ·exact n2 ht
  ·exact n3 ht
 refine⟨(hg.block cb (lt_of_block h.box) (fun e=>hne _ _ _ h.box (.inl rfl) e.symm)).trans h.box,h.news.same fun k cs t hk _ hc ht=>hg.block k hk (fun e=>hne k cs t hc ?_ e.symm),h.known.same (hg.block kb h.known.lt (fun e=> ?_))⟩
 ·rcases ht with ht | ht
  ·obtain⟨ys,_,h3,_⟩:=h.news;obtain⟨cs2,hc2⟩:=aK h3 ht;exact .inr (.inl (aQ hc hc2))
  ·exact .inr (.inr ht)
 ·obtain⟨cs2,t2,h2,_⟩:=hr kb e.symm;exact h.known.ncells h2
theorem fU.know {w w':World} {base cb kb:Nat} {q:iE} {nv:Value} {known k2:List ByteArray} {news:List (List UInt8)} (h:fU w base cb kb q nv known news) (hs:fX w' kb k2) (hg:w.grownBy w' (some kb)):fU w' base cb kb q nv k2 news:=
 ⟨(hg.block cb (lt_of_block h.box) (fun e=>by cases e; exact h.known.ncells h.box)).trans h.box,h.news.same fun k cs t hk _ hc _=>hg.block k hk (fun e=>by cases e; exact h.known.ncells hc),hs⟩
theorem tI (ys:List (Value×List UInt8)) (y:Value×List UInt8):(ys++[y]).map Prod.fst=ys.map Prod.fst++[y.1]:=by simp
theorem fU.push {w w1 w2:World} {base cb kb:Nat} {q:iE} {nv v' dv:Value} {known:List ByteArray} {news:List (List UInt8)} {pl:List UInt8} {ys:List (Value×List UInt8)} (h:fU w base cb kb q nv known news) (hy:ys.map Prod.snd=news) (hd: ∀y∈ys,w.ownsRow base 5 1 y.1 y.2.length (y.2.map aN)) (hrow:w.ownsRow base 28 1 nv ys.length (ys.map Prod.fst))
  (hb:Below w.heap.size w w1) (hn:w1.ownsRow base 5 1 dv pl.length (pl.map aN)) (hown:w2.ownsRow base 28 1 v' (ys.length+1) (ys.map Prod.fst++[dv])) (hg:w1.grownBy w2 nv.ownBlock) (hpl: ∀k,v'.ownBlock=some k->nv.ownBlock=some k\/w1.heap.size<=k) (hbe:base<=cb) (hbz:base<=w.heap.size):
  fU (w2.setCell ⟨cb,3,none⟩ v') base cb kb q v' known (news++[pl])/\gv base cb kb nv v' w (w2.setCell ⟨cb,3,none⟩ v'):=by
 have h1:=h.below hb;have hx1:=h1.box;have hlt:=lt_of_block hx1;have hz1:=hb.size;have hr1:=aV hrow hb;have hne:nv.ownBlock≠some cb:=fun e=>by
  obtain⟨cs,hc⟩:=aK hr1 e;exact absurd (aQ hx1 hc) (by decide)
 have hne':v'.ownBlock≠some cb:=fun e=>by
  rcases hpl cb e with e | e
  ·exact hne e
  ·omega
 have hb2:=(hg.block cb hlt (fun e=>hne e.symm)).trans hx1;have hdat: ∀(u:Value) (ds:List UInt8),w1.ownsRow base 5 1 u ds.length (ds.map aN)->(w2.setCell ⟨cb,3,none⟩ v').ownsRow base 5 1 u ds.length (ds.map aN):=by
  intro u ds hd;refine bA hd (fun i hi hu=> ?_);obtain⟨cs,hc⟩:=aK hd hu;rw[Below.heap_setCell _ _ _ _ (show i≠cb from fun e=>absurd (aQ (e▸hc) hx1) (by decide))];refine hg.block i hi (fun e=> ?_);obtain⟨cs2,hc2⟩:=aK hr1 e.symm;exact absurd (aQ hc hc2) (by decide)
 have hkb:kb<w1.heap.size:=h1.known.lt;have hks:(w2.setCell ⟨cb,3,none⟩ v').heap[kb]? =w1.heap[kb]? :=by
  rw[Below.heap_setCell _ _ _ _ (show kb≠cb from fun e=>h1.known.ncells (by rw[e]; exact hx1))];refine hg.block kb hkb (fun e=> ?_);obtain⟨cs,hc⟩:=aK hr1 e.symm;exact h1.known.ncells hc
 refine⟨⟨?_,⟨ys++[(dv,pl)],by simp[hy], ?_,fun z hz=> ?_⟩,h1.known.same hks⟩,⟨?_,fun i hi e1 e2 e3=> ?_,fun i e=> ?_⟩⟩
 ·have:=oq (k:=3) hb2 v'
  simpa [cO]using this
 ·rw[List.length_append,List.length_singleton,tI];exact hown.kept (aG _ _ _ _) (.inr (fun e=>hne' e))
 ·rcases List.mem_append.1 hz with hz | hz
  ·exact hdat _ _ (aV (hd z hz) hb)
  ·rw[List.mem_singleton]at hz;subst hz;exact hdat _ _ hn
 ·exact((hb.mono hbz).grown hg (Nat.le_trans hbz hz1) (fun i hi=>(hrow.lt i hi).1)).grown (aG w2 cb 3 v') (Nat.le_trans hbz (Nat.le_trans hz1 hg.size)) (fun i hi=>by cases hi; exact hbe)
 ·rw[Below.heap_setCell _ _ _ _ (show i≠cb from e1)];exact(hg.block i (by omega) (fun e=>e3 e.symm)).trans (hb.block i hi)
 ·rcases hpl i e with e | e
  ·exact .inl e
  ·exact .inr (by omega)
theorem jF.keep {B:Nat} {w w':World} (h:jF w) (hb:Below B w w') (h6:6<=B):jF w':=
 ⟨h.env.belowB hb (by omega) (by omega) (by omega),fun j x hj=>(hb.cell (p:=⟨1,j,none⟩) (show 1<B by omega)).trans (h.init j x hj),fun j x hj=>(hb.cell (p:=⟨4,j,none⟩) (show 4<B by omega)).trans (h.kons j x hj),
  Nat.lt_of_lt_of_le h.ilt hb.size,Nat.lt_of_lt_of_le h.klt hb.size,h.deb.block (hb.block _ (show 5<B by omega)) hb.size⟩
theorem jF.six {w:World} (h:jF w):6<=w.heap.size:=by
 have:=h.deb.lt;omega
theorem gv.later {base cb kb:Nat} {v v1:Value} {A B C:World} (h:gv base cb kb v v1 A B) {r:Option Nat} (hg:B.grownBy C r) (hr: ∀k,r=some k->A.heap.size<=k) (hb:base<=A.heap.size):gv base cb kb v v1 A C:=by
 have hs:=h.below.size;refine⟨h.below.grown hg (by omega) (fun k e=>by have:=hr k e; omega),fun i h1 h2 h3 h4=> ?_,h.place⟩;rw[hg.block i (by omega) (fun e=>by have:=hr i e.symm; omega)];exact h.same i h1 h2 h3 h4
def DS (base cb kb:Nat) (q:iE) (nv:Value) (known:List ByteArray) (news:List (List UInt8)) (cs:List (List UInt8)) (w:World) (e:Ending) (w':World):Prop:=
 ∃pv nv',e= .returned (.tuple #[pv, .int .i64 0])/\w'.ownsRow w.heap.size 62 2 pv cs.length (bg (cs.map bP))/\fU w' base cb kb q nv' (cs.foldl bO (known,news)).1 (cs.foldl bO (known,news)).2/\gv base cb kb nv nv' w w'
theorem gv.then {base cb kb:Nat} {v v1 v2 v3:Value} {A B C D:World} (h:gv base cb kb v v1 A B) (k:gv base cb kb v1 v2 B C) (l:gv base cb kb v2 v3 C D):gv base cb kb v v3 A D:=(h.trans k).trans l
theorem CX (cs:List (List UInt8)): ∀s:List ByteArray×List (List UInt8),(cs.foldl bO s).2.length<=s.2.length+cs.length:=by
 induction cs with
 | nil=>intro s; simp
 | cons c cs ih=>
  intro s;rw[List.foldl_cons,List.length_cons];refine Nat.le_trans (ih _) ?_;unfold bO
  split<;> simp<;> omega
theorem Ca {c:eU} (hc:fq c=true) (x:List UInt8):(cE c x).length<=x.length:=by
 have h1:(cE c x).flatten=x:=pT;have h2: ∀(l:List (List UInt8)),(∀y∈l,1<=y.length)->l.length<=l.flatten.length:=by
  intro l
  induction l with
  | nil=>simp
  | cons y l ih=>
   intro h;have h3:=h y (by simp);have h4:=ih fun z hz=>h z (by simp[hz])
   rw[List.flatten_cons,List.length_append,List.length_cons]; omega
 have h3:=h2 (cE c x) fun y hy=>(pd hc x y hy).1
 rwa [h1]at h3
theorem vM (base cb kb:Nat) (q:iE) (nv dv:Value) (known:List ByteArray) (news:List (List UInt8)) (data:List UInt8) (w:World) (h:fU w base cb kb q nv known news) (hd:bi (· <base) w dv data) (hl:data.length<=1048576) (hc:fq q.cut=true) (hs:q.cut.seed<18446744073709551616) (he:jF w)
  (hcb:base<=cb) (hkb:base<=kb) (hbz:base<=w.heap.size) (h6:6<=base) (hn:news.length<10000000000):
  Calls Tryz.prog 77 #[.pointer (some ⟨cb,0,none⟩),dv] w (DS base cb kb q nv known news (cE q.cut data) w):=by
 have HH:=ab h;have HBX:=ab h.box;have HD:=ab hd;have HE:=ab he;have HC:=ab hc;have hcl:=lt_of_block h.box;have hkl:=h.known.lt;have HNV:=ab (show ∀i,nv.ownBlock=some i->i<w.heap.size from fun i hi=>by
  obtain⟨ys,_,h3,_⟩:=h.news;exact(h3.lt i hi).2)
 clear h hd he;have k0:=ai (k:=0) HBX.out;have k3:=ai (k:=3) HBX.out;have k8:=ai (k:=8) HBX.out;have k9:=ai (k:=9) HBX.out;have k10:=ai (k:=10) HBX.out;have k11:=ai (k:=11) HBX.out;have k12:=ai (k:=12) HBX.out;have k13:=ai (k:=13) HBX.out;simp only[cO,cT,List.cons_append,List.nil_append,eE]at k0 k3 k8 k9 k10 k11 k12 k13
 go_enter Tryz.func77,Tryz.ntmps77
 go_wp2_with fail;refine(oT (· <base) q.cut data dv w hc hs HD.out hl HE.out.deb).mono ?_;rintro e w1 ⟨v1,rfl,hpc,hb1⟩
 change cZ w.heap.size v1 (cE q.cut data) w1 at hpc
 clear k0 k3 k8 k9 k10 k11 k12 k13;obtain⟨cs,hcs⟩: ∃cs,cs=cE q.cut data:=⟨_,rfl⟩;rw[<-hcs]at hpc;have HCE:=ab hcs;have HCS:=ab (show ∀y∈cs,1<=y.length/\y.length<=32768 by
  rw[hcs];intro y hy;have h1:=pd hc data y hy;have h2:=fo.1 hc
  omega)
 obtain⟨n,hnn⟩: ∃n,n=cs.length:=⟨_,rfl⟩;have hn1:n<=1048576:=by rw[hnn,hcs]; exact Nat.le_trans (Ca hc data) hl
 have HNN:=ab hnn;have HPC:=ab hpc;have HB1:=ab hb1;have HCO1:=ab (HH.out.below hb1);have HE1:=ab (HE.out.below hb1);have hz1:=hb1.size;obtain⟨a1,c1,hv1,hv2,hv3⟩: ∃a1 c1,v1= .slice a1 n c1/\n<=c1/\c1<=maxLen:=by
  obtain⟨ys,h1,h2,_⟩:=hpc;obtain⟨a,c,h3,h4,h5⟩:=au h2;have:ys.length=n:=by rw[hnn,<-h1,List.length_map]
  exact⟨a,c,by rw[h3,this],by omega,h5⟩
 subst hv1;unfold maxLen at hv3;have HCO:=ab (show fU w1 base cb kb q nv ((cs.take 0).foldl bO (known,news)).1 ((cs.take 0).foldl bO (known,news)).2 from HCO1.out);clear hcs hnn hpc hb1;go_wp2_with fail
 go_loopw [8,26] (fun pvv i wr=> ∃(k:Nat) (nv':Value),k<=n/\i= .int .i64 k/\wr.ownsRow w1.heap.size 62 2 pvv k (bg ((cs.take k).map bP))/\fU wr base cb kb q nv' ((cs.take k).foldl bO (known,news)).1 ((cs.take k).foldl bO (known,news)).2/\gv base cb kb nv nv' w1 wr) (fun _ i _=>n-(intOf i).toNat)
 case atStart=>exact⟨0,nv,Nat.zero_le _,rfl,World.ownsRow_nil _ _ _ _,HCO.out,gv.refl _ _ _ _ _⟩
 case round=>
  obtain⟨k,nv',hk,rfl,hown,hco,hkp⟩:=hrel;have HOWN:=ab hown;have HCOK:=ab hco;have HKP:=ab hkp;have hzr:=hkp.below.size;obtain⟨av,cv,hsv,hvn,hvm⟩:=au hown;subst hsv;unfold maxLen at hvm;clear hown hco hkp
  by_cases hlt:k<n
  ·obtain⟨pl,hpl⟩: ∃pl,cs[k]? =some pl:=⟨_,List.getElem?_eq_getElem (show k<cs.length by rw[<-HNN.out]; exact hlt)⟩;obtain⟨b,y,rfl,hb1,hb2,-,hcy,hoy⟩:=CP HPC.out hpl;have hsame: ∀i,w.heap.size<=i->i<w1.heap.size->wr.heap[i]? =w1.heap[i]? :=fun i hi1 hi2=>HKP.out.same i hi2 (by omega) (by omega) (fun e=>by have:=HNV.out i e; omega)
   have hcw:wr.cell? ⟨b,k,none⟩=some y:=by rw[<-hcy]; exact World.cell?_of_block (hsame b hb1 hb2)
   have how:=bA hoy (fun i hi hv=>hsame i (hoy.lt i hv).1 hi);obtain⟨ya,yc,rfl,-,-⟩:=au how;have HPL:=ab hpl;have hpl2:=HCS.out pl (List.mem_of_getElem? hpl);have HER:=ab (HE1.out.keep HKP.out.below h6);have HOW:=ab how;have HSA:=ab hsame;obtain⟨plen,hplen⟩: ∃plen,plen=pl.length:=⟨_,rfl⟩;rw[<-hplen]at hcw hpl2 HOW;have HPN:=ab hplen;have HBY:=ab (show bi (fun i=>w.heap.size<=i/\(Value.slice ya plen yc).ownBlock=some i) wr (.slice ya plen yc) pl by
    have h1:=bp HOW.out;have h2:=HPN.out;unfold bi;rw[<-h2];exact h1)
   clear hpl hcy hoy hsame how hplen;have hpn:plen<1099511627776:=by omega
   go_upto_region 10 with(first | (go_at_call 118; refine(xZ _ _ pl _ HBY.out (by have:=HPN.out; omega) HER.out).mono ?_; rintro e w2 ⟨rfl,hb2'⟩; have HB2:=ab hb2'; have HOW2:=ab (aV HOWN.out hb2'); have hz2:=hb2'.size; clear hb2') | (at_builtin; go_must (refine bK Tryz.appParts rfl _ _ rfl w1.heap.size (.slice av k cv) k (bg ((cs.take k).map bP)) rfl w2 [.string (jI pl), .int .i64 (plen:Int)] _ rfl rfl (nh (p:=⟨jI pl,(plen:Int)⟩)) HOW2.out (by omega) (by omega) ?_); intro vp w3 hown3 hg3 _ _; obtain⟨ap,cp,rfl,-,-⟩:=au hown3; have HO3:=ab hown3; have HG3:=ab hg3; clear hown3 hg3))
   have hz3:=HG3.out.size;have HCO3:=ab (show fU w3 base cb kb q nv' _ _ from(HCOK.out.below HB2.out).turn HG3.out (fun i e=>by
    obtain⟨cs2,hc2⟩:=aK HOW2.out e;exact⟨cs2,_,hc2,by decide,by decide,by decide⟩))
   have HKP3:=ab (show gv base cb kb nv nv' w1 w3 from(HKP.out.later (cw HB2.out none) (fun i e=>by cases e) (by omega)).later HG3.out (fun i e=>(HOW2.out.lt i e).1) (by omega));have HBX3:=ab HCO3.out.box;obtain⟨R,hR⟩: ∃R,R=(cs.take k).foldl bO (known,news):=⟨_,rfl⟩;have HRK:=ab (show(cs.take (k+1)).foldl bO (known,news)=bO R pl by rw[aX HPL.out,List.foldl_append,<-hR]; rfl)
   have hRl:R.2.length<11000000000:=by
    have h1:=CX (cs.take k) (known,news);rw[<-hR]at h1;have h2:(cs.take k).length<=k:=List.length_take_le _ _;simp only at h1;omega
   rw[<-hR]at HCO3;have HP3:=ab (show w3.ownsRow w1.heap.size 62 2 (.slice ap (k+1) cp) (k+1) (bg ((cs.take (k+1)).map bP)) by
    rw[aX HPL.out,List.map_append,List.map_singleton];have h1:=HO3.out;rw[HPN.out]at h1;have h2:bg ((cs.take k).map bP++[bP pl])=bg ((cs.take k).map bP)++[.string (jI pl), .int .i64 (pl.length:Int)]:=by simp[bg,mD,bP]
    rw[h2];exact h1)
   clear hR;have k0:=ai (k:=0) HBX3.out;have k3:=ai (k:=3) HBX3.out;have k8:=ai (k:=8) HBX3.out;have k9:=ai (k:=9) HBX3.out;have k10:=ai (k:=10) HBX3.out;have k11:=ai (k:=11) HBX3.out;have k12:=ai (k:=12) HBX3.out;have k13:=ai (k:=13) HBX3.out;simp only[cO,cT,List.cons_append,List.nil_append,eE]at k0 k3 k8 k9 k10 k11 k12 k13;have hsz:(jI pl).size<=maxLen:=by rw[kU]; unfold maxLen; omega
   have hget:=HCO3.out.known.get hsz
   by_cases hmem:jI pl∈R.1
   ·have HST:=ab (show bO R pl=R from if_pos hmem);rw[decide_eq_true hmem]at hget;clear hmem;go_wp2_with fail
    go_roundw
    case rel=>exact⟨k+1,nv',by omega,rfl,HP3.out,by rw[HRK.out,HST.out]; exact HCO3.out,HKP3.out⟩
    case measure=>simp only[intOf,Int.toNat_natCast]; omega
   ·have HST:=ab (show bO R pl=(R.1++[jI pl],R.2++[pl])from if_neg hmem);have HIN:=ab (show uX R.1 (jI pl)=R.1++[jI pl]from if_neg hmem);rw[decide_eq_false hmem]at hget;have hput:=HCO3.out.known.put hsz;have HPUT:=ab hput;clear hmem hput
    go_upto_region 12 with(at_mapUpdate; go_must (refine ly rfl _ _ _ _ rfl _ _ _ rfl rfl rfl HPUT.out ?_); rintro w4 ⟨hs4,hg4⟩; have HS4:=ab hs4; have HG4:=ab hg4; clear hs4 hg4)
    obtain⟨W5,hW5⟩: ∃W5:World,W5=w4.drew:=⟨_,rfl⟩;have hg5:w3.grownBy W5 (some kb):=by rw[hW5]; exact aR HG4.out ⟨rfl,rfl,rfl,Nat.le_refl _,fun _ _ _=>rfl⟩
    have HCO5:=ab (show fU W5 base cb kb q nv' (R.1++[jI pl]) R.2 from HCO3.out.know (by rw[<-HIN.out,hW5]; exact HS4.out.same rfl) hg5);have HKP5:=ab (show gv base cb kb nv' nv' w3 W5 from⟨Below.grown (Below.refl _ _) hg5 (by omega) (fun i e=>by cases e; exact hkb),fun i h1 h2 h3 h4=>hg5.block i h1 (fun e=>h3 (Option.some.inj e)),fun i e=> .inl e⟩);have hz5:=hg5.size;have HP5:=ab (show W5.ownsRow w1.heap.size 62 2 (.slice ap (k+1) cp) (k+1) (bg ((cs.take (k+1)).map bP))from bA HP3.out (fun i hi hv=>hg5.block i hi (fun e=>by
     have h1:=(HP3.out.lt i hv).1
     cases e
     omega)))
    have HBX5:=ab HCO5.out.box;have HBY5:=ab (show bi (fun _=>True) W5 (.slice ya plen yc) pl by
     have h1:aS (fun i=>w.heap.size<=i/\(Value.slice ya plen yc).ownBlock=some i) wr 1 (.slice ya plen yc) pl.length (pl.map aN):=HBY.out;have h2:=aS.same (w':=W5) h1 (fun i hS=> ?_)
     ·exact aS.weak (T:=fun _=>True) h2 (fun _ _=>trivial)
     ·have h3:=(HOW.out.lt i hS.2).2;have h4:w3.heap[i]? =wr.heap[i]? :=by
       rw[HG3.out.block i (by omega) (fun e=> ?_)]
       ·exact HB2.out.block i h3
       ·obtain⟨cs2,hc2⟩:=aK HOW2.out e.symm;obtain⟨cs3,hc3⟩:=aK HOW.out hS.2;rw[HB2.out.block i h3]at hc2;exact absurd (aQ hc2 hc3) (by decide)
      rw[hg5.block i (by omega) (fun e=>by have h5:=hS.1; have h6:=Option.some.inj e; omega),h4])
    obtain⟨ys,hys,hyr,hyd⟩:=HCO5.out.news;have HYS:=ab hys;have HYR:=ab hyr;have HYD:=ab hyd;obtain⟨na,nc,hnv,-,-⟩:=au hyr;subst hnv;have hyl:ys.length<11000000000:=by rw[<-hys,List.length_map]at hRl; exact hRl
    clear hg5 hys hyr hyd k0 k3 k8 k9 k10 k11 k12 k13 hget;have k0:=ai (k:=0) HBX5.out;have k3:=ai (k:=3) HBX5.out;have k8:=ai (k:=8) HBX5.out;have k9:=ai (k:=9) HBX5.out;have k10:=ai (k:=10) HBX5.out;have k11:=ai (k:=11) HBX5.out;have k12:=ai (k:=12) HBX5.out;have k13:=ai (k:=13) HBX5.out;simp only[cO,cT,List.cons_append,List.nil_append,eE]at k0 k3 k8 k9 k10 k11 k12 k13
    have S5:=k3;refine cL (fun w'=>w'.cell? ⟨cb,3,none⟩=some (.slice na ys.length nc)) (by kernel_rfl) (by kernel_rfl) ?_;simp only[List.dropLast_cons_cons,List.dropLast_singleton,List.length_cons,List.length_nil,Nat.reduceAdd,Nat.reduceSub];rw[<-hW5];clear hW5;refine ag 0 rfl (by kernel_rfl) (by kernel_rfl) (by kernel_rfl) (fun _ _ _ h=>h) rfl S5 (by intro w' hw'; go_simp; rfl) ?_
    simp only[Act.put,aH,aI,aJ];refine ag 1 rfl (by kernel_rfl) (by kernel_rfl) (by kernel_rfl) (fun _ _ _ h=>h) rfl S5 (by intro w' hw'; go_simp; rfl) ?_;simp only[Act.put,aH,aI,aJ];refine ag 2 rfl (by kernel_rfl) (by kernel_rfl) (by kernel_rfl) (fun _ _ _ h=>h) rfl S5 (by intro w' hw'; go_simp; rfl) ?_;simp only[Act.put,aH,aI,aJ];refine ag 3 rfl (by kernel_rfl) (by kernel_rfl) (by kernel_rfl) (fun _ _ _ h=>h) rfl S5 (by intro w' hw'; go_simp; rfl) ?_
    simp only[Act.put,aH,aI,aJ];refine ag 4 rfl (by kernel_rfl) (by kernel_rfl) (by kernel_rfl) (fun _ _ _ h=>h) rfl S5 (by intro w' hw'; go_simp; rfl) ?_;simp only[Act.put,aH,aI,aJ];refine ag 5 rfl (by kernel_rfl) (by kernel_rfl) (by kernel_rfl) (fun _ _ _ h=>h) rfl S5 (by intro w' hw'; go_simp; rfl) ?_;simp only[Act.put,aH,aI,aJ];refine ag 6 rfl (by kernel_rfl) (by kernel_rfl) (by kernel_rfl) (fun _ _ _ h=>h) rfl S5 (by intro w' hw'; go_simp; rfl) ?_
    simp only[Act.put,aH,aI,aJ];refine aC 7 rfl (by kernel_rfl) rfl (fun K hK=> ?_);go_wp2_with (go_at_call 119; refine(oU _ _ pl W5 HBY5.out (by have:=HPN.out; omega)).mono ?_; rintro e w6 ⟨dv6,rfl,ho6,hb6⟩; obtain⟨da,dc,rfl,-,-⟩:=au ho6; have HO6:=ab ho6; have HB6:=ab hb6; clear ho6 hb6);have hz6:=HB6.out.size;have S6:=(HB6.out.cell (p:=⟨cb,3,none⟩) (lt_of_block HBX5.out)).trans S5
    refine⟨S6, ?_⟩;refine aC 8 rfl (by kernel_rfl) rfl (fun K hK=> ?_);go_wp2_with fail;have S7:=(((Below.refl w6.heap.size w6).alloc (Nat.le_refl _) (.cells #[.slice da pl.length dc] 28)).cell (p:=⟨cb,3,none⟩) (aE S6)).trans S6;refine⟨S7, ?_⟩;refine aC 9 rfl (by kernel_rfl) rfl (fun K hK=> ?_);have HYR6:=ab (aV HYR.out HB6.out);go_wp2_with (at_builtin; go_must (refine bK Tryz.appChunks rfl _ _ rfl base (.slice na ys.length nc) ys.length (ys.map Prod.fst) rfl w6 [.slice da pl.length dc] _ rfl rfl (by simp[Value.oneCell']) HYR6.out (by omega) (by omega) ?_); intro vp wc hown3 hg3 _ hpl3; obtain⟨ea,ec,rfl,-,-⟩:=au hown3)
    have HPU:=ab (HCO5.out.push HYS.out HYD.out HYR.out HB6.out (ci HO6.out (by omega)) hown3 hg3 hpl3 hcb (by omega));have hcb6:w6.heap[cb]? =some (.cells (cO q kb (.slice na ys.length nc)).toArray 95 (0,0)):=(HB6.out.block cb (lt_of_block HBX5.out)).trans HBX5.out;have hne:(Value.slice na ys.length nc).ownBlock≠some cb:=fun e=>by
     obtain⟨cs2,hc2⟩:=aK HYR6.out e;exact absurd (aQ hcb6 hc2) (by decide)
    have HBXC:=ab ((hg3.block cb (lt_of_block hcb6) (fun e=>hne e.symm)).trans hcb6);have HPX:=ab (show(wc.setCell ⟨cb,3,none⟩ (.slice ea (ys.length+1) ec)).ownsRow w1.heap.size 62 2 (.slice ap (k+1) cp) (k+1) (bg ((cs.take (k+1)).map bP))from bA HP5.out (fun i hi hv=>by
     obtain⟨cs2,hc2⟩:=aK HP5.out hv;obtain⟨n1,n2,n3⟩:=HCO5.out.ne hc2 (by decide) (by decide);exact HPU.out.2.same i hi n1 n2 n3))
    clear hown3 hg3 hpl3 hcb6 hne k0 k3 k8 k9 k10 k11 k12 k13;have k0:=ai (k:=0) HBXC.out;have k3:=ai (k:=3) HBXC.out;have k8:=ai (k:=8) HBXC.out;have k9:=ai (k:=9) HBXC.out;have k10:=ai (k:=10) HBXC.out;have k11:=ai (k:=11) HBXC.out;have k12:=ai (k:=12) HBXC.out;have k13:=ai (k:=13) HBXC.out;simp only[cO,cT,List.cons_append,List.nil_append,eE]at k0 k3 k8 k9 k10 k11 k12 k13
    have S9:=k3;have f3:=aO (k:=3) HBXC.out;refine⟨S9, ?_⟩;refine ag 10 rfl (by kernel_rfl) (by kernel_rfl) (by kernel_rfl) (fun _ _ _ h=>h) rfl S9 (by intro w' hw'; go_simp; rfl) ?_;simp only[Act.put,aH,aI,aJ];refine ag 11 rfl (by kernel_rfl) (by kernel_rfl) (by kernel_rfl) (fun _ _ _ h=>h) rfl S9 (by intro w' hw'; go_simp; rfl) ?_;simp only[Act.put,aH,aI,aJ]
    refine ag 12 rfl (by kernel_rfl) (by kernel_rfl) (by kernel_rfl) (fun _ _ _ h=>h) rfl S9 (by intro w' hw'; go_simp; rfl) ?_;simp only[Act.put,aH,aI,aJ];refine bu (by kernel_rfl) ?_;refine dd rfl rfl (fun K hK=> ?_);go_wp2_with fail
    go_roundw
    case rel=>exact⟨k+1,_,by omega,rfl,HPX.out,by rw[HRK.out,HST.out]; exact HPU.out.1,HKP3.out.then HKP5.out HPU.out.2⟩
    case measure=>simp only[intOf,Int.toNat_natCast]; omega
  ·have hkk:k=n:=by omega
   subst hkk;have htk:cs.take k=cs:=List.take_of_length_le (by rw[<-HNN.out]; exact Nat.le_refl _);rw[htk]at HOWN HCOK;clear htk;go_wp2_with fail
   go_ret2
   rw[<-HCE.out];refine⟨_,nv',rfl, ?_,HCOK.out,(gv.ofBelow HB1.out hbz).trans HKP.out⟩;rw[<-HNN.out];exact ci HOWN.out hz1
theorem fU.setq {w:World} {base cb kb:Nat} {q q':iE} {nv:Value} {known:List ByteArray} {news:List (List UInt8)} (h:fU w base cb kb q nv known news) (i:Nat) (x:Value) (hq:(cO q kb nv).set i x=cO q' kb nv):fU (w.setCell ⟨cb,i,none⟩ x) base cb kb q' nv known news:=by
 have hoth: ∀k,k≠cb->(w.setCell ⟨cb,i,none⟩ x).heap[k]? =w.heap[k]? :=fun k hk=>Below.heap_setCell _ _ _ _ hk
 have hkc:kb≠cb:=fun e=>by
  have h1:=h.known.ncells (cs:=(cO q kb nv).toArray) (t:=95) (z:=(0,0));rw[e]at h1;have h2:=h.box;rw[e]at h2;exact h1 h2
 refine⟨?_,h.news.same fun k cs t hk _ hc ht=>hoth k (fun e=> ?_),h.known.same (hoth kb hkc)⟩
 ·have:=oq (k:=i) h.box x
  rwa [List.setIfInBounds_toArray,hq]at this
 ·subst e
  rcases ht with ht | ht
  ·obtain⟨ys,_,h3,_⟩:=h.news;obtain⟨cs2,hc2⟩:=aK h3 ht;exact absurd (aQ h.box hc2) (by decide)
  ·subst ht;exact absurd (aQ h.box hc) (by decide)
theorem aP.old {base:Nat} {W w:World} {v:Value} {l:List bm} (h:aP (· <base) W v l) (hb:Below base W w):aP (· <base) w v l:=by
 obtain⟨cells,h1,h2⟩:=h;exact⟨cells,aS.same h1 (fun k hk=>hb.block k hk),h2⟩
structure dE (W0 w : World) (base cb kb : Nat) (q : iE) (nv : Value) (prev : List aw) (s : kX) : Prop where
 col:fU w base cb kb q nv s.known s.news
 files:bQ w base q.fv s.files
 before:dF (· <base) W0 w q.mb prev
 old:Below base W0 w
 ne:q.mb≠kb
 rd:q.rd=s.read
 kp:q.kp=s.kept
theorem dE.below {W0 w w':World} {base cb kb:Nat} {q:iE} {nv:Value} {prev:List aw} {s:kX} (h:dE W0 w base cb kb q nv prev s) (hb:Below w.heap.size w w') (hz:base<=w.heap.size):dE W0 w' base cb kb q nv prev s:=
 ⟨h.col.below hb,h.files.below hb,h.before.below hb,h.old.trans (hb.mono hz),h.ne,h.rd,h.kp⟩
theorem dF.ncells {S:Nat->Prop} {W w:World} {mb:Nat} {fs:List aw} (h:dF S W w mb fs) {cs:Array Value} {t:TypeId} {z:Nat×Nat} :w.heap[mb]? ≠some (.cells cs t z):=fun e=>by
 obtain⟨xs,_,⟨es,clock,hb,_⟩,_⟩:=h;rw[hb]at e; cases e
theorem dF.same {S:Nat->Prop} {W w w':World} {mb:Nat} {fs:List aw} (h:dF S W w mb fs) (hs:w'.heap[mb]? =w.heap[mb]?):dF S W w' mb fs:=by
 obtain⟨xs,h1,h2,h3⟩:=h;exact⟨xs,h1,h2.same hs,h3⟩
theorem dE.read {W0 w w':World} {base cb kb:Nat} {q:iE} {nv nv':Value} {prev:List aw} {s s':kX} (h:dE W0 w base cb kb q nv prev s) (hc:fU w' base cb kb q nv' s'.known s'.news) (hk:gv base cb kb nv nv' w w') (h1:s'.files=s.files) (h2:s'.read=s.read) (h3:s'.kept=s.kept):dE W0 w' base cb kb q nv' prev s':=by
 refine⟨hc, ?_,h.before.same (hk.same _ h.before.lt (fun e=>h.before.ncells (e▸h.col.box)) h.ne (fun e=> ?_)),h.old.trans hk.below,h.ne,by rw[h2]; exact h.rd,by rw[h3]; exact h.kp⟩
 ·rw[h1];refine h.files.same fun k cs t hkk _ hcs ht=> ?_
  have n:=h.col.ne hcs (by rcases ht with⟨rfl,_⟩ | rfl<;> decide) (by rcases ht with⟨rfl,_⟩ | rfl<;> decide);exact hk.same k hkk n.1 n.2.1 n.2.2
 ·obtain⟨ys,_,h4,_⟩:=h.col.news;obtain⟨cs2,hc2⟩:=aK h4 e;exact h.before.ncells hc2
theorem dE.setq {W0 w:World} {base cb kb:Nat} {q q':iE} {nv:Value} {prev:List aw} {s s':kX} (h:dE W0 w base cb kb q nv prev s) (i:Nat) (x:Value) (hq:(cO q kb nv).set i x=cO q' kb nv) (hfv:q'.fv=q.fv) (hmb:q'.mb=q.mb) (hk:s'.known=s.known) (hn:s'.news=s.news) (hf:s'.files=s.files) (h1:q'.rd=s'.read) (h2:q'.kp=s'.kept) (hcb:base<=cb) (hz:base<=w.heap.size):
  dE W0 (w.setCell ⟨cb,i,none⟩ x) base cb kb q' nv prev s':=by
 have hoth: ∀k,k≠cb->(w.setCell ⟨cb,i,none⟩ x).heap[k]? =w.heap[k]? :=fun k hk=>Below.heap_setCell _ _ _ _ hk
 refine⟨by rw[hk,hn]; exact h.col.setq i x hq, ?_, ?_,h.old.grown (aG w cb i x) ?_ (fun k e=>by cases e; exact hcb),by rw[hmb]; exact h.ne,h1,h2⟩
 ·rw[hf,hfv];refine h.files.same fun k cs t _ _ hcs ht=>hoth k (fun e=> ?_)
  subst e
  rcases ht with⟨rfl,_⟩ | rfl
  ·exact absurd (aQ h.col.box hcs) (by decide)
  ·exact absurd (aQ h.col.box hcs) (by decide)
 ·rw[hmb];exact h.before.same (hoth _ (fun e=>h.before.ncells (e▸h.col.box)))
 ·exact Nat.le_trans hz (Nat.le_refl _)
theorem dE.file {W0 w w1 w2:World} {base cb kb:Nat} {q:iE} {nv fv' pv:Value} {prev:List aw} {s s':kX} {f:aw} {zs:List jN} (h:dE W0 w base cb kb q nv prev s) (hz:zs.map Prod.snd=s.files) (hr:w.ownsRow base 27 7 q.fv zs.length (cP zs)) (hd: ∀z∈zs,w.ownsRow base 62 2 z.1 z.2.parts.length (bg z.2.parts)/\dj z.2/\ ∀p∈z.2.parts,dk p)
  (hb:Below w.heap.size w w1) (hp:w1.ownsRow base 62 2 pv f.parts.length (bg f.parts)) (hok:dj f) (hpk: ∀p∈f.parts,dk p) (hown:w2.ownsRow base 27 7 fv' (zs.length+1) (cP zs++bM pv f)) (hg:w1.grownBy w2 q.fv.ownBlock) (hpl: ∀k,fv'.ownBlock=some k->q.fv.ownBlock=some k\/w1.heap.size<=k)
  (hk:s'.known=s.known) (hn:s'.news=s.news) (hf:s'.files=s.files++[f]) (h1:s'.read=s.read) (h2:s'.kept=s.kept) (hcb:base<=cb) (hbz:base<=w.heap.size):
  dE W0 (w2.setCell ⟨cb,1,none⟩ fv') base cb kb {q with fv:=fv'} nv prev s':=by
 have hc1:=h.col.below hb;have hr1:=aV hr hb;have hz1:=hb.size;have hc2:fU w2 base cb kb q nv s.known s.news:=hc1.turn hg (fun k e=>by
  obtain⟨cs2,hcs⟩:=aK hr1 e;exact⟨cs2,_,hcs,by decide,by decide,by decide⟩)
 have hoth: ∀k,k≠cb->(w2.setCell ⟨cb,1,none⟩ fv').heap[k]? =w2.heap[k]? :=fun k hk=>Below.heap_setCell _ _ _ _ hk
 have hfo:q.fv.ownBlock≠some cb:=fun e=>by
  obtain⟨cs2,hcs⟩:=aK hr1 e;exact absurd (aQ hc1.box hcs) (by decide)
 have hfo':fv'.ownBlock≠some cb:=fun e=>by
  rcases hpl cb e with e | e
  ·exact hfo e
  ·have:=lt_of_block hc1.box; omega
 have hpart: ∀(u:Value) (l:List bm),w1.ownsRow base 62 2 u l.length (bg l)->(w2.setCell ⟨cb,1,none⟩ fv').ownsRow base 62 2 u l.length (bg l):=by
  intro u l hu;refine bA hu (fun i hi hv=> ?_);obtain⟨cs,hc⟩:=aK hu hv;rw[hoth i (fun e=>absurd (aQ (e▸hc) hc1.box) (by decide))];refine hg.block i hi (fun e=> ?_);obtain⟨cs2,hc2⟩:=aK hr1 e.symm;exact absurd (aQ hc hc2) (by decide)
 have hold:Below base W0 w2:=(h.old.trans (hb.mono hbz)).grown hg (Nat.le_trans hbz hz1) (fun k e=>(hr1.lt k e).1);refine⟨by rw[hk,hn]; exact hc2.setq 1 fv' (by simp[cO]),⟨zs++[(pv,f)],by rw[List.map_append,hz,hf]; rfl, ?_,fun z hzm=> ?_⟩, ?_,hold.grown (aG w2 cb 1 fv') (Nat.le_trans hbz (Nat.le_trans hz1 hg.size)) (fun k e=>by cases e; exact hcb),h.ne,by rw[h1]; exact h.rd,by rw[h2]; exact h.kp⟩
 ·rw[List.length_append,List.length_singleton,ka];exact hown.kept (aG _ _ _ _) (.inr (fun e=>hfo' e))
 ·rcases List.mem_append.1 hzm with hzm | hzm
  ·exact⟨hpart _ _ (aV (hd z hzm).1 hb),(hd z hzm).2⟩
  ·rw[List.mem_singleton]at hzm;subst hzm;exact⟨hpart _ _ hp,hok,hpk⟩
 ·have hbf:=h.before.below hb;refine hbf.same ?_;rw[hoth _ (fun e=>hbf.ncells (e▸hc1.box))];refine hg.block _ hbf.lt (fun e=> ?_);obtain⟨cs2,hcs⟩:=aK hr1 e.symm;exact hbf.ncells hcs
theorem dE.other {W0 w w':World} {base cb kb b:Nat} {q:iE} {nv:Value} {prev:List aw} {s:kX} {cs:Array Value} (h:dE W0 w base cb kb q nv prev s) (hg:w.grownBy w' (some b)) (hx:w.heap[b]? =some (.cells cs 27 (0,0))) (hne:q.fv.ownBlock≠some b) (hb:base<=b) (hz:base<=w.heap.size):dE W0 w' base cb kb q nv prev s:=by
 have hsm: ∀k,k<w.heap.size->k≠b->w'.heap[k]? =w.heap[k]? :=fun k hk hn=>hg.block k hk (fun e=>hn (Option.some.inj e))
 refine⟨h.col.turn hg (fun k e=>by cases e; exact⟨cs,_,hx,by decide,by decide,by decide⟩),h.files.same fun k cs2 t hk _ hc ht=>hsm k hk (fun e=> ?_),h.before.same (hsm _ h.before.lt (fun e=>h.before.ncells (e▸hx))),h.old.grown hg hz (fun k e=>by cases e; exact hb),h.ne,h.rd,h.kp⟩;subst e
 rcases ht with⟨_,ht⟩ | rfl
 ·exact hne ht
 ·exact absurd (aQ hx hc) (by decide)
def jO (tm:Int) (prev:List aw) (c:eU) (s:kX) (e:bG):kX:=
 if e.kind=1 then(if qq tm prev e=true then⟨s.files++[fw tm prev c e],s.known,s.news,s.read,s.kept+1⟩
  else⟨s.files++[fw tm prev c e],((cE c e.data).foldl bO (s.known,s.news)).1,((cE c e.data).foldl bO (s.known,s.news)).2,s.read+1,s.kept⟩)
 else⟨s.files++[fw tm prev c e],s.known,s.news,s.read,s.kept⟩
theorem Di (tm:Int) (prev:List aw) (c:eU) (K:List bG) (e:bG):dS tm prev c (K++[e])=jO tm prev c (dS tm prev c K) e:=by
 unfold jO
 by_cases hk:e.kind=1
 ·rw[if_pos hk]
  by_cases ht:qq tm prev e=true
  ·rw[if_pos ht]; exact AQ ht
  ·rw[if_neg ht];refine AU ?_;unfold sq;rw[Bool.and_eq_true];exact⟨by simpa using hk,by simpa using ht⟩
 ·rw[if_neg hk]; exact AR hk
end Go.Proofs.YtnjkpcalgoefhaaGreatDoor
