/- Texts of this proof, one after the other: ScnW, SetR, ScnS, ScnF, ScnD, ScnG, Rng, RngP, EncA, EncC, EndA, EndB, RoundR, EndC, ScnI, ScnK, ScnL, ScnN. -/
import Derived.Test.YtnjkpcalgoefhaaGreatDoorCFreshB
set_option maxRecDepth 100000
set_option maxHeartbeats 8000000
namespace Go.Proofs.YtnjkpcalgoefhaaGreatDoor
open Go Go.RowKit Go.Maps
theorem ul (w:World) (n:Nat) (hn:n<=4096): ∃mc:Array Value,(Instr.makeSlice 45 (.int .i64 0) (.int .i64 (n:Int))).run Tryz.prog w= .ok (.slice (some ⟨w.heap.size,0,none⟩) 0 n) (w.alloc (.cells mc 30))/\(w.alloc (.cells mc 30)).ownsRow w.heap.size 30 6 (.slice (some ⟨w.heap.size,0,none⟩) 0 n) 0 []:=by
 obtain⟨ht,⟨i,z,h11,h12,h13,h14,h15⟩,hpos,hsm⟩:=Tryz.appEnts;have hb':(i.bytes:Int)*(n:Int)<=281474976710656:=by
  have h:i.bytes*n<=128*4096:=Nat.mul_le_mul (by omega) hn;have h2:((i.bytes*n:Nat):Int)<=281474976710656:=by omega
  rwa [Int.natCast_mul]at h2
 have hr:=run_make (P:=Tryz.prog) w _ _ i z ht h11 h12 .i64 .i64 0 n (Int.le_refl _) (by omega) hb' (by omega);simp only[Int.toNat_zero,Int.toNat_natCast]at hr;refine⟨_,hr,World.ownsRow_made w _ n (Nat.le_refl _) (by unfold maxLen; omega) ?_⟩;have:=size_madeCells z.cells (n*i.size);rw[this,h13]
theorem jU (S:Nat->Prop) (f:au) (pv:Value) (b:Bool) (w:World) (hp:ay S w pv f.parts) (h:dS f=b):Calls Tryz.prog 33 #[dV pv f] w fun e w'=>e= .returned (.bool b)/\Below w.heap.size w w':=by
 rw[<-h]; exact ng S f pv w hp
theorem pt (S:Nat->Prop) (L:List aX) (v:Value) (x:Int) (w:World) (hv:bM S w v L) (henv:iI w) (h:cj L=x):Calls Tryz.prog 34 #[v] w fun e w'=>e= .returned (.int .i64 x)/\Below w.heap.size w w':=by
 rw[<-h]; exact tY S L v w hv henv
abbrev sW (f:au):qS:=(.slice none 0 0,kh f)
theorem vZ (l:List au):(l.map sW).map Prod.snd=l.map kh:=by rw[List.map_map]; rfl
theorem go (x:gF):fm x=(decide (0<=x.tm) && decide (x.files.length<=4096) && x.files.all dS && decide (cj (x.files.map kh)=0)):=rfl
theorem oT (S:Nat->Prop) (x:gF) (fv:Value) (w:World) (hx:aY S w fv x.files) (henv:iI w):Calls Tryz.prog 12 #[kY fv x.tm] w fun e w'=>e= .returned (.bool (fm x))/\Below w.heap.size w w':=by
 obtain⟨a,cap,rfl,hc,hm,-⟩:=aT.shape hx fK.len;unfold maxLen at hm;have HX:=aa hx;have HE:=aa henv;clear hx henv;obtain⟨n,hn⟩: ∃n,n=x.files.length:=⟨_,rfl⟩;rw[<-hn]at hc HX ⊢;have HN:=aa hn;clear hn;unfold kY
 by_cases ht:x.tm<0
 ·have HF:=aa (show fm x=false by rw[go,show decide (0<=x.tm)=false by simp; omega]; rfl)
  go_enter Tryz.func12,Tryz.ntmps12
  go_wp2_with fail;go_ret;exact⟨al (by rw[HF.out]),(Below.refl _ _).alloc (Nat.le_refl _) _⟩
 ·by_cases hl:4096<n
  ·have HF:=aa (show fm x=false by rw[go,<-HN.out,show decide (n<=4096)=false by simp; omega]; simp);have hl2:(4096:Int)<(n:Int):=by omega
   go_enter Tryz.func12,Tryz.ntmps12
   go_wp2_with fail;go_ret;exact⟨al (by rw[HF.out]),(Below.refl _ _).alloc (Nat.le_refl _) _⟩
  ·have hl2: ¬(4096:Int)<(n:Int):=by omega
   have HTM:=aa ht;have HL:=aa hl
   go_enter Tryz.func12,Tryz.ntmps12
   go_upto_region 3 with fail
   obtain⟨W,hW⟩: ∃W,W=w.alloc (.cells #[.int .i64 x.tm, .slice a n cap] 24):=⟨_,rfl⟩;rw[<-hW];have HBW:=aa (show Below w.heap.size w W by rw[hW]; exact(Below.refl _ _).alloc (Nat.le_refl _) _);have HBX:=aa (show W.heap[w.heap.size]? =some (.cells #[.int .i64 x.tm, .slice a n cap] 24 (0,0)) by rw[hW]; exact heap_alloc_new w _);have HSZ:=aa (show W.heap.size=w.heap.size+1 by rw[hW]; simp)
   clear hW;have k0:=af (k:=0) HBX.out;have k1:=af (k:=1) HBX.out;simp only[kJ]at k0 k1;obtain⟨mc,hmk,hmo⟩:=ul W n (by omega);have HMO:=aa hmo;obtain⟨M,hM⟩: ∃M,M=W.alloc (.cells mc 30):=⟨_,rfl⟩;rw[<-hM]at hmk HMO;have HBM:=aa (show Below W.heap.size W M by rw[hM]; exact(Below.refl _ _).alloc (Nat.le_refl _) _);clear hM hmo;have k1m:=(HBM.out.cell (p:=⟨w.heap.size,1,none⟩) (ax k1)).trans k1
   have HV:=aa (show aY S W (.slice a n cap) x.files from aY.below HX.out HBW.out);go_wp2_with fail;clear hmk k0 k1 k1m
   go_loopw [3,22] (fun v i wr=> ∃k:Nat,k<=n/\i= .int .i64 k/\(x.files.take k).all dS=true/\wr.ownsRow W.heap.size 30 6 v k (kG ((x.files.take k).map sW))/\Below W.heap.size W wr) (fun _ i _=>n-(intOf i).toNat)
   case atStart=>exact⟨0,Nat.zero_le _,rfl,rfl,HMO.out,HBM.out⟩
   case round=>
    obtain⟨k,hk,rfl,hal,hown,hb⟩:=hrel;have HB:=aa hb;have HA:=aa hal;have HOWN:=aa hown;obtain⟨av,cv,hsv,hvn,hvm⟩:=aj hown;subst hsv;unfold maxLen at hvm;clear hb hal hown
    by_cases hlt:k<n
    ·obtain⟨f,hf⟩: ∃f,x.files[k]? =some f:=⟨_,List.getElem?_eq_getElem (show k<x.files.length by rw[<-HN.out]; exact hlt)⟩;obtain⟨b,o,pa,pc,rfl,hok,hpa,hblt,-,hcl⟩:=ez HV.out HB.out hf;have q0:=hcl 0 (by omega);have q1:=hcl 1 (by omega);have q2:=hcl 2 (by omega);have q3:=hcl 3 (by omega);have q4:=hcl 4 (by omega);have q5:=hcl 5 (by omega);have q6:=hcl 6 (by omega)
     simp only[cu,cw,Nat.add_zero]at q0 q1 q2 q3 q4 q5 q6;have HF:=aa hf;have HPA:=aa hpa;clear hf hpa hcl hok;obtain⟨fx,hfx⟩: ∃fx:Value,fx=dV (.slice pa f.parts.length pc) f:=⟨_,rfl⟩;have HB1:=aa ((Below.refl wr.heap.size wr).alloc (Nat.le_refl _) (.cells (cu (.slice pa f.parts.length pc) f).toArray 27));have HX1:=aa (heap_alloc_new wr (.cells (cu (.slice pa f.parts.length pc) f).toArray 27))
     cases hvs:dS f
     ·have HVS:=aa hvs;have HFF:=aa (show fm x=false by rw[go,vY HF.out HVS.out]; simp);clear hvs hfx;go_wp2_with (go_at_call 33; refine(jU S f _ false _ (ay.below HPA.out HB1.out) HVS.out).mono ?_; rintro e w1 ⟨rfl,hb1⟩; have HB2:=aa (ag HB1.out hb1); clear hb1);go_ret;exact⟨al (by rw[HFF.out]),HBW.out.trans ((ag HB.out HB2.out).mono (by have:=HSZ.out; omega))⟩
     ·have HVS:=aa hvs;clear hvs hfx;go_wp2_with (first | (go_at_call 33; refine(jU S f _ true _ (ay.below HPA.out HB1.out) HVS.out).mono ?_; rintro e w1 ⟨rfl,hb1⟩; have HB2:=aa (ag HB1.out hb1); have HX2:=aa ((hb1.block wr.heap.size (by simp)).trans HX1.out); have d0:=af (k:=0) HX2.out; have d1:=af (k:=1) HX2.out; have d2:=af (k:=2) HX2.out; have d3:=af (k:=3) HX2.out; have d5:=af (k:=5) HX2.out; simp only[cu,List.getElem?_toArray,cw]at d0 d1 d2 d3 d5; have HAL:=aa ((Below.refl w1.heap.size w1).alloc (Nat.le_refl _) (.cells (jB (.slice none 0 0) (kh f)).toArray 30)); have HOA:=aa (aW (aW HOWN.out HB2.out) HAL.out); have HRL:=aa (fy (n:=1) (sz:=6) (cells:=jB (.slice none 0 0) (kh f)) (heap_alloc_new w1 (.cells (jB (.slice none 0 0) (kh f)).toArray 30)) rfl (by decide)); have HZ:=aa (show W.heap.size<=(w1.alloc (.cells (jB (.slice none 0 0) (kh f)).toArray 30)).heap.size by have:=HB.out.size; have:=HB2.out.size; simp; omega); clear hb1) | (at_builtin; go_must (refine bV Tryz.appEnts rfl _ _ rfl W.heap.size (.slice av k cv) k (kG ((x.files.take k).map sW)) rfl HOA.out _ 1 (jB (.slice none 0 0) (kh f)) rfl HRL.out wH (by omega) HZ.out ?_); intro v9 w9 hown9 hg9; obtain⟨a9,c9,rfl,-,-⟩:=aj hown9; have HO9:=aa hown9; have HG9:=aa hg9; clear hown9 hg9))
      go_roundw
      case rel=>
       refine⟨k+1,by omega,rfl,pg HA.out HF.out HVS.out, ?_, ?_⟩
       ·rw[ba HF.out,List.map_append,List.map_singleton,rj];exact HO9.out
       ·exact aP ((ag HB.out HB2.out).trans (HAL.out.mono (by have:=HB.out.size; have:=HB2.out.size; omega))) HOA.out HG9.out (Nat.le_refl _) HZ.out
      case measure=>simp only[intOf,Int.toNat_natCast]; omega
    ·have hkn:k=n:=by omega
     subst hkn;have htk:x.files.take k=x.files:=List.take_of_length_le (by rw[<-HN.out]; exact Nat.le_refl _);have HALL:=aa (show x.files.all dS=true by rw[<-htk]; exact HA.out);rw[htk]at HOWN;have HEA:=aa (show bM (fun i=>W.heap.size<=i/\(Value.slice av k cv).ownBlock=some i) wr (.slice av k cv) (x.files.map kh) by
      have h1:=bu HOWN.out;have h2:=pI (S:=fun i=>W.heap.size<=i/\(Value.slice av k cv).ownBlock=some i) (w:=wr) (ys:=x.files.map sW) (fun y hy=>by
       obtain⟨f,hf,rfl⟩:=List.mem_map.1 hy;exact⟨bP.nil _ _,zF (wL HV.out f hf)⟩)
      rw[vZ]at h2;have h3:(x.files.map kh).length=k:=by rw[List.length_map,HN.out]
      exact⟨_,by rw[h3]; exact h1,h2⟩)
     obtain⟨z,hz⟩: ∃z,cj (x.files.map kh)=z:=⟨_,rfl⟩;have HZ:=aa hz;have HEB:=aa (show Below w.heap.size w wr from HBW.out.trans (HB.out.mono (by have:=HSZ.out; omega)));have HER:=aa (HE.out.below HEB.out);have HR:=aa (show fm x=decide (z=0) by
      rw[go,HALL.out,HZ.out,show decide (0<=x.tm)=true by simp; have:=HTM.out; omega,show decide (x.files.length<=4096)=true by simp; have:=HL.out; have:=HN.out; omega]
      simp)
     clear hz;go_wp2_with (go_at_call 34; refine(pt _ _ _ z _ HEA.out HER.out HZ.out).mono ?_; rintro e w1 ⟨rfl,hb1⟩; have HB2:=aa (ag HEB.out hb1); clear hb1);go_ret;exact⟨al (by rw[HR.out]; rfl),HB2.out⟩
open Go Go.RowKit Go.Maps Go.MapKept
def wh (p:ByteArray):Value×Value:=(.string p, .bool true)
def eF (w:World) (mb:Nat) (K:ByteArray->Bool):Prop:= ∃ps:List ByteArray,de Tryz.prog 9 w mb (ps.map wh)/\(∀p∈ps,p.size<=maxLen)/\ ∀p,p∈ps<->K p=true
def vV (K:ByteArray->Bool) (p:ByteArray):ByteArray->Bool:=fun q=>decide (q=p) || K q
section
variable {w w' : World} {mb : Nat} {K : ByteArray → Bool} {t : TypeId}
theorem pi {ps:List ByteArray} {p:ByteArray} (h:p∉ps): ∀q∈ps.map wh,q.1≠Value.string p:=by
 intro q hq;obtain⟨x,hx,rfl⟩:=List.mem_map.1 hq;intro e;simp only[wh,Value.string.injEq]at e;exact h (e▸hx)
theorem eF.lt (h:eF w mb K):mb<w.heap.size:=by obtain⟨_,h,_⟩:=h; exact h.lt
theorem eF.same (h:eF w mb K) (hs:w'.heap[mb]? =w.heap[mb]?):eF w' mb K:=by obtain⟨ps,h1,h2⟩:=h; exact⟨ps,h1.same hs,h2⟩
theorem eF.below (h:eF w mb K) (hb:Below w.heap.size w w'):eF w' mb K:=h.same (hb.block mb h.lt)
theorem eF.other {nb:Nat} (h:eF w mb K) (hg:w.grownBy w' (some nb)) (hne:mb≠nb):eF w' mb K:=h.same (hg.block mb h.lt fun e=>hne (Option.some.inj e))
theorem eF.made (w:World):eF (w.alloc (.map #[] 0)) w.heap.size (fun _=>false):=⟨[],de.made w,by simp,by simp⟩
theorem eF.get (h:eF w mb K) (ht:Tryz.prog.underlying t=some (.map 9 4)) (hz:(zeroValue 4).run Tryz.prog w= .ok (.bool false) w) {p:ByteArray} (hp:p.size<=maxLen):
  (Instr.lookup t (.map (some mb)) (.string p) false).run Tryz.prog w= .ok (.bool (K p)) w:=by
 obtain⟨ps,hm,h2,h3⟩:=h
 cases hK:K p with
 | true=>exact hm.is.hit cz ht (cG hp) (List.mem_map.2 ⟨p,(h3 p).2 hK,rfl⟩) false
 | false=>exact hm.is.miss cz ht hz (cG hp) (pi fun hc=>by rw[(h3 p).1 hc]at hK; cases hK) false
theorem eF.put (h:eF w mb K) (ht:Tryz.prog.underlying t=some (.map 9 4)) {p:ByteArray} (hp:p.size<=maxLen):
  ∃w',(Instr.mapUpdate t (.map (some mb)) (.string p) (.bool true)).run Tryz.prog w= .ok () w'/\eF w' mb (vV K p)/\w.grownBy w' (some mb):=by
 obtain⟨ps,hm,h2,h3⟩:=h
 cases hK:K p with
 | true=>
  obtain⟨a,b,rfl⟩:=List.append_of_mem ((h3 p).2 hK);rw[List.map_append,List.map_cons]at hm;obtain⟨w',h4,h5,h6⟩:=de.over (key:= .string p) (old:= .bool true) hm cz ht (.bool true);refine⟨w',h4,⟨a++p::b,by rw[List.map_append,List.map_cons]; exact h5,h2,fun q=> ?_⟩,h6⟩;rw[h3];unfold vV
  by_cases hq:q=p
  ·subst hq; simp[hK]
  ·simp[hq]
 | false=>
  have hn:p∉ps:=fun hc=>by rw[(h3 p).1 hc]at hK; cases hK
  obtain⟨w',h4,h5,h6⟩:=hm.put cz ht (cG hp) (pi hn) (.bool true);refine⟨w',h4,⟨ps++[p],by rw[List.map_append]; exact h5,fun q hq=> ?_,fun q=> ?_⟩,h6⟩
  ·rcases List.mem_append.1 hq with hq | hq
   ·exact h2 q hq
   ·rw[List.mem_singleton.1 hq]; exact hp
  ·rw[List.mem_append,h3,List.mem_singleton];unfold vV;rw[Bool.or_eq_true,decide_eq_true_eq];exact Or.comm
end
end Go.Proofs.YtnjkpcalgoefhaaGreatDoor
namespace Go.Proofs.YtnjkpcalgoefhaaGreatDoor
open Go Go.RowKit Go.Maps
def ns (ps:List bq):List ByteArray:=ps.foldl (fun l p=>pY l p.sum) []
theorem rf (ps:List bq) (p:bq):ns (ps++[p])=pY (ns ps) p.sum:=by unfold ns; rw[List.foldl_append]; rfl
def ev (w:World) (mb:Nat) (L:List ByteArray):Prop:=eF w mb (fun q=>decide (q∈L))
theorem wj :Tryz.prog.underlying 92=some (.map 9 4):=Tryz.underlying92
theorem zW (w:World):(zeroValue 4).run Tryz.prog w= .ok (.bool false) w:=by kernel_rfl
theorem ev.put {w:World} {mb:Nat} {L:List ByteArray} (h:ev w mb L) {p:ByteArray} (hp:p.size<=maxLen):
  ∃w',(Instr.mapUpdate 92 (.map (some mb)) (.string p) (.bool true)).run Tryz.prog w= .ok () w'/\ev w' mb (pY L p)/\w.grownBy w' (some mb):=by
 obtain⟨w',h1,h2,h3⟩:=eF.put h wj hp;have e:vV (fun q=>decide (q∈L)) p=fun q=>decide (q∈pY L p):=by
  funext q
  rw[Bool.eq_iff_iff];unfold vV;rw[Bool.or_eq_true,decide_eq_true_eq,decide_eq_true_eq,decide_eq_true_eq,yG];exact Or.comm
 rw[e]at h2;exact⟨w',h1,h2,h3⟩
theorem ev.get {w:World} {mb:Nat} {L:List ByteArray} (h:ev w mb L) {p:ByteArray} (hp:p.size<=maxLen):
  (Instr.lookup 92 (.map (some mb)) (.string p) false).run Tryz.prog w= .ok (.bool (decide (p∈L))) w:=eF.get h wj (zW w) hp
theorem ev.below {w w':World} {mb:Nat} {L:List ByteArray} (h:ev w mb L) (hb:Below w.heap.size w w'):ev w' mb L:=eF.below h hb
theorem ev.same {w w':World} {mb:Nat} {L:List ByteArray} (h:ev w mb L) (hs:w'.heap[mb]? =w.heap[mb]?):ev w' mb L:=eF.same h hs
theorem ev.lt {w:World} {mb:Nat} {L:List ByteArray} (h:ev w mb L):mb<w.heap.size:=eF.lt h
theorem ev.made (w:World):ev (w.alloc (.map #[] 0)) w.heap.size []:=by
 have h:=eF.made w;unfold ev;exact h
theorem wX (w:World):(Instr.makeMap 92 none).run Tryz.prog w= .ok (.map (some w.heap.size)) (w.alloc (.map #[] 0)):=by simp[Instr.makeMap]
theorem oE (S:Nat->Prop) (x:gF) (fv:Value) (w:World) (hx:aY S w fv x.files):
  Calls Tryz.prog 39 #[kY fv x.tm] w fun e w'=> ∃mb,e= .returned (.map (some mb))/\w.heap.size<=mb/\ev w' mb (nt x.files)/\Below w.heap.size w w':=by
 obtain⟨a,cap,rfl,hc,hm,-⟩:=aT.shape hx fK.len;unfold maxLen at hm;have HX:=aa hx;clear hx;obtain⟨n,hn⟩: ∃n,n=x.files.length:=⟨_,rfl⟩;rw[<-hn]at hc HX ⊢;have HN:=aa hn;clear hn;unfold kY
 go_enter Tryz.func39,Tryz.ntmps39
 go_upto_region 1 with fail
 obtain⟨W,hW⟩: ∃W,W=w.alloc (.cells #[.int .i64 x.tm, .slice a n cap] 24):=⟨_,rfl⟩;rw[<-hW];have HBW:=aa (show Below w.heap.size w W by rw[hW]; exact(Below.refl _ _).alloc (Nat.le_refl _) _);have hsz:W.heap.size=w.heap.size+1:=by rw[hW]; simp
 have HSZ:=aa hsz;have HV:=aa (show aY S W (.slice a n cap) x.files from aY.below HX.out HBW.out);have HS0:=aa (ev.made W);have k1:(W.alloc (.map #[] 0)).cell? ⟨w.heap.size,1,none⟩=some (.slice a n cap):=by
  have h:=af (k:=1) (show W.heap[w.heap.size]? =some (.cells #[.int .i64 x.tm, .slice a n cap] 24 (0,0)) by rw[hW]; exact heap_alloc_new w _);exact(((Below.refl W.heap.size W).alloc (Nat.le_refl _) (.map #[] 0)).cell (p:=⟨w.heap.size,1,none⟩) (by show w.heap.size<_; omega)).trans (h.trans rfl)
 clear hW hsz;have hmk:=wX W;have HB0:=aa (show Below W.heap.size W (W.alloc (.map #[] 0))from(Below.refl _ _).alloc (Nat.le_refl _) _);go_wp2_with fail;clear hmk k1
 go_loopw [12] (fun i wr=> ∃k:Nat,k<=n/\i= .int .i64 k/\ev wr W.heap.size (ns ((x.files.take k).flatMap au.parts))/\Below W.heap.size W wr) (fun i _=>n-(intOf i).toNat)
 case atStart=>exact⟨0,Nat.zero_le _,rfl,HS0.out,HB0.out⟩
 case round=>
  obtain⟨k,hk,rfl,hset,hb⟩:=hrel;have HB:=aa hb;have HS:=aa hset;clear hb hset
  by_cases hlt:k<n
  ·obtain⟨f,hf⟩: ∃f,x.files[k]? =some f:=⟨_,List.getElem?_eq_getElem (show k<x.files.length by rw[<-HN.out]; exact hlt)⟩;obtain⟨b,o,pa,pc,rfl,hok,hpa,hblt,-,hcl⟩:=ez HV.out (Below.refl _ _) hf;have hcl: ∀j,j<7->wr.cell? ⟨b,o+k*7+j,none⟩=(cu (.slice pa f.parts.length pc) f)[j]? :=fun j hj=>(HB.out.cell (p:=⟨b,o+k*7+j,none⟩) hblt).trans (hcl j hj)
   have q0:=hcl 0 (by omega);have q1:=hcl 1 (by omega);have q2:=hcl 2 (by omega);have q3:=hcl 3 (by omega);have q4:=hcl 4 (by omega);have q5:=hcl 5 (by omega);have q6:=hcl 6 (by omega);simp only[cu,cw,Nat.add_zero]at q0 q1 q2 q3 q4 q5 q6;have HF:=aa hf;obtain⟨m,hmm⟩: ∃m,m=f.parts.length:=⟨_,rfl⟩;obtain⟨-,hmc,hpm⟩:=nN hpa;unfold maxLen at hpm;rw[<-hmm]at q6 hpa hmc
   have HPA:=aa hpa;have HM:=aa hmm;clear hf hpa hcl hok hmm;go_wp2_with fail;obtain⟨W3,hW3⟩: ∃W3,W3=wr.alloc (.cells #[.string f.path, .int .i64 f.kind, .int .i64 f.mode, .int .i64 f.time, .int .i64 f.size, .string f.link, .slice pa m pc] 27):=⟨_,rfl⟩;rw[<-hW3];have HB3:=aa (show Below W.heap.size W W3 by rw[hW3]; exact HB.out.alloc HB.out.size _);have HS3:=aa (show ev W3 W.heap.size (ns ((x.files.take k).flatMap au.parts++f.parts.take 0)) by rw[hW3,List.take_zero,List.append_nil]; exact HS.out.below ((Below.refl _ _).alloc (Nat.le_refl _) _))
   clear hW3 q0 q1 q2 q3 q4 q5 q6
   go_loopw [19] (fun i wq=> ∃j:Nat,j<=m/\i= .int .i64 j/\ev wq W.heap.size (ns ((x.files.take k).flatMap au.parts++f.parts.take j))/\Below W.heap.size W wq) (fun i _=>m-(intOf i).toNat)
   case atStart=>exact⟨0,Nat.zero_le _,rfl,HS3.out,HB3.out⟩
   case round=>
    obtain⟨j,hj,rfl,hset,hb⟩:=hrel;have HBQ:=aa hb;have HSQ:=aa hset;clear hb hset
    by_cases hjm:j<m
    ·obtain⟨p,hp⟩: ∃p,f.parts[j]? =some p:=⟨_,List.getElem?_eq_getElem (show j<f.parts.length by rw[<-HM.out]; exact hjm)⟩;obtain⟨b2,o2,rfl,-,-,hpok,q0,q1⟩:=dP HPA.out HBQ.out hp;have HP:=aa hp;have HPO:=aa hpok;have HAL:=aa ((Below.refl wr.heap.size wr).alloc (Nat.le_refl _) (.cells #[.string p.sum, .int .i64 p.size] 62));have HPUT:=aa (ev.put (HSQ.out.below HAL.out) hpok.sm)
     clear hp hpok;go_wp2_with (at_mapUpdate; go_must (refine iT rfl _ _ _ _ rfl _ _ _ rfl rfl rfl HPUT.out ?_); rintro V ⟨hs3,hg3⟩; have HSV:=aa hs3; have HGV:=aa hg3; clear hs3 hg3)
     go_roundw
     case rel=>
      refine⟨j+1,by omega,rfl, ?_, ?_⟩
      ·rw[ba HP.out,<-List.append_assoc,rf];exact HSV.out
      ·have h1:=ag HBQ.out HAL.out;exact h1.grown HGV.out h1.size (fun i e=>by cases e; exact Nat.le_refl _)
     case measure=>simp only[intOf,Int.toNat_natCast]; omega
    ·have hjj:f.parts.take j=f.parts:=List.take_of_length_le (by rw[<-HM.out]; omega);rw[hjj]at HSQ;clear hjj;go_wp2_with fail
     go_roundw
     case rel=>
      refine⟨k+1,by omega,rfl, ?_,HBQ.out⟩;rw[ba HF.out,List.flatMap_append,List.flatMap_singleton];exact HSQ.out
     case measure=>simp only[intOf,Int.toNat_natCast]; omega
  ·have hkk:x.files.take k=x.files:=List.take_of_length_le (by rw[<-HN.out]; omega);rw[hkk]at HS;clear hkk;go_wp2_with fail;go_ret;exact⟨_,rfl,by have:=HSZ.out; omega,HS.out,HBW.out.trans (HB.out.mono (by have:=HSZ.out; omega))⟩
abbrev jo :=Value×au
def fmV (x:jo):Value×Value:=(.string x.2.path,dV x.1 x.2)
def cE (S:Nat->Prop) (W w:World) (mb:Nat) (fs:List au):Prop:=
 ∃xs:List jo,xs.map Prod.snd=fs/\de Tryz.prog 9 w mb (xs.map fmV)/\ ∀x∈xs,ay S W x.1 x.2.parts/\cS x.2
theorem cE.below {S:Nat->Prop} {W w w':World} {mb:Nat} {fs:List au} (h:cE S W w mb fs) (hb:Below w.heap.size w w'):cE S W w' mb fs:=by
 obtain⟨xs,h1,h2,h3⟩:=h;exact⟨xs,h1,h2.same (hb.block mb h2.lt),h3⟩
theorem cE.lt {S:Nat->Prop} {W w:World} {mb:Nat} {fs:List au} (h:cE S W w mb fs):mb<w.heap.size:=by
 obtain⟨xs,h1,h2,h3⟩:=h;exact h2.lt
theorem oJ :Tryz.prog.underlying 90=some (.map 9 27):=Tryz.underlying90
def mM :Value:= .agg #[.string ⟨#[]⟩, .int .i64 0, .int .i64 0, .int .i64 0, .int .i64 0, .string ⟨#[]⟩, .slice none 0 0]
theorem um (w:World) (n:Nat) (hn:n<=4096):(Instr.makeMap 90 (some (.int .i64 (n:Int)))).run Tryz.prog w= .ok (.map (some w.heap.size)) (w.alloc (.map #[] 0)):=by
 have h1:IntKind.i64.wrap (n:Int)=n:=by rw[IntKind.wrap_i64]; omega
 simp[Instr.makeMap,asInt,asIntOf]
theorem nB {xs:List jo} {p:ByteArray} {f:au} (h:dx (xs.map Prod.snd) p=some f): ∃v,(v,f)∈xs/\f.path=p:=by
 obtain⟨h1,h2⟩:=fP h;obtain⟨⟨v,g⟩,hg,rfl⟩:=List.mem_map.1 h1;exact⟨v,hg,h2⟩
theorem cE.hit {S:Nat->Prop} {W w:World} {mb:Nat} {fs:List au} (h:cE S W w mb fs) {p:ByteArray} (hp:p.size<=maxLen) {f:au} (hf:dx fs p=some f):
  ∃v,(Instr.lookup 90 (.map (some mb)) (.string p) true).run Tryz.prog w= .ok (.tuple #[dV v f, .bool true]) w/\ay S W v f.parts/\cS f:=by
 obtain⟨xs,rfl,h2,h3⟩:=h;obtain⟨v,hv,rfl⟩:=nB hf;refine⟨v, ?_,h3 _ hv⟩;have:=h2.is.hit cz oJ (cG hp) (val:=dV v f) (List.mem_map.2 ⟨(v,f),hv,rfl⟩) true
 simpa using this
theorem cE.miss {S:Nat->Prop} {W w:World} {mb:Nat} {fs:List au} (h:cE S W w mb fs) {p:ByteArray} (hp:p.size<=maxLen) (hf:dx fs p=none):
  (Instr.lookup 90 (.map (some mb)) (.string p) true).run Tryz.prog w= .ok (.tuple #[mM, .bool false]) w:=by
 obtain⟨xs,rfl,h2,h3⟩:=h;have hz:(zeroValue 27).run Tryz.prog w= .ok mM w:=by kernel_rfl
 have:=h2.is.miss cz oJ hz (cG hp) (fun q hq e=>by
  obtain⟨y,hy,rfl⟩:=List.mem_map.1 hq;simp only[fmV,Value.string.injEq]at e;have:=List.find?_eq_none.1 hf y.2 (List.mem_map_of_mem hy);simp[e]at this) true
 simpa using this
theorem pK (S:Nat->Prop) (x:gF) (fv:Value) (w:World) (hx:aY S w fv x.files) (hnd:(x.files.map au.path).Nodup) (hl:x.files.length<=4096):
  Calls Tryz.prog 38 #[kY fv x.tm] w fun e w'=> ∃mb,e= .returned (.map (some mb))/\w.heap.size<=mb/\cE S w w' mb x.files/\Below w.heap.size w w':=by
 obtain⟨a,cap,rfl,hc,hm,-⟩:=aT.shape hx fK.len;unfold maxLen at hm;have HX:=aa hx;have HND:=aa hnd;clear hx hnd;obtain⟨n,hn⟩: ∃n,n=x.files.length:=⟨_,rfl⟩;rw[<-hn]at hc HX hl ⊢;have HN:=aa hn;clear hn;unfold kY
 go_enter Tryz.func38,Tryz.ntmps38
 go_upto_region 1 with fail
 obtain⟨W,hW⟩: ∃W,W=w.alloc (.cells #[.int .i64 x.tm, .slice a n cap] 24):=⟨_,rfl⟩;rw[<-hW];have HBW:=aa (show Below w.heap.size w W by rw[hW]; exact(Below.refl _ _).alloc (Nat.le_refl _) _);have hsz:W.heap.size=w.heap.size+1:=by rw[hW]; simp
 have HSZ:=aa hsz;have k0:W.cell? ⟨w.heap.size,1,none⟩=some (.slice a n cap):=by
  have h:=af (k:=1) (show W.heap[w.heap.size]? =some (.cells #[.int .i64 x.tm, .slice a n cap] 24 (0,0)) by rw[hW]; exact heap_alloc_new w _);exact h.trans rfl
 have HB0:=aa (show Below W.heap.size W (W.alloc (.map #[] 0))from(Below.refl _ _).alloc (Nat.le_refl _) _);have k1:(W.alloc (.map #[] 0)).cell? ⟨w.heap.size,1,none⟩=some (.slice a n cap):=(HB0.out.cell (p:=⟨w.heap.size,1,none⟩) (by show w.heap.size<_; omega)).trans k0;have HM0:=aa (show cE S w (W.alloc (.map #[] 0)) W.heap.size []from⟨[],rfl,de.made W,by simp⟩);have hmk:=um W n hl
 clear hW hsz;go_wp2_with fail;clear hmk k1 k0
 go_loopw [13] (fun i wr=> ∃k:Nat,k<=n/\i= .int .i64 k/\cE S w wr W.heap.size (x.files.take k)/\Below W.heap.size W wr) (fun i _=>n-(intOf i).toNat)
 case atStart=>exact⟨0,Nat.zero_le _,rfl,HM0.out,HB0.out⟩
 case round=>
  obtain⟨k,hk,rfl,hset,hb⟩:=hrel;have HB:=aa hb;have HS:=aa hset;clear hb hset
  by_cases hlt:k<n
  ·obtain⟨f,hf⟩: ∃f,x.files[k]? =some f:=⟨_,List.getElem?_eq_getElem (show k<x.files.length by rw[<-HN.out]; exact hlt)⟩;obtain⟨b,o,pa,pc,rfl,hok,hpa,hblt,-,hcl⟩:=ez HX.out (Below.refl _ _) hf;have HB2:=aa (show Below w.heap.size w wr from HBW.out.trans (HB.out.mono (by have:=HSZ.out; omega)));have hcl: ∀j,j<7->wr.cell? ⟨b,o+k*7+j,none⟩=(cu (.slice pa f.parts.length pc) f)[j]? :=fun j hj=>(HB2.out.cell (p:=⟨b,o+k*7+j,none⟩) hblt).trans (hcl j hj)
   have q0:=hcl 0 (by omega);have q1:=hcl 1 (by omega);have q2:=hcl 2 (by omega);have q3:=hcl 3 (by omega);have q4:=hcl 4 (by omega);have q5:=hcl 5 (by omega);have q6:=hcl 6 (by omega);simp only[cu,cw,Nat.add_zero]at q0 q1 q2 q3 q4 q5 q6;have HF:=aa hf;have HPA:=aa hpa;have HOK:=aa hok;obtain⟨xs,hxs,hms,hdat⟩:=HS.out;have HXS:=aa hxs;have HDAT:=aa hdat
   have HAL:=aa ((Below.refl wr.heap.size wr).alloc (Nat.le_refl _) (.cells #[.string f.path, .int .i64 f.kind, .int .i64 f.mode, .int .i64 f.time, .int .i64 f.size, .string f.link, .slice pa f.parts.length pc] 27));have HMS:=aa (hms.same (HAL.out.block _ hms.lt));have HNEW:=aa (show ∀q∈xs.map fmV,q.1≠Value.string f.path by
    intro q hq e;obtain⟨y,hy,rfl⟩:=List.mem_map.1 hq;simp only[fmV,Value.string.injEq]at e;have h1:y.2∈x.files.take k:=by rw[<-hxs]; exact List.mem_map_of_mem hy
    have h2:(x.files.take (k+1)).map au.path=(x.files.take k).map au.path++[f.path]:=by rw[ba hf,List.map_append]; rfl
    have h3:((x.files.take (k+1)).map au.path).Nodup:=(HND.out.sublist (List.Sublist.map _ (List.take_sublist _ _)));rw[h2]at h3;exact(List.nodup_append.1 h3).2.2 _ (List.mem_map_of_mem h1) _ (by simp) e)
   clear hf hpa hcl hok hxs hms hdat
   go_wp2_with (at_mapUpdate; go_must (refine eC cz rfl _ _ _ _ rfl oJ W.heap.size _ HMS.out rfl (.string f.path) (dV (.slice pa f.parts.length pc) f) rfl rfl (cG HOK.out.pth) HNEW.out ?_); intro w10 hm10 hg10; have HM10:=aa hm10; have HG10:=aa hg10; clear hm10 hg10)
   go_roundw
   case rel=>
    refine⟨k+1,by omega,rfl,⟨xs++[(.slice pa f.parts.length pc,f)], ?_, ?_, ?_⟩, ?_⟩
    ·rw[ba HF.out,List.map_append,HXS.out]; rfl
    ·rw[List.map_append]; exact HM10.out
    ·intro y hy
     rcases List.mem_append.1 hy with hy | hy
     ·exact HDAT.out y hy
     ·rw[List.mem_singleton.1 hy]; exact⟨HPA.out,HOK.out⟩
    ·have h1:=ag HB.out HAL.out;exact h1.grown HG10.out h1.size (fun i e=>by cases e; exact Nat.le_refl _)
   case measure=>simp only[intOf,Int.toNat_natCast]; omega
  ·have hkk:x.files.take k=x.files:=List.take_of_length_le (by rw[<-HN.out]; omega);rw[hkk]at HS;clear hkk;go_wp2_with fail;go_ret;exact⟨_,rfl,by have:=HSZ.out; omega,HS.out,HBW.out.trans (HB.out.mono (by have:=HSZ.out; omega))⟩
theorem zH (r r':bq) (w:World):(Op.equalIn 10000 62 (gz r) (gz r')).run Tryz.prog w= .ok (decide (r=r')) w:=by
 have u1:=Tryz.underlying9;have u2:=Tryz.underlying3;have hS:Tryz.prog.underlying 62=some (.struct (Tryz.prog.fieldsOf 62)):=by kernel_rfl
 rw[show(10000:Nat)=9999+1 from rfl];unfold gz;rw[run_equalIn_struct w 9999 62 _ _ hS (by kernel_rfl)];simp only[Program.fieldsOf,Tryz.underlying62]
 go_simp
 obtain⟨n,s⟩:=r;obtain⟨n',s'⟩:=r';have hn:n.toList=n'.toList<->n=n':=⟨fun h=>gI (by rw[<-bw,<-bw,h]),fun h=>by rw[h]⟩;simp only[bq.mk.injEq,hn]
 by_cases h1:n=n'<;> by_cases h3:s=s'<;> simp[h1,h3]
theorem lO (S T:Nat->Prop) (v u:Value) (rs ss:List bq) (w:World) (hv:ay S w v rs) (hu:ay T w u ss):
  Calls Tryz.prog 120 #[v,u] w fun e w'=>e= .returned (.bool (decide (rs=ss)))/\Below w.heap.size w w':=by
 obtain⟨a,cap,rfl,hc,hm,-⟩:=aT.shape hv dH.len;obtain⟨a2,cap2,rfl,hc2,hm2,-⟩:=aT.shape hu dH.len;unfold maxLen at hm hm2;have HV:=aa hv;have HU:=aa hu;clear hv hu
 by_cases hl:rs.length=ss.length
 ·have HL:=aa hl;have hl2:ss.length=rs.length:=hl.symm;rw[hl2]at HU hc2 ⊢;clear hl hl2
  go_enter Tryz.func120,Tryz.ntmps120
  go_wp2_with fail
  go_loopw [13] (fun i wr=> ∃k:Nat,k<=rs.length/\i= .int .i64 k/\rs.take k=ss.take k/\Below w.heap.size w wr) (fun i _=>rs.length-(intOf i).toNat)
  case atStart=>exact⟨0,Nat.zero_le _,rfl,by simp,Below.refl _ _⟩
  case round=>
   obtain⟨k,hk,rfl,hn,hb⟩:=hrel;have HN:=aa hn;have HB:=aa hb;clear hn hb
   by_cases hlt:k<rs.length
   ·obtain⟨r,hr⟩: ∃r,rs[k]? =some r:=⟨rs[k],by simp[hlt]⟩;obtain⟨x,hx⟩: ∃x,ss[k]? =some x:=⟨ss[k]'(by have:=HL.out; omega),by simp⟩;have HR:=aa hr;have HX:=aa hx;have heq:=zH r x;obtain⟨W,hW⟩: ∃W:World,W=wr.drew:=⟨_,rfl⟩;have HBW:=aa (show Below w.heap.size w W by rw[hW]; exact HB.out.drew);obtain⟨b,o,rfl,-,-,-,q0,q1⟩:=dP HV.out HBW.out hr
    obtain⟨b2,o2,rfl,-,-,-,p0,p1⟩:=dP (by have:=HU.out; rw[HL.out]at this; exact this) HBW.out hx;unfold gz at heq;clear hr hx
    by_cases hm:r=x
    ·have e1:decide (r=x)=true:=by simp[hm]
     rw[e1]at heq;have HT:=aa (show rs.take (k+1)=ss.take (k+1) by rw[ba HR.out,ba HX.out,HN.out,hm]);clear e1 hm;go_wp2_with fail;refine ak [some 9] (by kernel_rfl) (by kernel_rfl) (by kernel_rfl) ?_;simp only[bb,List.take_succ_cons,List.take_zero];rw[<-hW];clear hW
     repeat (first | (refine am rfl ?_; simp only[Act.put,aD,aE,aF]) | (refine aA rfl (fun K hK=> ?_); go_simp; refine hK _ ?_; clear hK K))
     refine az ?_;go_wp2_with fail
     go_roundw
     case rel=>exact⟨k+1,by omega,rfl,HT.out,HBW.out⟩
     case measure=>simp only[intOf,Int.toNat_natCast]; omega
    ·have e1:decide (r=x)=false:=by simp[hm]
     rw[e1]at heq;have HT:=aa (show decide (rs=ss)=false by
      rw[decide_eq_false_iff_not];intro e;have h1:=HR.out;rw[e,HX.out]at h1;exact hm (Option.some.inj h1).symm)
     clear e1 hm;go_wp2_with fail;refine ak [some 9] (by kernel_rfl) (by kernel_rfl) (by kernel_rfl) ?_;simp only[bb,List.take_succ_cons,List.take_zero];rw[<-hW];clear hW
     repeat (first | (refine am rfl ?_; simp only[Act.put,aD,aE,aF]) | (refine aA rfl (fun K hK=> ?_); go_simp; refine hK _ ?_; clear hK K))
     refine az ?_;go_wp2_with fail;go_ret;exact⟨al HT.out.symm,HBW.out⟩
   ·obtain rfl:k=rs.length:=by omega
    have HT:=aa (show decide (rs=ss)=true by
     have:=HN.out;rw[List.take_of_length_le (Nat.le_refl _),List.take_of_length_le (by rw[HL.out]; exact Nat.le_refl _)]at this;simp[this])
    go_wp2_with fail;go_ret;exact⟨al HT.out.symm,HB.out⟩
 ·have HT:=aa (show decide (rs=ss)=false by rw[decide_eq_false_iff_not]; intro e; exact hl (by rw[e]));have e1:((rs.length:Int) != (ss.length:Int))=true:=by simp; omega
  clear hl
  go_enter Tryz.func120,Tryz.ntmps120
  go_wp2_with fail;go_ret;exact⟨al HT.out.symm,Below.refl _ _⟩
theorem eo (S T:Nat->Prop) (v u:Value) (rs ss:List bq) (b:Bool) (w:World) (hv:ay S w v rs) (hu:ay T w u ss) (h:decide (rs=ss)=b):
  Calls Tryz.prog 120 #[v,u] w fun e w'=>e= .returned (.bool b)/\Below w.heap.size w w':=by
 rw[<-h]; exact lO S T v u rs ss w hv hu
theorem oH {f g:au} (h: ¬(f.kind=g.kind/\f.link=g.link/\f.parts=g.parts)):eX f g=2:=by unfold eX; rw[if_neg h]
theorem th {f g:au} (h:f.kind=g.kind/\f.link=g.link/\f.parts=g.parts) (h2: ¬(f.mode=g.mode/\f.time=g.time)):eX f g=3:=by unfold eX; rw[if_pos h,if_neg h2]
theorem yy {f g:au} (h:f.kind=g.kind/\f.link=g.link/\f.parts=g.parts) (h2:f.mode=g.mode/\f.time=g.time):eX f g=0:=by unfold eX; rw[if_pos h,if_pos h2]
theorem lK (S T:Nat->Prop) (f g:au) (pv qv:Value) (w:World) (hp:ay S w pv f.parts) (hq:ay T w qv g.parts):
  Calls Tryz.prog 78 #[dV pv f,dV qv g] w fun e w'=>e= .returned (.int .i64 (eX f g))/\Below w.heap.size w w':=by
 obtain⟨pa,pc,rfl,-,-,-⟩:=aT.shape hp dH.len;obtain⟨qa,qc,rfl,-,-,-⟩:=aT.shape hq dH.len;obtain⟨n,hn⟩: ∃n,n=f.parts.length:=⟨_,rfl⟩;obtain⟨m,hm⟩: ∃m,m=g.parts.length:=⟨_,rfl⟩;rw[<-hn]at hp ⊢;rw[<-hm]at hq ⊢;have HP:=aa hp;have HQ:=aa hq;clear hn hm hp hq;obtain⟨W,hW⟩: ∃W,W=(w.alloc (.cells (cu (.slice pa n pc) f).toArray 27)).alloc (.cells (cu (.slice qa m qc) g).toArray 27):=⟨_,rfl⟩
 have HBW:=aa (show Below w.heap.size w W by rw[hW]; exact((Below.refl _ _).alloc (Nat.le_refl _) _).alloc (by simp) _);have HX:=aa (show W.heap[w.heap.size]? =some (.cells (cu (.slice pa n pc) f).toArray 27 (0,0)) by rw[hW]; exact jY (heap_alloc_new w _) _);have HY:=aa (show W.heap[w.heap.size+1]? =some (.cells (cu (.slice qa m qc) g).toArray 27 (0,0)) by rw[hW]; exact heap_alloc2_new w _ _)
 unfold dV
 go_enter Tryz.func78,Tryz.ntmps78
 go_upto_region 1 with fail
 change Code.wp _ _ _ _ ((w.alloc (.cells (cu (.slice pa n pc) f).toArray 27)).alloc (.cells (cu (.slice qa m qc) g).toArray 27))
 rw[<-hW];clear hW;have c1:=af (k:=1) HX.out;have c2:=af (k:=2) HX.out;have c3:=af (k:=3) HX.out;have c5:=af (k:=5) HX.out;have c6:=af (k:=6) HX.out;have d1:=af (k:=1) HY.out;have d2:=af (k:=2) HY.out;have d3:=af (k:=3) HY.out;have d5:=af (k:=5) HY.out;have d6:=af (k:=6) HY.out;simp only[cu,List.getElem?_toArray,cw]at c1 c2 c3 c5 c6 d1 d2 d3 d5 d6
 by_cases hk:f.kind=g.kind
 ·by_cases hl:f.link=g.link
  ·by_cases he:f.parts=g.parts
   ·have hall:=And.intro hk (And.intro hl he);have HEQ:=aa (show decide (f.parts=g.parts)=true by simp[he]);have HPW:=aa (ay.below HP.out HBW.out);have HQW:=aa (ay.below HQ.out HBW.out);have HALL:=aa hall;clear hall he
    by_cases hmd:f.mode=g.mode
    ·by_cases htm:f.time=g.time
     ·have HD:=aa (yy HALL.out ⟨hmd,htm⟩);go_wp2_with (go_at_call 120; refine(eo S T _ _ f.parts g.parts true _ HPW.out HQW.out HEQ.out).mono ?_; rintro e w1 ⟨rfl,hb1⟩; have HB1:=aa hb1; clear hb1; have e2:=(HB1.out.cell (p:=⟨w.heap.size,2,none⟩) (ax c2)).trans c2; have e3:=(HB1.out.cell (p:=⟨w.heap.size,3,none⟩) (ax c3)).trans c3; have g2:=(HB1.out.cell (p:=⟨w.heap.size+1,2,none⟩) (ax d2)).trans d2; have g3:=(HB1.out.cell (p:=⟨w.heap.size+1,3,none⟩) (ax d3)).trans d3)
      go_ret;exact⟨by rw[HD.out]; rfl,ag HBW.out HB1.out⟩
     ·have HD:=aa (th HALL.out (fun h=>htm h.2));go_wp2_with (go_at_call 120; refine(eo S T _ _ f.parts g.parts true _ HPW.out HQW.out HEQ.out).mono ?_; rintro e w1 ⟨rfl,hb1⟩; have HB1:=aa hb1; clear hb1; have e2:=(HB1.out.cell (p:=⟨w.heap.size,2,none⟩) (ax c2)).trans c2; have e3:=(HB1.out.cell (p:=⟨w.heap.size,3,none⟩) (ax c3)).trans c3; have g2:=(HB1.out.cell (p:=⟨w.heap.size+1,2,none⟩) (ax d2)).trans d2; have g3:=(HB1.out.cell (p:=⟨w.heap.size+1,3,none⟩) (ax d3)).trans d3)
      go_ret;exact⟨by rw[HD.out]; rfl,ag HBW.out HB1.out⟩
    ·have HD:=aa (th HALL.out (fun h=>hmd h.1));go_wp2_with (go_at_call 120; refine(eo S T _ _ f.parts g.parts true _ HPW.out HQW.out HEQ.out).mono ?_; rintro e w1 ⟨rfl,hb1⟩; have HB1:=aa hb1; clear hb1; have e2:=(HB1.out.cell (p:=⟨w.heap.size,2,none⟩) (ax c2)).trans c2; have e3:=(HB1.out.cell (p:=⟨w.heap.size,3,none⟩) (ax c3)).trans c3; have g2:=(HB1.out.cell (p:=⟨w.heap.size+1,2,none⟩) (ax d2)).trans d2; have g3:=(HB1.out.cell (p:=⟨w.heap.size+1,3,none⟩) (ax d3)).trans d3)
     go_ret;exact⟨by rw[HD.out]; rfl,ag HBW.out HB1.out⟩
   ·have HD:=aa (oH (f:=f) (g:=g) (fun h=>he h.2.2));have HEQ:=aa (show decide (f.parts=g.parts)=false by simp[he]);have HPW:=aa (ay.below HP.out HBW.out);have HQW:=aa (ay.below HQ.out HBW.out);clear he;go_wp2_with (go_at_call 120; refine(eo S T _ _ f.parts g.parts false _ HPW.out HQW.out HEQ.out).mono ?_; rintro e w1 ⟨rfl,hb1⟩; have HB1:=aa hb1; clear hb1)
    go_ret;exact⟨by rw[HD.out]; rfl,ag HBW.out HB1.out⟩
  ·have HD:=aa (oH (f:=f) (g:=g) (fun h=>hl h.2.1));have hl2: ¬f.link.toList=g.link.toList:=fun h=>hl (gI (by rw[<-bw,<-bw,h]))
   go_wp2_with fail;go_ret;exact⟨by rw[HD.out]; rfl,HBW.out⟩
 ·have HD:=aa (oH (f:=f) (g:=g) (fun h=>hk h.1));go_wp2_with fail;go_ret;exact⟨by rw[HD.out]; rfl,HBW.out⟩
def gD (a b:List au) (n m:Nat) (out:List (ByteArray×Int)):Prop:=out.length<=n+m/\ ∃k,(a.drop n).length+(b.drop m).length<=k/\kV a b=out++fN k (a.drop n) (b.drop m)
section
variable {a b : List au} {n m : Nat} {out : List (ByteArray × Int)} {f g : au}
theorem gD.start (a b:List au):gD a b 0 0 []:=⟨by simp,_,Nat.le_refl _,rfl⟩
theorem lz {l r:List au} {k:Nat} (h:l.length+r.length<=k) (hl:l≠[]\/r≠[]): ∃j,k=j+1:=by
 refine⟨k-1, ?_⟩
 rcases hl with hl | hl
 ·have:=List.length_pos_iff.2 hl; omega
 ·have:=List.length_pos_iff.2 hl; omega
theorem gD.rem (h:gD a b n m out) (hf:a[n]? =some f) (hc:b.length<=m\/ ∃g,b[m]? =some g/\bG (bl f.path) (bl g.path)<0):gD a b (n+1) m (out++[(f.path,4)]):=by
 obtain⟨h1,k,h2,h3⟩:=h;rw[ee hf]at h2 h3;obtain⟨j,rfl⟩:=lz h2 (.inl (by simp));refine⟨by simp; omega,j,by simp at h2 ⊢; omega, ?_⟩
 rcases hc with hc | ⟨g,hg,hc⟩
 ·rw[List.drop_eq_nil_of_le hc]at h3 ⊢;rw[h3];simp[fN]
 ·rw[ee hg]at h3 ⊢;rw[h3];simp[fN,hc]
theorem gD.add (h:gD a b n m out) (hg:b[m]? =some g) (hc:a.length<=n\/ ∃f,a[n]? =some f/\0<bG (bl f.path) (bl g.path)):gD a b n (m+1) (out++[(g.path,1)]):=by
 obtain⟨h1,k,h2,h3⟩:=h;rw[ee hg]at h2 h3;obtain⟨j,rfl⟩:=lz h2 (.inr (by simp));refine⟨by simp; omega,j,by simp at h2 ⊢; omega, ?_⟩
 rcases hc with hc | ⟨f,hf,hc⟩
 ·rw[List.drop_eq_nil_of_le hc]at h3 ⊢;rw[h3];simp[fN]
 ·rw[ee hf]at h3 ⊢;rw[h3];have: ¬bG (bl f.path) (bl g.path)<0:=by omega
  simp[fN,hc,this]
theorem gD.both (h:gD a b n m out) (hf:a[n]? =some f) (hg:b[m]? =some g) (hc:bG (bl f.path) (bl g.path)=0):gD a b (n+1) (m+1) (out++if eX f g=0 then []else [(g.path,eX f g)]):=by
 obtain⟨h1,k,h2,h3⟩:=h;rw[ee hf,ee hg]at h2 h3;obtain⟨j,rfl⟩:=lz h2 (.inr (by simp));refine⟨by split<;> simp<;> omega,j,by simp at h2 ⊢; omega, ?_⟩;rw[h3];simp only[fN,hc,Int.lt_irrefl,if_false]
 split<;> simp
theorem gD.done (h:gD a b n m out) (hn:a.length<=n) (hm:b.length<=m):out=kV a b:=by
 obtain⟨h1,k,h2,h3⟩:=h;rw[h3,List.drop_eq_nil_of_le hn,List.drop_eq_nil_of_le hm]
 cases k<;> simp[fN]
end
def dL (p:ByteArray×Int):List Value:=[.string p.1, .int .i64 p.2]
def eH (l:List (ByteArray×Int)):List Value:=l.flatMap dL
theorem eW (l:List (ByteArray×Int)) (p:ByteArray×Int):eH (l++[p])=eH l++dL p:=by simp[eH]
theorem gK {p:ByteArray×Int} : ∀u∈dL p,u.oneCell'=true:=by
 intro u hu;simp only[dL,List.mem_cons,List.not_mem_nil,or_false]at hu
 rcases hu with rfl | rfl<;> rfl
theorem Tryz.appChg :cX Tryz.prog 51 60 2 24:=cX.mk' (z:= .agg #[.string ⟨#[]⟩, .int .i64 0]) Tryz.underlying51 (by kernel_rfl) rfl (by decide) (by decide)
theorem iM (S T:Nat->Prop) (f g:au) (pv qv:Value) (d:Int) (w:World) (hp:ay S w pv f.parts) (hq:ay T w qv g.parts) (h:eX f g=d):
  Calls Tryz.prog 78 #[dV pv f,dV qv g] w fun e w'=>e= .returned (.int .i64 d)/\Below w.heap.size w w':=by
 rw[<-h]; exact lK S T f g pv qv w hp hq
structure fJ (W wr : World) (v : Value) (out : List (ByteArray × Int)) : Prop where
 own:wr.ownsRow W.heap.size 60 2 v out.length (eH out)
 below:Below W.heap.size W wr
theorem fJ.next {W wr w':World} {v:Value} {out:List (ByteArray×Int)} (h:fJ W wr v out) (hb:Below wr.heap.size wr w'):fJ W w' v out:=⟨aW h.own hb,ag h.below hb⟩
theorem pp (S T:Nat->Prop) (a b:gF) (va vb:Value) (w:World) (ha:aY S w va a.files) (hb:aY T w vb b.files) (hla:a.files.length<=4096) (hlb:b.files.length<=4096):
  Calls Tryz.prog 42 #[kY va a.tm,kY vb b.tm] w fun e w'=> ∃v,e= .returned v/\w'.ownsRow w.heap.size 60 2 v (kV a.files b.files).length (eH (kV a.files b.files))/\Below w.heap.size w w':=by
 obtain⟨ca,pa,rfl,hca,hma,-⟩:=aT.shape ha fK.len;obtain⟨cb,pb,rfl,hcb,hmb,-⟩:=aT.shape hb fK.len;unfold maxLen at hma hmb;have HA:=aa ha;have HB:=aa hb;clear ha hb;obtain⟨an,han⟩: ∃n,n=a.files.length:=⟨_,rfl⟩;obtain⟨bn,hbn⟩: ∃n,n=b.files.length:=⟨_,rfl⟩;rw[<-han]at HA hca hla ⊢;rw[<-hbn]at HB hcb hlb ⊢;have HAN:=aa han;have HBN:=aa hbn
 clear han hbn;obtain⟨W,hW⟩: ∃W,W=(w.alloc (.cells #[.int .i64 a.tm, .slice ca an pa] 24)).alloc (.cells #[.int .i64 b.tm, .slice cb bn pb] 24):=⟨_,rfl⟩;have HBW:=aa (show Below w.heap.size w W by rw[hW]; exact((Below.refl _ _).alloc (Nat.le_refl _) _).alloc (by simp) _);have HX:=aa (show W.heap[w.heap.size]? =some (.cells #[.int .i64 a.tm, .slice ca an pa] 24 (0,0)) by rw[hW]; exact jY (heap_alloc_new w _) _)
 have HY:=aa (show W.heap[w.heap.size+1]? =some (.cells #[.int .i64 b.tm, .slice cb bn pb] 24 (0,0)) by rw[hW]; exact heap_alloc2_new w _ _);have HSZ:=aa (show W.heap.size=w.heap.size+2 by rw[hW]; simp);unfold kY
 go_enter Tryz.func42,Tryz.ntmps42
 go_upto_region 1 with fail
 change Code.wp _ _ _ _ ((w.alloc (.cells #[.int .i64 a.tm, .slice ca an pa] 24)).alloc (.cells #[.int .i64 b.tm, .slice cb bn pb] 24))
 rw[<-hW];clear hW;have HAW:=aa (aY.below HA.out HBW.out);have HBB:=aa (aY.below HB.out HBW.out);have HI0:=aa (show fJ W W (.slice none 0 0) []from⟨World.ownsRow_nil _ _ _ _,Below.refl _ _⟩);have HC0:=aa (gD.start a.files b.files);go_wp2_with fail
 go_loopw [5,6,7] (fun v i j wr=> ∃(n m:Nat) (out:List (ByteArray×Int)),n<=an/\m<=bn/\i= .int .i64 n/\j= .int .i64 m/\gD a.files b.files n m out/\fJ W wr v out) (fun _ i j _=>(an-(intOf i).toNat)+(bn-(intOf j).toNat))
 case atStart=>exact⟨0,0,[],Nat.zero_le _,Nat.zero_le _,rfl,rfl,HC0.out,HI0.out⟩
 case round=>
  obtain⟨n,m,out,hn,hm,rfl,rfl,hci,hat⟩:=hrel;have HCI:=aa hci;have HI:=aa hat
  have hol:=hci.1;obtain⟨av,cv,hsv,hvn,hvm⟩:=aj hat.own;subst hsv;unfold maxLen at hvm;clear hci hat
  have x1:=(HI.out.below.cell (p:=⟨w.heap.size,1,none⟩) (lt_of_block HX.out)).trans (af (k:=1) HX.out);have y1:=(HI.out.below.cell (p:=⟨w.heap.size+1,1,none⟩) (lt_of_block HY.out)).trans (af (k:=1) HY.out);simp only[List.getElem?_toArray,cw]at x1 y1
  by_cases hln:n<an
  ·obtain⟨f,hf⟩: ∃f,a.files[n]? =some f:=⟨_,List.getElem?_eq_getElem (show n<a.files.length by rw[<-HAN.out]; exact hln)⟩;obtain⟨b1,o1,pa1,pc1,rfl,hok1,hpa1,hbl1,-,hcl1⟩:=ez HAW.out (Below.refl _ _) hf;have HQ0:=aa (show W.cell? ⟨b1,o1+n*7,none⟩=some (.string f.path)from hcl1 0 (by omega));have HOK1:=aa hok1;have HCL1:=aa hcl1;have HPA1:=aa hpa1;have HF:=aa hf
   have hne1: ¬(n:Int)=(an:Int):=by omega
   clear hf hok1 hpa1 hcl1
   by_cases hlm:m<bn
   ·obtain⟨g,hg⟩: ∃g,b.files[m]? =some g:=⟨_,List.getElem?_eq_getElem (show m<b.files.length by rw[<-HBN.out]; exact hlm)⟩;obtain⟨b2,o2,pa2,pc2,rfl,hok2,hpa2,hbl2,-,hcl2⟩:=ez HBB.out (Below.refl _ _) hg;have HP0:=aa (show W.cell? ⟨b2,o2+m*7,none⟩=some (.string g.path)from hcl2 0 (by omega));have HCL2:=aa hcl2;have HPA2:=aa hpa2;have HG:=aa hg;have hne2: ¬(m:Int)=(bn:Int):=by omega
    clear hg hok2 hpa2 hcl2;obtain⟨W6,hW6⟩: ∃W6:World,W6=wr.drew:=⟨_,rfl⟩;have HI6:=aa (show fJ W W6 (.slice av out.length cv) out by rw[hW6]; exact HI.out.next (Below.refl _ _).drew);have x2:=(HI6.out.below.cell (p:=⟨w.heap.size,1,none⟩) (lt_of_block HX.out)).trans (af (k:=1) HX.out);have y2:=(HI6.out.below.cell (p:=⟨w.heap.size+1,1,none⟩) (lt_of_block HY.out)).trans (af (k:=1) HY.out)
    have q0:=(HI6.out.below.cell (p:=⟨b1,o1+n*7,none⟩) hbl1).trans HQ0.out;have p0:=(HI6.out.below.cell (p:=⟨b2,o2+m*7,none⟩) hbl2).trans HP0.out;simp only[List.getElem?_toArray,cw]at x2 y2;obtain⟨o,ho⟩: ∃o,bG (bl f.path) (bl g.path)=o:=⟨_,rfl⟩;have HO:=aa ho;clear ho
    by_cases hneg:o<0
    ·have HC2:=aa (HCI.out.rem HF.out (.inr ⟨g,HG.out,by rw[HO.out]; exact hneg⟩));go_wp2_with fail;refine ak [some 12,none,some 1] (by kernel_rfl) (by kernel_rfl) (by kernel_rfl) ?_;simp only[bb,List.take_succ_cons,List.take_zero,List.drop_succ_cons,List.drop_zero];rw[<-hW6];clear hW6
     repeat (first | (refine am rfl ?_; simp only[Act.put,aD,aE,aF]) | (refine aA rfl (fun K hK=> ?_); go_simp; refine hK _ ?_; clear hK K))
     refine az ?_;clear x1 y1 q0 p0;refine bt rfl (fun K hK=> ?_);go_wp2_with (go_at_call 65; refine(fO f.path g.path _ _ HOK1.out.pth HO.out).mono ?_; rintro e w7 ⟨rfl,hb7⟩; have HI7:=aa (HI6.out.next hb7); clear hb7);have x1:=(HI7.out.below.cell (p:=⟨w.heap.size,1,none⟩) (lt_of_block HX.out)).trans (af (k:=1) HX.out);have y1:=(HI7.out.below.cell (p:=⟨w.heap.size+1,1,none⟩) (lt_of_block HY.out)).trans (af (k:=1) HY.out)
     have q0:=(HI7.out.below.cell (p:=⟨b1,o1+n*7,none⟩) hbl1).trans HQ0.out;have p0:=(HI7.out.below.cell (p:=⟨b2,o2+m*7,none⟩) hbl2).trans HP0.out;simp only[List.getElem?_toArray,cw]at x1 y1
     repeat (first | (refine am rfl ?_; simp only[Act.put,aD,aE,aF]) | (refine aA rfl (fun K hK=> ?_); go_simp; refine hK _ ?_; clear hK K))
     refine az ?_;have HAL:=aa ((Below.refl w7.heap.size w7).alloc (Nat.le_refl _) (.cells (dL (f.path,4)).toArray 60));have HOA:=aa (aW HI7.out.own HAL.out);have HRL:=aa (fy (n:=1) (sz:=2) (cells:=dL (f.path,4)) (heap_alloc_new w7 (.cells (dL (f.path,4)).toArray 60)) rfl (by decide));have HZ:=aa (show W.heap.size<=(w7.alloc (.cells (dL (f.path,4)).toArray 60)).heap.size by have:=HI7.out.below.size; simp; omega)
     go_wp2_with (at_builtin; go_must (refine bV Tryz.appChg rfl _ _ rfl W.heap.size (.slice av out.length cv) out.length (eH out) rfl HOA.out _ 1 (dL (f.path,4)) rfl HRL.out gK (by omega) HZ.out ?_); intro v9 w9 hown9 hg9; obtain⟨a9,c9,rfl,-,-⟩:=aj hown9; have HO9:=aa hown9; have HG9:=aa hg9; clear hown9 hg9);have HI9:=aa (show fJ W w9 (.slice a9 (out.length+1) c9) (out++[(f.path,4)])from⟨by rw[List.length_append,List.length_singleton,eW]; exact HO9.out,aP (ag HI7.out.below HAL.out) HOA.out HG9.out (Nat.le_refl _) HZ.out⟩)
     exact⟨⟨n+1,m,_,by omega,hm,rfl,rfl,HC2.out,HI9.out⟩,by simp only[intOf,Int.toNat_natCast]; omega⟩
    ·by_cases hpos:0<o
     ·have HC2:=aa (HCI.out.add HG.out (.inr ⟨f,HF.out,by rw[HO.out]; exact hpos⟩));go_wp2_with fail;refine ak [some 12,none,some 1] (by kernel_rfl) (by kernel_rfl) (by kernel_rfl) ?_;simp only[bb,List.take_succ_cons,List.take_zero,List.drop_succ_cons,List.drop_zero];rw[<-hW6];clear hW6
      repeat (first | (refine am rfl ?_; simp only[Act.put,aD,aE,aF]) | (refine aA rfl (fun K hK=> ?_); go_simp; refine hK _ ?_; clear hK K))
      refine az ?_;clear x1 y1 q0 p0;refine bt rfl (fun K hK=> ?_);go_wp2_with (go_at_call 65; refine(fO f.path g.path _ _ HOK1.out.pth HO.out).mono ?_; rintro e w7 ⟨rfl,hb7⟩; have HI7:=aa (HI6.out.next hb7); clear hb7);have x1:=(HI7.out.below.cell (p:=⟨w.heap.size,1,none⟩) (lt_of_block HX.out)).trans (af (k:=1) HX.out);have y1:=(HI7.out.below.cell (p:=⟨w.heap.size+1,1,none⟩) (lt_of_block HY.out)).trans (af (k:=1) HY.out)
      have q0:=(HI7.out.below.cell (p:=⟨b1,o1+n*7,none⟩) hbl1).trans HQ0.out;have p0:=(HI7.out.below.cell (p:=⟨b2,o2+m*7,none⟩) hbl2).trans HP0.out;simp only[List.getElem?_toArray,cw]at x1 y1
      repeat (first | (refine am rfl ?_; simp only[Act.put,aD,aE,aF]) | (refine aA rfl (fun K hK=> ?_); go_simp; refine hK _ ?_; clear hK K))
      refine az ?_;have HAL:=aa ((Below.refl w7.heap.size w7).alloc (Nat.le_refl _) (.cells (dL (g.path,1)).toArray 60));have HOA:=aa (aW HI7.out.own HAL.out);have HRL:=aa (fy (n:=1) (sz:=2) (cells:=dL (g.path,1)) (heap_alloc_new w7 (.cells (dL (g.path,1)).toArray 60)) rfl (by decide));have HZ:=aa (show W.heap.size<=(w7.alloc (.cells (dL (g.path,1)).toArray 60)).heap.size by have:=HI7.out.below.size; simp; omega)
      go_wp2_with (at_builtin; go_must (refine bV Tryz.appChg rfl _ _ rfl W.heap.size (.slice av out.length cv) out.length (eH out) rfl HOA.out _ 1 (dL (g.path,1)) rfl HRL.out gK (by omega) HZ.out ?_); intro v9 w9 hown9 hg9; obtain⟨a9,c9,rfl,-,-⟩:=aj hown9; have HO9:=aa hown9; have HG9:=aa hg9; clear hown9 hg9);have HI9:=aa (show fJ W w9 (.slice a9 (out.length+1) c9) (out++[(g.path,1)])from⟨by rw[List.length_append,List.length_singleton,eW]; exact HO9.out,aP (ag HI7.out.below HAL.out) HOA.out HG9.out (Nat.le_refl _) HZ.out⟩)
      exact⟨⟨n,m+1,_,hn,by omega,rfl,rfl,HC2.out,HI9.out⟩,by simp only[intOf,Int.toNat_natCast]; omega⟩
     ·obtain rfl:o=0:=by omega
      have HC2:=aa (HCI.out.both HF.out HG.out HO.out);obtain⟨d,hd⟩: ∃d,eX f g=d:=⟨_,rfl⟩;rw[hd]at HC2;have HD:=aa hd;clear hd;go_wp2_with fail;refine ak [some 12,none,some 1] (by kernel_rfl) (by kernel_rfl) (by kernel_rfl) ?_;simp only[bb,List.take_succ_cons,List.take_zero,List.drop_succ_cons,List.drop_zero];rw[<-hW6];clear hW6
      repeat (first | (refine am rfl ?_; simp only[Act.put,aD,aE,aF]) | (refine aA rfl (fun K hK=> ?_); go_simp; refine hK _ ?_; clear hK K))
      refine az ?_;clear x1 y1 q0 p0;refine bt rfl (fun K hK=> ?_);go_wp2_with (go_at_call 65; refine(fO f.path g.path _ _ HOK1.out.pth HO.out).mono ?_; rintro e w7 ⟨rfl,hb7⟩; have HI7:=aa (HI6.out.next hb7); clear hb7);have x1:=(HI7.out.below.cell (p:=⟨w.heap.size,1,none⟩) (lt_of_block HX.out)).trans (af (k:=1) HX.out);have y1:=(HI7.out.below.cell (p:=⟨w.heap.size+1,1,none⟩) (lt_of_block HY.out)).trans (af (k:=1) HY.out)
      have q0:=(HI7.out.below.cell (p:=⟨b1,o1+n*7,none⟩) hbl1).trans HQ0.out;have p0:=(HI7.out.below.cell (p:=⟨b2,o2+m*7,none⟩) hbl2).trans HP0.out;simp only[List.getElem?_toArray,cw]at x1 y1
      repeat (first | (refine am rfl ?_; simp only[Act.put,aD,aE,aF]) | (refine aA rfl (fun K hK=> ?_); go_simp; refine hK _ ?_; clear hK K))
      refine az ?_
      by_cases hd0:d=0
      ·subst hd0;obtain⟨W8,hW8⟩: ∃W8:World,W8=w7.drew:=⟨_,rfl⟩;have HI8:=aa (show fJ W W8 (.slice av out.length cv) out by rw[hW8]; exact HI7.out.next (Below.refl _ _).drew);have x3:=(HI8.out.below.cell (p:=⟨w.heap.size,1,none⟩) (lt_of_block HX.out)).trans (af (k:=1) HX.out);have y3:=(HI8.out.below.cell (p:=⟨w.heap.size+1,1,none⟩) (lt_of_block HY.out)).trans (af (k:=1) HY.out)
       have hq: ∀j,j<7->W8.cell? ⟨b1,o1+n*7+j,none⟩=(cu (.slice pa1 f.parts.length pc1) f)[j]? :=fun j hj=>(HI8.out.below.cell (p:=⟨b1,o1+n*7+j,none⟩) hbl1).trans (HCL1.out j hj)
       have hp: ∀j,j<7->W8.cell? ⟨b2,o2+m*7+j,none⟩=(cu (.slice pa2 g.parts.length pc2) g)[j]? :=fun j hj=>(HI8.out.below.cell (p:=⟨b2,o2+m*7+j,none⟩) hbl2).trans (HCL2.out j hj)
       have u0:=hq 0 (by omega);have u1:=hq 1 (by omega);have u2:=hq 2 (by omega);have u3:=hq 3 (by omega);have u4:=hq 4 (by omega);have u5:=hq 5 (by omega);have u6:=hq 6 (by omega);have z0:=hp 0 (by omega);have z1:=hp 1 (by omega);have z2:=hp 2 (by omega);have z3:=hp 3 (by omega);have z4:=hp 4 (by omega);have z5:=hp 5 (by omega);have z6:=hp 6 (by omega);simp only[cu,List.getElem?_toArray,cw,Nat.add_zero]at x3 y3 u0 u1 u2 u3 u4 u5 u6 z0 z1 z2 z3 z4 z5 z6
       clear hq hp;go_wp2_with fail;refine ak [some 10,none,some 1] (by kernel_rfl) (by kernel_rfl) (by kernel_rfl) ?_;simp only[bb,List.take_succ_cons,List.take_zero,List.drop_succ_cons,List.drop_zero];rw[<-hW8];clear hW8
       repeat (first | (refine am rfl ?_; simp only[Act.put,aD,aE,aF]) | (refine aA rfl (fun K hK=> ?_); go_simp; refine hK _ ?_; clear hK K))
       refine az ?_;clear x3 y3 u0 u1 u2 u3 u4 u5 u6 z0 z1 z2 z3 z4 z5 z6 x1 y1 q0 p0;refine bt rfl (fun K hK=> ?_);go_wp2_with (go_at_call 78; refine(iM S T f g (.slice pa1 f.parts.length pc1) (.slice pa2 g.parts.length pc2) _ _ (ay.below HPA1.out HI8.out.below) (ay.below HPA2.out HI8.out.below) HD.out).mono ?_; rintro e wd ⟨rfl,hbd⟩; have HID:=aa (HI8.out.next hbd); clear hbd)
       have x1:=(HID.out.below.cell (p:=⟨w.heap.size,1,none⟩) (lt_of_block HX.out)).trans (af (k:=1) HX.out);have y1:=(HID.out.below.cell (p:=⟨w.heap.size+1,1,none⟩) (lt_of_block HY.out)).trans (af (k:=1) HY.out);have p0:=(HID.out.below.cell (p:=⟨b2,o2+m*7,none⟩) hbl2).trans HP0.out;simp only[List.getElem?_toArray,cw]at x1 y1
       repeat (first | (refine am rfl ?_; simp only[Act.put,aD,aE,aF]) | (refine aA rfl (fun K hK=> ?_); go_simp; refine hK _ ?_; clear hK K))
       refine az ?_;go_wp2_with fail;have HC3:gD a.files b.files (n+1) (m+1) out:=by have:=HC2.out; simpa using this
       exact⟨⟨n+1,m+1,_,by omega,by omega,rfl,rfl,HC3,HID.out⟩,by simp only[intOf,Int.toNat_natCast]; omega⟩
      ·have HC3:=aa (show gD a.files b.files (n+1) (m+1) (out++[(g.path,d)]) by have:=HC2.out; rwa [if_neg hd0]at this);obtain⟨W8,hW8⟩: ∃W8:World,W8=w7.drew:=⟨_,rfl⟩;have HI8:=aa (show fJ W W8 (.slice av out.length cv) out by rw[hW8]; exact HI7.out.next (Below.refl _ _).drew);have x3:=(HI8.out.below.cell (p:=⟨w.heap.size,1,none⟩) (lt_of_block HX.out)).trans (af (k:=1) HX.out)
       have y3:=(HI8.out.below.cell (p:=⟨w.heap.size+1,1,none⟩) (lt_of_block HY.out)).trans (af (k:=1) HY.out);have hq: ∀j,j<7->W8.cell? ⟨b1,o1+n*7+j,none⟩=(cu (.slice pa1 f.parts.length pc1) f)[j]? :=fun j hj=>(HI8.out.below.cell (p:=⟨b1,o1+n*7+j,none⟩) hbl1).trans (HCL1.out j hj)
       have hp: ∀j,j<7->W8.cell? ⟨b2,o2+m*7+j,none⟩=(cu (.slice pa2 g.parts.length pc2) g)[j]? :=fun j hj=>(HI8.out.below.cell (p:=⟨b2,o2+m*7+j,none⟩) hbl2).trans (HCL2.out j hj)
       have u0:=hq 0 (by omega);have u1:=hq 1 (by omega);have u2:=hq 2 (by omega);have u3:=hq 3 (by omega);have u4:=hq 4 (by omega);have u5:=hq 5 (by omega);have u6:=hq 6 (by omega);have z0:=hp 0 (by omega);have z1:=hp 1 (by omega);have z2:=hp 2 (by omega);have z3:=hp 3 (by omega);have z4:=hp 4 (by omega);have z5:=hp 5 (by omega);have z6:=hp 6 (by omega);simp only[cu,List.getElem?_toArray,cw,Nat.add_zero]at x3 y3 u0 u1 u2 u3 u4 u5 u6 z0 z1 z2 z3 z4 z5 z6
       clear hq hp;go_wp2_with fail;refine ak [some 10,none,some 1] (by kernel_rfl) (by kernel_rfl) (by kernel_rfl) ?_;simp only[bb,List.take_succ_cons,List.take_zero,List.drop_succ_cons,List.drop_zero];rw[<-hW8];clear hW8
       repeat (first | (refine am rfl ?_; simp only[Act.put,aD,aE,aF]) | (refine aA rfl (fun K hK=> ?_); go_simp; refine hK _ ?_; clear hK K))
       refine az ?_;clear x3 y3 u0 u1 u2 u3 u4 u5 u6 z0 z1 z2 z3 z4 z5 z6 x1 y1 q0 p0;refine bt rfl (fun K hK=> ?_);go_wp2_with (go_at_call 78; refine(iM S T f g (.slice pa1 f.parts.length pc1) (.slice pa2 g.parts.length pc2) _ _ (ay.below HPA1.out HI8.out.below) (ay.below HPA2.out HI8.out.below) HD.out).mono ?_; rintro e wd ⟨rfl,hbd⟩; have HID:=aa (HI8.out.next hbd); clear hbd)
       have x1:=(HID.out.below.cell (p:=⟨w.heap.size,1,none⟩) (lt_of_block HX.out)).trans (af (k:=1) HX.out);have y1:=(HID.out.below.cell (p:=⟨w.heap.size+1,1,none⟩) (lt_of_block HY.out)).trans (af (k:=1) HY.out);have p0:=(HID.out.below.cell (p:=⟨b2,o2+m*7,none⟩) hbl2).trans HP0.out;simp only[List.getElem?_toArray,cw]at x1 y1
       repeat (first | (refine am rfl ?_; simp only[Act.put,aD,aE,aF]) | (refine aA rfl (fun K hK=> ?_); go_simp; refine hK _ ?_; clear hK K))
       refine az ?_;have HAL:=aa ((Below.refl wd.heap.size wd).alloc (Nat.le_refl _) (.cells (dL (g.path,d)).toArray 60));have HOA:=aa (aW HID.out.own HAL.out);have HRL:=aa (fy (n:=1) (sz:=2) (cells:=dL (g.path,d)) (heap_alloc_new wd (.cells (dL (g.path,d)).toArray 60)) rfl (by decide));have HZ:=aa (show W.heap.size<=(wd.alloc (.cells (dL (g.path,d)).toArray 60)).heap.size by have:=HID.out.below.size; simp; omega)
       go_wp2_with (at_builtin; go_must (refine bV Tryz.appChg rfl _ _ rfl W.heap.size (.slice av out.length cv) out.length (eH out) rfl HOA.out _ 1 (dL (g.path,d)) rfl HRL.out gK (by omega) HZ.out ?_); intro v9 w9 hown9 hg9; obtain⟨a9,c9,rfl,-,-⟩:=aj hown9; have HO9:=aa hown9; have HG9:=aa hg9; clear hown9 hg9);have HI9:=aa (show fJ W w9 (.slice a9 (out.length+1) c9) (out++[(g.path,d)])from⟨by rw[List.length_append,List.length_singleton,eW]; exact HO9.out,aP (ag HID.out.below HAL.out) HOA.out HG9.out (Nat.le_refl _) HZ.out⟩)
       exact⟨⟨n+1,m+1,_,by omega,by omega,rfl,rfl,HC3.out,HI9.out⟩,by simp only[intOf,Int.toNat_natCast]; omega⟩
   ·have hmm:m=bn:=by omega
    subst hmm;have HC2:=aa (HCI.out.rem HF.out (.inl (by rw[<-HBN.out]; exact Nat.le_refl _)));have q0:=(HI.out.below.cell (p:=⟨b1,o1+n*7,none⟩) hbl1).trans HQ0.out;have HAL:=aa ((Below.refl wr.heap.size wr).alloc (Nat.le_refl _) (.cells (dL (f.path,4)).toArray 60));have HOA:=aa (aW HI.out.own HAL.out);have HRL:=aa (fy (n:=1) (sz:=2) (cells:=dL (f.path,4)) (heap_alloc_new wr (.cells (dL (f.path,4)).toArray 60)) rfl (by decide))
    have HZ:=aa (show W.heap.size<=(wr.alloc (.cells (dL (f.path,4)).toArray 60)).heap.size by have:=HI.out.below.size; simp; omega);go_wp2_with (at_builtin; go_must (refine bV Tryz.appChg rfl _ _ rfl W.heap.size (.slice av out.length cv) out.length (eH out) rfl HOA.out _ 1 (dL (f.path,4)) rfl HRL.out gK (by omega) HZ.out ?_); intro v9 w9 hown9 hg9; obtain⟨a9,c9,rfl,-,-⟩:=aj hown9; have HO9:=aa hown9; have HG9:=aa hg9; clear hown9 hg9)
    have HI9:=aa (show fJ W w9 (.slice a9 (out.length+1) c9) (out++[(f.path,4)])from⟨by rw[List.length_append,List.length_singleton,eW]; exact HO9.out,aP (ag HI.out.below HAL.out) HOA.out HG9.out (Nat.le_refl _) HZ.out⟩);exact⟨⟨n+1,m,_,by omega,Nat.le_refl _,rfl,rfl,HC2.out,HI9.out⟩,by simp only[intOf,Int.toNat_natCast]; omega⟩
  ·have hnn:n=an:=by omega
   subst hnn
   by_cases hlm:m<bn
   ·obtain⟨g,hg⟩: ∃g,b.files[m]? =some g:=⟨_,List.getElem?_eq_getElem (show m<b.files.length by rw[<-HBN.out]; exact hlm)⟩;obtain⟨b2,o2,pa2,pc2,rfl,hok2,hpa2,hbl2,-,hcl2⟩:=ez HBB.out (Below.refl _ _) hg;have HP0:=aa (show W.cell? ⟨b2,o2+m*7,none⟩=some (.string g.path)from hcl2 0 (by omega));have p0:=(HI.out.below.cell (p:=⟨b2,o2+m*7,none⟩) hbl2).trans HP0.out
    have HC2:=aa (HCI.out.add hg (.inl (by rw[<-HAN.out]; exact Nat.le_refl _)));clear hg hok2 hpa2 hcl2;have HAL:=aa ((Below.refl wr.heap.size wr).alloc (Nat.le_refl _) (.cells (dL (g.path,1)).toArray 60));have HOA:=aa (aW HI.out.own HAL.out);have HRL:=aa (fy (n:=1) (sz:=2) (cells:=dL (g.path,1)) (heap_alloc_new wr (.cells (dL (g.path,1)).toArray 60)) rfl (by decide))
    have HZ:=aa (show W.heap.size<=(wr.alloc (.cells (dL (g.path,1)).toArray 60)).heap.size by have:=HI.out.below.size; simp; omega);go_wp2_with (at_builtin; go_must (refine bV Tryz.appChg rfl _ _ rfl W.heap.size (.slice av out.length cv) out.length (eH out) rfl HOA.out _ 1 (dL (g.path,1)) rfl HRL.out gK (by omega) HZ.out ?_); intro v9 w9 hown9 hg9; obtain⟨a9,c9,rfl,-,-⟩:=aj hown9; have HO9:=aa hown9; have HG9:=aa hg9; clear hown9 hg9)
    have HI9:=aa (show fJ W w9 (.slice a9 (out.length+1) c9) (out++[(g.path,1)])from⟨by rw[List.length_append,List.length_singleton,eW]; exact HO9.out,aP (ag HI.out.below HAL.out) HOA.out HG9.out (Nat.le_refl _) HZ.out⟩);exact⟨⟨n,m+1,_,Nat.le_refl _,by omega,rfl,rfl,HC2.out,HI9.out⟩,by simp only[intOf,Int.toNat_natCast]; omega⟩
   ·have hmm:m=bn:=by omega
    subst hmm;have HOUT:=aa (HCI.out.done (by rw[<-HAN.out]; exact Nat.le_refl _) (by rw[<-HBN.out]; exact Nat.le_refl _));go_wp2_with fail;go_ret;refine⟨_,rfl, ?_,HBW.out.trans (HI.out.below.mono (by have:=HSZ.out; omega))⟩;rw[<-HOUT.out];exact bK HI.out.own (by have:=HSZ.out; omega)
end Go.Proofs.YtnjkpcalgoefhaaGreatDoor
namespace Go.Proofs.YtnjkpcalgoefhaaGreatDoor
open Go Go.RowKit
def xu {α:Type} (Kp:World->World->Prop) (I:List α->World->Prop) (Ix:Code->List α->World->Prop) (xs:List α) (W:World):Exit->Act->World->Prop
 | .normal,_,B=>KeepsOthers W B/\Kp W B/\I xs B
 | .ret,_,B=>KeepsOthers W B/\Ix .ret xs B
 | .exit id,_,B=>KeepsOthers W B/\Ix (.exit id) xs B
 | .goto t,_,B=>KeepsOthers W B/\Ix (.goto t) xs B
 | .panic _,_,_=>False
 | .outgrown,_,_=>False
section
variable {P : Program} {α : Type}
theorem qV {W W':World} (h:Below W.heap.size W W'):W.grownBy W' none:=⟨h.os,h.tape,h.output,h.size,fun k hk _=>h.block k hk⟩
theorem lv {W:World} {l:Nat} {r:Loop} (h:W.heap[l]? =some (.loop r)) (o:Obj):(W.putObj l o).heap[l]? =some o:=World.putObj_heap_same (Array.getElem?_eq_some_iff.1 h).1
end
def sT {σ:Type} (mt:TypeId) (n:Nat) (I:σ->World->Prop):Prop:=
 ∀s A B row,I s A->A.grownBy B row->(∀r,row=some r->n<=r/\ ∃cs,A.heap[r]? =some (.cells cs mt (0,0)))->I s B
def zU {α:Type} (P:Program) (g:Nat) (lb:Array Value) (encs:α->Array Value) (D:List α->α->World->Prop) (Kp:World->World->Prop) (S Sp:List α->Prop) (N:Nat) (mt:TypeId) (w:World):Prop:=
 ∀(l:Nat) (J Jx:List α->World->Prop) (W:World),Below w.heap.size w W->sT mt W.heap.size J->
  (∀pre x A,J pre A->D pre x A->pre.length<N->YieldAt Fence.wide 2 P l (encs x) A fun e B=>(e= .returned (.bool true)/\J (pre++[x]) B/\Kp A B)\/(e= .returned (.bool false)/\Jx (pre++[x]) B))->
  J [] W->
  CallsIn Fence.wide 3 P g (#[.func (.yield l) #[] #[]]++lb) W fun e B=>(∃v,e= .returned v)/\((∃xs,S xs/\J xs B)\/(∃pre,Sp pre/\Jx pre B))
section
variable {P : Program} {α : Type}
theorem vH {g:Operand} {ps:Array Tmp} {assign body:Code} {Q:Exit->Act->World->Prop} {a:Act} {w:World} {gf:Nat} {lb:Array Value} (hg:a.eval g= .func (.func gf) #[] lb) (eg: ∀args w,(callFunc gf args).run P w= .ok (.enter gf args) w)
  {encs:α->Array Value} {D:List α->α->World->Prop} {Kp:World->World->Prop} {S Sp:List α->Prop} {N:Nat} {mt:TypeId} (hseq:zU P gf lb encs D Kp S Sp N mt w)
  (hKt: ∀ {A B C:World},Kp A B->Kp B C->Kp A C) (hKb: ∀(W:World) (l:Nat) (o o':Obj),w.heap.size<=l->W.heap[l]? =some o->o.isCells=false->o.isWalk=false->Kp W (W.putObj l o')) (hps: ∀x,(encs x).size=ps.size)
  (I:List α->World->Prop) (Ix:Code->List α->World->Prop) (Ax:List α->α->Act->World->Prop) (hI:OwnFrom w.heap.size I) (hI2:sT mt w.heap.size I) (hIx: ∀c,OwnFrom w.heap.size (Ix c))
  (hAx:OwnFrom w.heap.size (fun(s:List α×α×Act) W=>Ax s.1 s.2.1 s.2.2 W)) (h0:I [] w)
  (hassign: ∀(l:Nat) (pre:List α) (x:α) (W:World),w.heap.size<W.heap.size->I pre W->D pre x W->pre.length<N->assign.wpIn (Fence.wide.inRound l) 2 P (Exit.then (fun a₁ B=>KeepsOthers W B/\Kp W B/\Ax pre x a₁ B) (fun _ _ _=>False)) {tmps:=(ps.zip (encs x)).foldl (fun t (p,v)=>t.setIfInBounds p v) a.tmps,defers:=[]} W)
  (hbody: ∀(l:Nat) (pre:List α) (x:α) (a₁:Act) (W:World),Ax pre x a₁ W->body.wpIn (Fence.wide.inRound l) 2 P (xu Kp I Ix (pre++[x]) W) a₁ W)
  (hdone: ∀(Dl:Nat) (xs:List α) (W:World),w.heap.size<=Dl->S xs->I xs W->W.heap[Dl]? =some (.deferred (some []))->Q .normal {a with defers:= {target:= .collected Dl,args:= #[]} ::a.defers} W)
  (hstop: ∀(Dl:Nat) (c:Code) (pre:List α) (W:World),w.heap.size<=Dl->Sp pre->Ix c pre W->W.heap[Dl]? =some (.deferred (some []))->c.wp P Q {a with defers:= {target:= .collected Dl,args:= #[]} ::a.defers} W):
  (Code.rangeFunc g ps assign body).wp P Q a w:=by
 refine(wpIn_wide (n:=4)).1 (wpIn_rangeFunc (fun fn hfn=> ?_))
 show ∃l mark w₁ d w₁' f args w₂,_
 let rec_:LoopState->Option Code->Loop:=fun st pe=> {state:=st,pending:=pe,fn:=fn,tmps:=a.tmps,params:=ps,assign:=assign,body:=body,defers:=w.heap.size}
 obtain⟨rec,hrec⟩: ∃r,r=rec_:=⟨_,rfl⟩;have hrp: ∀st pe,(rec st pe).params=ps:=fun st pe=>by rw[hrec]
 have hrs: ∀st pe,(rec st pe).state=st:=fun st pe=>by rw[hrec]
 have hrj: ∀st pe,(rec st pe).pending=pe:=fun st pe=>by rw[hrec]
 obtain⟨L,hL⟩: ∃L,L=w.heap.size+1:=⟨_,rfl⟩;obtain⟨V,hV⟩: ∃V,(w.alloc (.deferred (some []))).alloc (.loop (rec .ready none))=V:=⟨_,rfl⟩;have hVL:V.heap[L]? =some (.loop (rec .ready none)):=by
  rw[<-hV,hL]; have:=World.alloc_heap_new (w.alloc (.deferred (some []))) (.loop (rec .ready none)); rwa [World.size_alloc]at this
 have hVD:V.heap[w.heap.size]? =some (.deferred (some [])):=by
  rw[<-hV]; exact(Below.heap_alloc _ _ _ (by simp)).trans (World.alloc_heap_new w _)
 have hVI:I [] V:=by rw[<-hV]; exact hI.alloc _ (hI.alloc _ h0)
 have hVB:Below w.heap.size w V:=by rw[<-hV]; exact((Below.refl _ w).alloc (Nat.le_refl _) _).alloc (by simp) _
 let J:List α->World->Prop:=fun pre W=>I pre W/\W.heap[L]? =some (.loop (rec .ready none))/\W.heap[w.heap.size]? =some (.deferred (some []))
 let Jx:List α->World->Prop:=fun pre W=> ∃c,Ix c pre W/\W.heap[L]? =some (.loop (rec .done (some c)))/\W.heap[w.heap.size]? =some (.deferred (some []))
 have hVs:w.heap.size+2<=V.heap.size:=by rw[<-hV]; simp
 have hJ:sT mt V.heap.size J:=by
  rintro s A B row ⟨h1,h2,h3⟩ hg hr;have hne: ∀(k:Nat) (o:Obj),A.heap[k]? =some o->o.isCells=false->row≠some k:=fun k o hk hw e=>by
   obtain⟨_,cs,ho⟩:=hr k e;rw[hk]at ho; cases ho; cases hw
  refine⟨hI2 s A B row h1 hg (fun r e=> ?_), ?_, ?_⟩
  ·obtain⟨h4,cs,ho⟩:=hr r e;exact⟨by omega,cs,ho⟩
  ·exact(hg.block _ (Array.getElem?_eq_some_iff.1 h2).1 (fun e=>hne _ _ h2 rfl e.symm)).trans h2
  ·exact(hg.block _ (Array.getElem?_eq_some_iff.1 h3).1 (fun e=>hne _ _ h3 rfl e.symm)).trans h3
 have hend: ∀(jump:Option Code) (W B:World),W.heap[L]? =some (.loop (rec .busy none))->W.heap[w.heap.size]? =some (.deferred (some []))->KeepsOthers W B->
   (Instr.endRound L jump).run P B= .ok (.bool jump.isNone) (B.putObj L (.loop (rec (if jump.isNone then .ready else .done) jump)))/\B.heap[L]? =some (.loop (rec .busy none))/\
   (B.putObj L (.loop (rec (if jump.isNone then .ready else .done) jump))).heap[L]? =some (.loop (rec (if jump.isNone then .ready else .done) jump))/\
   (B.putObj L (.loop (rec (if jump.isNone then .ready else .done) jump))).heap[w.heap.size]? =some (.deferred (some [])):=by
  intro jump W B h1 h2 hk;have hb:=hk.same _ _ h1 rfl;have hd:=hk.same _ _ h2 rfl;have:=run_endRound (P:=P) jump hb;refine⟨?_,hb,lv hb _,(World.putObj_heap_other (by omega)).trans hd⟩;rw[this,hrec]
 have hround: ∀pre x A,J pre A->D pre x A->pre.length<N->YieldAt Fence.wide 2 P L (encs x) A fun e B=>(e= .returned (.bool true)/\J (pre++[x]) B/\Kp A B)\/(e= .returned (.bool false)/\Jx (pre++[x]) B):=by
  rintro pre x A ⟨hi,hl,hk⟩ hd hN;have hlt:L<A.heap.size:=(Array.getElem?_eq_some_iff.1 hl).1;have hy:=run_yield (P:=P) (args:=encs x) hl (by rw[hrp]; exact hps x);refine⟨_,_,_,_,hy, ?_⟩;rw[hrec];refine roundIn_of_wpIn hfn (wpIn_mono (hassign L pre x A (by omega) hi hd hN) ?_);rintro e a₁ B hB
  cases e with
  | normal=>
   obtain⟨hko,hkp,hax⟩:=hB;have hl1:=hko.same _ _ hl rfl;have hk1:=hko.same _ _ hk rfl;have hbr:=run_beginRound (P:=P) hl1 (hrs _ _);refine⟨_,hbr, ?_⟩;have hbz:({rec .ready none with state:= .busy} :Loop)=rec .busy none:=by rw[hrec]
   rw[hbz];have hl2:=lv hl1 (.loop (rec .busy none));have hk2:(B.putObj L (.loop (rec .busy none))).heap[w.heap.size]? =some (.deferred (some [])):=(World.putObj_heap_other (by omega)).trans hk1;have hax2:Ax pre x a₁ (B.putObj L (.loop (rec .busy none))):=hAx.putObj (s:=(pre,x,a₁)) _ hax (by omega) hl1 rfl;have hkp2:Kp A (B.putObj L (.loop (rec .busy none))):=hKt hkp (hKb _ _ _ _ (by omega) hl1 rfl rfl)
   refine wpIn_mono (hbody L pre x a₁ _ hax2) ?_;rintro e a3 C hC
   cases e with
   | normal=>
    obtain⟨c1,c2,c3⟩:=hC;obtain⟨r1,r2,r3,r4⟩:=hend none _ C hl2 hk2 c1;exact⟨_,_,r1, .inl ⟨rfl,⟨hI.putObj _ c3 (by omega) r2 rfl,r3,r4⟩,hKt (hKt hkp2 c2) (hKb _ _ _ _ (by omega) r2 rfl rfl)⟩⟩
   | ret=>
    obtain⟨c1,c3⟩:=hC;obtain⟨r1,r2,r3,r4⟩:=hend (some .ret) _ C hl2 hk2 c1;exact⟨_,_,r1, .inr ⟨rfl,_,(hIx _).putObj _ c3 (by omega) r2 rfl,r3,r4⟩⟩
   | exit id=>
    obtain⟨c1,c3⟩:=hC;obtain⟨r1,r2,r3,r4⟩:=hend (some (.exit id)) _ C hl2 hk2 c1;exact⟨_,_,r1, .inr ⟨rfl,_,(hIx _).putObj _ c3 (by omega) r2 rfl,r3,r4⟩⟩
   | goto t=>
    obtain⟨c1,c3⟩:=hC;obtain⟨r1,r2,r3,r4⟩:=hend (some (.goto t)) _ C hl2 hk2 c1;exact⟨_,_,r1, .inr ⟨rfl,_,(hIx _).putObj _ c3 (by omega) r2 rfl,r3,r4⟩⟩
   | panic ch=>exact hC.elim
   | outgrown=>exact hC.elim
  | ret=>exact hB.elim
  | exit id=>exact hB.elim
  | goto t=>exact hB.elim
  | panic ch=>exact hB.elim
  | outgrown=>exact hB.elim
 refine⟨L,[{target:= .collected w.heap.size,args:= #[]}],V,{target:= .fn (.func gf) lb,args:= #[.func (.yield L) #[] #[]]},V,gf, #[.func (.yield L) #[] #[]]++lb,V, ?_, ?_,fun _ _=>trivial, ?_,fun _=>by omega, ?_⟩
 ·rw[<-hV,hL,hrec]; exact run_enterLoop_outer _ _ _ _ _
 ·simp only[resolve,hg];simp[go_sem]
 ·simp[invoke,go_sem,eg]
 ·refine(hseq L J Jx V hVB hJ hround ⟨hVI,hVL,hVD⟩).mono ?_;rintro e B ⟨⟨v,rfl⟩,hB⟩
  rcases hB with⟨xs,hS,hi,hl,hk⟩ | ⟨pre,hS,c,hi,hl,hk⟩
  ·have:=run_endLoop (P:=P) hl (by rw[hrs]; simp);rw[hrj]at this;exact⟨none,_,this,hdone _ xs _ (Nat.le_refl _) hS (hI.putObj _ hi (by omega) hl rfl) ((World.putObj_heap_other (by omega)).trans hk)⟩
  ·have:=run_endLoop (P:=P) hl (by rw[hrs]; simp);rw[hrj]at this;exact⟨some c,_,this,(wpIn_wide (n:=4)).2 (hstop _ c pre _ (Nat.le_refl _) hS ((hIx c).putObj _ hi (by omega) hl rfl) ((World.putObj_heap_other (by omega)).trans hk))⟩
end
end Go.Proofs.YtnjkpcalgoefhaaGreatDoor
namespace Go.Proofs.YtnjkpcalgoefhaaGreatDoor
open Go.RowKit
theorem tW {n:Nat} (h:n<256):aC (UInt8.ofNat n)= .int .u8 (n:Int):=by
 unfold aC; rw[UInt8.toNat_ofNat_of_lt' (by exact h)]
theorem wrap_u64 (n:Int):IntKind.u64.wrap n=((n%18446744073709551616).toNat:Int):=by rw[IntKind.wrap_u64]; omega
open Go Go.RowKit
attribute [local go_sem] Oper.semAt_some
def dp (t:TypeId) (A B:World):Prop:= ∀(k:Nat) (cs:Array Value),A.heap[k]? =some (.cells cs t (0,0))->B.heap[k]? =A.heap[k]?
section
variable {t : TypeId} {A B C : World} {n : Nat}
theorem dp.refl (A:World):dp t A A:=fun _ _ _=>rfl
theorem dp.trans (h:dp t A B) (k:dp t B C):dp t A C:=fun i cs hi=>(k i cs ((h i cs hi).trans hi)).trans (h i cs hi)
theorem dp.below (h:Below A.heap.size A B):dp t A B:=fun i _ hi=>h.block i (Array.getElem?_eq_some_iff.1 hi).1
theorem dp.grown {row:Option Nat} (h:A.grownBy B row) (hr: ∀r,row=some r-> ∀cs,A.heap[r]? ≠some (.cells cs t (0,0))):dp t A B:=fun i cs hi=>h.block i (Array.getElem?_eq_some_iff.1 hi).1 (fun e=>hr i e.symm cs hi)
end
theorem lX {A:World} {base sz m k:Nat} {t:TypeId} {v:Value} {xs:List Value} (h:A.ownsRow base t sz v m xs) (hk:v.ownBlock=some k):base<=k/\ ∃cur,A.heap[k]? =some (.cells cur t (0,0)):=by
 rcases h.2 with⟨rfl,_⟩ | ⟨g,cap,cur,rfl,hb,hgb,_⟩
 ·cases hk
 ·simp only[Value.ownBlock,Option.some.injEq]at hk;subst hk;exact⟨hb,cur,hgb⟩
theorem uM {seed W:Nat} :iJ seed W [] (dz seed (List.replicate 64 0) W 0 0 0):=by
 have h0:ga W []=[]:=by unfold ga; simp
 have ht:=jR seed;have g: ∀i,256<=i->(dz seed (List.replicate 64 0) W 0 0 0)[i]? =((List.replicate 64 (0:UInt8)).map aC++[Value.int .i64 (W:Int), .int .i64 0, .int .i64 0, .int .u64 0])[i-256]? :=fun i hi=>by
  unfold dz; rw[List.getElem?_append_right (by omega),ht]; rfl
 refine⟨fun i hi=> ?_,fun j hj=>⟨0, ?_⟩, ?_,⟨0,by decide, ?_,fun j b hb=>by rw[h0]at hb; cases hb⟩, ?_, ?_⟩
 ·unfold dz;rw[List.getElem?_append_left (by omega)];unfold kv;rw[List.getElem?_map,List.getElem?_range hi]; rfl
 ·rw[g _ (by omega),Nat.add_sub_cancel_left,List.getElem?_append_left (by simpa using hj),List.getElem?_map,List.getElem?_replicate,if_pos hj]; rfl
 ·rw[g _ (by decide)]; rfl
 ·rw[g _ (by decide)]; rfl
 ·rw[g _ (by decide)]; simp
 ·rw[g _ (by decide),h0]; rfl
theorem un {c:cR} (hc:dA c=true) (data:List UInt8):kz c data 0 (iP c (dz c.seed (List.replicate 64 0) c.win.toNat 0 0 0) 0 (-c.mn)):=by
 have hv:=dB.1 hc;have hl:(dz c.seed (List.replicate 64 0) c.win.toNat 0 0 0).length=324:=ko _ (by simp) _ _ _ _;have h:=uM (seed:=c.seed) (W:=c.win.toNat);have lo: ∀i,i<324->(iP c (dz c.seed (List.replicate 64 0) c.win.toNat 0 0 0) 0 (-c.mn))[i]? =(dz c.seed (List.replicate 64 0) c.win.toNat 0 0 0)[i]? :=fun i hi=>by
  unfold iP; rw[List.getElem?_append_left (by omega)]
 have hi': ∀i,(iP c (dz c.seed (List.replicate 64 0) c.win.toNat 0 0 0) 0 (-c.mn))[324+i]? =(bR c++[Value.int .i64 0,Value.int .i64 (-c.mn)])[i]? :=fun i=>by
  unfold iP; rw[List.getElem?_append_right (by omega),hl,Nat.add_sub_cancel_left]
 refine⟨⟨fun i hi=> ?_,fun j hj=> ?_, ?_, ?_, ?_, ?_⟩,ki c hl _ _,fun i hi=> ?_, ?_, ?_⟩
 ·rw[lo _ (by omega)]; exact h.tab i hi
 ·rw[lo _ (by omega)]; exact h.rng j hj
 ·rw[lo _ (by omega)]; exact h.win
 ·obtain⟨s,h1,h2,h3⟩:=h.st;exact⟨s,h1,by rw[lo _ (by omega)]; exact h2,fun j b hb=>by rw[lo _ (by omega)]; exact h3 j b hb⟩
 ·rw[lo _ (by omega)]; exact h.len
 ·rw[lo _ (by omega)]; exact h.sum
 ·rw[hi',List.getElem?_append_left (by simpa [bR]using hi)]
 ·rw[show 329=324+5 from rfl,hi']; rfl
 ·rw[show 330=324+6 from rfl,hi',gy];have: -c.mn= -((c.mn.toNat:Nat):Int):=by omega
  rw[this]; rfl
theorem lM (mk:Nat->Bool) (mn mx len:Nat): ∀p,(dr mk mn mx len p).length<=p/\eA (dr mk mn mx len p)<=p
 | 0=>⟨by simp[dr],by simp[dr,eA]⟩
 | p+1=>by
  have:=lM mk mn mx len p;rw[dr]
  split
  ·rw[List.length_append,eh]; simp; omega
  ·omega
def dn (c:cR) (dv:Value) (b1 b2:Nat) (w:World):Prop:=w.heap[b1]? =some (.cells (bR c).toArray 48 (0,0))/\w.heap[b2]? =some (.cells #[dv] 28 (0,0))
def vU (b1 b2:Nat) (A B:World):Prop:=B.heap[b1]? =A.heap[b1]? /\B.heap[b2]? =A.heap[b2]?
theorem dn.same {c:cR} {dv:Value} {b1 b2:Nat} {A B:World} (h:dn c dv b1 b2 A) (hk:vU b1 b2 A B):dn c dv b1 b2 B:=⟨hk.1.trans h.1,hk.2.trans h.2⟩
theorem dn.below {c:cR} {dv:Value} {b1 b2:Nat} {A B:World} (h:dn c dv b1 b2 A) (hb:Below A.heap.size A B):dn c dv b1 b2 B:=h.same ⟨hb.block _ (lt_of_block h.1),hb.block _ (lt_of_block h.2)⟩
theorem dn.grown {c:cR} {dv:Value} {b1 b2 r:Nat} {A B:World} (h:dn c dv b1 b2 A) (hg:A.grownBy B (some r)) (h1:b1<r) (h2:b2<r):dn c dv b1 b2 B:=
 h.same ⟨hg.block _ (lt_of_block h.1) (fun e=>by cases e; omega),hg.block _ (lt_of_block h.2) (fun e=>by cases e; omega)⟩
theorem dn.mx {c:cR} {dv:Value} {b1 b2:Nat} {A:World} (h:dn c dv b1 b2 A):A.cell? ⟨b1,1,none⟩=some (.int .i64 c.mx):=(cell_of_row A _ 1 _ _ _ h.1).trans rfl
theorem dn.dat {c:cR} {dv:Value} {b1 b2:Nat} {A:World} (h:dn c dv b1 b2 A):A.cell? ⟨b2,0,none⟩=some dv:=(cell_of_row A _ 0 _ _ _ h.2).trans rfl
def xY (c:cR) (data:List UInt8) (b1 b2 n₀:Nat) (w:World):Prop:=
 zU Tryz.prog 174 #[.pointer (some ⟨b1,0,none⟩), .pointer (some ⟨b2,0,none⟩)] (fun q:Nat=> #[.int .i64 (q:Int)]) (fun pre q _=>eA pre<q/\q<=data.length)
  (fun A B=>Below n₀ A B/\dp 244 A B/\vU b1 b2 A B) (fun xs=>xs=pG (oO c data) c.mn.toNat c.mx.toNat data.length) (fun _=>True) data.length 244 w
theorem dJ {B b:Nat} {w0 w w':World} (hb:Below B w0 w) (h:w.grownBy w' (some b)) (h1:B<=b) (h2:B<=w.heap.size):Below B w0 w':=
 hb.trans ⟨h.os,h.tape,h.output,h.size,fun k hk=>h.block k (by omega) (fun e=>by cases e; omega)⟩
theorem lq (c:cR) (data:List UInt8) (p:Nat) (b:UInt8) (pr:Bool) (mb:Nat) (ty:TypeId) (cs:List Value) (w:World) (hc:dA c=true) (hb:data[p]? =some b) (hp:data.length<=1048576) (hbox:w.heap[mb]? =some (.cells cs.toArray ty (0,0))) (hm:kz c data p cs) (hT:pd w) (hmb:mb≠5) (hpr:pr=mj (oO c data) c.mn.toNat (p+1)):
  Calls Tryz.prog 176 #[.pointer (some ⟨mb,0,none⟩), .int .u8 (b.toNat:Int)] w fun e w'=>e= .returned (.bool pr)/\(∃cs',w'.heap[mb]? =some (.cells cs'.toArray ty (0,0))/\kz c data (p+1) cs')/\w.grownBy w' (some mb):=by
 rw[hpr]; exact xI c data p b mb ty cs w hc hb hp hbox hm hT hmb
theorem wG (S:Nat->Prop) (c:cR) (data:List UInt8) (dv:Value) (b1 b2:Nat) (w wc:World) (hc:dA c=true) (hs:c.seed<18446744073709551616) (hx:dn c dv b1 b2 wc) (hd:aR S w dv data) (hl:data.length<=1048576) (hT:pd w) (hbc:Below w.heap.size w wc):
  xY c data b1 b2 w.heap.size wc:=by
 intro l J Jx W hbW' hJ hY h0;have hbW:=ag hbc hbW';have HBW:=aa hbW;have HV:=aa hc;have HD:=aa hd;have HT:=aa hT;have HJ:=aa hJ;have HY:=aa hY;have H0:=aa h0;have HCP:=aa (hx.below hbW');have HCL:=aa (show b1<W.heap.size/\b2<W.heap.size from⟨lt_of_block HCP.out.1,lt_of_block HCP.out.2⟩);obtain⟨_,da,dcap,rfl,hdc,hdm,hdr⟩:=id hd;obtain⟨n,hn⟩: ∃n,n=data.length:=⟨_,rfl⟩
 rw[<-hn]at HCP hdc hl;have HN:=aa hn;have hv:=dB.1 hc;obtain⟨mx,hmx⟩: ∃mx,mx=c.mx.toNat:=⟨_,rfl⟩;obtain⟨mn,hmn⟩: ∃mn,mn=c.mn.toNat:=⟨_,rfl⟩;have hmxi:c.mx=(mx:Int):=by omega
 have hmx1:mx<=32768:=by omega
 have HMX:=aa (And.intro hmx (And.intro hmxi hmn));have HCW:=aa (show c.win=(c.win.toNat:Int)/\1<=c.win.toNat/\c.win.toNat<=64/\0<=c.mn/\c.mn<=32768 by omega);have hr:=fZ HCP.out.1;have HR:=aa hr;have HI5:=aa (show(Tryz.prog.info? 48).map (·.size)=some (bR c).length by kernel_rfl);clear hJ hY h0 hbW hbW' hbc hc hd hT hx hn hv hmx hmn hmxi hr;have y2:=HCP.out.dat
 refine callsIn_wide.2 ?_
 show Calls Tryz.prog 174 #[.func (.yield l) #[] #[], .pointer (some ⟨b1,0,none⟩), .pointer (some ⟨b2,0,none⟩)] W _
 go_enter Tryz.func174,Tryz.ntmps174
 go_wp2_with (first | (refine wpList_load_mid rfl 48 _ rfl b1 0 rfl (bR c) _ HR.out Tryz.underlying48 rfl HI5.out ?_) | fail);refine(mY c c.win.toNat W hs HCW.out.1 HCW.out.2.1 HCW.out.2.2.1 HCW.out.2.2.2).mono ?_;rintro e w5 ⟨rfl,hb5⟩;obtain⟨mc,hmc⟩: ∃mc,mc=iP c (dz c.seed (List.replicate 64 0) c.win.toNat 0 0 0) 0 (-c.mn):=⟨_,rfl⟩;rw[<-hmc];have hml:mc.length=331:=by rw[hmc]; exact ki c (ko _ (by simp) _ _ _ _) _ _
 have HMC:=aa hmc;have HML:=aa (show kz c data 0 mc by rw[hmc]; exact un HV.out data);have HI331:=aa (show(Tryz.prog.info? 244).map (·.size)=some mc.toArray.size by rw[List.size_toArray,hml]; kernel_rfl);have HOLD:=aa (show Tryz.zeroCells244.size=mc.toArray.size by rw[show mc.toArray.size=331 from by rw[List.size_toArray]; exact hml]; kernel_rfl);have HONE:=aa (show mc.toArray.all (·.oneCell')=true from all_oneCell_toArray (by rw[hmc]; exact nI c _ _ _))
 have HB5:=aa hb5;clear hb5 hmc hml y2;have y2:=(HCP.out.below HB5.out).dat
 have HB6:=aa (show Below w5.heap.size w5 ((w5.alloc (.cells Tryz.zeroCells244 244)).setRow w5.heap.size mc.toArray)from below_setRow ((Below.refl _ _).alloc (Nat.le_refl _) _) (Nat.le_refl _) _);have HX6:=aa (show((w5.alloc (.cells Tryz.zeroCells244 244)).setRow w5.heap.size mc.toArray).heap[w5.heap.size]? =some (.cells mc.toArray 244 (0,0))from setRow_heap _ _ _ _ _ _ (heap_alloc_new w5 _))
 have y3:=(HB6.out.cell (ax y2)).trans y2;go_wp2_with (first | (refine wpList_store_row rfl 244 _ _ rfl w5.heap.size _ rfl rfl _ _ (heap_alloc_new w5 _) HI331.out HOLD.out HONE.out ?_) | fail)
 generalize (w5.alloc (.cells Tryz.zeroCells244 244)).setRow w5.heap.size mc.toArray=w6 at *
 obtain⟨mb,hmb⟩: ∃mb,mb=w5.heap.size:=⟨_,rfl⟩;have HMB:=aa (show W.heap.size<=mb/\mb≠5 by
  have h1:=HB5.out.size;have h2:=HBW.out.size;have h3:=HT.out.lt
  omega)
 have HB6w:=aa (ag HB5.out HB6.out);rw[<-hmb]at HB6 HX6 ⊢;clear hmb y2 y3
 go_loopw [13,5] (fun i s wr=> ∃(k:Nat) (pre:List Nat) (cs:List Value),k<=n/\i= .int .i64 (k:Int)/\pre=dr (oO c data) mn mx n k/\s= .int .i64 ((eA pre:Nat):Int)/\J pre wr/\Below w.heap.size w wr/\wr.heap[mb]? =some (.cells cs.toArray 244 (0,0))/\kz c data k cs/\dn c (.slice da n dcap) b1 b2 wr) (fun i _ _=>n-(intOf i).toNat)
 case atStart=>exact⟨0,[],mc,Nat.zero_le _,rfl,rfl,rfl,HJ.out _ _ _ none H0.out (qV HB6w.out) (fun r e=>by cases e),ag HBW.out HB6w.out,HX6.out,HML.out,HCP.out.below HB6w.out⟩
 case round=>
  obtain⟨k,pre,cs,hk,rfl,hpre,rfl,hJk,hbr,hbx,hml,hcr⟩:=hrel;have HCR:=aa hcr;have HPRE:=aa hpre;have HJK:=aa hJk;have HBR:=aa hbr;have HBX:=aa hbx;have HML2:=aa hml;have hpl:=lM (oO c data) mn mx n k;rw[<-hpre]at hpl;obtain⟨sn,hsn⟩: ∃sn,sn=eA pre:=⟨_,rfl⟩;rw[<-hsn]at hpl ⊢;have HSN:=aa hsn;clear hpre hJk hbr hbx hml hsn hcr
  by_cases hlt:k<n
  ·obtain⟨b,hb⟩: ∃b,data[k]? =some b:=⟨data[k]'(by rw[<-HN.out]; exact hlt),by simp⟩
   rcases hdr with hdr | ⟨db,dof,rfl,hS,hcc⟩
   ·rw[<-HN.out]at hdr; omega
   have hcell:=(HBR.out.cell (ax (hcc k (aC b) (by rw[List.getElem?_map,hb]; rfl)))).trans (hcc k (aC b) (by rw[List.getElem?_map,hb]; rfl));have y2:=HCR.out.dat
   have hki:(k:Int)<(n:Int):=by omega
   have hinc:IntKind.i64.wrap ((k:Int)+1)=((k+1:Nat):Int):=by rw[IntKind.wrap_i64]; omega
   have HB:=aa hb;clear hcc hb hS;unfold maxLen at hdm
   change wr.cell? ⟨db,dof+k,none⟩=some (.int .u8 (b.toNat:Int))at hcell
   obtain⟨pr,hpr⟩: ∃pr,pr=mj (oO c data) c.mn.toNat (k+1):=⟨_,rfl⟩;have HPR:=aa hpr;clear hpr;have hsub:IntKind.i64.wrap ((k:Int)+1-(sn:Int))=(k:Int)+1-(sn:Int):=by rw[IntKind.wrap_i64]; omega
   by_cases hp:pr=true
   ·subst hp;have HST:=aa (show fj (oO c data) mn mx n sn (k+1)=true by unfold fj; rw[HMX.out.2.2,<-HPR.out]; rfl)
    go_upto_region 7 with(fail)
    refine(lq c data k b _ mb 244 cs _ HV.out HB.out (by rw[<-HN.out]; exact hl) HBX.out HML2.out (HT.out.block (HBR.out.block _ HT.out.lt) HBR.out.size) HMB.out.2 HPR.out).mono ?_;rintro e w7 ⟨rfl,⟨cs7,hx7,hm7⟩,hg7⟩;have HX7:=aa hx7;have HM7:=aa hm7;have HG7:=aa hg7;have HB7:=aa (dJ HBR.out hg7 (Nat.le_trans HBW.out.size HMB.out.1) HBR.out.size);clear hx7 hm7 hg7;have HCE:=aa (HCR.out.grown HG7.out (Nat.lt_of_lt_of_le HCL.out.1 HMB.out.1) (Nat.lt_of_lt_of_le HCL.out.2 HMB.out.1)); have z2:=HCE.out.dat
    have z1:=HCE.out.mx; rw[HMX.out.2.1]at z1
    go_upto_region 7 with(fail)
    have HJ7:=aa (HJ.out _ _ _ _ HJK.out HG7.out (fun r e=>by cases e; exact⟨HMB.out.1,cs.toArray,HBX.out⟩));have HDQ:=aa (show eA pre<k+1/\k+1<=data.length from⟨by rw[<-HSN.out]; omega,by rw[<-HN.out]; omega⟩);have HPL:=aa (show pre.length<data.length by rw[<-HN.out]; omega);obtain⟨fn,tmps,assign,body,hy,hR⟩:=HY.out pre (k+1) w7 HJ7.out HDQ.out HPL.out;rw[show(((k+1:Nat):Int))=(k:Int)+1 from rfl]at hy
    refine(wpIn_wide (n:=3)).1 ?_
    gi_wp2_with (fail)
    refine hR.mono ?_;rintro e6 w8 (⟨rfl,hj8,hk8⟩ | ⟨rfl,hj8⟩)
    ·have HJ8:=aa hj8;have HK8:=aa hk8;clear hj8 hk8 hy hR
     gi_wp2
     go_wp2_with fail
     go_roundw
     case rel=>
      refine⟨k+1,pre++[k+1],cs7,by omega,by go_num, ?_,by rw[eh]; rfl,HJ8.out,HB7.out.trans HK8.out.1,(HK8.out.2.1 mb _ HX7.out).trans HX7.out,HM7.out,HCE.out.same HK8.out.2.2⟩;rw[dr,<-HPRE.out,<-HSN.out,HST.out,if_pos rfl]
     case measure=>simp[intOf]; omega
    ·have HJ8:=aa hj8;clear hj8 hy hR
     gi_wp2
     go_wp2_with fail;refine bodyPost_ret (results_none rfl _ _ _) rfl ?_;exact⟨⟨_,rfl⟩, .inr ⟨pre++[k+1],trivial,HJ8.out⟩⟩
   ·have hp0:pr=false:=by simpa using hp
    subst hp0;clear hp
    by_cases hm:sn+mx<=k+1
    ·have hmi:(mx:Int)<=(k:Int)+1-(sn:Int):=by omega
     have hmj: ¬(k:Int)+1-(sn:Int)<(mx:Int):=by omega
     have HST:=aa (show fj (oO c data) mn mx n sn (k+1)=true by unfold fj; rw[decide_eq_true hm]; simp)
     go_upto_region 7 with(fail)
     refine(lq c data k b _ mb 244 cs _ HV.out HB.out (by rw[<-HN.out]; exact hl) HBX.out HML2.out (HT.out.block (HBR.out.block _ HT.out.lt) HBR.out.size) HMB.out.2 HPR.out).mono ?_;rintro e w7 ⟨rfl,⟨cs7,hx7,hm7⟩,hg7⟩;have HX7:=aa hx7;have HM7:=aa hm7;have HG7:=aa hg7;have HB7:=aa (dJ HBR.out hg7 (Nat.le_trans HBW.out.size HMB.out.1) HBR.out.size);clear hx7 hm7 hg7;have HCE:=aa (HCR.out.grown HG7.out (Nat.lt_of_lt_of_le HCL.out.1 HMB.out.1) (Nat.lt_of_lt_of_le HCL.out.2 HMB.out.1)); have z2:=HCE.out.dat
     have z1:=HCE.out.mx; rw[HMX.out.2.1]at z1
     go_upto_region 7 with(fail)
     have HJ7:=aa (HJ.out _ _ _ _ HJK.out HG7.out (fun r e=>by cases e; exact⟨HMB.out.1,cs.toArray,HBX.out⟩));have HDQ:=aa (show eA pre<k+1/\k+1<=data.length from⟨by rw[<-HSN.out]; omega,by rw[<-HN.out]; omega⟩);have HPL:=aa (show pre.length<data.length by rw[<-HN.out]; omega);obtain⟨fn,tmps,assign,body,hy,hR⟩:=HY.out pre (k+1) w7 HJ7.out HDQ.out HPL.out;rw[show(((k+1:Nat):Int))=(k:Int)+1 from rfl]at hy
     refine(wpIn_wide (n:=3)).1 ?_
     gi_wp2_with (fail)
     refine hR.mono ?_;rintro e6 w8 (⟨rfl,hj8,hk8⟩ | ⟨rfl,hj8⟩)
     ·have HJ8:=aa hj8;have HK8:=aa hk8;clear hj8 hk8 hy hR
      gi_wp2
      go_wp2_with fail
      go_roundw
      case rel=>
       refine⟨k+1,pre++[k+1],cs7,by omega,by go_num, ?_,by rw[eh]; rfl,HJ8.out,HB7.out.trans HK8.out.1,(HK8.out.2.1 mb _ HX7.out).trans HX7.out,HM7.out,HCE.out.same HK8.out.2.2⟩;rw[dr,<-HPRE.out,<-HSN.out,HST.out,if_pos rfl]
      case measure=>simp[intOf]; omega
     ·have HJ8:=aa hj8;clear hj8 hy hR
      gi_wp2
      go_wp2_with fail;refine bodyPost_ret (results_none rfl _ _ _) rfl ?_;exact⟨⟨_,rfl⟩, .inr ⟨pre++[k+1],trivial,HJ8.out⟩⟩
    ·have hmi:(k:Int)+1-(sn:Int)<(mx:Int):=by omega
     by_cases he:n<=k+1
     ·have hei:(n:Int)<=(k:Int)+1:=by omega
      have hej: ¬(k:Int)+1<(n:Int):=by omega
      have HST:=aa (show fj (oO c data) mn mx n sn (k+1)=true by unfold fj; rw[decide_eq_true he]; simp)
      go_upto_region 7 with(fail)
      refine(lq c data k b _ mb 244 cs _ HV.out HB.out (by rw[<-HN.out]; exact hl) HBX.out HML2.out (HT.out.block (HBR.out.block _ HT.out.lt) HBR.out.size) HMB.out.2 HPR.out).mono ?_;rintro e w7 ⟨rfl,⟨cs7,hx7,hm7⟩,hg7⟩;have HX7:=aa hx7;have HM7:=aa hm7;have HG7:=aa hg7;have HB7:=aa (dJ HBR.out hg7 (Nat.le_trans HBW.out.size HMB.out.1) HBR.out.size);clear hx7 hm7 hg7;have HCE:=aa (HCR.out.grown HG7.out (Nat.lt_of_lt_of_le HCL.out.1 HMB.out.1) (Nat.lt_of_lt_of_le HCL.out.2 HMB.out.1)); have z2:=HCE.out.dat
      have z1:=HCE.out.mx; rw[HMX.out.2.1]at z1
      go_upto_region 7 with(fail)
      have HJ7:=aa (HJ.out _ _ _ _ HJK.out HG7.out (fun r e=>by cases e; exact⟨HMB.out.1,cs.toArray,HBX.out⟩));have HDQ:=aa (show eA pre<k+1/\k+1<=data.length from⟨by rw[<-HSN.out]; omega,by rw[<-HN.out]; omega⟩);have HPL:=aa (show pre.length<data.length by rw[<-HN.out]; omega);obtain⟨fn,tmps,assign,body,hy,hR⟩:=HY.out pre (k+1) w7 HJ7.out HDQ.out HPL.out;rw[show(((k+1:Nat):Int))=(k:Int)+1 from rfl]at hy
      refine(wpIn_wide (n:=3)).1 ?_
      gi_wp2_with (fail)
      refine hR.mono ?_;rintro e6 w8 (⟨rfl,hj8,hk8⟩ | ⟨rfl,hj8⟩)
      ·have HJ8:=aa hj8;have HK8:=aa hk8;clear hj8 hk8 hy hR
       gi_wp2
       go_wp2_with fail
       go_roundw
       case rel=>
        refine⟨k+1,pre++[k+1],cs7,by omega,by go_num, ?_,by rw[eh]; rfl,HJ8.out,HB7.out.trans HK8.out.1,(HK8.out.2.1 mb _ HX7.out).trans HX7.out,HM7.out,HCE.out.same HK8.out.2.2⟩;rw[dr,<-HPRE.out,<-HSN.out,HST.out,if_pos rfl]
       case measure=>simp[intOf]; omega
      ·have HJ8:=aa hj8;clear hj8 hy hR
       gi_wp2
       go_wp2_with fail;refine bodyPost_ret (results_none rfl _ _ _) rfl ?_;exact⟨⟨_,rfl⟩, .inr ⟨pre++[k+1],trivial,HJ8.out⟩⟩
     ·have hei:(k:Int)+1<(n:Int):=by omega
      have HST:=aa (show fj (oO c data) mn mx n sn (k+1)=false by unfold fj; rw[decide_eq_false he,decide_eq_false hm,HMX.out.2.2,<-HPR.out]; rfl);go_wp2_with (go_at_call 176; refine(lq c data k b _ mb 244 cs _ HV.out HB.out (by rw[<-HN.out]; exact hl) HBX.out HML2.out (HT.out.block (HBR.out.block _ HT.out.lt) HBR.out.size) HMB.out.2 HPR.out).mono ?_; rintro e w7 ⟨rfl,⟨cs7,hx7,hm7⟩,hg7⟩; have HX7:=aa hx7; have HM7:=aa hm7; have HG7:=aa hg7; have HB7:=aa (dJ HBR.out hg7 (Nat.le_trans HBW.out.size HMB.out.1) HBR.out.size); clear hx7 hm7 hg7; have HCE:=aa (HCR.out.grown HG7.out (Nat.lt_of_lt_of_le HCL.out.1 HMB.out.1) (Nat.lt_of_lt_of_le HCL.out.2 HMB.out.1)); have z2:=HCE.out.dat; have z1:=HCE.out.mx; rw[HMX.out.2.1]at z1)
      go_roundw
      case rel=>
       refine⟨k+1,pre,cs7,by omega,by go_num, ?_,by rw[HSN.out], ?_,HB7.out,HX7.out,HM7.out,HCE.out⟩
       ·rw[dr,<-HPRE.out,<-HSN.out,HST.out,if_neg (by decide)]
       ·exact HJ.out _ _ _ _ HJK.out HG7.out (fun r e=>by cases e; exact⟨HMB.out.1,cs.toArray,HBX.out⟩)
      case measure=>simp[intOf]; omega
  ·have hk2:k=n:=by omega
   go_wp2_with fail
   go_end0
   refine⟨⟨_,rfl⟩, .inl ⟨pre, ?_,HJK.out⟩⟩;rw[HPRE.out,hk2,HN.out,HMX.out.1,HMX.out.2.2]; rfl
theorem nX {S:Nat->Prop} {w:World} {a:Option Addr} {n cap:Nat} {bs:List UInt8} (h:aR S w (.slice a n cap) bs) {s e:Nat} (hs:s<e) (he:e<=bs.length):
  ∃a' cap',(∀w',(Instr.slice 28 (.slice a n cap) (some (.int .i64 (s:Int))) (some (.int .i64 (e:Int))) none).run Tryz.prog w'= .ok (.slice a' (dQ bs s e).length cap') w')/\aR S w (.slice a' (dQ bs s e).length cap') (dQ bs s e):=by
 obtain⟨hl,a0,cap0,hv,hn,hm,h0⟩:=h;simp only[Value.slice.injEq]at hv;obtain⟨rfl,rfl,rfl⟩:=hv;have hz: ∀w',(sizeOf (Tryz.prog.elem 28)).run Tryz.prog w'= .ok 1 w':=fun _=>by kernel_rfl
 have hpl:(dQ bs s e).length=e-s:=by unfold dQ; rw[List.length_take,List.length_drop]; omega
 refine⟨if cap-s=0 then a else a.map (fun p=>p.add s),cap-s,fun w'=> ?_, ?_⟩
 ·rw[run_slice_lh _ _ _ _ _ Tryz.underlying28 .i64 .i64 (s:Int) (e:Int) (by omega) (by omega) (by omega),hz,hpl];simp only[Result.andThen,sliced,Int.toNat_natCast,Nat.mul_one];rw[if_neg (by omega: ¬cap-s=0)]
  try rw[if_neg (by omega)]
 ·refine⟨by simp,_,_,rfl,by omega,by omega, ?_⟩
  rcases h0 with h0 | ⟨b,o,rfl,hS,hc⟩
  ·omega
  ·refine .inr ⟨b,o+s, ?_,hS,fun j x hj=> ?_⟩
   ·rw[if_neg (by omega),Option.map_some,Addr.add_mid]
   ·rw[Nat.add_assoc];refine hc (s+j) x ?_;unfold dQ at hj;rw[List.map_take,List.map_drop,List.getElem?_take]at hj
    split at hj
    ·rw[List.getElem?_drop]at hj; exact hj
    ·cases hj
def zR (k n:Nat):Prop:=k=1-> ¬1048576<n
def iW (c:cR) (n:Nat):Int:=if dA c=true then(if 1048576<n then 2 else 0)else 1
theorem fq (c:cR) (b:Bool) (w:World) (h:dA c=b):Calls Tryz.prog 36 #[ed c] w fun e w'=>e= .returned (.bool b)/\Below w.heap.size w w':=by rw[<-h]; exact oG c w
theorem lB (c:cR) (a:Option Addr) (n cap sb:Nat) (w:World) (hx:w.cell? ⟨sb,0,none⟩=some (.slice a n cap)) (hm:n<=maxLen):
  Calls Tryz.prog 144 #[ed c, .slice (some ⟨sb,0,none⟩) 1 1] w fun e w'=>e= .returned (.int .i64 (iW c n))/\Below w.heap.size w w':=by
 unfold maxLen at hm;have HX:=aa hx;clear hx;unfold ed
 by_cases hv:dA c=true
 ·have HV:=aa hv;have HE:=aa (show iW c n=if 1048576<n then 2 else 0 by unfold iW; rw[if_pos hv]);clear hv
  go_enter Tryz.func144,Tryz.ntmps144
  go_wp2_with (go_at_call 36; refine(fq c true _ HV.out).mono ?_; rintro e w1 ⟨rfl,hb1⟩; have HB1:=aa (((Below.refl _ _).alloc (Nat.le_refl w.heap.size) _).trans (hb1.mono (by simp))); clear hb1)
  go_loopw [12] (fun i wr=> ∃k:Nat,k<=1/\i= .int .i64 (k:Int)/\Below w.heap.size w wr/\zR k n) (fun i _=>1-(intOf i).toNat)
  case atStart=>exact⟨0,by omega,rfl,HB1.out,fun h=>by cases h⟩
  case round=>
   obtain⟨k,hk,rfl,hb,hdone⟩:=hrel;have HB:=aa hb;have HDN:=aa hdone;clear hb hdone
   by_cases h0:k=0
   ·subst h0;have hc:=(HB.out.cell (ax HX.out)).trans HX.out
    by_cases hn:1048576<n
    ·have hni:(1048576:Int)<(n:Int):=by omega
     go_wp2_with fail;go_ret;exact⟨cC (by rw[HE.out,if_pos hn]),HB.out⟩
    ·have hni:(n:Int)<=1048576:=by omega
     go_wp2_with fail
     go_roundw
     case rel=>exact⟨1,by omega,by go_num,HB.out,fun _=>hn⟩
     case measure=>simp[intOf]
   ·have h1:k=1:=by omega
    subst h1;go_wp2_with fail;go_ret;exact⟨cC (by rw[HE.out,if_neg (HDN.out rfl)]),HB.out⟩
 ·have HV:=aa (show dA c=false by simpa using hv);have HE:=aa (show iW c n=1 by unfold iW; rw[if_neg hv]);clear hv
  go_enter Tryz.func144,Tryz.ntmps144
  go_wp2_with (go_at_call 36; refine(fq c false _ HV.out).mono ?_; rintro e w1 ⟨rfl,hb1⟩; have HB1:=aa (((Below.refl _ _).alloc (Nat.le_refl w.heap.size) _).trans (hb1.mono (by simp))); clear hb1);go_ret;exact⟨cC HE.out.symm,HB1.out⟩
theorem wF (c:cR) (dv:Value) (w:World) (hd: ∃a n cap,dv= .slice a n cap):Calls Tryz.prog 145 #[ed c,dv] w fun e w'=>e= .returned (.func (.func 174) #[] #[.pointer (some ⟨w.heap.size,0,none⟩), .pointer (some ⟨w.heap.size+1,0,none⟩)])/\
  dn c dv w.heap.size (w.heap.size+1) w'/\Below w.heap.size w w'/\w'.heap.size=w.heap.size+2:=by
 obtain⟨a,n,cap,rfl⟩:=hd;unfold ed
 go_enter Tryz.func145,Tryz.ntmps145
 go_wp2_with fail;go_ret;exact⟨rfl,⟨eJ (kP w _) _,rH w _ _⟩,((Below.refl _ _).alloc (Nat.le_refl _) _).alloc (by simp) _,by simp⟩
end Go.Proofs.YtnjkpcalgoefhaaGreatDoor
namespace Go.Proofs.YtnjkpcalgoefhaaGreatDoor
open Go
section
variable {P : Program} {l n : Nat}
theorem pj {f:FuncId} {args:Array Value} {w:World} {R:Ending->World->Prop} (h:Calls P f args w R):CallsIn (Fence.wide.inRound l) n P f args w R:=CallsIn.inRound l (callsIn_wide.2 h)
theorem sL {o:Oper} {a:Act} {next:Act->World->Prop} {Q:Exit->Act->World->Prop} {r:Result Next} (h:o.upon P a next Q r):o.uponIn (Fence.wide.inRound l) n P a next Q r:=by
 cases r with
 | ok x w=>
  cases x with
  | value v=>exact h
  | skip=>exact h
  | defer d=>exact h
  | enter f args=>exact⟨fun e=>(by cases e),pj h⟩
  | row row args=>
   exact⟨fun e=>(by cases e),fun c cs _=>by
    obtain⟨v,w',h1,h2⟩:=(show Rows P row args w _ from h) c cs;exact⟨v,w',h1,stepsIn_wide.2 h2⟩⟩
  | _=>exact h.elim
 | halt x w=>
  cases x<;> first | exact h | exact h.elim
def gj (o:Oper):Bool:=match o.op with | .defer _=>false | _=>true
theorem xe {o:Oper} {a:Act} {w:World} {K:Act->World->Prop} {Q:Exit->Act->World->Prop} (hd:gj o=true) (h:o.wp P a w K Q):o.wpIn (Fence.wide.inRound l) n P a w K Q:=
 ⟨fun _ _=>trivial,by
  rw[Oper.semAt_eq _ _ _ (fun c e=>by simp[gj,e]at hd)];exact sL h⟩
theorem sP {L:List Oper} {Q:Exit->Act->World->Prop} (hd:L.all gj=true) (hno: ¬LetsOut Q) {i:Nat} {K:Act->World->Prop} {a:Act} {w:World} (h:wpOp P L.toArray Q i K a w):wpOpIn (Fence.wide.inRound l) n P L.toArray Q i K a w:=by
 unfold wpOp at h;unfold wpOpIn
 cases hx:L.toArray[i]? with
 | none=>rw[hx]at h; exact h
 | some x=>
  rw[hx]at h;simp only at h ⊢;have hdx:gj x=true:=List.all_eq_true.1 hd x (List.mem_of_getElem? (by simpa using hx))
  split at h
  ·rename_i hw;rw[if_pos hw]
   rcases h with h | h
   ·exact xe hdx h
   ·exact absurd h.2 hno
  ·rename_i hw;rw[if_neg hw];exact⟨fun _ _=>trivial,h⟩
theorem kU {L:List Oper} {md:Region.Mode} {Q:Exit->Act->World->Prop} (hd:L.all gj=true) (hno: ¬LetsOut Q): ∀(fuel:Nat) (listed:Array Bool) (a:Act) (w:World),wpAny P md L.toArray Q fuel listed a w->wpAnyIn (Fence.wide.inRound l) n P md L.toArray Q fuel listed a w
 | 0,_,_,_,h=>h
 | fuel+1,_,_,_,h=>⟨h.1,fun i hi=>wpOpIn_mono (fun a' w' h'=>kU hd hno fuel _ a' w' h') (sP hd hno (h.2 i hi))⟩
theorem rB {id:Nat} {a:Act} {w:World} {L:List Oper} {Q:Exit->Act->World->Prop} (S:World->Prop) (hm:P.follows .mixedOrders=true) (hnd:L.all gj=true) (hno: ¬LetsOut Q) (hB:qe .any L=true)
  (h:mN P L.dropLast.toArray (nh P L.toArray (L.length-1) Q) S (L.length-1) (Array.replicate L.length false) a w.drew):(Code.region id L.toArray true).wpIn (Fence.wide.inRound l) n P Q a w:=by
 simp only[qe,Bool.and_eq_true,decide_eq_true_eq]at hB;obtain⟨⟨hc,hpos⟩,hall⟩:=hB;have hall': ∀(i:Nat) (x:Oper),L[i]? =some x->(∀e∈x.after,e.on<i)/\ ∀j b,x.guard=some (j,b)->j<i:=fun i x hx=>by
  have:=List.all_eq_true.1 hall i (List.mem_range.2 (List.getElem?_eq_some_iff.1 hx).1);rw[hx]at this;simp only[Bool.and_eq_true]at this;refine⟨fun e he=> ?_,fun j b hg=> ?_⟩
  ·have:=Array.all_eq_true'.1 this.1 e he
   simpa using this
  ·have:=this.2;rw[hg]at this
   simpa using this
 refine wpIn_region_any hm ?_;have:=sV hc hpos (fun i x hx=>(hall' i x hx).1) (fun i x j b hx=>(hall' i x hx).2 j b) (L.length-1) _ a w.drew pU (wpAny_of_held _ _ _ _ (by simpa using h.out));rw[show L.length-1+1=L.length by omega]at this;refine kU hnd hno _ _ _ _ ?_
 simpa using this
def xd (Q:Exit->Act->World->Prop):Exit->Act->World->Prop
 | .outgrown,_,_=>False
 | e,a,w=>Q e a w
@[go_sem] theorem oP (Q:Exit->Act->World->Prop) (a:Act) (w:World):xd Q .normal a w=Q .normal a w:=rfl
theorem uw (Q:Exit->Act->World->Prop): ¬LetsOut (xd Q):=fun⟨_,_,h⟩=>h
theorem rA {id:Nat} {a:Act} {w:World} {L:List Oper} {Q:Exit->Act->World->Prop} (S:World->Prop) (hm:P.follows .mixedOrders=true) (hnd:L.all gj=true) (hB:qe .any L=true)
  (h:mN P L.dropLast.toArray (nh P L.toArray (L.length-1) (xd Q)) S (L.length-1) (Array.replicate L.length false) a w.drew):(Code.region id L.toArray true).wpIn (Fence.wide.inRound l) n P Q a w:=
 wpIn_mono (rB S hm hnd (uw Q) hB h) (fun e _ _ h=>by cases e<;> first | exact h | exact h.elim)
end
open Go Go.RowKit Go.Maps
attribute [local go_sem] Oper.semAt_some
theorem Tryz.appChunks :cX Tryz.prog 52 28 1 24:=cX.mk' (z:= .slice none 0 0) Tryz.underlying52 (by kernel_rfl) rfl (by decide) (by decide)
def bW (B:Nat) (v:Value) (L:List (List UInt8)) (w:World):Prop:=
 ∃ys:List (Value×List UInt8),ys.map Prod.snd=L/\w.ownsRow B 28 1 v ys.length (ys.map Prod.fst)/\ ∀y∈ys,w.ownsRow B 5 1 y.1 y.2.length (y.2.map aC)
theorem eO {A B:World} {row:Option Nat} {base sz m:Nat} {t:TypeId} {v:Value} {xs:List Value} (h:A.ownsRow base t sz v m xs) (hg:A.grownBy B row) (hr: ∀r,row=some r-> ∀cs,A.heap[r]? ≠some (.cells cs t (0,0))):B.ownsRow base t sz v m xs:=by
 refine h.kept hg ?_
 rcases h.2 with⟨rfl,_⟩ | ⟨g,cap,cur,rfl,_,hgb,_⟩
 ·exact .inl rfl
 ·exact .inr fun e'=>hr g (by simpa [Value.ownBlock]using e'.symm) cur hgb
theorem rK {A:World} {b1 b2 s1 s2 m1 m2:Nat} {t1 t2:TypeId} {v1 v2:Value} {x1 x2:List Value} (h1:A.ownsRow b1 t1 s1 v1 m1 x1) (h2:A.ownsRow b2 t2 s2 v2 m2 x2) (ht:t1≠t2):v1.ownBlock=none\/v1.ownBlock≠v2.ownBlock:=by
 cases h:v1.ownBlock with
 | none=>exact .inl rfl
 | some k=>
  refine .inr fun e=> ?_
  obtain⟨_,c1,d1⟩:=lX h1 h;obtain⟨_,c2,d2⟩:=lX h2 e.symm;rw[d1]at d2
  cases d2
  exact ht rfl
def ChI (bx:Nat) (data:List UInt8) (w4:World) (pre:List Nat) (W:World):Prop:=
 (∃(ys:List (Value×List UInt8)) (v:Value),ys.map Prod.snd=di data 0 pre/\ys.length=pre.length/\W.heap[bx]? =some (.cells #[v] 52 (0,0))/\W.ownsRow (bx+4) 28 1 v ys.length (ys.map Prod.fst)/\ ∀y∈ys,W.ownsRow (bx+4) 5 1 y.1 y.2.length (y.2.map aC))/\
 W.heap[bx+1]? =some (.cells #[.int .i64 ((eA pre:Nat):Int)] 3 (0,0))/\Below bx w4 W
theorem ChI.turn {bx:Nat} {data:List UInt8} {w4:World} {pre:List Nat} {A B:World} {row:Option Nat} (h:ChI bx data w4 pre A) (h4:w4.heap.size=bx+4) (hg:A.grownBy B row) (hr: ∀r,row=some r->bx+4<=r/\ ∀cs t,A.heap[r]? =some (.cells cs t (0,0))->t=244):ChI bx data w4 pre B:=by
 obtain⟨⟨ys,v,h1,h2,h3,h5,h6⟩,h7,h8⟩:=h;have hs:=h8.size;refine⟨⟨ys,v,h1,h2,(hg.block _ (lt_of_block h3) (fun e=>by have:=(hr _ e.symm).1; omega)).trans h3,eO h5 hg (fun r e cs hc=>by have:=(hr r e).2 cs _ hc; cases this),fun y hy=>eO (h6 y hy) hg (fun r e cs hc=>by have:=(hr r e).2 cs _ hc; cases this)⟩,
  (hg.block _ (lt_of_block h7) (fun e=>by have:=(hr _ e.symm).1; omega)).trans h7,h8.grown hg (by omega) (fun k e=>by have:=(hr k e).1; omega)⟩
theorem sZ {bx:Nat} {data:List UInt8} {w4:World} (h4:w4.heap.size=bx+4):OwnFrom w4.heap.size (ChI bx data w4):=fun _ _ _ _ h hg hr=>h.turn h4 hg (fun r e=>⟨by have:=(hr r e).1; omega,fun cs t hc=>by
 obtain⟨_,o,ho,hw⟩:=hr r e;rw[ho]at hc; cases hc; cases hw⟩)
theorem ws {bx:Nat} {data:List UInt8} {w4:World} (h4:w4.heap.size=bx+4):sT 244 w4.heap.size (ChI bx data w4):=fun _ _ _ _ h hg hr=>h.turn h4 hg (fun r e=>⟨by have:=(hr r e).1; omega,fun cs t hc=>by
 obtain⟨_,cs',ho⟩:=hr r e;rw[ho]at hc; cases hc; rfl⟩)
def qA (c:cR) (dv:Value) (w0 bx q:Nat):Act:=
 {tmps:= #[ed c,dv, .pointer (some ⟨w0,0,none⟩), .pointer (some ⟨w0+1,0,none⟩), .slice none 0 0, .int .i64 0, .int .i64 0, .pointer (some ⟨bx,0,none⟩), .pointer (some ⟨bx+1,0,none⟩), .int .i64 (q:Int),ed c,dv, .slice (some ⟨w0+1+1,0,none⟩) 1 1, .int .i64 0, .int .i64 0, .bool false,undef,ed c,dv,
   .func (.func 174) #[] #[.pointer (some ⟨bx+2,0,none⟩), .pointer (some ⟨bx+2+1,0,none⟩)], .int .i64 (q:Int),undef,undef,undef,undef,undef,undef,undef,undef,undef,undef],defers:=[]}
def ChA (c:cR) (dv:Value) (w0 bx:Nat) (data:List UInt8) (w4:World) (pre:List Nat) (q:Nat) (a:Act) (W:World):Prop:=
 ChI bx data w4 pre W/\(eA pre<q/\q<=data.length)/\pre.length<data.length/\a=qA c dv w0 bx q
theorem yq {c:cR} {dv:Value} {w0 bx:Nat} {data:List UInt8} {w4:World} (h4:w4.heap.size=bx+4):OwnFrom w4.heap.size (fun(s:List Nat×Nat×Act) W=>ChA c dv w0 bx data w4 s.1 s.2.1 s.2.2 W):=fun s A B row h hg hr=>⟨sZ h4 s.1 A B row h.1 hg hr,h.2⟩
theorem Am {n b1 b2:Nat} {t:TypeId} {A B C:World} (h:Below n A B/\dp t A B/\vU b1 b2 A B) (k:Below n B C/\dp t B C/\vU b1 b2 B C):Below n A C/\dp t A C/\vU b1 b2 A C:=⟨h.1.trans k.1,h.2.1.trans k.2.1,k.2.2.1.trans h.2.2.1,k.2.2.2.trans h.2.2.2⟩
theorem lC (S:Nat->Prop) (c:cR) (data:List UInt8) (dv:Value) (w:World) (hc:dA c=true) (hs:c.seed<18446744073709551616) (hd:aR S w dv data) (hl:data.length<=1048576) (hT:pd w):
  Calls Tryz.prog 117 #[ed c,dv] w fun e w'=> ∃v,e= .returned (.tuple #[v, .int .i64 0])/\bW w.heap.size v (di data 0 (pG (oO c data) c.mn.toNat c.mx.toNat data.length)) w'/\Below w.heap.size w w':=by
 have HC:=aa hc;have HD:=aa hd;have HT:=aa hT;obtain⟨_,da,dcap,rfl,hdc,hdm,-⟩:=id hd;obtain⟨n,hn⟩: ∃n,n=data.length:=⟨_,rfl⟩;rw[<-hn]at hdc hl HD ⊢;have HN:=aa hn;have HCK:=aa (show iW c n=0 by unfold iW; rw[if_pos hc,if_neg (by omega)]);have HNM:=aa (show n<=maxLen by unfold maxLen; omega);clear hc hd hT hn;refine(callsIn_wide (n:=4)).1 (callsIn_of_wp_marks Tryz.func117 rfl trivial ?_ rfl)
 simp only[Tryz.ntmps117,List.size_toArray,List.length_cons,List.length_nil,Nat.reduceAdd,Nat.reduceSub,Array.replicate_succ,Array.replicate_zero,List.push_toArray,List.append_toArray,List.nil_append,List.cons_append];refine(wpIn_wide (n:=4)).2 ?_;unfold ed;go_wp2_with fail;obtain⟨w1,hw1⟩: ∃w1,w1=((w.alloc (.cells #[.int .i64 c.mn, .int .i64 c.mx, .int .i64 c.win, .int .i64 c.bits, .int .u64 (c.seed:Int)] 48)).alloc (.cells #[.slice da n dcap] 28)).alloc (.cells #[.slice da n dcap] 28):=⟨_,rfl⟩
 rw[<-hw1];have HB1:=aa (show Below w.heap.size w w1 by rw[hw1]; exact(((Below.refl _ _).alloc (Nat.le_refl _) _).alloc (by simp) _).alloc (by simp; omega) _);have HX1:=aa (show w1.heap[w.heap.size]? =some (.cells (bR c).toArray 48 (0,0)) by rw[hw1]; exact eJ (eJ (kP w _) _) _);have HY1:=aa (show w1.heap[w.heap.size+1]? =some (.cells #[.slice da n dcap] 28 (0,0)) by rw[hw1]; exact eJ (rH w _ _) _)
 have HZ1:=aa (show w1.heap[w.heap.size+1+1]? =some (.cells #[.slice da n dcap] 28 (0,0)) by rw[hw1]; exact(by have:=heap_alloc_new ((w.alloc (.cells #[.int .i64 c.mn, .int .i64 c.mx, .int .i64 c.win, .int .i64 c.bits, .int .u64 (c.seed:Int)] 48)).alloc (.cells #[.slice da n dcap] 28)) (.cells #[.slice da n dcap] 28); simpa using this));clear hw1;have hck:=lB c da n dcap (w.heap.size+1+1) w1 (ai HZ1.out) HNM.out
 rw[HCK.out]at hck;unfold ed at hck;refine hck.mono ?_;rintro e w2 ⟨rfl,hb2⟩;have HB2:=aa (ag HB1.out hb2);have HX2:=aa ((hb2.block _ (lt_of_block HX1.out)).trans HX1.out);have HY2:=aa ((hb2.block _ (lt_of_block HY1.out)).trans HY1.out);clear hck hb2;have HX3:=aa (eJ (eJ HX2.out (.cells #[.slice none 0 0] 52)) (.cells #[.int .i64 0] 3));have HY3:=aa (eJ (eJ HY2.out (.cells #[.slice none 0 0] 52)) (.cells #[.int .i64 0] 3))
 have HBX3:=aa (eJ (kP w2 (.cells #[.slice none 0 0] 52)) (.cells #[.int .i64 0] 3));have HBS3:=aa (rH w2 (.cells #[.slice none 0 0] 52) (.cells #[.int .i64 0] 3));have HB3:=aa (((Below.refl w2.heap.size w2).alloc (Nat.le_refl _) (.cells #[.slice none 0 0] 52)).alloc (by simp) (.cells #[.int .i64 0] 3));have hs3:((w2.alloc (.cells #[.slice none 0 0] 52)).alloc (.cells #[.int .i64 0] 3)).heap.size=w2.heap.size+2:=by simp
 have c0:=ai (k:=0) HX3.out;have c1:=ai (k:=1) HX3.out;have c2:=ai (k:=2) HX3.out;have c3:=ai (k:=3) HX3.out;have c4:=ai (k:=4) HX3.out;have y0:=ai (k:=0) HY3.out;simp only[bR,kJ]at c0 c1 c2 c3 c4 y0;go_wp2_with fail
 generalize (w2.alloc (.cells #[.slice none 0 0] 52)).alloc (.cells #[.int .i64 0] 3)=w3 at *
 have he:=wF c (.slice da n dcap) w3 ⟨_,_,_,rfl⟩;unfold ed at he;refine he.mono ?_;rintro e w4 ⟨rfl,hcp,hb4,hs4⟩;clear he c0 c1 c2 c3 c4 y0;obtain⟨bx,hbx⟩: ∃bx,bx=w2.heap.size:=⟨_,rfl⟩;rw[hs3]at hcp ⊢;rw[<-hbx]at HBX3 HBS3 hcp ⊢;have HB4:=aa (hb4.mono (by rw[hs3,hbx]; omega:bx<=w3.heap.size));have HB24:=aa (show Below w2.heap.size w2 w4 from HB3.out.trans (by rw[<-hbx]; exact HB4.out))
 have HBX4:=aa ((hb4.block _ (lt_of_block HBX3.out)).trans HBX3.out);have HBS4:=aa ((hb4.block _ (lt_of_block HBS3.out)).trans HBS3.out);have HY4:=aa ((hb4.block _ (lt_of_block HY3.out)).trans HY3.out);have hs44:w4.heap.size=bx+4:=by rw[hs4,hs3,hbx]
 have HCP:=aa hcp;have HWX:=aa (show w.heap.size+1<bx by rw[hbx]; exact lt_of_block HY2.out);have HBX:=aa hbx;have HD2:=aa (show aR S w2 (.slice da n dcap) data from HD.out.below (by decide) HB2.out);clear hcp hb4 hs4 hs3 hbx;go_wp2_with fail;refine vH (gf:=174) (lb:= #[.pointer (some ⟨bx+2,0,none⟩), .pointer (some ⟨bx+2+1,0,none⟩)]) rfl (enters_of Tryz.func174 (by kernel_rfl) rfl)
  (wG S c data (.slice da n dcap) (bx+2) (bx+2+1) w2 w4 HC.out hs HCP.out HD2.out (by rw[<-HN.out]; exact hl) (HT.out.block (HB2.out.block _ HT.out.lt) HB2.out.size) HB24.out) Am (fun W l o o' hl' h1 h2 h3=> ?kb) (fun _=>rfl)
  (ChI bx data w4) (fun _ _ _=>False) (ChA c (.slice da n dcap) w.heap.size bx data w4) (sZ hs44) (ws hs44) (fun _ _ _ _ _ h _ _=>h) (yq hs44) ⟨⟨[], .slice none 0 0,rfl,rfl,HBX4.out,World.ownsRow_nil _ _ _ _,by simp⟩,HBS4.out,Below.refl _ _⟩ ?assign ?body ?done ?stop
 case kb=>
  have hlt:=(Array.getElem?_eq_some_iff.1 h1).1;have hb:=HBX.out;have hg:=grownBy_putObj' W l o';refine⟨dJ (Below.refl _ _) hg (by omega) (by omega),dp.grown hg (fun r e cs hcs=>by cases e; rw[h1]at hcs; cases hcs; cases h2),hg.block _ (by omega) (fun e=>by cases e; omega),hg.block _ (by omega) (fun e=>by cases e; omega)⟩
 case assign=>
  rintro l pre q W hW hI hD hN
  gi_wp2
  exact⟨KeepsOthers.refl _,⟨Below.refl _ _,dp.refl _,rfl,rfl⟩,hI,hD,hN,rfl⟩
 case body=>
  rintro l pre q a₁ W ⟨hI,hD,hN,rfl⟩;obtain⟨⟨ys,v,h1,h2,h3,h5,h6⟩,h7,h8⟩:=hI;have H1:=aa h1;have H2:=aa h2;have H3:=aa h3;have H5:=aa h5;have H6:=aa h6;have H7:=aa h7;have H8:=aa h8;obtain⟨s,hsE⟩: ∃s,s=eA pre:=⟨_,rfl⟩;rw[<-hsE]at hD H7;have HSE:=aa hsE;have hsz:=h8.size;clear h1 h2 h3 h5 h6 h7 h8 hsE;obtain⟨av,cv,rfl,hvn,hvm⟩:=aj H5.out
  have HDW:=aa (HD2.out.below (by decide) (HB24.out.trans (H8.out.mono (by rw[<-HBX.out]; omega))));have HYW:=aa ((H8.out.block _ (by have:=HWX.out; omega)).trans HY4.out);obtain⟨sa,sc,hsl,hsb⟩:=nX HDW.out hD.1 hD.2;obtain⟨pl,hpl⟩: ∃pl,pl=dQ data s q:=⟨_,rfl⟩;rw[<-hpl]at hsl hsb;have HSB:=aa hsb;have HPL:=aa hpl;clear hsb hpl;simp only[qA]
  gi_wp2
  refine rA (fun w'=>w'.cell? ⟨bx,0,none⟩=some (.slice av ys.length cv)/\w'.cell? ⟨w.heap.size+1,0,none⟩=some (.slice da n dcap)/\w'.cell? ⟨bx+1,0,none⟩=some (.int .i64 (s:Int))) (by kernel_rfl) (by kernel_rfl) (by kernel_rfl) ?_;simp only[List.dropLast_cons_cons,List.dropLast_singleton,List.length_cons,List.length_nil,Nat.reduceAdd,Nat.reduceSub];obtain⟨V,hV⟩: ∃V:World,V=W.drew:=⟨_,rfl⟩
  rw[<-hV];have HBV:=aa (show Below W.heap.size W V by rw[hV]; exact(Below.refl _ _).drew);have hsV:V.heap.size=W.heap.size:=by rw[hV]; rfl
  clear hV;have k0:=ai (k:=0) ((HBV.out.block _ (lt_of_block H3.out)).trans H3.out);have k1:=ai (k:=0) ((HBV.out.block _ (lt_of_block HYW.out)).trans HYW.out);have k2:=ai (k:=0) ((HBV.out.block _ (lt_of_block H7.out)).trans H7.out);simp only[List.getElem?_toArray,List.getElem?_cons_zero]at k0 k1 k2;refine ac 0 rfl (by kernel_rfl) (by kernel_rfl) (by kernel_rfl) (fun _ _ _ h=>h) rfl ⟨k0,k1,k2⟩ (by rintro w' ⟨hw1,hw2,hw3⟩; go_simp; first | rfl | (rw[hsl]; rfl)) ?_
  simp only[Act.put,aD,aE,aF];refine ac 1 rfl (by kernel_rfl) (by kernel_rfl) (by kernel_rfl) (fun _ _ _ h=>h) rfl ⟨k0,k1,k2⟩ (by rintro w' ⟨hw1,hw2,hw3⟩; go_simp; first | rfl | (rw[hsl]; rfl)) ?_;simp only[Act.put,aD,aE,aF];refine ac 2 rfl (by kernel_rfl) (by kernel_rfl) (by kernel_rfl) (fun _ _ _ h=>h) rfl ⟨k0,k1,k2⟩ (by rintro w' ⟨hw1,hw2,hw3⟩; go_simp; first | rfl | (rw[hsl]; rfl)) ?_
  simp only[Act.put,aD,aE,aF];refine ac 3 rfl (by kernel_rfl) (by kernel_rfl) (by kernel_rfl) (fun _ _ _ h=>h) rfl ⟨k0,k1,k2⟩ (by rintro w' ⟨hw1,hw2,hw3⟩; go_simp; first | rfl | (rw[hsl]; rfl)) ?_;simp only[Act.put,aD,aE,aF];refine ac 4 rfl (by kernel_rfl) (by kernel_rfl) (by kernel_rfl) (fun _ _ _ h=>h) rfl ⟨k0,k1,k2⟩ (by rintro w' ⟨hw1,hw2,hw3⟩; go_simp; first | rfl | (rw[hsl]; rfl)) ?_
  simp only[Act.put,aD,aE,aF];have HSV:=aa (show aR S V (.slice sa pl.length sc) pl from HSB.out.below (by decide) HBV.out);refine bc 5 rfl (by kernel_rfl) rfl (fun K hK=> ?_);go_wp2_with fail;refine(ua S _ pl V HSV.out (by rw[HPL.out]; unfold dQ; rw[List.length_take,List.length_drop]; rw[<-HN.out]at hD; omega)).mono ?_;rintro e w5 ⟨v5,rfl,ho5,hb5⟩;obtain⟨a5,e5,rfl,hn5,hm5⟩:=aj ho5
  have HO5:=aa ho5;have HB5:=aa (show Below W.heap.size W w5 from HBV.out.trans (by rw[<-hsV]; exact hb5));clear ho5 hb5 k0 k1 k2;have k0:=ai (k:=0) ((HB5.out.block _ (lt_of_block H3.out)).trans H3.out);have k1:=ai (k:=0) ((HB5.out.block _ (lt_of_block HYW.out)).trans HYW.out);have k2:=ai (k:=0) ((HB5.out.block _ (lt_of_block H7.out)).trans H7.out);simp only[List.getElem?_toArray,List.getElem?_cons_zero]at k0 k1 k2
  go_wp2_with fail;refine⟨⟨k0,k1,k2⟩, ?_⟩;have HB6:=aa (show Below w5.heap.size w5 (w5.alloc (.cells #[.slice a5 pl.length e5] 28))from(Below.refl _ _).alloc (Nat.le_refl _) _);have l0:=(HB6.out.cell (ax k0)).trans k0;have l1:=(HB6.out.cell (ax k1)).trans k1;have l2:=(HB6.out.cell (ax k2)).trans k2;refine bc 6 rfl (by kernel_rfl) rfl (fun K hK=> ?_);go_wp2_with fail
  refine⟨⟨l0,l1,l2⟩, ?_⟩;clear l0 l1 l2;have HOW:=aa (show w5.ownsRow (bx+4) 28 1 (.slice av ys.length cv) ys.length (ys.map Prod.fst)from aW H5.out HB5.out);have HLN:=aa (show ys.length<1099511627775 by rw[H2.out]; rw[<-HN.out]at hN; omega);have HBS:=aa (show bx+4<=w5.heap.size by have:=HB5.out.size; omega);refine bc 7 rfl (by kernel_rfl) rfl (fun K hK=> ?_);go_wp2_with (at_builtin; go_must (refine aS Tryz.appChunks rfl _ _ rfl (bx+4) (.slice av ys.length cv) ys.length (ys.map Prod.fst) rfl w5 [.slice a5 pl.length e5] 28 rfl rfl (by simp[Value.oneCell']) HOW.out HLN.out HBS.out ?_); intro v7 w7 hown' hgrow' hne7 hpl7; obtain⟨a7,c7,rfl,-,-⟩:=aj hown')
  have hge: ∀k,(Value.slice av ys.length cv).ownBlock=some k->bx+4<=k:=fun k e=>(lX HOW.out e).1
  have hb7: ∀k,k<w5.heap.size->k<bx+4->w7.heap[k]? =w5.heap[k]? :=fun k h1 h2=>hgrow'.block k h1 (fun e=>by have:=hge k e.symm; omega)
  have hsz5:=HB5.out.size;have HX7:=aa (show w7.heap[bx]? =some (.cells #[.slice av ys.length cv] 52 (0,0)) by rw[hb7 _ (by omega) (by omega),HB5.out.block _ (lt_of_block H3.out),H3.out]);have HS7:=aa (show w7.heap[bx+1]? =some (.cells #[.int .i64 (s:Int)] 3 (0,0)) by rw[hb7 _ (by omega) (by omega),HB5.out.block _ (lt_of_block H7.out),H7.out]);have HY7:=aa (show w7.heap[w.heap.size+1]? =some (.cells #[.slice da n dcap] 28 (0,0)) by rw[hb7 _ (by have:=HWX.out; omega) (by have:=HWX.out; omega),HB5.out.block _ (lt_of_block HYW.out),HYW.out])
  have HOWN:=aa hown';have HGR:=aa hgrow';clear hown' hgrow' hne7 hpl7 hb7 k0 k1 k2;refine⟨⟨ai HX7.out,ai HY7.out,ai HS7.out⟩, ?_⟩;simp only[Act.put,aD,aE,aF];have k0:=ai (k:=0) HX7.out;have f0:=pN (k:=0) HX7.out;have f1:=pN (k:=0) HS7.out;have k2:=ai (k:=0) HS7.out;simp only[List.getElem?_toArray,List.getElem?_cons_zero]at k0 k2;refine bO (by kernel_rfl) ?_
  refine cZ rfl rfl (fun K hK=> ?_);go_wp2_with fail;rw[oP]
  gi_wp2
  have hX1:(w7.setCell ⟨bx,0,none⟩ (.slice a7 (ys.length+1) c7)).heap[bx]? =some (.cells #[.slice a7 (ys.length+1) c7] 52 (0,0)):=by simpa using zu (k:=0) HX7.out (.slice a7 (ys.length+1) c7)
  have hX2:(w7.setCell ⟨bx,0,none⟩ (.slice a7 (ys.length+1) c7)).heap[bx+1]? =some (.cells #[.int .i64 (s:Int)] 3 (0,0)):=my HS7.out (by omega) _;obtain⟨B,hBe⟩: ∃B,B=(w7.setCell ⟨bx,0,none⟩ (.slice a7 (ys.length+1) c7)).setCell ⟨bx+1,0,none⟩ (.int .i64 (q:Int)):=⟨_,rfl⟩;rw[<-hBe];have hB1:B.heap[bx]? =some (.cells #[.slice a7 (ys.length+1) c7] 52 (0,0)):=by rw[hBe]; exact my hX1 (by omega) _
  have hB2:B.heap[bx+1]? =some (.cells #[.int .i64 (q:Int)] 3 (0,0)):=by rw[hBe]; simpa using zu (k:=0) hX2 (.int .i64 (q:Int))
  have hg1:=be (w7) bx 0 (.slice a7 (ys.length+1) c7);have hg2:=be (w7.setCell ⟨bx,0,none⟩ (.slice a7 (ys.length+1) c7)) (bx+1) 0 (.int .i64 (q:Int));rw[<-hBe]at hg2;have hk7: ∀k,k<w7.heap.size->k≠bx->k≠bx+1->B.heap[k]? =w7.heap[k]? :=fun k h1 h2 h3=>(hg2.block k (Nat.lt_of_lt_of_le h1 hg1.size) (fun e=>h3 (Option.some.inj e))).trans (hg1.block k h1 (fun e=>h2 (Option.some.inj e)))
  have hsz7:=HGR.out.size;have hkW: ∀k,k<W.heap.size->k≠bx->k≠bx+1->(Value.slice av ys.length cv).ownBlock≠some k->B.heap[k]? =W.heap[k]? :=fun k h1 h2 h3 h4=>by
   rw[hk7 k (by omega) h2 h3,HGR.out.block k (by omega) (fun e=>h4 e.symm),HB5.out.block k h1]
  have hszB:W.heap.size<=B.heap.size:=by have:=hg1.size; have:=hg2.size; omega
  have hos:B.os=W.os:=by rw[hg2.os,hg1.os,HGR.out.os,HB5.out.os]
  have htp:B.tape=W.tape:=by rw[hg2.tape,hg1.tape,HGR.out.tape,HB5.out.tape]
  have hou:B.output=W.output:=by rw[hg2.output,hg1.output,HGR.out.output,HB5.out.output]
  have hown: ∀(sz m:Nat) (t:TypeId) (u:Value) (xs:List Value),w5.ownsRow (bx+4) t sz u m xs->t=5->B.ownsRow (bx+4) t sz u m xs:=fun sz m t u xs h ht=>by
   have h7:w7.ownsRow (bx+4) t sz u m xs:=h.kept HGR.out (rK h HOW.out (by rw[ht]; decide));have h8:=eO h7 hg1 (fun r e cs hc=>by cases e; rw[HX7.out]at hc; cases hc; cases ht);exact eO h8 hg2 (fun r e cs hc=>by cases e; rw[hX2]at hc; cases hc; cases ht)
  have hblk: ∀k,k<bx+4->(Value.slice av ys.length cv).ownBlock≠some k:=fun k h1 e=>by have:=hge k e; omega
  refine⟨⟨hszB,fun k o hko hoc=> ?_⟩,⟨⟨hos,htp,hou,hszB,fun k hk=> ?_⟩,fun k cs hk=> ?_, ?_, ?_⟩,⟨ys++[(.slice a5 pl.length e5,pl)], .slice a7 (ys.length+1) c7, ?_, ?_,hB1, ?_, ?_⟩, ?_, ?_⟩
  ·rw[hkW k (Array.getElem?_eq_some_iff.1 hko).1 (fun e=>by rw[e,H3.out]at hko; cases hko; cases hoc) (fun e=>by rw[e,H7.out]at hko; cases hko; cases hoc) (fun e=>by
    obtain⟨_,cur,hcur⟩:=lX H5.out e;rw[hcur]at hko; cases hko; cases hoc)]
   exact hko
  ·rw[<-HBX.out]at hk;exact hkW k (by omega) (by omega) (by omega) (hblk k (by omega))
  ·exact hkW k (Array.getElem?_eq_some_iff.1 hk).1 (fun e=>by rw[e,H3.out]at hk; cases hk) (fun e=>by rw[e,H7.out]at hk; cases hk) (fun e=>by
    obtain⟨_,cur,hcur⟩:=lX H5.out e;rw[hcur]at hk; cases hk)
  ·exact hkW _ (by omega) (by omega) (by omega) (hblk _ (by omega))
  ·exact hkW _ (by omega) (by omega) (by omega) (hblk _ (by omega))
  ·rw[List.map_append,H1.out,eL,HPL.out,HSE.out]; rfl
  ·rw[List.length_append,List.length_append,H2.out]; rfl
  ·rw[List.length_append,List.map_append];have h8:=eO HOWN.out hg1 (fun r e cs hc=>by cases e; rw[HX7.out]at hc; cases hc);exact eO h8 hg2 (fun r e cs hc=>by cases e; rw[hX2]at hc; cases hc)
  ·intro y hy
   rcases List.mem_append.1 hy with hy | hy
   ·exact hown _ _ _ _ _ (aW (H6.out y hy) HB5.out) rfl
   ·rw[List.mem_singleton.1 hy];exact hown _ _ _ _ _ (bK HO5.out (by omega)) rfl
  ·rw[eh]; exact hB2
  ·refine H8.out.trans ⟨hos,htp,hou,hszB,fun k hk=>hkW k (by omega) (by omega) (by omega) (hblk k (by omega))⟩
 case done=>
  rintro Dl ys W hDl hS ⟨⟨zs,v,h1,h2,h3,h5,h6⟩,h7,h8⟩ hK;have hc:=ai (k:=0) h3;simp only[List.getElem?_toArray,List.getElem?_cons_zero]at hc;go_wp2_with fail;have hb2:=HB2.out;have hbx:=HBX.out;refine⟨by simp, .inl ⟨_,_,rfl,run_takeDeferred hK, ?_⟩⟩;have hsz2:=hb2.size;refine⟨_,results_tmp2 rfl _ _ _,v,rfl,⟨zs,by rw[h1,hS,HN.out],ownsRow_putObj (bK h5 (by omega)) _ hK rfl,fun y hy=>ownsRow_putObj (bK (h6 y hy) (by omega)) _ hK rfl⟩, ?_⟩
  have hWb:Below w.heap.size w W:=(hb2.trans (HB24.out.mono hsz2)).trans (h8.mono (by omega));exact dJ hWb (grownBy_putObj' W Dl _) (by omega) hWb.size
 case stop=>
  rintro Dl c pre W _ _ h _;exact h.elim
structure gB (w : World) : Prop where
 env:iI w
 init:gE w
 kons:eP w
 ilt:1<w.heap.size
 klt:4<w.heap.size
 deb:pd w
theorem gB.below {w w':World} (h:gB w) (hb:Below w.heap.size w w'):gB w':=
 ⟨h.env.below hb,h.init.below hb h.ilt,h.kons.below hb h.klt,Nat.lt_of_lt_of_le h.ilt hb.size,Nat.lt_of_lt_of_le h.klt hb.size,h.deb.below hb h.deb.lt⟩
theorem sH (S:Nat->Prop) (v:Value) (data:List UInt8) (w:World) (hv:aR S w v data) (hl:data.length<1152921504606846) (he:gB w):Calls Tryz.prog 118 #[v] w fun e w'=>e= .returned (.string (gC data))/\Below w.heap.size w w':=by
 have HV:=aa (show aR (fun k=>k<w.heap.size) w v data from aB.mono hv (fun k hk _=>hk) (by omega));have HE:=aa he;clear hv he
 go_enter Tryz.func118,Tryz.ntmps118
 go_wp2_with fail;refine(sx _ HE.out.init).mono ?_;rintro e w1 ⟨rfl,hs1,hb1,hz1⟩;have HS1:=aa hs1;have HB1:=aa hb1;have HE1:=aa (HE.out.below hb1);clear hs1 hb1;go_wp2_with fail;refine(jQ w.heap.size 248 [] [] data v w1 HS1.out (aB.mono (aB.below HV.out (by omega) HB1.out) (fun j hj hS=>by show j≠w.heap.size; have:j<w.heap.size:=hS; omega) (by omega)) (by simp; omega) HE1.out.kons HE1.out.klt (by have:=HE.out.klt; omega)).mono ?_
 rintro e w2 ⟨rfl,hs2,hg2⟩;rw[List.nil_append]at hs2;have HS2:=aa hs2;have HB2:=aa (show Below w.heap.size w w2 from dJ HB1.out hg2 (Nat.le_refl _) HB1.out.size);have HE2:=aa (HE.out.below HB2.out);clear hs2 hg2;go_wp2_with fail;refine(sy w.heap.size 248 [] data w2 HS2.out (by omega) HE2.out.kons HE2.out.klt).mono ?_;rintro e w3 ⟨rfl,hb3⟩;go_wp2_with fail;go_ret;exact⟨rfl,ag HB2.out hb3⟩
def bh (l:List bq):List Value:=l.flatMap mf
theorem mg : ∀l:List bq,(bh l).length=l.length*2
 | []=>rfl
 | p::l=>by
  have:=mg l;unfold bh at this ⊢;rw[List.flatMap_cons,List.length_append,this,List.length_cons,show(mf p).length=2 from rfl]; omega
theorem nL {p:bq} : ∀u∈mf p,u.oneCell'=true:=by
 intro u hu;simp only[mf,List.mem_cons,List.not_mem_nil,or_false]at hu
 rcases hu with rfl | rfl<;> rfl
theorem rN {l:List bq} : ∀u∈bh l,u.oneCell'=true:=by
 intro u hu;obtain⟨p,_,hp⟩:=List.mem_flatMap.1 hu;exact nL u hp
theorem fw : ∀ {l:List bq},(∀p∈l,dE p)->aV dH (bh l) l
 | [],_=>rfl
 | p::l,h=>⟨mf p,bh l,by simp[bh],⟨rfl,h p (by simp)⟩,fw fun q hq=>h q (by simp[hq])⟩
theorem kQ : ∀ {l:List bq} {cs:List Value},aV dH cs l->cs=bh l
 | [],cs,h=>h
 | p::l,cs,h=>by
  obtain⟨c,rest,rfl,hc,hr⟩:=h;rw[kQ hr,hc.1]; simp[bh]
theorem uE {S:Nat->Prop} {w:World} {v:Value} {l:List bq} (h:ay S w v l):aB S w 2 v l.length (bh l):=by
 obtain⟨cells,h1,h2⟩:=h;rw[kQ h2]at h1;exact h1
theorem Tryz.appParts :cX Tryz.prog 25 62 2 24:=cX.mk' (z:= .agg #[.string ⟨#[]⟩, .int .i64 0]) Tryz.underlying25 (by kernel_rfl) rfl (by decide) (by decide)
theorem lE (S:Nat->Prop) (v:Value) (l:List bq) (w:World) (hv:ay S w v l) (hl:l.length<=1048576):
  Calls Tryz.prog 76 #[v] w fun e w'=> ∃v',e= .returned v'/\w'.ownsRow w.heap.size 62 2 v' l.length (bh l)/\Below w.heap.size w w':=by
 obtain⟨a,cap,rfl,hn,hm,-⟩:=aT.shape hv dH.len;unfold maxLen at hm;have HV:=aa (show aB S (w.alloc (.cells #[] 62)) 2 (.slice a l.length cap) l.length (bh l)from aB.below (uE hv) (by omega) ((Below.refl _ _).alloc (Nat.le_refl _) _));have HO:=aa (World.ownsRow_made (base:=w.heap.size) (e:=62) (size:=2) w #[] 0 (Nat.le_refl _) (by unfold maxLen; omega) rfl)
 obtain⟨n,hnn⟩: ∃n,n=l.length:=⟨_,rfl⟩;rw[<-hnn]at HV hn hl ⊢;have HN:=aa hnn
 cases a with
 | none=>
  have hl0:l=[]:=by
   obtain⟨a',cap',he,_,_,h0⟩:=aT.shape hv dH.len
   cases he
   cases l with
   | nil=>rfl
   | cons p r=>obtain⟨b,o,c,h1,_⟩:=h0 0 p rfl; cases h1
  clear hv hnn;have heq:=Lib.run_eql_slice_nil (P:=Tryz.prog) w 25 62 none n cap 0 0 Tryz.underlying25;simp only[Option.isNone_none]at heq
  go_enter Tryz.func76,Tryz.ntmps76
  go_wp2_with fail;go_ret;refine⟨_,rfl, ?_,Below.refl _ _⟩;rw[HN.out,hl0];exact World.ownsRow_nil _ _ _ _
 | some ad=>
  clear hv hnn;have heq:=Lib.run_eql_slice_nil (P:=Tryz.prog) w 25 62 (some ad) n cap 0 0 Tryz.underlying25;simp only[Option.isNone_some]at heq
  go_enter Tryz.func76,Tryz.ntmps76
  go_wp2_with (at_builtin; go_must (refine bV Tryz.appParts rfl _ _ rfl w.heap.size _ 0 [] rfl HO.out _ n (bh l) rfl HV.out rN (by omega) (by simp) ?_); intro v5 w5 hown5 hgrow5; rw[Nat.zero_add,List.nil_append]at hown5; have HO5:=aa hown5; have HG5:=aa hgrow5; clear hown5 hgrow5);go_ret;exact⟨_,rfl,HO5.out,aP ((Below.refl _ _).alloc (Nat.le_refl _) _) HO.out HG5.out (Nat.le_refl _) (by simp)⟩
theorem lD (S:Nat->Prop) (v:Value) (l:List UInt8) (w:World) (hv:aR S w v l) (hl:l.length<=1048576):
  Calls Tryz.prog 119 #[v] w fun e w'=> ∃v',e= .returned v'/\w'.ownsRow w.heap.size 5 1 v' l.length (l.map aC)/\Below w.heap.size w w':=by
 obtain⟨hlen,a,cap,rfl,hn,hm,h0⟩:=id hv;unfold maxLen at hm;have HV:=aa (show aB S (w.alloc (.cells #[] 5)) 1 (.slice a l.length cap) l.length (l.map aC)from aB.below hv (by omega) ((Below.refl _ _).alloc (Nat.le_refl _) _));have HO:=aa (World.ownsRow_made (base:=w.heap.size) (e:=5) (size:=1) w #[] 0 (Nat.le_refl _) (by unfold maxLen; omega) rfl)
 cases a with
 | none=>
  have hl0:l=[]:=by
   rcases h0 with h0 | ⟨b,o,h1,_⟩
   ·exact List.eq_nil_of_length_eq_zero (by simpa using h0)
   ·cases h1
  subst hl0;clear hv HV h0;have heq:=Lib.run_eql_slice_nil (P:=Tryz.prog) w 28 5 none 0 cap 0 0 Tryz.underlying28;simp only[Option.isNone_none]at heq
  go_enter Tryz.func119,Tryz.ntmps119
  go_wp2_with fail;go_ret;exact⟨_,rfl,World.ownsRow_nil _ _ _ _,Below.refl _ _⟩
 | some ad=>
  clear hv h0;have heq:=Lib.run_eql_slice_nil (P:=Tryz.prog) w 28 5 (some ad) l.length cap 0 0 Tryz.underlying28;simp only[Option.isNone_some]at heq
  go_enter Tryz.func119,Tryz.ntmps119
  go_wp2_with (at_builtin; go_must (refine bV Tryz.appBytes rfl _ _ rfl w.heap.size _ 0 [] rfl HO.out _ l.length (l.map aC) rfl HV.out (iu l) (by omega) (by simp) ?_); intro v5 w5 hown5 hgrow5; rw[Nat.zero_add,List.nil_append]at hown5; have HO5:=aa hown5; have HG5:=aa hgrow5; clear hown5 hgrow5);go_ret;exact⟨_,rfl,HO5.out,aP ((Below.refl _ _).alloc (Nat.le_refl _) _) HO.out HG5.out (Nat.le_refl _) (by simp)⟩
theorem aK {w:World} {k:Nat} {cs cs':Array Value} {t t':TypeId} {z z':Nat×Nat} (h:w.heap[k]? =some (.cells cs t z)) (h':w.heap[k]? =some (.cells cs' t' z')):t=t':=by
 have:=h.symm.trans h';simp at this;exact this.2.1
theorem bC {w w':World} {base sz n:Nat} {e:TypeId} {v:Value} {xs:List Value} (h:w.ownsRow base e sz v n xs) (hs: ∀k,k<w.heap.size->v.ownBlock=some k->w'.heap[k]? =w.heap[k]?):w'.ownsRow base e sz v n xs:=by
 obtain⟨hl,h2⟩:=h;refine⟨hl, ?_⟩
 rcases h2 with h2 | ⟨g,cap,cur,rfl,hg,hh,h3⟩
 ·exact .inl h2
 ·exact .inr ⟨g,cap,cur,rfl,hg,(hs g (lt_of_block hh) rfl).trans hh,h3⟩
theorem aH {w:World} {base:Nat} {v:Value} {e:TypeId} {sz:Nat} {n:Nat} {xs:List Value} {k:Nat} (h:w.ownsRow base e sz v n xs) (hk:v.ownBlock=some k): ∃cs,w.heap[k]? =some (.cells cs e (0,0)):=by
 obtain⟨_,h2⟩:=h
 rcases h2 with⟨rfl,rfl⟩ | ⟨g,cap,cur,rfl,_,hh,_⟩
 ·cases hk
 ·have:g=k:=by simpa [Value.ownBlock]using hk
  subst this;exact⟨cur,hh⟩
theorem ev.ncells {w:World} {mb:Nat} {L:List ByteArray} (h:ev w mb L) {cs:Array Value} {t:TypeId} {z:Nat×Nat} :w.heap[mb]? ≠some (.cells cs t z):=fun e=>by
 obtain⟨ps,⟨es,clock,hb,_⟩,_⟩:=h;rw[hb]at e; cases e
theorem bW.same {B:Nat} {v:Value} {L:List (List UInt8)} {w w':World} (h:bW B v L w) (hs: ∀k cs t,k<w.heap.size->B<=k->w.heap[k]? =some (.cells cs t (0,0))->(v.ownBlock=some k\/t=5)->w'.heap[k]? =w.heap[k]?):bW B v L w':=by
 obtain⟨ys,h1,h2,h3⟩:=h;refine⟨ys,h1,bC h2 (fun k hk hv=> ?_),fun y hy=>bC (h3 y hy) (fun k hk hv=> ?_)⟩
 ·obtain⟨cs,hc⟩:=aH h2 hv;exact hs k cs _ hk (h2.lt k hv).1 hc (.inl hv)
 ·obtain⟨cs,hc⟩:=aH (h3 y hy) hv;exact hs k cs _ hk ((h3 y hy).lt k hv).1 hc (.inr rfl)
theorem bW.below {B:Nat} {v:Value} {L:List (List UInt8)} {w w':World} (h:bW B v L w) (hb:Below w.heap.size w w'):bW B v L w':=h.same fun k _ _ hk _ _ _=>hb.block k hk
theorem bW.le {B B':Nat} {v:Value} {L:List (List UInt8)} {w:World} (h:bW B v L w) (hb:B'<=B):bW B' v L w:=by
 obtain⟨ys,h1,h2,h3⟩:=h;exact⟨ys,h1,bK h2 hb,fun y hy=>bK (h3 y hy) hb⟩
theorem xl {B:Nat} {a:Option Addr} {n cap:Nat} {L:List (List UInt8)} {w:World} (h:bW B (.slice a n cap) L w) {k:Nat} {pl:List UInt8} (hk:L[k]? =some pl):
  ∃b y,a=some ⟨b,0,none⟩/\B<=b/\b<w.heap.size/\n=L.length/\w.cell? ⟨b,k,none⟩=some y/\w.ownsRow B 5 1 y pl.length (pl.map aC):=by
 obtain⟨ys,h1,h2,h3⟩:=h;have hl:ys.length=L.length:=by rw[<-h1,List.length_map]
 rw[<-h1,List.getElem?_map,Option.map_eq_some_iff]at hk;obtain⟨y,hy,rfl⟩:=hk;have hr:=bu h2;obtain⟨_,a',cap',he,_,_,h0⟩:=hr;have hlt:=(List.getElem?_eq_some_iff.1 hy).1;simp only[Value.slice.injEq]at he;obtain⟨rfl,hn,rfl⟩:=he
 rcases h0 with h0 | ⟨b,o,rfl,hb,hc⟩
 ·omega
 ·have hob:=hb.2
  rcases h2.2 with⟨hz,_⟩ | ⟨g,cp,cur,hv,hbs,hh,_⟩
  ·simp at hz
  ·simp only[Value.slice.injEq,Option.some.injEq,Addr.mk.injEq,and_true]at hv;obtain⟨⟨rfl,rfl⟩,-,-⟩:=hv;refine⟨b,y.1,rfl,hbs,lt_of_block hh,by rw[hn,hl], ?_,h3 y (List.mem_of_getElem? hy)⟩;have:=hc k y.1 (by rw[List.getElem?_map,hy]; rfl)
   rwa [Nat.zero_add]at this
def cU (zs:List jo):List Value:=zs.flatMap fun z=>cu z.1 z.2
theorem pL (zs:List jo) (z:jo):cU (zs++[z])=cU zs++cu z.1 z.2:=by simp[cU]
theorem kI {S:Nat->Prop} {w:World} : ∀ {zs:List jo},(∀z∈zs,ay S w z.1 z.2.parts/\cS z.2)->aV (fK S w) (cU zs) (zs.map Prod.snd)
 | [],_=>rfl
 | z::zs,h=>⟨cu z.1 z.2,cU zs,by simp[cU],⟨z.1,rfl,h z (by simp)⟩,kI fun y hy=>h y (by simp[hy])⟩
structure bB (w : World) (base : Nat) (fv : Value) (fs : List au) : Prop where
 row: ∃zs:List jo,zs.map Prod.snd=fs/\w.ownsRow base 27 7 fv zs.length (cU zs)/\ ∀z∈zs,w.ownsRow base 62 2 z.1 z.2.parts.length (bh z.2.parts)/\cS z.2/\ ∀p∈z.2.parts,dE p
theorem bB.nil (w:World) (base:Nat):bB w base (.slice none 0 0) []:=⟨[],rfl,World.ownsRow_nil _ _ _ _,by simp⟩
theorem bB.at {w:World} {base:Nat} {fv:Value} {fs:List au} (h:bB w base fv fs):aY (fun k=>base<=k) w fv fs:=by
 obtain⟨zs,rfl,h2,h3⟩:=h.row;refine⟨cU zs, ?_,kI fun z hz=>⟨?_,(h3 z hz).2.1⟩⟩
 ·rw[List.length_map];exact(bu h2).weak fun k hk=>hk.1
 ·exact⟨_,(bu (h3 z hz).1).weak fun k hk=>hk.1,fw (h3 z hz).2.2⟩
theorem bB.same {w w':World} {base:Nat} {fv:Value} {fs:List au} (h:bB w base fv fs) (hs: ∀k cs t,k<w.heap.size->base<=k->w.heap[k]? =some (.cells cs t (0,0))->((t=27/\fv.ownBlock=some k)\/t=62)->w'.heap[k]? =w.heap[k]?):bB w' base fv fs:=by
 obtain⟨zs,h1,h2,h3⟩:=h.row;refine⟨zs,h1,bC h2 (fun k hk hv=> ?_),fun z hz=>⟨bC (h3 z hz).1 (fun k hk hv=> ?_),(h3 z hz).2⟩⟩
 ·obtain⟨cs,hc⟩:=aH h2 hv;exact hs k cs _ hk (h2.lt k hv).1 hc (.inl ⟨rfl,hv⟩)
 ·obtain⟨cs,hc⟩:=aH (h3 z hz).1 hv;exact hs k cs _ hk ((h3 z hz).1.lt k hv).1 hc (.inr rfl)
theorem bB.below {w w':World} {base:Nat} {fv:Value} {fs:List au} (h:bB w base fv fs) (hb:Below w.heap.size w w'):bB w' base fv fs:=h.same fun k _ _ hk _ _ _=>hb.block k hk
theorem bB.le {w:World} {base B:Nat} {fv:Value} {fs:List au} (h:bB w base fv fs) (hb:B<=base):bB w B fv fs:=by
 obtain⟨zs,h1,h2,h3⟩:=h.row;exact⟨zs,h1,bK h2 hb,fun z hz=>⟨bK (h3 z hz).1 hb,(h3 z hz).2⟩⟩
structure fI where
 tm0:Int
 fv:Value
 cv:Value
 rd:Nat
 kp:Nat
 at0:Int
 mb:Nat
 cut:cR
def bN (q:fI) (kb:Nat) (nv:Value):List Value:=[.int .i64 q.tm0,q.fv,q.cv,nv, .int .i64 (q.rd:Int), .int .i64 (q.kp:Int), .int .i64 q.at0, .map (some q.mb), .map (some kb)]++bR q.cut
structure er (w : World) (base cb kb : Nat) (q : fI) (nv : Value) (known : List ByteArray) (news : List (List UInt8)) : Prop where
 box:w.heap[cb]? =some (.cells (bN q kb nv).toArray 95 (0,0))
 news:bW base nv news w
 known:ev w kb known
structure eI (base cb kb : Nat) (nv nv' : Value) (w w' : World) : Prop where
 below:Below base w w'
 same: ∀k,k<w.heap.size->k≠cb->k≠kb->nv.ownBlock≠some k->w'.heap[k]? =w.heap[k]?
 place: ∀k,nv'.ownBlock=some k->nv.ownBlock=some k\/w.heap.size<=k
theorem eI.refl (base cb kb:Nat) (nv:Value) (w:World):eI base cb kb nv nv w w:=⟨Below.refl _ _,fun _ _ _ _ _=>rfl,fun _ h=> .inl h⟩
theorem eI.trans {base cb kb:Nat} {v v1 v2:Value} {A B C:World} (h:eI base cb kb v v1 A B) (k:eI base cb kb v1 v2 B C):eI base cb kb v v2 A C:=by
 have hs:=h.below.size;refine⟨h.below.trans k.below,fun i h1 h2 h2' h3=>(k.same i (by omega) h2 h2' (fun e=> ?_)).trans (h.same i h1 h2 h2' h3),fun i e=> ?_⟩
 ·rcases h.place i e with e2 | e2
  ·exact h3 e2
  ·omega
 ·rcases k.place i e with e2 | e2
  ·exact h.place i e2
  ·exact .inr (by omega)
theorem eI.ofBelow {base cb kb:Nat} {v:Value} {w w':World} (h:Below w.heap.size w w') (hb:base<=w.heap.size):eI base cb kb v v w w':=⟨h.mono hb,fun k h1 _ _ _=>h.block k h1,fun _ e=> .inl e⟩
theorem er.ne {w:World} {base cb kb:Nat} {q:fI} {nv:Value} {known:List ByteArray} {news:List (List UInt8)} (h:er w base cb kb q nv known news) {k:Nat} {cs:Array Value} {t:TypeId} (hk:w.heap[k]? =some (.cells cs t (0,0))) (h1:t≠95) (h2:t≠28):k≠cb/\k≠kb/\nv.ownBlock≠some k:=by
 refine⟨fun e=> ?_,fun e=> ?_,fun e=> ?_⟩
 ·subst e; exact h1 (aK hk h.box)
 ·subst e; exact h.known.ncells hk
 ·obtain⟨ys,_,h3,_⟩:=h.news;obtain⟨cs2,hc⟩:=aH h3 e;exact h2 (aK hk hc)
theorem er.below {w w':World} {base cb kb:Nat} {q:fI} {nv:Value} {known:List ByteArray} {news:List (List UInt8)} (h:er w base cb kb q nv known news) (hb:Below w.heap.size w w'):er w' base cb kb q nv known news:=
 ⟨(hb.block cb (lt_of_block h.box)).trans h.box,h.news.below hb,h.known.below hb⟩
theorem er.turn {w w':World} {base cb kb:Nat} {q:fI} {nv:Value} {known:List ByteArray} {news:List (List UInt8)} (h:er w base cb kb q nv known news) {r:Option Nat} (hg:w.grownBy w' r) (hr: ∀k,r=some k->(∃cs t,w.heap[k]? =some (.cells cs t (0,0))/\t≠95/\t≠28/\t≠5)):er w' base cb kb q nv known news:=by
 have hne: ∀k cs t,w.heap[k]? =some (.cells cs t (0,0))->(t=95\/t=28\/t=5)->r≠some k:=by
  intro k cs t hk ht e;obtain⟨cs2,t2,h2,n1,n2,n3⟩:=hr k e;have:=aK hk h2;subst this
  rcases ht with ht | ht | ht
  ·exact n1 ht
  ·exact n2 ht
  ·exact n3 ht
 refine⟨(hg.block cb (lt_of_block h.box) (fun e=>hne _ _ _ h.box (.inl rfl) e.symm)).trans h.box,h.news.same fun k cs t hk _ hc ht=>hg.block k hk (fun e=>hne k cs t hc ?_ e.symm),h.known.same (hg.block kb h.known.lt (fun e=> ?_))⟩
 ·rcases ht with ht | ht
  ·obtain⟨ys,_,h3,_⟩:=h.news;obtain⟨cs2,hc2⟩:=aH h3 ht;exact .inr (.inl (aK hc hc2))
  ·exact .inr (.inr ht)
 ·obtain⟨cs2,t2,h2,_⟩:=hr kb e.symm;exact h.known.ncells h2
theorem er.know {w w':World} {base cb kb:Nat} {q:fI} {nv:Value} {known k2:List ByteArray} {news:List (List UInt8)} (h:er w base cb kb q nv known news) (hs:ev w' kb k2) (hg:w.grownBy w' (some kb)):er w' base cb kb q nv k2 news:=
 ⟨(hg.block cb (lt_of_block h.box) (fun e=>by cases e; exact h.known.ncells h.box)).trans h.box,h.news.same fun k cs t hk _ hc _=>hg.block k hk (fun e=>by cases e; exact h.known.ncells hc),hs⟩
theorem oR (ys:List (Value×List UInt8)) (y:Value×List UInt8):(ys++[y]).map Prod.fst=ys.map Prod.fst++[y.1]:=by simp
theorem er.push {w w1 w2:World} {base cb kb:Nat} {q:fI} {nv v' dv:Value} {known:List ByteArray} {news:List (List UInt8)} {pl:List UInt8} {ys:List (Value×List UInt8)} (h:er w base cb kb q nv known news) (hy:ys.map Prod.snd=news) (hd: ∀y∈ys,w.ownsRow base 5 1 y.1 y.2.length (y.2.map aC)) (hrow:w.ownsRow base 28 1 nv ys.length (ys.map Prod.fst))
  (hb:Below w.heap.size w w1) (hn:w1.ownsRow base 5 1 dv pl.length (pl.map aC)) (hown:w2.ownsRow base 28 1 v' (ys.length+1) (ys.map Prod.fst++[dv])) (hg:w1.grownBy w2 nv.ownBlock) (hpl: ∀k,v'.ownBlock=some k->nv.ownBlock=some k\/w1.heap.size<=k) (hbe:base<=cb) (hbz:base<=w.heap.size):
  er (w2.setCell ⟨cb,3,none⟩ v') base cb kb q v' known (news++[pl])/\eI base cb kb nv v' w (w2.setCell ⟨cb,3,none⟩ v'):=by
 have h1:=h.below hb;have hx1:=h1.box;have hlt:=lt_of_block hx1;have hz1:=hb.size;have hr1:=aW hrow hb;have hne:nv.ownBlock≠some cb:=fun e=>by
  obtain⟨cs,hc⟩:=aH hr1 e;exact absurd (aK hx1 hc) (by decide)
 have hne':v'.ownBlock≠some cb:=fun e=>by
  rcases hpl cb e with e | e
  ·exact hne e
  ·omega
 have hb2:=(hg.block cb hlt (fun e=>hne e.symm)).trans hx1;have hdat: ∀(u:Value) (ds:List UInt8),w1.ownsRow base 5 1 u ds.length (ds.map aC)->(w2.setCell ⟨cb,3,none⟩ v').ownsRow base 5 1 u ds.length (ds.map aC):=by
  intro u ds hd;refine bC hd (fun i hi hu=> ?_);obtain⟨cs,hc⟩:=aH hd hu;rw[Below.heap_setCell _ _ _ _ (show i≠cb from fun e=>absurd (aK (e▸hc) hx1) (by decide))];refine hg.block i hi (fun e=> ?_);obtain⟨cs2,hc2⟩:=aH hr1 e.symm;exact absurd (aK hc hc2) (by decide)
 have hkb:kb<w1.heap.size:=h1.known.lt;have hks:(w2.setCell ⟨cb,3,none⟩ v').heap[kb]? =w1.heap[kb]? :=by
  rw[Below.heap_setCell _ _ _ _ (show kb≠cb from fun e=>h1.known.ncells (by rw[e]; exact hx1))];refine hg.block kb hkb (fun e=> ?_);obtain⟨cs,hc⟩:=aH hr1 e.symm;exact h1.known.ncells hc
 refine⟨⟨?_,⟨ys++[(dv,pl)],by simp[hy], ?_,fun z hz=> ?_⟩,h1.known.same hks⟩,⟨?_,fun i hi e1 e2 e3=> ?_,fun i e=> ?_⟩⟩
 ·have:=mw (k:=3) hb2 v'
  simpa [bN]using this
 ·rw[List.length_append,List.length_singleton,oR];exact hown.kept (be _ _ _ _) (.inr (fun e=>hne' e))
 ·rcases List.mem_append.1 hz with hz | hz
  ·exact hdat _ _ (aW (hd z hz) hb)
  ·rw[List.mem_singleton]at hz;subst hz;exact hdat _ _ hn
 ·exact((hb.mono hbz).grown hg (Nat.le_trans hbz hz1) (fun i hi=>(hrow.lt i hi).1)).grown (be w2 cb 3 v') (Nat.le_trans hbz (Nat.le_trans hz1 hg.size)) (fun i hi=>by cases hi; exact hbe)
 ·rw[Below.heap_setCell _ _ _ _ (show i≠cb from e1)];exact(hg.block i (by omega) (fun e=>e3 e.symm)).trans (hb.block i hi)
 ·rcases hpl i e with e | e
  ·exact .inl e
  ·exact .inr (by omega)
theorem gB.keep {B:Nat} {w w':World} (h:gB w) (hb:Below B w w') (h6:6<=B):gB w':=
 ⟨h.env.belowB hb (by omega) (by omega) (by omega),fun j x hj=>(hb.cell (p:=⟨1,j,none⟩) (show 1<B by omega)).trans (h.init j x hj),fun j x hj=>(hb.cell (p:=⟨4,j,none⟩) (show 4<B by omega)).trans (h.kons j x hj),
  Nat.lt_of_lt_of_le h.ilt hb.size,Nat.lt_of_lt_of_le h.klt hb.size,h.deb.block (hb.block _ (show 5<B by omega)) hb.size⟩
theorem gB.six {w:World} (h:gB w):6<=w.heap.size:=by
 have:=h.deb.lt;omega
theorem eI.later {base cb kb:Nat} {v v1:Value} {A B C:World} (h:eI base cb kb v v1 A B) {r:Option Nat} (hg:B.grownBy C r) (hr: ∀k,r=some k->A.heap.size<=k) (hb:base<=A.heap.size):eI base cb kb v v1 A C:=by
 have hs:=h.below.size;refine⟨h.below.grown hg (by omega) (fun k e=>by have:=hr k e; omega),fun i h1 h2 h3 h4=> ?_,h.place⟩;rw[hg.block i (by omega) (fun e=>by have:=hr i e.symm; omega)];exact h.same i h1 h2 h3 h4
def ye (base cb kb:Nat) (q:fI) (nv:Value) (known:List ByteArray) (news:List (List UInt8)) (cs:List (List UInt8)) (w:World) (e:Ending) (w':World):Prop:=
 ∃pv nv',e= .returned (.tuple #[pv, .int .i64 0])/\w'.ownsRow w.heap.size 62 2 pv cs.length (bh (cs.map bd))/\er w' base cb kb q nv' (cs.foldl bo (known,news)).1 (cs.foldl bo (known,news)).2/\eI base cb kb nv nv' w w'
theorem eI.then {base cb kb:Nat} {v v1 v2 v3:Value} {A B C D:World} (h:eI base cb kb v v1 A B) (k:eI base cb kb v1 v2 B C) (l:eI base cb kb v2 v3 C D):eI base cb kb v v3 A D:=(h.trans k).trans l
theorem xq (cs:List (List UInt8)): ∀s:List ByteArray×List (List UInt8),(cs.foldl bo s).2.length<=s.2.length+cs.length:=by
 induction cs with
 | nil=>intro s; simp
 | cons c cs ih=>
  intro s;rw[List.foldl_cons,List.length_cons];refine Nat.le_trans (ih _) ?_;unfold bo
  split<;> simp<;> omega
theorem wA {c:cR} (hc:dA c=true) (x:List UInt8):(bF c x).length<=x.length:=by
 have h1:(bF c x).flatten=x:=mi;have h2: ∀(l:List (List UInt8)),(∀y∈l,1<=y.length)->l.length<=l.flatten.length:=by
  intro l
  induction l with
  | nil=>simp
  | cons y l ih=>
   intro h;have h3:=h y (by simp);have h4:=ih fun z hz=>h z (by simp[hz])
   rw[List.flatten_cons,List.length_append,List.length_cons]; omega
 have h3:=h2 (bF c x) fun y hy=>(kf hc x y hy).1
 rwa [h1]at h3
theorem qp (base cb kb:Nat) (q:fI) (nv dv:Value) (known:List ByteArray) (news:List (List UInt8)) (data:List UInt8) (w:World) (h:er w base cb kb q nv known news) (hd:aR (· <base) w dv data) (hl:data.length<=1048576) (hc:dA q.cut=true) (hs:q.cut.seed<18446744073709551616) (he:gB w)
  (hcb:base<=cb) (hkb:base<=kb) (hbz:base<=w.heap.size) (h6:6<=base) (hn:news.length<10000000000):
  Calls Tryz.prog 77 #[.pointer (some ⟨cb,0,none⟩),dv] w (ye base cb kb q nv known news (bF q.cut data) w):=by
 have HH:=aa h;have HBX:=aa h.box;have HD:=aa hd;have HE:=aa he;have HC:=aa hc;have hcl:=lt_of_block h.box;have hkl:=h.known.lt;have HNV:=aa (show ∀i,nv.ownBlock=some i->i<w.heap.size from fun i hi=>by
  obtain⟨ys,_,h3,_⟩:=h.news;exact(h3.lt i hi).2)
 clear h hd he;have k0:=af (k:=0) HBX.out;have k3:=af (k:=3) HBX.out;have k8:=af (k:=8) HBX.out;have k9:=af (k:=9) HBX.out;have k10:=af (k:=10) HBX.out;have k11:=af (k:=11) HBX.out;have k12:=af (k:=12) HBX.out;have k13:=af (k:=13) HBX.out;simp only[bN,bR,List.cons_append,List.nil_append,kJ]at k0 k3 k8 k9 k10 k11 k12 k13
 go_enter Tryz.func77,Tryz.ntmps77
 go_wp2_with fail;refine(lC (· <base) q.cut data dv w hc hs HD.out hl HE.out.deb).mono ?_;rintro e w1 ⟨v1,rfl,hpc,hb1⟩
 change bW w.heap.size v1 (bF q.cut data) w1 at hpc
 clear k0 k3 k8 k9 k10 k11 k12 k13;obtain⟨cs,hcs⟩: ∃cs,cs=bF q.cut data:=⟨_,rfl⟩;rw[<-hcs]at hpc;have HCE:=aa hcs;have HCS:=aa (show ∀y∈cs,1<=y.length/\y.length<=32768 by
  rw[hcs];intro y hy;have h1:=kf hc data y hy;have h2:=dB.1 hc
  omega)
 obtain⟨n,hnn⟩: ∃n,n=cs.length:=⟨_,rfl⟩;have hn1:n<=1048576:=by rw[hnn,hcs]; exact Nat.le_trans (wA hc data) hl
 have HNN:=aa hnn;have HPC:=aa hpc;have HB1:=aa hb1;have HCO1:=aa (HH.out.below hb1);have HE1:=aa (HE.out.below hb1);have hz1:=hb1.size;obtain⟨a1,c1,hv1,hv2,hv3⟩: ∃a1 c1,v1= .slice a1 n c1/\n<=c1/\c1<=maxLen:=by
  obtain⟨ys,h1,h2,_⟩:=hpc;obtain⟨a,c,h3,h4,h5⟩:=aj h2;have:ys.length=n:=by rw[hnn,<-h1,List.length_map]
  exact⟨a,c,by rw[h3,this],by omega,h5⟩
 subst hv1;unfold maxLen at hv3;have HCO:=aa (show er w1 base cb kb q nv ((cs.take 0).foldl bo (known,news)).1 ((cs.take 0).foldl bo (known,news)).2 from HCO1.out);clear hcs hnn hpc hb1;go_wp2_with fail
 go_loopw [8,26] (fun pvv i wr=> ∃(k:Nat) (nv':Value),k<=n/\i= .int .i64 k/\wr.ownsRow w1.heap.size 62 2 pvv k (bh ((cs.take k).map bd))/\er wr base cb kb q nv' ((cs.take k).foldl bo (known,news)).1 ((cs.take k).foldl bo (known,news)).2/\eI base cb kb nv nv' w1 wr) (fun _ i _=>n-(intOf i).toNat)
 case atStart=>exact⟨0,nv,Nat.zero_le _,rfl,World.ownsRow_nil _ _ _ _,HCO.out,eI.refl _ _ _ _ _⟩
 case round=>
  obtain⟨k,nv',hk,rfl,hown,hco,hkp⟩:=hrel;have HOWN:=aa hown;have HCOK:=aa hco;have HKP:=aa hkp;have hzr:=hkp.below.size;obtain⟨av,cv,hsv,hvn,hvm⟩:=aj hown;subst hsv;unfold maxLen at hvm;clear hown hco hkp
  by_cases hlt:k<n
  ·obtain⟨pl,hpl⟩: ∃pl,cs[k]? =some pl:=⟨_,List.getElem?_eq_getElem (show k<cs.length by rw[<-HNN.out]; exact hlt)⟩;obtain⟨b,y,rfl,hb1,hb2,-,hcy,hoy⟩:=xl HPC.out hpl;have hsame: ∀i,w.heap.size<=i->i<w1.heap.size->wr.heap[i]? =w1.heap[i]? :=fun i hi1 hi2=>HKP.out.same i hi2 (by omega) (by omega) (fun e=>by have:=HNV.out i e; omega)
   have hcw:wr.cell? ⟨b,k,none⟩=some y:=by rw[<-hcy]; exact World.cell?_of_block (hsame b hb1 hb2)
   have how:=bC hoy (fun i hi hv=>hsame i (hoy.lt i hv).1 hi);obtain⟨ya,yc,rfl,-,-⟩:=aj how;have HPL:=aa hpl;have hpl2:=HCS.out pl (List.mem_of_getElem? hpl);have HER:=aa (HE1.out.keep HKP.out.below h6);have HOW:=aa how;have HSA:=aa hsame;obtain⟨plen,hplen⟩: ∃plen,plen=pl.length:=⟨_,rfl⟩;rw[<-hplen]at hcw hpl2 HOW;have HPN:=aa hplen;have HBY:=aa (show aR (fun i=>w.heap.size<=i/\(Value.slice ya plen yc).ownBlock=some i) wr (.slice ya plen yc) pl by
    have h1:=bu HOW.out;have h2:=HPN.out;unfold aR;rw[<-h2];exact h1)
   clear hpl hcy hoy hsame how hplen;have hpn:plen<1099511627776:=by omega
   go_upto_region 10 with(first | (go_at_call 118; refine(sH _ _ pl _ HBY.out (by have:=HPN.out; omega) HER.out).mono ?_; rintro e w2 ⟨rfl,hb2'⟩; have HB2:=aa hb2'; have HOW2:=aa (aW HOWN.out hb2'); have hz2:=hb2'.size; clear hb2') | (at_builtin; go_must (refine aS Tryz.appParts rfl _ _ rfl w1.heap.size (.slice av k cv) k (bh ((cs.take k).map bd)) rfl w2 [.string (gC pl), .int .i64 (plen:Int)] _ rfl rfl (nL (p:=⟨gC pl,(plen:Int)⟩)) HOW2.out (by omega) (by omega) ?_); intro vp w3 hown3 hg3 _ _; obtain⟨ap,cp,rfl,-,-⟩:=aj hown3; have HO3:=aa hown3; have HG3:=aa hg3; clear hown3 hg3))
   have hz3:=HG3.out.size;have HCO3:=aa (show er w3 base cb kb q nv' _ _ from(HCOK.out.below HB2.out).turn HG3.out (fun i e=>by
    obtain⟨cs2,hc2⟩:=aH HOW2.out e;exact⟨cs2,_,hc2,by decide,by decide,by decide⟩))
   have HKP3:=aa (show eI base cb kb nv nv' w1 w3 from(HKP.out.later (pP HB2.out none) (fun i e=>by cases e) (by omega)).later HG3.out (fun i e=>(HOW2.out.lt i e).1) (by omega));have HBX3:=aa HCO3.out.box;obtain⟨R,hR⟩: ∃R,R=(cs.take k).foldl bo (known,news):=⟨_,rfl⟩;have HRK:=aa (show(cs.take (k+1)).foldl bo (known,news)=bo R pl by rw[ba HPL.out,List.foldl_append,<-hR]; rfl)
   have hRl:R.2.length<11000000000:=by
    have h1:=xq (cs.take k) (known,news);rw[<-hR]at h1;have h2:(cs.take k).length<=k:=List.length_take_le _ _;simp only at h1;omega
   rw[<-hR]at HCO3;have HP3:=aa (show w3.ownsRow w1.heap.size 62 2 (.slice ap (k+1) cp) (k+1) (bh ((cs.take (k+1)).map bd)) by
    rw[ba HPL.out,List.map_append,List.map_singleton];have h1:=HO3.out;rw[HPN.out]at h1;have h2:bh ((cs.take k).map bd++[bd pl])=bh ((cs.take k).map bd)++[.string (gC pl), .int .i64 (pl.length:Int)]:=by simp[bh,mf,bd]
    rw[h2];exact h1)
   clear hR;have k0:=af (k:=0) HBX3.out;have k3:=af (k:=3) HBX3.out;have k8:=af (k:=8) HBX3.out;have k9:=af (k:=9) HBX3.out;have k10:=af (k:=10) HBX3.out;have k11:=af (k:=11) HBX3.out;have k12:=af (k:=12) HBX3.out;have k13:=af (k:=13) HBX3.out;simp only[bN,bR,List.cons_append,List.nil_append,kJ]at k0 k3 k8 k9 k10 k11 k12 k13;have hsz:(gC pl).size<=maxLen:=by rw[iE]; unfold maxLen; omega
   have hget:=HCO3.out.known.get hsz
   by_cases hmem:gC pl∈R.1
   ·have HST:=aa (show bo R pl=R from if_pos hmem);rw[decide_eq_true hmem]at hget;clear hmem;go_wp2_with fail
    go_roundw
    case rel=>exact⟨k+1,nv',by omega,rfl,HP3.out,by rw[HRK.out,HST.out]; exact HCO3.out,HKP3.out⟩
    case measure=>simp only[intOf,Int.toNat_natCast]; omega
   ·have HST:=aa (show bo R pl=(R.1++[gC pl],R.2++[pl])from if_neg hmem);have HIN:=aa (show pY R.1 (gC pl)=R.1++[gC pl]from if_neg hmem);rw[decide_eq_false hmem]at hget;have hput:=HCO3.out.known.put hsz;have HPUT:=aa hput;clear hmem hput
    go_upto_region 12 with(at_mapUpdate; go_must (refine iT rfl _ _ _ _ rfl _ _ _ rfl rfl rfl HPUT.out ?_); rintro w4 ⟨hs4,hg4⟩; have HS4:=aa hs4; have HG4:=aa hg4; clear hs4 hg4)
    obtain⟨W5,hW5⟩: ∃W5:World,W5=w4.drew:=⟨_,rfl⟩;have hg5:w3.grownBy W5 (some kb):=by rw[hW5]; exact cI HG4.out ⟨rfl,rfl,rfl,Nat.le_refl _,fun _ _ _=>rfl⟩
    have HCO5:=aa (show er W5 base cb kb q nv' (R.1++[gC pl]) R.2 from HCO3.out.know (by rw[<-HIN.out,hW5]; exact HS4.out.same rfl) hg5);have HKP5:=aa (show eI base cb kb nv' nv' w3 W5 from⟨Below.grown (Below.refl _ _) hg5 (by omega) (fun i e=>by cases e; exact hkb),fun i h1 h2 h3 h4=>hg5.block i h1 (fun e=>h3 (Option.some.inj e)),fun i e=> .inl e⟩);have hz5:=hg5.size;have HP5:=aa (show W5.ownsRow w1.heap.size 62 2 (.slice ap (k+1) cp) (k+1) (bh ((cs.take (k+1)).map bd))from bC HP3.out (fun i hi hv=>hg5.block i hi (fun e=>by
     have h1:=(HP3.out.lt i hv).1
     cases e
     omega)))
    have HBX5:=aa HCO5.out.box;have HBY5:=aa (show aR (fun _=>True) W5 (.slice ya plen yc) pl by
     have h1:aB (fun i=>w.heap.size<=i/\(Value.slice ya plen yc).ownBlock=some i) wr 1 (.slice ya plen yc) pl.length (pl.map aC):=HBY.out;have h2:=aB.same (w':=W5) h1 (fun i hS=> ?_)
     ·exact aB.weak (T:=fun _=>True) h2 (fun _ _=>trivial)
     ·have h3:=(HOW.out.lt i hS.2).2;have h4:w3.heap[i]? =wr.heap[i]? :=by
       rw[HG3.out.block i (by omega) (fun e=> ?_)]
       ·exact HB2.out.block i h3
       ·obtain⟨cs2,hc2⟩:=aH HOW2.out e.symm;obtain⟨cs3,hc3⟩:=aH HOW.out hS.2;rw[HB2.out.block i h3]at hc2;exact absurd (aK hc2 hc3) (by decide)
      rw[hg5.block i (by omega) (fun e=>by have h5:=hS.1; have h6:=Option.some.inj e; omega),h4])
    obtain⟨ys,hys,hyr,hyd⟩:=HCO5.out.news;have HYS:=aa hys;have HYR:=aa hyr;have HYD:=aa hyd;obtain⟨na,nc,hnv,-,-⟩:=aj hyr;subst hnv;have hyl:ys.length<11000000000:=by rw[<-hys,List.length_map]at hRl; exact hRl
    clear hg5 hys hyr hyd k0 k3 k8 k9 k10 k11 k12 k13 hget;have k0:=af (k:=0) HBX5.out;have k3:=af (k:=3) HBX5.out;have k8:=af (k:=8) HBX5.out;have k9:=af (k:=9) HBX5.out;have k10:=af (k:=10) HBX5.out;have k11:=af (k:=11) HBX5.out;have k12:=af (k:=12) HBX5.out;have k13:=af (k:=13) HBX5.out;simp only[bN,bR,List.cons_append,List.nil_append,kJ]at k0 k3 k8 k9 k10 k11 k12 k13
    have S5:=k3;refine cN (fun w'=>w'.cell? ⟨cb,3,none⟩=some (.slice na ys.length nc)) (by kernel_rfl) (by kernel_rfl) ?_;simp only[List.dropLast_cons_cons,List.dropLast_singleton,List.length_cons,List.length_nil,Nat.reduceAdd,Nat.reduceSub];rw[<-hW5];clear hW5;refine ac 0 rfl (by kernel_rfl) (by kernel_rfl) (by kernel_rfl) (fun _ _ _ h=>h) rfl S5 (by intro w' hw'; go_simp; rfl) ?_
    simp only[Act.put,aD,aE,aF];refine ac 1 rfl (by kernel_rfl) (by kernel_rfl) (by kernel_rfl) (fun _ _ _ h=>h) rfl S5 (by intro w' hw'; go_simp; rfl) ?_;simp only[Act.put,aD,aE,aF];refine ac 2 rfl (by kernel_rfl) (by kernel_rfl) (by kernel_rfl) (fun _ _ _ h=>h) rfl S5 (by intro w' hw'; go_simp; rfl) ?_;simp only[Act.put,aD,aE,aF];refine ac 3 rfl (by kernel_rfl) (by kernel_rfl) (by kernel_rfl) (fun _ _ _ h=>h) rfl S5 (by intro w' hw'; go_simp; rfl) ?_
    simp only[Act.put,aD,aE,aF];refine ac 4 rfl (by kernel_rfl) (by kernel_rfl) (by kernel_rfl) (fun _ _ _ h=>h) rfl S5 (by intro w' hw'; go_simp; rfl) ?_;simp only[Act.put,aD,aE,aF];refine ac 5 rfl (by kernel_rfl) (by kernel_rfl) (by kernel_rfl) (fun _ _ _ h=>h) rfl S5 (by intro w' hw'; go_simp; rfl) ?_;simp only[Act.put,aD,aE,aF];refine ac 6 rfl (by kernel_rfl) (by kernel_rfl) (by kernel_rfl) (fun _ _ _ h=>h) rfl S5 (by intro w' hw'; go_simp; rfl) ?_
    simp only[Act.put,aD,aE,aF];refine bc 7 rfl (by kernel_rfl) rfl (fun K hK=> ?_);go_wp2_with (go_at_call 119; refine(lD _ _ pl W5 HBY5.out (by have:=HPN.out; omega)).mono ?_; rintro e w6 ⟨dv6,rfl,ho6,hb6⟩; obtain⟨da,dc,rfl,-,-⟩:=aj ho6; have HO6:=aa ho6; have HB6:=aa hb6; clear ho6 hb6);have hz6:=HB6.out.size;have S6:=(HB6.out.cell (p:=⟨cb,3,none⟩) (lt_of_block HBX5.out)).trans S5
    refine⟨S6, ?_⟩;refine bc 8 rfl (by kernel_rfl) rfl (fun K hK=> ?_);go_wp2_with fail;have S7:=(((Below.refl w6.heap.size w6).alloc (Nat.le_refl _) (.cells #[.slice da pl.length dc] 28)).cell (p:=⟨cb,3,none⟩) (ax S6)).trans S6;refine⟨S7, ?_⟩;refine bc 9 rfl (by kernel_rfl) rfl (fun K hK=> ?_);have HYR6:=aa (aW HYR.out HB6.out);go_wp2_with (at_builtin; go_must (refine aS Tryz.appChunks rfl _ _ rfl base (.slice na ys.length nc) ys.length (ys.map Prod.fst) rfl w6 [.slice da pl.length dc] _ rfl rfl (by simp[Value.oneCell']) HYR6.out (by omega) (by omega) ?_); intro vp wc hown3 hg3 _ hpl3; obtain⟨ea,ec,rfl,-,-⟩:=aj hown3)
    have HPU:=aa (HCO5.out.push HYS.out HYD.out HYR.out HB6.out (bK HO6.out (by omega)) hown3 hg3 hpl3 hcb (by omega));have hcb6:w6.heap[cb]? =some (.cells (bN q kb (.slice na ys.length nc)).toArray 95 (0,0)):=(HB6.out.block cb (lt_of_block HBX5.out)).trans HBX5.out;have hne:(Value.slice na ys.length nc).ownBlock≠some cb:=fun e=>by
     obtain⟨cs2,hc2⟩:=aH HYR6.out e;exact absurd (aK hcb6 hc2) (by decide)
    have HBXC:=aa ((hg3.block cb (lt_of_block hcb6) (fun e=>hne e.symm)).trans hcb6);have HPX:=aa (show(wc.setCell ⟨cb,3,none⟩ (.slice ea (ys.length+1) ec)).ownsRow w1.heap.size 62 2 (.slice ap (k+1) cp) (k+1) (bh ((cs.take (k+1)).map bd))from bC HP5.out (fun i hi hv=>by
     obtain⟨cs2,hc2⟩:=aH HP5.out hv;obtain⟨n1,n2,n3⟩:=HCO5.out.ne hc2 (by decide) (by decide);exact HPU.out.2.same i hi n1 n2 n3))
    clear hown3 hg3 hpl3 hcb6 hne k0 k3 k8 k9 k10 k11 k12 k13;have k0:=af (k:=0) HBXC.out;have k3:=af (k:=3) HBXC.out;have k8:=af (k:=8) HBXC.out;have k9:=af (k:=9) HBXC.out;have k10:=af (k:=10) HBXC.out;have k11:=af (k:=11) HBXC.out;have k12:=af (k:=12) HBXC.out;have k13:=af (k:=13) HBXC.out;simp only[bN,bR,List.cons_append,List.nil_append,kJ]at k0 k3 k8 k9 k10 k11 k12 k13
    have S9:=k3;have f3:=aI (k:=3) HBXC.out;refine⟨S9, ?_⟩;refine ac 10 rfl (by kernel_rfl) (by kernel_rfl) (by kernel_rfl) (fun _ _ _ h=>h) rfl S9 (by intro w' hw'; go_simp; rfl) ?_;simp only[Act.put,aD,aE,aF];refine ac 11 rfl (by kernel_rfl) (by kernel_rfl) (by kernel_rfl) (fun _ _ _ h=>h) rfl S9 (by intro w' hw'; go_simp; rfl) ?_;simp only[Act.put,aD,aE,aF]
    refine ac 12 rfl (by kernel_rfl) (by kernel_rfl) (by kernel_rfl) (fun _ _ _ h=>h) rfl S9 (by intro w' hw'; go_simp; rfl) ?_;simp only[Act.put,aD,aE,aF];refine bO (by kernel_rfl) ?_;refine cZ rfl rfl (fun K hK=> ?_);go_wp2_with fail
    go_roundw
    case rel=>exact⟨k+1,_,by omega,rfl,HPX.out,by rw[HRK.out,HST.out]; exact HPU.out.1,HKP3.out.then HKP5.out HPU.out.2⟩
    case measure=>simp only[intOf,Int.toNat_natCast]; omega
  ·have hkk:k=n:=by omega
   subst hkk;have htk:cs.take k=cs:=List.take_of_length_le (by rw[<-HNN.out]; exact Nat.le_refl _);rw[htk]at HOWN HCOK;clear htk;go_wp2_with fail
   go_ret2
   rw[<-HCE.out];refine⟨_,nv',rfl, ?_,HCOK.out,(eI.ofBelow HB1.out hbz).trans HKP.out⟩;rw[<-HNN.out];exact bK HOWN.out hz1
theorem er.setq {w:World} {base cb kb:Nat} {q q':fI} {nv:Value} {known:List ByteArray} {news:List (List UInt8)} (h:er w base cb kb q nv known news) (i:Nat) (x:Value) (hq:(bN q kb nv).set i x=bN q' kb nv):er (w.setCell ⟨cb,i,none⟩ x) base cb kb q' nv known news:=by
 have hoth: ∀k,k≠cb->(w.setCell ⟨cb,i,none⟩ x).heap[k]? =w.heap[k]? :=fun k hk=>Below.heap_setCell _ _ _ _ hk
 have hkc:kb≠cb:=fun e=>by
  have h1:=h.known.ncells (cs:=(bN q kb nv).toArray) (t:=95) (z:=(0,0));rw[e]at h1;have h2:=h.box;rw[e]at h2;exact h1 h2
 refine⟨?_,h.news.same fun k cs t hk _ hc ht=>hoth k (fun e=> ?_),h.known.same (hoth kb hkc)⟩
 ·have:=mw (k:=i) h.box x
  rwa [List.setIfInBounds_toArray,hq]at this
 ·subst e
  rcases ht with ht | ht
  ·obtain⟨ys,_,h3,_⟩:=h.news;obtain⟨cs2,hc2⟩:=aH h3 ht;exact absurd (aK h.box hc2) (by decide)
  ·subst ht;exact absurd (aK h.box hc) (by decide)
theorem ay.old {base:Nat} {W w:World} {v:Value} {l:List bq} (h:ay (· <base) W v l) (hb:Below base W w):ay (· <base) w v l:=by
 obtain⟨cells,h1,h2⟩:=h;exact⟨cells,aB.same h1 (fun k hk=>hb.block k hk),h2⟩
structure cD (W0 w : World) (base cb kb : Nat) (q : fI) (nv : Value) (prev : List au) (s : iH) : Prop where
 col:er w base cb kb q nv s.known s.news
 files:bB w base q.fv s.files
 before:cE (· <base) W0 w q.mb prev
 old:Below base W0 w
 ne:q.mb≠kb
 rd:q.rd=s.read
 kp:q.kp=s.kept
theorem cD.below {W0 w w':World} {base cb kb:Nat} {q:fI} {nv:Value} {prev:List au} {s:iH} (h:cD W0 w base cb kb q nv prev s) (hb:Below w.heap.size w w') (hz:base<=w.heap.size):cD W0 w' base cb kb q nv prev s:=
 ⟨h.col.below hb,h.files.below hb,h.before.below hb,h.old.trans (hb.mono hz),h.ne,h.rd,h.kp⟩
theorem cE.ncells {S:Nat->Prop} {W w:World} {mb:Nat} {fs:List au} (h:cE S W w mb fs) {cs:Array Value} {t:TypeId} {z:Nat×Nat} :w.heap[mb]? ≠some (.cells cs t z):=fun e=>by
 obtain⟨xs,_,⟨es,clock,hb,_⟩,_⟩:=h;rw[hb]at e; cases e
theorem cE.same {S:Nat->Prop} {W w w':World} {mb:Nat} {fs:List au} (h:cE S W w mb fs) (hs:w'.heap[mb]? =w.heap[mb]?):cE S W w' mb fs:=by
 obtain⟨xs,h1,h2,h3⟩:=h;exact⟨xs,h1,h2.same hs,h3⟩
theorem cD.read {W0 w w':World} {base cb kb:Nat} {q:fI} {nv nv':Value} {prev:List au} {s s':iH} (h:cD W0 w base cb kb q nv prev s) (hc:er w' base cb kb q nv' s'.known s'.news) (hk:eI base cb kb nv nv' w w') (h1:s'.files=s.files) (h2:s'.read=s.read) (h3:s'.kept=s.kept):cD W0 w' base cb kb q nv' prev s':=by
 refine⟨hc, ?_,h.before.same (hk.same _ h.before.lt (fun e=>h.before.ncells (e▸h.col.box)) h.ne (fun e=> ?_)),h.old.trans hk.below,h.ne,by rw[h2]; exact h.rd,by rw[h3]; exact h.kp⟩
 ·rw[h1];refine h.files.same fun k cs t hkk _ hcs ht=> ?_
  have n:=h.col.ne hcs (by rcases ht with⟨rfl,_⟩ | rfl<;> decide) (by rcases ht with⟨rfl,_⟩ | rfl<;> decide);exact hk.same k hkk n.1 n.2.1 n.2.2
 ·obtain⟨ys,_,h4,_⟩:=h.col.news;obtain⟨cs2,hc2⟩:=aH h4 e;exact h.before.ncells hc2
theorem cD.setq {W0 w:World} {base cb kb:Nat} {q q':fI} {nv:Value} {prev:List au} {s s':iH} (h:cD W0 w base cb kb q nv prev s) (i:Nat) (x:Value) (hq:(bN q kb nv).set i x=bN q' kb nv) (hfv:q'.fv=q.fv) (hmb:q'.mb=q.mb) (hk:s'.known=s.known) (hn:s'.news=s.news) (hf:s'.files=s.files) (h1:q'.rd=s'.read) (h2:q'.kp=s'.kept) (hcb:base<=cb) (hz:base<=w.heap.size):
  cD W0 (w.setCell ⟨cb,i,none⟩ x) base cb kb q' nv prev s':=by
 have hoth: ∀k,k≠cb->(w.setCell ⟨cb,i,none⟩ x).heap[k]? =w.heap[k]? :=fun k hk=>Below.heap_setCell _ _ _ _ hk
 refine⟨by rw[hk,hn]; exact h.col.setq i x hq, ?_, ?_,h.old.grown (be w cb i x) ?_ (fun k e=>by cases e; exact hcb),by rw[hmb]; exact h.ne,h1,h2⟩
 ·rw[hf,hfv];refine h.files.same fun k cs t _ _ hcs ht=>hoth k (fun e=> ?_)
  subst e
  rcases ht with⟨rfl,_⟩ | rfl
  ·exact absurd (aK h.col.box hcs) (by decide)
  ·exact absurd (aK h.col.box hcs) (by decide)
 ·rw[hmb];exact h.before.same (hoth _ (fun e=>h.before.ncells (e▸h.col.box)))
 ·exact Nat.le_trans hz (Nat.le_refl _)
theorem cD.file {W0 w w1 w2:World} {base cb kb:Nat} {q:fI} {nv fv' pv:Value} {prev:List au} {s s':iH} {f:au} {zs:List jo} (h:cD W0 w base cb kb q nv prev s) (hz:zs.map Prod.snd=s.files) (hr:w.ownsRow base 27 7 q.fv zs.length (cU zs)) (hd: ∀z∈zs,w.ownsRow base 62 2 z.1 z.2.parts.length (bh z.2.parts)/\cS z.2/\ ∀p∈z.2.parts,dE p)
  (hb:Below w.heap.size w w1) (hp:w1.ownsRow base 62 2 pv f.parts.length (bh f.parts)) (hok:cS f) (hpk: ∀p∈f.parts,dE p) (hown:w2.ownsRow base 27 7 fv' (zs.length+1) (cU zs++cu pv f)) (hg:w1.grownBy w2 q.fv.ownBlock) (hpl: ∀k,fv'.ownBlock=some k->q.fv.ownBlock=some k\/w1.heap.size<=k)
  (hk:s'.known=s.known) (hn:s'.news=s.news) (hf:s'.files=s.files++[f]) (h1:s'.read=s.read) (h2:s'.kept=s.kept) (hcb:base<=cb) (hbz:base<=w.heap.size):
  cD W0 (w2.setCell ⟨cb,1,none⟩ fv') base cb kb {q with fv:=fv'} nv prev s':=by
 have hc1:=h.col.below hb;have hr1:=aW hr hb;have hz1:=hb.size;have hc2:er w2 base cb kb q nv s.known s.news:=hc1.turn hg (fun k e=>by
  obtain⟨cs2,hcs⟩:=aH hr1 e;exact⟨cs2,_,hcs,by decide,by decide,by decide⟩)
 have hoth: ∀k,k≠cb->(w2.setCell ⟨cb,1,none⟩ fv').heap[k]? =w2.heap[k]? :=fun k hk=>Below.heap_setCell _ _ _ _ hk
 have hfo:q.fv.ownBlock≠some cb:=fun e=>by
  obtain⟨cs2,hcs⟩:=aH hr1 e;exact absurd (aK hc1.box hcs) (by decide)
 have hfo':fv'.ownBlock≠some cb:=fun e=>by
  rcases hpl cb e with e | e
  ·exact hfo e
  ·have:=lt_of_block hc1.box; omega
 have hpart: ∀(u:Value) (l:List bq),w1.ownsRow base 62 2 u l.length (bh l)->(w2.setCell ⟨cb,1,none⟩ fv').ownsRow base 62 2 u l.length (bh l):=by
  intro u l hu;refine bC hu (fun i hi hv=> ?_);obtain⟨cs,hc⟩:=aH hu hv;rw[hoth i (fun e=>absurd (aK (e▸hc) hc1.box) (by decide))];refine hg.block i hi (fun e=> ?_);obtain⟨cs2,hc2⟩:=aH hr1 e.symm;exact absurd (aK hc hc2) (by decide)
 have hold:Below base W0 w2:=(h.old.trans (hb.mono hbz)).grown hg (Nat.le_trans hbz hz1) (fun k e=>(hr1.lt k e).1);refine⟨by rw[hk,hn]; exact hc2.setq 1 fv' (by simp[bN]),⟨zs++[(pv,f)],by rw[List.map_append,hz,hf]; rfl, ?_,fun z hzm=> ?_⟩, ?_,hold.grown (be w2 cb 1 fv') (Nat.le_trans hbz (Nat.le_trans hz1 hg.size)) (fun k e=>by cases e; exact hcb),h.ne,by rw[h1]; exact h.rd,by rw[h2]; exact h.kp⟩
 ·rw[List.length_append,List.length_singleton,pL];exact hown.kept (be _ _ _ _) (.inr (fun e=>hfo' e))
 ·rcases List.mem_append.1 hzm with hzm | hzm
  ·exact⟨hpart _ _ (aW (hd z hzm).1 hb),(hd z hzm).2⟩
  ·rw[List.mem_singleton]at hzm;subst hzm;exact⟨hpart _ _ hp,hok,hpk⟩
 ·have hbf:=h.before.below hb;refine hbf.same ?_;rw[hoth _ (fun e=>hbf.ncells (e▸hc1.box))];refine hg.block _ hbf.lt (fun e=> ?_);obtain⟨cs2,hcs⟩:=aH hr1 e.symm;exact hbf.ncells hcs
theorem cD.other {W0 w w':World} {base cb kb b:Nat} {q:fI} {nv:Value} {prev:List au} {s:iH} {cs:Array Value} (h:cD W0 w base cb kb q nv prev s) (hg:w.grownBy w' (some b)) (hx:w.heap[b]? =some (.cells cs 27 (0,0))) (hne:q.fv.ownBlock≠some b) (hb:base<=b) (hz:base<=w.heap.size):cD W0 w' base cb kb q nv prev s:=by
 have hsm: ∀k,k<w.heap.size->k≠b->w'.heap[k]? =w.heap[k]? :=fun k hk hn=>hg.block k hk (fun e=>hn (Option.some.inj e))
 refine⟨h.col.turn hg (fun k e=>by cases e; exact⟨cs,_,hx,by decide,by decide,by decide⟩),h.files.same fun k cs2 t hk _ hc ht=>hsm k hk (fun e=> ?_),h.before.same (hsm _ h.before.lt (fun e=>h.before.ncells (e▸hx))),h.old.grown hg hz (fun k e=>by cases e; exact hb),h.ne,h.rd,h.kp⟩;subst e
 rcases ht with⟨_,ht⟩ | rfl
 ·exact hne ht
 ·exact absurd (aK hx hc) (by decide)
def gG (tm:Int) (prev:List au) (c:cR) (s:iH) (e:aX):iH:=
 if e.kind=1 then(if jS tm prev e=true then⟨s.files++[dw tm prev c e],s.known,s.news,s.read,s.kept+1⟩
  else⟨s.files++[dw tm prev c e],((bF c e.data).foldl bo (s.known,s.news)).1,((bF c e.data).foldl bo (s.known,s.news)).2,s.read+1,s.kept⟩)
 else⟨s.files++[dw tm prev c e],s.known,s.news,s.read,s.kept⟩
theorem xB (tm:Int) (prev:List au) (c:cR) (K:List aX) (e:aX):bZ tm prev c (K++[e])=gG tm prev c (bZ tm prev c K) e:=by
 unfold gG
 by_cases hk:e.kind=1
 ·rw[if_pos hk]
  by_cases ht:jS tm prev e=true
  ·rw[if_pos ht]; exact vj ht
  ·rw[if_neg ht];refine vl ?_;unfold lm;rw[Bool.and_eq_true];exact⟨by simpa using hk,by simpa using ht⟩
 ·rw[if_neg hk]; exact vk hk
end Go.Proofs.YtnjkpcalgoefhaaGreatDoor
