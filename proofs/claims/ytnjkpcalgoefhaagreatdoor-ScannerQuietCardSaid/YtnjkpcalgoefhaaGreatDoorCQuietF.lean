/- Texts of this proof, one after the other: LawQui, Frame, OpI. -/
import Derived.Test.YtnjkpcalgoefhaaGreatDoorCQuietE
set_option maxRecDepth 100000
set_option maxHeartbeats 8000000
namespace Go.Proofs.YtnjkpcalgoefhaaGreatDoor
open Go Go.RowKit Go.Maps
theorem rH {prev:ew} {tm:Int} {tree:List aU} {rules:List UInt8} {c:cP} {r:mS} (h:cE prev tm tree rules c= .ok r) (hd: ∀e∈tree,e.data.length<=1048576) (hp: ∀f∈prev.files,f.parts.length<=1048576):
  r.idx.files.length<=tree.length/\r.read+r.kept<=tree.length/\ ∀f∈r.idx.files,f.parts.length<=1048576:=by
 unfold cE at h
 split at h
 ·rename_i h1
  split at h
  ·split at h
   ·cases h
    refine⟨?_, ?_, ?_⟩
    ·show((bB _ tree).map _).length<=_
     rw[List.length_map]; exact List.length_filter_le _ _
    ·show(bV prev.tm prev.files c (bB (bC rules).1 tree)).read+(bV prev.tm prev.files c (bB (bC rules).1 tree)).kept<=_
     rw[oD];exact Nat.le_trans (List.length_filter_le _ _) (List.length_filter_le _ _)
    ·intro f hf;obtain⟨e,he,rfl⟩:=List.mem_map.1 hf;have he':=(gE he).1
     show(bU _ _ _ e).length<=_
     have h2:((bD c e.data).map aZ).length<=1048576:=by
      rw[List.length_map]; exact Nat.le_trans (qO h1.2.2 _) (hd e he')
     unfold bU
     split
     ·split
      ·rename_i g hg
       split
       ·exact hp g (List.mem_of_find?_eq_some hg)
       ·exact h2
      ·exact h2
     ·simp
   ·cases h
  ·cases h
 ·cases h
theorem kE {x:ew} (h:gQ x=true): ∀f∈x.files,f.parts.length<=1048576:=by
 unfold gQ rN at h;simp only[Bool.and_eq_true,decide_eq_true_eq]at h;intro f hf;rw[List.take_of_length_le (by omega)]at h;have:=qh (List.mem_map.2 ⟨f,hf,rfl⟩:f.parts.length∈x.files.map fun f=>f.parts.length);omega
theorem mj {t:List aU} (h:gR t=true):t.length<=16/\ ∀e∈t,e.data.length<=1048576:=by
 unfold gR rO at h;simp only[Bool.and_eq_true,decide_eq_true_eq]at h;refine⟨h.1,fun f hf=> ?_⟩;rw[List.take_of_length_le (by omega)]at h;have:=qh (List.mem_map.2 ⟨f,hf,rfl⟩:f.data.length∈t.map fun f=>f.data.length);omega
theorem sQ {r:mS} {w w':World} {e:Ending} (h:ia (.ok r) w e w'): ∃fa fn fc ca cn cc na nn nc,e= .returned (.tuple #[.agg #[.int .i64 r.idx.tm, .slice fa fn fc, .slice ca cn cc, .slice na nn nc, .int .i64 (r.read:Int), .int .i64 (r.kept:Int)], .int .i64 0])/\Below w.heap.size w w'/\bq w' w.heap.size (.slice fa fn fc) r.idx.files/\fn=r.idx.files.length/\cn=r.chg.length/\nn=r.news.length:=by
 obtain⟨hb,fv,cv,nv,rfl,hf,hc,hn⟩:=h;obtain⟨zs,hzs,hz,-⟩:=hf.row;obtain⟨fa,fc,rfl,-,-⟩:=ak hz;obtain⟨ca,cc,rfl,-,-⟩:=ak hc;obtain⟨ys,hys,hn1,-⟩:=id hn;obtain⟨na,nc,rfl,-,-⟩:=ak hn1;exact⟨fa,_,fc,ca,_,cc,na,_,nc,rfl,hb,hf,by rw[<-hzs,List.length_map],rfl,by rw[<-hys,List.length_map]⟩
def oX (t:Int) (fs:List am):Nat:=(fs.filter fun f=>decide (f.kind=1) && decide (t<=f.time)).length
theorem vS (t:Int) (fs:List am) (f:am):oX t (fs++[f])=oX t fs+(if f.kind=1/\t<=f.time then 1 else 0):=by
 unfold oX;rw[List.filter_append,List.length_append]
 by_cases h1:f.kind=1<;> by_cases h2:t<=f.time<;> simp[h1,h2]
theorem zb (t:Int) (fs:List am):oX t fs<=fs.length:=List.length_filter_le _ _
theorem wP (fv tv:Value) (x:ew) (t1 t2:Int) (tree:List aU) (rules:ByteArray) (c:cP) (w:World) (he:gm w) (hf:aQ (fun _=>True) w fv x.files) (hfp: ∀f∈x.files,f.parts.length<=1125899906842624) (ht:bK (fun _=>True) w tv tree) (htp: ∀e∈tree,e.data.length<=1125899906842624) (hs:c.seed<18446744073709551616):
  Calls Tryz.prog 4 #[gC fv x.tm, .int .i64 t1, .int .i64 t2,tv, .string rules,dx c] w fun e w'=>e= .returned (.bool true)/\Below w.heap.size w w':=by
 obtain⟨fa,fc,rfl,hfc,hfm,-⟩:=aR.shape hf ej.len;obtain⟨ta,tc,rfl,htc,htm,-⟩:=aR.shape ht iL.len;have HE:=ab he;have h6:=he.six;have HF:=ab hf;have HT:=ab ht;have HFP:=ab hfp;have HTP:=ab htp;have HS:=ab hs;obtain⟨fl,hfl⟩: ∃n,n=x.files.length:=⟨_,rfl⟩;obtain⟨tl,htl⟩: ∃n,n=tree.length:=⟨_,rfl⟩;rw[<-hfl]at HF ⊢;rw[<-htl]at HT ⊢;have HFL:=ab hfl
 have HTL:=ab htl;clear he hf ht hfp htp hs hfl htl hfc hfm htc htm;unfold gC dx
 go_enter Tryz.func4,Tryz.ntmps4
 go_upto_region 1 with fail
 obtain⟨W1,hW1⟩: ∃W1,W1=(w.alloc (.cells #[.int .i64 x.tm, .slice fa fl fc] 24)).alloc (.cells #[.int .i64 c.mn, .int .i64 c.mx, .int .i64 c.win, .int .i64 c.bits, .int .u64 (c.seed:Int)] 48):=⟨_,rfl⟩;rw[<-hW1];have HB:=ab (show Below w.heap.size w W1 by rw[hW1]; exact oH _ _ (Below.refl _ _) (Nat.le_refl _));have HX:=ab (show W1.heap[w.heap.size]? =some (.cells #[.int .i64 x.tm, .slice fa fl fc] 24 (0,0)) by rw[hW1]; exact iT (heap_alloc_new w _))
 have HC:=ab (show W1.heap[w.heap.size+1]? =some (.cells #[.int .i64 c.mn, .int .i64 c.mx, .int .i64 c.win, .int .i64 c.bits, .int .u64 (c.seed:Int)] 48 (0,0)) by rw[hW1]; exact ox w _ _);have hw1:w.heap.size+1<W1.heap.size:=lt_of_block HC.out;have hwW:w.heap.size<=W1.heap.size:=by omega
 have HB1:=ab (Below.refl W1.heap.size W1);clear hW1;have p0:=(HB1.out.cell (p:=⟨w.heap.size,0,none⟩) (by show w.heap.size<W1.heap.size; omega)).trans (ac (k:=0) HX.out);have p1:=(HB1.out.cell (p:=⟨w.heap.size,1,none⟩) (by show w.heap.size<W1.heap.size; omega)).trans (ac (k:=1) HX.out);have c0:=(HB1.out.cell (p:=⟨w.heap.size+1,0,none⟩) (by show w.heap.size+1<W1.heap.size; omega)).trans (ac (k:=0) HC.out)
 have c1:=(HB1.out.cell (p:=⟨w.heap.size+1,1,none⟩) (by show w.heap.size+1<W1.heap.size; omega)).trans (ac (k:=1) HC.out);have c2:=(HB1.out.cell (p:=⟨w.heap.size+1,2,none⟩) (by show w.heap.size+1<W1.heap.size; omega)).trans (ac (k:=2) HC.out);have c3:=(HB1.out.cell (p:=⟨w.heap.size+1,3,none⟩) (by show w.heap.size+1<W1.heap.size; omega)).trans (ac (k:=3) HC.out)
 have c4:=(HB1.out.cell (p:=⟨w.heap.size+1,4,none⟩) (by show w.heap.size+1<W1.heap.size; omega)).trans (ac (k:=4) HC.out);simp only[List.getElem?_toArray,bZ]at p0 p1 c0 c1 c2 c3 c4;have HF1:=ab (HF.out.below HB.out);have HT1:=ab (HT.out.below HB.out);have HE1:=ab (HE.out.below HB.out);go_wp2_with (refine(uN _ x _ _ HF1.out HFP.out).mono ?_);rintro e w2 ⟨rfl,hb2⟩
 have HB2:=ab (af HB1.out hb2);clear hb2
 cases hsh:gQ x
 case false=>
  go_wp2_with fail;refine(cS _ (HE.out.keep (HB.out.trans (HB2.out.mono hwW)) h6)).mono ?_;rintro e wz ⟨rfl,hbz⟩;have HBZ:=ab (af (HB.out.trans (HB2.out.mono hwW)) hbz);clear hbz;go_wp2_with fail;go_ret;exact⟨rfl,HBZ.out⟩
 have HSH:=ab hsh;clear hsh p0 p1 c0 c1 c2 c3 c4;have p0:=(HB2.out.cell (p:=⟨w.heap.size,0,none⟩) (by show w.heap.size<W1.heap.size; omega)).trans (ac (k:=0) HX.out);have p1:=(HB2.out.cell (p:=⟨w.heap.size,1,none⟩) (by show w.heap.size<W1.heap.size; omega)).trans (ac (k:=1) HX.out);have c0:=(HB2.out.cell (p:=⟨w.heap.size+1,0,none⟩) (by show w.heap.size+1<W1.heap.size; omega)).trans (ac (k:=0) HC.out)
 have c1:=(HB2.out.cell (p:=⟨w.heap.size+1,1,none⟩) (by show w.heap.size+1<W1.heap.size; omega)).trans (ac (k:=1) HC.out);have c2:=(HB2.out.cell (p:=⟨w.heap.size+1,2,none⟩) (by show w.heap.size+1<W1.heap.size; omega)).trans (ac (k:=2) HC.out);have c3:=(HB2.out.cell (p:=⟨w.heap.size+1,3,none⟩) (by show w.heap.size+1<W1.heap.size; omega)).trans (ac (k:=3) HC.out)
 have c4:=(HB2.out.cell (p:=⟨w.heap.size+1,4,none⟩) (by show w.heap.size+1<W1.heap.size; omega)).trans (ac (k:=4) HC.out);simp only[List.getElem?_toArray,bZ]at p0 p1 c0 c1 c2 c3 c4;go_wp2_with (refine(uR _ tree _ _ (HT1.out.below HB2.out) HTP.out).mono ?_);rintro e w3 ⟨rfl,hb3⟩;have HB3:=ab (af HB2.out hb3);clear hb3
 cases hsm:gR tree
 case false=>
  go_wp2_with fail;refine(cS _ (HE.out.keep (HB.out.trans (HB3.out.mono hwW)) h6)).mono ?_;rintro e wz ⟨rfl,hbz⟩;have HBZ:=ab (af (HB.out.trans (HB3.out.mono hwW)) hbz);clear hbz;go_wp2_with fail;go_ret;exact⟨rfl,HBZ.out⟩
 have HSM:=ab hsm;have hrs:((rules.size:Nat):Int)=(rules.size:Int):=rfl;clear hsm p0 p1 c0 c1 c2 c3 c4;have p0:=(HB3.out.cell (p:=⟨w.heap.size,0,none⟩) (by show w.heap.size<W1.heap.size; omega)).trans (ac (k:=0) HX.out);have p1:=(HB3.out.cell (p:=⟨w.heap.size,1,none⟩) (by show w.heap.size<W1.heap.size; omega)).trans (ac (k:=1) HX.out);have c0:=(HB3.out.cell (p:=⟨w.heap.size+1,0,none⟩) (by show w.heap.size+1<W1.heap.size; omega)).trans (ac (k:=0) HC.out)
 have c1:=(HB3.out.cell (p:=⟨w.heap.size+1,1,none⟩) (by show w.heap.size+1<W1.heap.size; omega)).trans (ac (k:=1) HC.out);have c2:=(HB3.out.cell (p:=⟨w.heap.size+1,2,none⟩) (by show w.heap.size+1<W1.heap.size; omega)).trans (ac (k:=2) HC.out);have c3:=(HB3.out.cell (p:=⟨w.heap.size+1,3,none⟩) (by show w.heap.size+1<W1.heap.size; omega)).trans (ac (k:=3) HC.out)
 have c4:=(HB3.out.cell (p:=⟨w.heap.size+1,4,none⟩) (by show w.heap.size+1<W1.heap.size; omega)).trans (ac (k:=4) HC.out);simp only[List.getElem?_toArray,bZ]at p0 p1 c0 c1 c2 c3 c4
 by_cases h300:300<rules.size
 case pos=>
  go_wp2_with fail;refine(cS _ (HE.out.keep (HB.out.trans (HB3.out.mono hwW)) h6)).mono ?_;rintro e wz ⟨rfl,hbz⟩;have HBZ:=ab (af (HB.out.trans (HB3.out.mono hwW)) hbz);clear hbz;go_wp2_with fail;go_ret;exact⟨rfl,HBZ.out⟩
 go_wp2_with (refine(ud c _).mono ?_);rintro e w4 ⟨rfl,hb4⟩;have HB4:=ab (af HB3.out hb4);clear hb4
 cases hpl:rA c
 case false=>
  go_wp2_with fail;refine(cS _ (HE.out.keep (HB.out.trans (HB4.out.mono hwW)) h6)).mono ?_;rintro e wz ⟨rfl,hbz⟩;have HBZ:=ab (af (HB.out.trans (HB4.out.mono hwW)) hbz);clear hbz;go_wp2_with fail;go_ret;exact⟨rfl,HBZ.out⟩
 by_cases hlt:t2<t1
 case pos=>
  go_wp2_with fail;refine(cS _ (HE.out.keep (HB.out.trans (HB4.out.mono hwW)) h6)).mono ?_;rintro e wz ⟨rfl,hbz⟩;have HBZ:=ab (af (HB.out.trans (HB4.out.mono hwW)) hbz);clear hbz;go_wp2_with fail;go_ret;exact⟨rfl,HBZ.out⟩
 have hle:t1<=t2:=by omega
 clear hpl p0 p1 c0 c1 c2 c3 c4
 go_upto_region 3 with fail
 have p0:=(HB4.out.cell (p:=⟨w.heap.size,0,none⟩) (by show w.heap.size<W1.heap.size; omega)).trans (ac (k:=0) HX.out);have p1:=(HB4.out.cell (p:=⟨w.heap.size,1,none⟩) (by show w.heap.size<W1.heap.size; omega)).trans (ac (k:=1) HX.out);have c0:=(HB4.out.cell (p:=⟨w.heap.size+1,0,none⟩) (by show w.heap.size+1<W1.heap.size; omega)).trans (ac (k:=0) HC.out);have c1:=(HB4.out.cell (p:=⟨w.heap.size+1,1,none⟩) (by show w.heap.size+1<W1.heap.size; omega)).trans (ac (k:=1) HC.out)
 have c2:=(HB4.out.cell (p:=⟨w.heap.size+1,2,none⟩) (by show w.heap.size+1<W1.heap.size; omega)).trans (ac (k:=2) HC.out);have c3:=(HB4.out.cell (p:=⟨w.heap.size+1,3,none⟩) (by show w.heap.size+1<W1.heap.size; omega)).trans (ac (k:=3) HC.out);have c4:=(HB4.out.cell (p:=⟨w.heap.size+1,4,none⟩) (by show w.heap.size+1<W1.heap.size; omega)).trans (ac (k:=4) HC.out)
 simp only[List.getElem?_toArray,bZ]at p0 p1 c0 c1 c2 c3 c4;have HF4:=ab (HF1.out.below HB4.out);have HT4:=ab (HT1.out.below HB4.out);have HE4:=ab (HE.out.keep (HB.out.trans (HB4.out.mono hwW)) h6);go_wp2_with (refine(gO _ _ x _ _ t1 tree rules c _ HF4.out HT4.out HE4.out HS.out (kE HSH.out)).mono ?_);intro e w5 h5
 cases hsc:cE x t1 tree (bl rules) c with
 | error y=>
  rw[hsc]at h5;obtain⟨hb5,rfl,hy⟩:=h5;unfold te;have HB5:=ab (af HB4.out hb5);have hwz:w.heap.size<=w5.heap.size:=by have:=HB5.out.size; omega
  clear hb5;go_wp2_with fail;refine(cS _ (HE.out.keep ((HB.out.trans (HB5.out.mono hwW)).alloc hwz _) h6)).mono ?_;rintro e wz ⟨rfl,hbz⟩;have HBZ:=ab (af ((HB.out.trans (HB5.out.mono hwW)).alloc hwz _) hbz);clear hbz;go_wp2_with fail;go_ret;exact⟨rfl,HBZ.out⟩
 | ok r=>
  rw[hsc]at h5;obtain⟨fa1,fn1,fc1,ca1,cn1,cc1,na1,nn1,nc1,rfl,hb5,hf5,hfn5,-,-⟩:=sQ h5;have HSC:=ab hsc;have HB5:=ab (af HB4.out hb5);have HF5:=ab hf5;have HN5:=ab hfn5;have hz5:=hb5.size;clear hsc h5 hb5 hf5 hfn5 p0 p1 c0 c1 c2 c3 c4
  go_upto_region 6 with fail
  obtain⟨W6,hW6⟩: ∃W6,W6=w5.alloc (.cells #[.int .i64 r.idx.tm, .slice fa1 fn1 fc1, .slice ca1 cn1 cc1, .slice na1 nn1 nc1, .int .i64 (r.read:Int), .int .i64 (r.kept:Int)] 54):=⟨_,rfl⟩;rw[<-hW6];have HY6:=ab (show W6.heap[w5.heap.size]? =some (.cells #[.int .i64 r.idx.tm, .slice fa1 fn1 fc1, .slice ca1 cn1 cc1, .slice na1 nn1 nc1, .int .i64 (r.read:Int), .int .i64 (r.kept:Int)] 54 (0,0)) by rw[hW6]; exact heap_alloc_new w5 _)
  have HBZ6:=ab (show Below w5.heap.size w5 W6 by rw[hW6]; exact(Below.refl _ _).alloc (Nat.le_refl _) _);have HB6:=ab (af HB5.out HBZ6.out);have HF6:=ab (HF5.out.below HBZ6.out);have HT6:=ab (HT1.out.below HB6.out);have HE6:=ab (HE.out.keep (HB.out.trans (HB6.out.mono hwW)) h6);clear hW6;have p0:=(HB6.out.cell (p:=⟨w.heap.size,0,none⟩) (by show w.heap.size<W1.heap.size; omega)).trans (ac (k:=0) HX.out)
  have p1:=(HB6.out.cell (p:=⟨w.heap.size,1,none⟩) (by show w.heap.size<W1.heap.size; omega)).trans (ac (k:=1) HX.out);have c0:=(HB6.out.cell (p:=⟨w.heap.size+1,0,none⟩) (by show w.heap.size+1<W1.heap.size; omega)).trans (ac (k:=0) HC.out);have c1:=(HB6.out.cell (p:=⟨w.heap.size+1,1,none⟩) (by show w.heap.size+1<W1.heap.size; omega)).trans (ac (k:=1) HC.out)
  have c2:=(HB6.out.cell (p:=⟨w.heap.size+1,2,none⟩) (by show w.heap.size+1<W1.heap.size; omega)).trans (ac (k:=2) HC.out);have c3:=(HB6.out.cell (p:=⟨w.heap.size+1,3,none⟩) (by show w.heap.size+1<W1.heap.size; omega)).trans (ac (k:=3) HC.out);have c4:=(HB6.out.cell (p:=⟨w.heap.size+1,4,none⟩) (by show w.heap.size+1<W1.heap.size; omega)).trans (ac (k:=4) HC.out)
  simp only[List.getElem?_toArray,bZ]at p0 p1 c0 c1 c2 c3 c4;have y0:=ac (k:=0) HY6.out;have y1:=ac (k:=1) HY6.out;have y2:=ac (k:=2) HY6.out;have y3:=ac (k:=3) HY6.out;have y4:=ac (k:=4) HY6.out;have y5:=ac (k:=5) HY6.out;simp only[List.getElem?_toArray,bZ]at y0 y1 y2 y3 y4 y5;obtain⟨hfr,hrk,hpl⟩:=rH HSC.out (mj HSM.out).2 (kE HSH.out)
  have HPL:=ab hpl;have h16:=(mj HSM.out).1;clear hpl;go_wp2_with (refine(gO _ _ r.idx _ _ t2 tree rules c _ HF6.out.at HT6.out HE6.out HS.out HPL.out).mono ?_);intro e w7 h7;obtain⟨r2,hr2,hchg,hnew,hrd,hsum⟩:=rI HSC.out hle;rw[hr2]at h7;obtain⟨fa2,fn2,fc2,ca2,cn2,cc2,na2,nn2,nc2,rfl,hb7,-,-,hcn,hnn⟩:=sQ h7;rw[hchg]at hcn;rw[hnew]at hnn
  dsimp only[List.length_nil]at hcn hnn
  subst hcn hnn;have HB7:=ab (af HB6.out hb7);have HBZ7:=ab hb7;have hz7:=hb7.size;obtain⟨rd2,hrd2⟩: ∃n,n=r2.read:=⟨_,rfl⟩;obtain⟨kp2,hkp2⟩: ∃n,n=r2.kept:=⟨_,rfl⟩;rw[<-hrd2,<-hkp2];rw[<-hrd2]at hrd;rw[<-hrd2,<-hkp2]at hsum;have HRD:=ab (show rd2=oX t1 r.idx.files from hrd);clear h7 hb7 hr2 hchg hnew hrd hrd2 hkp2 y0 y1 y2 y3 y4 y5 p0 p1 c0 c1 c2 c3 c4
  go_upto_region 7 with fail
  obtain⟨W8,hW8⟩: ∃W8,W8=w7.alloc (.cells #[.int .i64 r2.idx.tm, .slice fa2 fn2 fc2, .slice ca2 0 cc2, .slice na2 0 nc2, .int .i64 (rd2:Int), .int .i64 (kp2:Int)] 54):=⟨_,rfl⟩;rw[<-hW8];have HZ8:=ab (show W8.heap[w7.heap.size]? =some (.cells #[.int .i64 r2.idx.tm, .slice fa2 fn2 fc2, .slice ca2 0 cc2, .slice na2 0 nc2, .int .i64 (rd2:Int), .int .i64 (kp2:Int)] 54 (0,0)) by rw[hW8]; exact heap_alloc_new w7 _)
  have HBZ8:=ab (show Below W6.heap.size W6 W8 by rw[hW8]; exact HBZ7.out.alloc hz7 _);have HB8:=ab (af HB6.out HBZ8.out);have HF8:=ab (HF6.out.below HBZ8.out).at
  have HY8:=ab ((HBZ8.out.block _ (lt_of_block HY6.out)).trans HY6.out);have hcL:=HN5.out;obtain⟨nf,hnf⟩: ∃n,n=r.idx.files.length:=⟨_,rfl⟩;rw[<-hnf]at hfr hcL;have HNF:=ab hnf;subst hcL;have HR:=ab (show rd2+kp2=r.read+r.kept from hsum);obtain⟨rd1,hrd1⟩: ∃n,n=r.read:=⟨_,rfl⟩;obtain⟨kp1,hkp1⟩: ∃n,n=r.kept:=⟨_,rfl⟩;rw[<-hrd1,<-hkp1]at HR HY8;rw[<-hrd1,<-hkp1]at hrk
  rw[<-hrd1,<-hkp1];have hrk2:=HR.out;clear hW8 hnf hrd1 hkp1 hsum;have y0:=ac (k:=0) HY8.out;have y1:=ac (k:=1) HY8.out;have y2:=ac (k:=2) HY8.out;have y3:=ac (k:=3) HY8.out;have y4:=ac (k:=4) HY8.out;have y5:=ac (k:=5) HY8.out;simp only[List.getElem?_toArray,bZ]at y0 y1 y2 y3 y4 y5;have z0:=ac (k:=0) HZ8.out;have z1:=ac (k:=1) HZ8.out
  have z2:=ac (k:=2) HZ8.out;have z3:=ac (k:=3) HZ8.out;have z4:=ac (k:=4) HZ8.out;have z5:=ac (k:=5) HZ8.out;simp only[List.getElem?_toArray,bZ]at z0 z1 z2 z3 z4 z5;clear y2 y3 z0 z1;go_wp2_with fail
  go_loopw [17,18] (fun s i wr=> ∃k:Nat,k<=fn1/\i= .int .i64 k/\s= .int .i64 ((oX t1 (r.idx.files.take k):Nat):Int)/\wr=W8) (fun _ i _=>fn1-(intOf i).toNat)
  case atStart=>exact⟨0,Nat.zero_le _,rfl,rfl,rfl⟩
  case round=>
   obtain⟨k,hk,rfl,rfl,rfl⟩:=hrel;obtain⟨m,hm⟩: ∃m,m=oX t1 (r.idx.files.take k):=⟨_,rfl⟩;have hmk:m<=k:=by
    rw[hm]; exact Nat.le_trans (zb _ _) (List.length_take_le _ _)
   have HM:=ab hm;rw[<-hm];clear hm
   by_cases hlt':k<fn1
   ·obtain⟨f,hf⟩: ∃f,r.idx.files[k]? =some f:=⟨_,List.getElem?_eq_getElem (show k<r.idx.files.length by rw[<-HNF.out]; exact hlt')⟩;obtain⟨b,o,pa,pc,rfl,-,-,-,-,hcl⟩:=dC HF8.out (Below.refl _ _) hf;have q1:=hcl 1 (by omega);have q3:=hcl 3 (by omega);simp only[bT,bZ]at q1 q3;have HS1:=ab (show oX t1 (r.idx.files.take (k+1))=m+(if f.kind=1/\t1<=f.time then 1 else 0) by rw[aY hf,vS,<-HM.out])
    clear hf hcl
    by_cases hk1:f.kind=1
    ·by_cases ht1:t1<=f.time
     ·have HS2:=ab (HS1.out.trans (by rw[if_pos ⟨hk1,ht1⟩]));go_wp2_with fail
      go_roundw
      case rel=>exact⟨k+1,by omega,rfl,by rw[HS2.out]; rfl,trivial⟩
      case measure=>simp only[intOf,Int.toNat_natCast]; omega
     ·have HS2:=ab (HS1.out.trans (by rw[if_neg (fun h=>ht1 h.2)]));go_wp2_with fail
      go_roundw
      case rel=>exact⟨k+1,by omega,rfl,by rw[HS2.out]; rfl,trivial⟩
      case measure=>simp only[intOf,Int.toNat_natCast]; omega
    ·have HS2:=ab (HS1.out.trans (by rw[if_neg (fun h=>hk1 h.1)]));go_wp2_with fail
     go_roundw
     case rel=>exact⟨k+1,by omega,rfl,by rw[HS2.out]; rfl,trivial⟩
     case measure=>simp only[intOf,Int.toNat_natCast]; omega
   ·have hkn:k=fn1:=by omega
    subst hkn;have hmr:m=rd2:=by rw[HM.out,HRD.out,List.take_of_length_le (by rw[<-HNF.out]; exact Nat.le_refl _)]
    subst hmr;go_wp2_with fail;refine(cS _ (HE.out.keep (HB.out.trans (HB8.out.mono hwW)) h6)).mono ?_;rintro e wz ⟨rfl,hbz⟩;have HBZ:=ab (af (HB.out.trans (HB8.out.mono hwW)) hbz);have HZ9:=ab ((hbz.block _ (lt_of_block HZ8.out)).trans HZ8.out);clear hbz y0 y1 y4 y5 z2 z3 z4 z5;have z0:=ac (k:=0) HZ9.out;have z1:=ac (k:=1) HZ9.out;have z2:=ac (k:=2) HZ9.out
    have z3:=ac (k:=3) HZ9.out;have z4:=ac (k:=4) HZ9.out;have z5:=ac (k:=5) HZ9.out;simp only[List.getElem?_toArray,bZ]at z0 z1 z2 z3 z4 z5;go_wp2_with fail;go_ret;exact⟨rfl,HBZ.out⟩
end Go.Proofs.YtnjkpcalgoefhaaGreatDoor
namespace Go.Proofs.YtnjkpcalgoefhaaGreatDoor
open Go.ChangeShapes Go.WideShapes Go.ChangeAt Go.RowKit Go.Lib Go.Shelf
open Go.ChangeMaps (open_string shut_string)
section
variable {H : Type} {enc : TypeId × Value → H}
theorem zi {a:Assume} {C:Checked} {os:Os} {f:FuncId} {fn:Func} {s:ChangeSpec} {conds:List PathCond} {apart fresh handsOn again:Bool} {X:World->Array Value->Prop}
  (hX: ∀(w w':World) (args:Array Value),w.heap=w'.heap->X w args->X w' args)
  (own:ownKnob C.prog.godebug=none) (started:os.Started) (noInit:C.prog.inits.idxOf? f=none) (hfn:C.prog.funcs[f]? =some fn)
  (witness: ∃(w:World) (tape:Tape) (i:Input),w.os=os/\(w.forCall tape i).Shaped C.prog/\i.vars=[]/\Input.okWide C.prog (w.forCall tape i) .any w.heap.size f i/\
   ((s.pre enc C.prog fn conds apart (w.forCall tape i).memory i.args/\X (w.forCall tape i).memory i.args)/\sizedMet enc C.prog fn (OpenSpec.ofChange s) apart (w.forCall tape i).memory i.args)/\a.holds C.prog (lone (Frame.enter C.prog f i.args .normal) [] (w.forCall tape i)))
  (contract: ∀(W:World) (base:Nat) (args:Array Value) (ds gs:List (DataW H)) (before:List MemPlace),
   (∀(j:Nat) t v,fn.params[j]? =some t->args[j]? =some v->Value.okWide C.prog W .any base t v)->
   DataW.Whole enc C.prog fn.params.toList s.vars apart W args.toList ds gs before->
   (DataW.weightsEach C.prog (fn.params.toList++s.plain.varTypes C.prog) (ds++gs)).all (· <=reachBytes)=true->X W args->W.ShapedOpen C.prog->
   Calls C.prog f args W fun e W'=> ∃v,e= .returned v/\s.post enc C.prog fn apart fresh handsOn again W args v W'):
  ReturnsInHanded a C os f .any (fun w args=>(s.pre enc C.prog fn conds apart w args/\X w args)/\sizedMet enc C.prog fn (OpenSpec.ofChange s) apart w args) (s.post enc C.prog fn apart fresh handsOn again):=by
 refine returnsInHanded_of_calls own started noInit witness ?_;intro w tape i _ hsh _ hok hpre hholds;obtain⟨_,_,_,fn',hfn',_,_,_,_,hval⟩:=hok;have e:fn'=fn:=Option.some.inj (hfn'.symm.trans hfn);subst e;obtain⟨⟨⟨ds,gs,before,hw,hc⟩,hx⟩,hz⟩:=hpre;have hw':=DataW.Whole.of_heap (w':=w.forCall tape i) (by rfl) hw;refine(contract (w.forCall tape i) w.heap.size i.args ds gs before hval hw' (hz.weights hw) (hX _ _ _ (by rfl) hx) hsh).mono fun e W' ⟨v,he,hp⟩=> ?_
 subst he;exact ChangeSpec.post_blind hp
end
def pI :List (String×DataW Unit):=[("math/bits.deBruijn64tab",Rows.laid_math_bits_deBruijn64tab),("kinkeep/sha256.initial",Rows.laid_kinkeep_sha256_initial),("kinkeep/sha256.constants",Rows.laid_kinkeep_sha256_constants),("unicode/utf8.acceptRanges",Rows.laid_unicode_utf8_acceptRanges),("unicode/utf8.first",Rows.laid_unicode_utf8_first)]
theorem own :ownKnob Tryz.prog.godebug=none:=by kernel_rfl
theorem ti :(Rows.laid_unicode_utf8_acceptRanges:DataW Unit)=acceptData:=by kernel_rfl
theorem tn :(Rows.laid_math_bits_deBruijn64tab:DataW Unit)=tabData .u8 (Lib.deBruijn64tab.map fun(n:Nat)=>(n:Int)):=by kernel_rfl
theorem qZ :(Rows.laid_kinkeep_sha256_initial:DataW Unit)=tabData .u32 (ke.list.map fun(n:Nat)=>(n:Int)):=by kernel_rfl
theorem oc :(Rows.laid_kinkeep_sha256_constants:DataW Unit)=tabData .u32 (kc.map fun(n:Nat)=>(n:Int)):=by kernel_rfl
theorem jY {P:Program} {w:World} {n:String} {k:IntKind} {zs:List Int} {g:Nat} {t e:TypeId} {N:Nat} (hg:P.globalNamed n=some g) (hty:(P.globals[g]?).map (·.type)=some t)
  (ht:P.underlying t=some (.array N e)) (he:P.underlying e=some (.int k)) (hce:P.cellsOf e=1) (hct:P.cellsOf t=N) (h:VarReads P w n (tabData k zs)) (j:Nat):w.cell? ⟨g,j,none⟩=(zs.map fun z=>Value.int k z)[j]? :=by
 obtain⟨g',t',cs,fuel,p,hg',hty',hvar,hd⟩:=h;obtain rfl:=Option.some.inj (hg.symm.trans hg');obtain rfl:=Option.some.inj (hty.symm.trans hty');rw[World.var?_cell hg hvar j,<-Array.getElem?_toList,cells_of_tab ht he hce hct hd]
theorem oa {w:World} {b k:Nat} {v:Value} (h:w.cell? ⟨b,k,none⟩=some v):b<w.heap.size:=by
 by_cases hb:b<w.heap.size
 ·exact hb
 ·exfalso
  have:w.heap[b]? =none:=Array.getElem?_eq_none (by omega);simp[World.cell?,this]at h
theorem zf {W:World} (hL:laidMetH Tryz.prog pI W) (hsh:W.ShapedOpen Tryz.prog):gm W:=by
 rw[MakeChecks.laidMetH_plain _ _ _ (by kernel_rfl)]at hL;have h1:=Lib.laidMet.reads hL (.head _);have h2:=Lib.laidMet.reads hL (.tail _ (.head _));have h3:=Lib.laidMet.reads hL (.tail _ (.tail _ (.head _)));have h4:=Lib.laidMet.reads hL (.tail _ (.tail _ (.tail _ (.head _))));have h5:=Lib.laidMet.reads hL (.tail _ (.tail _ (.tail _ (.tail _ (.head _)))));rw[tn]at h1;rw[qZ]at h2
 rw[oc]at h3;rw[ti]at h4;have c1:=jY (g:=5) (t:=240) (e:=5) (N:=64) (by kernel_rfl) (by kernel_rfl) (by kernel_rfl) (by kernel_rfl) (by kernel_rfl) (by kernel_rfl) h1;have c2:=jY (g:=1) (t:=101) (e:=100) (N:=8) (by kernel_rfl) (by kernel_rfl) (by kernel_rfl) (by kernel_rfl) (by kernel_rfl) (by kernel_rfl) h2;have c3:=jY (g:=4) (t:=156) (e:=100) (N:=64) (by kernel_rfl) (by kernel_rfl) (by kernel_rfl) (by kernel_rfl) (by kernel_rfl) (by kernel_rfl) h3
 have hI:gp W:=fun j x hj=>by
  rw[c2 j];simp[hj,er]
 have hK:eI W:=fun j x hj=>by
  rw[c3 j];simp[hj,er]
 have hD:TabAt 5 Lib.deBruijn64tab W:=fun j hj=>by
  rw[c1 j];simp[hj]
 have hi0:=hI 0 0x6a09e667 rfl;have hk0:=hK 0 0x428a2f98 rfl;have hd0:=hD 0 (by decide);refine⟨⟨?_, ?_⟩,hI,hK,oa hi0,oa hk0,⟨hD,oa hd0⟩⟩
 ·exact cell_of_shapedOpen_int (zero:= #[.int .i64 0]) (t:=3) hsh (of_decide_eq_true (by kernel_rfl)) (by kernel_rfl) rfl (by kernel_rfl) (by kernel_rfl) Tryz.underlying3
 ·exact utf8Tabs_of_readsT (U8Types.of196 Tryz.laysValid) ⟨by kernel_rfl,by kernel_rfl,by kernel_rfl,by kernel_rfl,by kernel_rfl,by kernel_rfl,by kernel_rfl⟩ (Pinned.utf8First_eq▸h5) h4
end Go.Proofs.YtnjkpcalgoefhaaGreatDoor
namespace Go.Proofs.YtnjkpcalgoefhaaGreatDoor
open Go.ChangeShapes Go.WideShapes Go.ChangeAt Go.RowKit Go.Lib Go.Shelf
section
variable {H : Type} {enc : TypeId × Value → H} {P : Program} {W : World} {base b0 : Nat} {spare : Nat → Bool} {held : Bool} {v : Value} {d : DataW H} {ps : List MemPlace}
theorem xH (a:Addr) (i j:Nat):(a.add i).add j=a.add (i+j):=by
 unfold Addr.add
 by_cases hi:i=0
 ·simp[hi]
 ·by_cases hj:j=0
  ·simp[hi,hj]
  ·simp[hi,hj]; omega
def ek (P:Program) (t:TypeId) (d:DataW H):Prop:=(d.weights P t).all (fun x=>decide (x<=reachBytes))=true
theorem nu {P:Program} {e:TypeId} : ∀ {ds:List (DataW H)} {d:DataW H},d∈ds->(DataW.weightsAll P e ds).all (fun x=>decide (x<=reachBytes))=true->ek P e d
 | [],d,h,_=>by simp at h
 | a::ds,d,h,hw=>by
  rw[DataW.weightsAll,List.all_append,Bool.and_eq_true]at hw
  rcases List.mem_cons.1 h with rfl | h
  ·exact hw.1
  ·exact nu h hw.2
theorem fQ {P:Program} : ∀ {ts:List TypeId} {ds:List (DataW H)} {i:Nat} {t:TypeId} {d:DataW H},ts[i]? =some t->ds[i]? =some d->(DataW.weightsEach P ts ds).all (fun x=>decide (x<=reachBytes))=true->ek P t d
 | [],_,_,_,_,h,_,_=>by simp at h
 | _::_,[],_,_,_,_,h,_=>by simp at h
 | t0::ts,d0::ds,0,t,d,h1,h2,hw=>by
  simp at h1 h2;subst h1 h2;rw[DataW.weightsEach,List.all_append,Bool.and_eq_true]at hw;exact hw.1
 | t0::ts,d0::ds,i+1,t,d,h1,h2,hw=>by
  rw[DataW.weightsEach,List.all_append,Bool.and_eq_true]at hw;exact fQ (by simpa using h1) (by simpa using h2) hw.2
theorem pZ {P:Program} {t e:TypeId} {es rest:List (DataW H)} (ht:P.underlying t=some (.slice e)) (h:ek P t (.slice es rest)):es.length*P.bytesOf e<=reachBytes/\ ∀d∈es,ek P e d:=by
 unfold ek at h;rw[DataW.weights,ht]at h;simp only[List.all_cons,List.all_append,Bool.and_eq_true,decide_eq_true_eq]at h;exact⟨Nat.le_trans (Nat.mul_le_mul_right _ (by omega)) h.1,fun d hd=>nu hd h.2.1⟩
theorem oE {P:Program} {t:TypeId} {fs:Array Field} {parts:List (DataW H)} (ht:P.underlying t=some (.struct fs)) (h:ek P t (.agg parts)) {i:Nat} {f:Field} {d:DataW H} (hf:fs[i]? =some f) (hd:parts[i]? =some d):ek P f.type d:=by
 unfold ek at h;rw[DataW.weights,ht]at h;exact fQ (i:=i) (by simp[hf]) hd h
theorem gz {P:Program} {t:TypeId} {fs:Array Field} {fuel:Nat} {cs:List Value} {x:DataW H×List MemPlace} (ht:P.underlying t=some (.struct fs)) (h:DataW.trod enc P W base spare held fuel t cs=some x) (hL:ek P t x.1) (i:Nat) {f:Field} (hf:fs[i]? =some f):
  ∃n y,DataW.trod enc P W base spare held n f.type ((cs.drop f.offset).take (P.cellsOf f.type))=some y/\ek P f.type y.1:=by
 obtain⟨xs,n,_,hx,_,hlen,hF⟩:=DataW.trod_struct ht h;have hi:i<xs.length:=by rw[hlen]; exact(Array.getElem?_eq_some_iff.1 hf).1
 refine⟨n,xs[i],by rw[hF i f hf]; simp[hi], ?_⟩;rw[hx]at hL;exact oE ht hL hf (by simp[hi])
theorem iv {α:Type} {P:Program} {R:List Value->α->Prop} {t e:TypeId} {sz:Nat} {fuel:Nat} {cs0:List Value} {y0:DataW H×List MemPlace} (ht:P.underlying t=some (.slice e)) (hc:P.cellsOf e=sz) (hpos:0<sz)
  (hR: ∀n cs y,DataW.trod enc P W base spare held n e cs=some y->ek P e y.1-> ∃x,R cs x) (hs: ∀c x,R c x->c.length=sz)
  (hf:DataW.trod enc P W base spare held fuel t cs0=some y0) (hL:ek P t y0.1): ∃v,cs0=[v]/\ ∃xs:List α,aR (fun _=>True) W sz R v xs/\xs.length*P.bytesOf e<=reachBytes:=by
 rcases DataW.trod_slice ht hf with⟨hcs,_⟩ | ⟨a,len0,cap0,elems,rest,n,_,hcs,hy0,hb,hl,hm,hlen,hel,_,_⟩
 ·exact⟨_,hcs,[],aR.nil,by simp⟩
 ·refine⟨_,hcs, ?_⟩;rw[hc]at hel;rw[hy0]at hL;obtain⟨hL1,hL2⟩:=pZ ht hL;rw[List.length_map,hlen]at hL1;have each: ∀i,i<len0-> ∃cs x,R cs x/\cs.length=sz/\ ∀j,j<sz->W.cell? (a.add (i*sz+j))=cs[j]? :=by
   intro i hi;have h1:=hel i hi;rw[List.getElem?_eq_getElem (by omega),Option.bind_eq_some_iff]at h1;obtain⟨cs,hcs,hy⟩:=h1;obtain⟨x,hx⟩:=hR n cs _ hy (hL2 _ (List.mem_map.2 ⟨_,List.getElem_mem (by omega),rfl⟩));refine⟨cs,x,hx,hs cs x hx,fun j hj=> ?_⟩;have h3:=World.cells?_some hcs;rw[<-xH];exact h3.2.2 j hj
  have main: ∀m,m<=len0-> ∃(cells:List Value) (xs:List α),xs.length=m/\cells.length=m*sz/\be R cells xs/\ ∀(j:Nat) u,cells[j]? =some u->W.cell? (a.add j)=some u:=by
   intro m
   induction m with
   | zero=>intro _; exact⟨[],[],rfl,by simp,rfl,fun j u hj=>by simp at hj⟩
   | succ m ih=>
    intro hm;obtain⟨cells,xs,h1,h2,h3,h4⟩:=ih (by omega);obtain⟨cs,x,hx,hcl,hcc⟩:=each m (by omega);refine⟨cells++cs,xs++[x],by simp[h1],by rw[List.length_append,h2,hcl,Nat.add_mul]; omega,be.snoc h3 hx,fun j u hj=> ?_⟩
    rcases Nat.lt_or_ge j cells.length with hj2 | hj2
    ·rw[List.getElem?_append_left hj2]at hj; exact h4 j u hj
    ·rw[List.getElem?_append_right hj2]at hj;have hlt:=(List.getElem?_eq_some_iff.1 hj).1;have:=hcc (j-cells.length) (by omega);rw[h2,show m*sz+(j-m*sz)=j by omega]at this;rw[this,<-h2]; exact hj
  obtain⟨cells,xs,h1,h2,h3,h4⟩:=main len0 (Nat.le_refl _);subst h1;refine⟨xs,⟨cells,⟨h2,some a,cap0,rfl,hl,hm, ?_⟩,h3⟩,hL1⟩
  rcases Nat.eq_zero_or_pos xs.length with h0 | h0
  ·exact .inl h0
  ·right
   have hpl:0<cells.length:=by rw[h2]; exact Nat.mul_pos h0 hpos
   have hc0:=h4 0 cells[0] (by simp[hpl]);have hsp:a.spot=none:=by simpa [Addr.add]using World.cell?_spot hc0
   obtain⟨b,o,sp⟩:=a;simp only at hsp;subst hsp;refine⟨b,o,rfl,trivial,fun j u hj=> ?_⟩;have:=h4 j u hj;rw[nU]at this; exact this
end
section
variable {H : Type} {enc : TypeId × Value → H} {W : World} {base b0 : Nat} {spare : Nat → Bool} {held : Bool} {v : Value} {d : DataW H} {ps : List MemPlace}
theorem bb {P:Program} {t:TypeId} {fs:Array Field} {fuel:Nat} {cs:List Value} {x:DataW H×List MemPlace} (ht:P.underlying t=some (.struct fs)) (h:DataW.trod enc P W base spare held fuel t cs=some x) (i:Nat) {f:Field} (hf:fs[i]? =some f):
  ∃n y,DataW.trod enc P W base spare held n f.type ((cs.drop f.offset).take (P.cellsOf f.type))=some y:=by
 obtain⟨xs,n,_,_,_,hlen,hF⟩:=DataW.trod_struct ht h;have hi:i<xs.length:=by rw[hlen]; exact(Array.getElem?_eq_some_iff.1 hf).1
 exact⟨n,xs[i],by rw[hF i f hf]; simp[hi]⟩
theorem eY {P:Program} {t:TypeId} {fs:Array Field} {fuel:Nat} {cs:List Value} {x:DataW H×List MemPlace} (ht:P.underlying t=some (.struct fs)) (h:DataW.trod enc P W base spare held fuel t cs=some x):cs.length=P.cellsOf t:=by
 obtain⟨xs,n,_,_,hl,_,_⟩:=DataW.trod_struct ht h;exact hl
theorem lg :Tryz.prog.cellsOf 9=1:=by kernel_rfl
theorem gt :Tryz.prog.cellsOf 3=1:=by kernel_rfl
theorem xO :Tryz.prog.cellsOf 5=1:=by kernel_rfl
theorem tu :Tryz.prog.cellsOf 28=1:=by kernel_rfl
theorem oT :Tryz.prog.cellsOf 30=6:=by kernel_rfl
theorem zB {α:Type} {cs:List α} (h:cs.length=6): ∃c0 c1 c2 c3 c4 c5,cs=[c0,c1,c2,c3,c4,c5]:=by
 match cs,h with
 | [c0,c1,c2,c3,c4,c5],_=>exact⟨c0,c1,c2,c3,c4,c5,rfl⟩
def oK (c:List Value) (b:UInt8):Prop:=c=[aP b]
theorem ue {n:Nat} {cs:List Value} {y:DataW H×List MemPlace} (h:DataW.trod enc Tryz.prog W base spare held n 5 cs=some y): ∃b,oK cs b:=by
 obtain⟨a,e,_,hw⟩:=DataW.trod_int Tryz.underlying5 h;have h1:0<=a/\a<=255:=by
  simp only[Lit.wf,Bool.and_eq_true,decide_eq_true_eq]at hw;exact⟨hw.1,hw.2⟩
 refine⟨UInt8.ofNat a.toNat, ?_⟩;unfold oK;rw[tp (by omega),e,Int.toNat_of_nonneg h1.1]
theorem nZ {S:Nat->Prop} {w:World} {v:Value} {bs:List UInt8} (h:aR S w 1 oK v bs):aV S w v bs:=by
 obtain⟨cells,h1,h2⟩:=h;have: ∀(bs:List UInt8) (cells:List Value),be oK cells bs->cells=bs.map aP:=by
  intro bs
  induction bs with
  | nil=>intro cells h; exact h
  | cons x bs ih=>
   rintro cells ⟨c,rest,rfl,hc,hr⟩;rw[ih rest hr,show c=[aP x]from hc]; rfl
 rw[this bs cells h2]at h1;exact h1
theorem vA {v:Value} {l:List Value} (h:v.cells.toList=l) (hl:1<l.length):v= .agg l.toArray:=by
 cases v
 case agg cs=>simp only[Value.cells]at h; rw[<-h]
 all_goals (exfalso; simp only[Value.cells]at h; rw[<-h]at hl; simp at hl)
theorem qP {S:Nat->Prop} {w:World} {v:Value} {bs:List UInt8} (h:aV S w v bs):bM S w v bs:=h
theorem vM :Tryz.prog.cellsOf 46=1:=by kernel_rfl
theorem mW :Tryz.prog.cellsOf 62=2:=by kernel_rfl
theorem qJ :Tryz.prog.cellsOf 25=1:=by kernel_rfl
theorem mV :Tryz.prog.cellsOf 27=7:=by kernel_rfl
theorem qI :Tryz.prog.cellsOf 22=1:=by kernel_rfl
theorem vL :Tryz.prog.cellsOf 24=2:=by kernel_rfl
theorem vK :Tryz.prog.cellsOf 48=5:=by kernel_rfl
theorem xN :Tryz.prog.bytesOf 5=1:=by kernel_rfl
theorem tq :Tryz.prog.bytesOf 62=24:=by kernel_rfl
theorem yQ {α:Type} {cs:List α} (h:cs.length=2): ∃c0 c1,cs=[c0,c1]:=by
 match cs,h with
 | [c0,c1],_=>exact⟨c0,c1,rfl⟩
theorem zA {α:Type} {cs:List α} (h:cs.length=5): ∃c0 c1 c2 c3 c4,cs=[c0,c1,c2,c3,c4]:=by
 match cs,h with
 | [c0,c1,c2,c3,c4],_=>exact⟨c0,c1,c2,c3,c4,rfl⟩
theorem zC {α:Type} {cs:List α} (h:cs.length=7): ∃c0 c1 c2 c3 c4 c5 c6,cs=[c0,c1,c2,c3,c4,c5,c6]:=by
 match cs,h with
 | [c0,c1,c2,c3,c4,c5,c6],_=>exact⟨c0,c1,c2,c3,c4,c5,c6,rfl⟩
theorem lX {α:Type} {R:List Value->α->Prop} {X:α->Prop} : ∀ {xs:List α} {cells:List Value},be (fun c x=>R c x/\X x) cells xs->be R cells xs/\ ∀x∈xs,X x
 | [],_,h=>⟨h,by simp⟩
 | x::xs,_,⟨c,rest,e,hx,hr⟩=>by
  obtain⟨h1,h2⟩:=lX hr;refine⟨⟨c,rest,e,hx.1,h1⟩,fun y hy=> ?_⟩
  rcases List.mem_cons.1 hy with rfl | hy
  ·exact hx.2
  ·exact h2 y hy
theorem rB {n:Nat} {cs:List Value} {y:DataW H×List MemPlace} (h:DataW.trod enc Tryz.prog W base spare held n 28 cs=some y) (hL:ek Tryz.prog 28 y.1): ∃v,cs=[v]/\ ∃bs,bM (fun _=>True) W v bs/\bs.length<=1125899906842624:=by
 obtain⟨v,h1,bs,h2,hb⟩:=iv (R:=oK) Tryz.underlying28 xO (by omega) (fun n cs y hy _=>ue hy) (fun c x hc=>by rw[show c=[aP x]from hc]; rfl) h hL;rw[xN]at hb;unfold reachBytes at hb;exact⟨v,h1,bs,qP (nZ h2),by omega⟩
theorem uf {n:Nat} {cs:List Value} {y:DataW H×List MemPlace} (h:DataW.trod enc Tryz.prog W base spare held n 30 cs=some y) (hL:ek Tryz.prog 30 y.1): ∃e,iL (fun _=>True) W cs e/\e.data.length<=1125899906842624:=by
 have hl:=eY Tryz.underlying30 h;rw[oT]at hl;obtain⟨c0,c1,c2,c3,c4,c5,rfl⟩:=zB hl;obtain⟨n0,y0,h0⟩:=bb Tryz.underlying30 h 0 rfl;obtain⟨n1,y1,h1⟩:=bb Tryz.underlying30 h 1 rfl;obtain⟨n2,y2,h2⟩:=bb Tryz.underlying30 h 2 rfl;obtain⟨n3,y3,h3⟩:=bb Tryz.underlying30 h 3 rfl;obtain⟨n4,y4,h4,hL4⟩:=gz Tryz.underlying30 h hL 4 rfl
 obtain⟨n5,y5,h5⟩:=bb Tryz.underlying30 h 5 rfl;simp only[List.getElem_toArray,List.getElem_cons_zero,List.getElem_cons_succ,lg,gt,tu]at h0 h1 h2 h3 h4 h5 hL4;obtain⟨a0,e0,_,g0⟩:=DataW.trod_string Tryz.underlying9 h0;obtain⟨a1,e1,_,g1⟩:=DataW.trod_int Tryz.underlying3 h1;obtain⟨a2,e2,_,g2⟩:=DataW.trod_int Tryz.underlying3 h2;obtain⟨a3,e3,_,g3⟩:=DataW.trod_int Tryz.underlying3 h3
 obtain⟨a4,e4,bs,g4,gb⟩:=rB h4 hL4;obtain⟨a5,e5,_,g5⟩:=DataW.trod_string Tryz.underlying9 h5;simp at e0 e1 e2 e3 e4 e5;subst e0 e1 e2 e3 e4 e5;exact⟨⟨a0,a1,a2,a3,bs,a5⟩,⟨_,rfl,g4,⟨g0,g5,g1,g2,g3⟩⟩,gb⟩
theorem tT (hval:Value.okWide Tryz.prog W .any b0 45 v) (h:DataW.Trod enc Tryz.prog W base spare held 45 v d ps) (hL:ek Tryz.prog 45 d): ∃xs,bK (fun _=>True) W v xs/\ ∀e∈xs,e.data.length<=1125899906842624:=by
 obtain⟨a0,len0,cap0,rfl⟩:=okWide_slice Tryz.underlying45 hval;obtain⟨fuel,hf⟩:=h;obtain⟨v,h1,xs,⟨cells,h2,h3⟩,_⟩:=iv (R:=fun c e=>iL (fun _=>True) W c e/\e.data.length<=1125899906842624) Tryz.underlying45 oT (by omega) (fun n cs y hy hy2=>uf hy hy2) (fun c x hx=>iL.len c x hx.1) hf hL;simp[Value.cells]at h1;subst h1;obtain⟨h4,h5⟩:=lX h3
 exact⟨xs,⟨cells,h2,h4⟩,h5⟩
theorem uh {n:Nat} {cs:List Value} {y:DataW H×List MemPlace} (h:DataW.trod enc Tryz.prog W base spare held n 62 cs=some y): ∃p,cR cs p:=by
 have hl:=eY Tryz.underlying62 h;rw[mW]at hl;obtain⟨c0,c1,rfl⟩:=yQ hl;obtain⟨n0,y0,h0⟩:=bb Tryz.underlying62 h 0 rfl;obtain⟨n1,y1,h1⟩:=bb Tryz.underlying62 h 1 rfl;simp only[List.getElem_toArray,List.getElem_cons_zero,List.getElem_cons_succ,lg,gt]at h0 h1;obtain⟨a0,e0,_,g0⟩:=DataW.trod_string Tryz.underlying9 h0;obtain⟨a1,e1,_,g1⟩:=DataW.trod_int Tryz.underlying3 h1
 simp at e0 e1;subst e0 e1;exact⟨⟨a0,a1⟩,rfl,⟨g0,g1⟩⟩
theorem ug {n:Nat} {cs:List Value} {y:DataW H×List MemPlace} (h:DataW.trod enc Tryz.prog W base spare held n 27 cs=some y) (hL:ek Tryz.prog 27 y.1): ∃f,ej (fun _=>True) W cs f/\f.parts.length<=1125899906842624:=by
 have hl:=eY Tryz.underlying27 h;rw[mV]at hl;obtain⟨c0,c1,c2,c3,c4,c5,c6,rfl⟩:=zC hl;obtain⟨n0,y0,h0⟩:=bb Tryz.underlying27 h 0 rfl;obtain⟨n1,y1,h1⟩:=bb Tryz.underlying27 h 1 rfl;obtain⟨n2,y2,h2⟩:=bb Tryz.underlying27 h 2 rfl;obtain⟨n3,y3,h3⟩:=bb Tryz.underlying27 h 3 rfl;obtain⟨n4,y4,h4⟩:=bb Tryz.underlying27 h 4 rfl
 obtain⟨n5,y5,h5⟩:=bb Tryz.underlying27 h 5 rfl;obtain⟨n6,y6,h6,hL6⟩:=gz Tryz.underlying27 h hL 6 rfl;simp only[List.getElem_toArray,List.getElem_cons_zero,List.getElem_cons_succ,lg,gt,qJ]at h0 h1 h2 h3 h4 h5 h6 hL6;obtain⟨a0,e0,_,g0⟩:=DataW.trod_string Tryz.underlying9 h0;obtain⟨a1,e1,_,g1⟩:=DataW.trod_int Tryz.underlying3 h1;obtain⟨a2,e2,_,g2⟩:=DataW.trod_int Tryz.underlying3 h2
 obtain⟨a3,e3,_,g3⟩:=DataW.trod_int Tryz.underlying3 h3;obtain⟨a4,e4,_,g4⟩:=DataW.trod_int Tryz.underlying3 h4;obtain⟨a5,e5,_,g5⟩:=DataW.trod_string Tryz.underlying9 h5;obtain⟨a6,e6,ps,g6,gb⟩:=iv (R:=cR) Tryz.underlying25 mW (by omega) (fun n cs y hy _=>uh hy) cR.len h6 hL6;rw[tq]at gb;unfold reachBytes at gb;simp at e0 e1 e2 e3 e4 e5 e6
 subst e0 e1 e2 e3 e4 e5 e6;exact⟨⟨a0,a1,a2,a3,a4,a5,ps⟩,⟨_,rfl,g6,⟨g0,g5,g1,g2,g3,g4⟩⟩,by show ps.length<=_; omega⟩
theorem wG (h:DataW.Trod enc Tryz.prog W base spare held 24 v d ps) (hL:ek Tryz.prog 24 d): ∃(fv:Value) (x:ew),v=gC fv x.tm/\aQ (fun _=>True) W fv x.files/\(∀f∈x.files,f.parts.length<=1125899906842624)/\(Lit.int .i64 x.tm).wf=true:=by
 obtain⟨fuel,h⟩:=h;have hl:=eY Tryz.underlying24 h;rw[vL]at hl;obtain⟨c0,c1,hcs⟩:=yQ hl;rw[hcs]at h;obtain⟨n0,y0,h0⟩:=bb Tryz.underlying24 h 0 rfl;obtain⟨n1,y1,h1,hL1⟩:=gz Tryz.underlying24 h hL 1 rfl;simp only[List.getElem_toArray,List.getElem_cons_zero,List.getElem_cons_succ,qI,gt]at h0 h1 hL1;obtain⟨a0,e0,_,g0⟩:=DataW.trod_int Tryz.underlying3 h0
 obtain⟨a1,e1,xs,⟨cells,h2,h3⟩,_⟩:=iv (R:=fun c f=>ej (fun _=>True) W c f/\f.parts.length<=1125899906842624) Tryz.underlying22 mV (by omega) (fun n cs y hy hy2=>ug hy hy2) (fun c x hx=>ej.len c x hx.1) h1 hL1;simp at e0 e1;subst e0 e1;obtain⟨h4,h5⟩:=lX h3;exact⟨_,⟨a0,xs⟩,vA hcs (by simp),⟨cells,h2,h4⟩,h5,g0⟩
theorem wF (h:DataW.Trod enc Tryz.prog W base spare held 48 v d ps): ∃c:cP,v=dx c/\c.seed<18446744073709551616:=by
 obtain⟨fuel,h⟩:=h;have hl:=eY Tryz.underlying48 h;rw[vK]at hl;obtain⟨c0,c1,c2,c3,c4,hcs⟩:=zA hl;rw[hcs]at h;obtain⟨n0,y0,h0⟩:=bb Tryz.underlying48 h 0 rfl;obtain⟨n1,y1,h1⟩:=bb Tryz.underlying48 h 1 rfl;obtain⟨n2,y2,h2⟩:=bb Tryz.underlying48 h 2 rfl;obtain⟨n3,y3,h3⟩:=bb Tryz.underlying48 h 3 rfl;obtain⟨n4,y4,h4⟩:=bb Tryz.underlying48 h 4 rfl
 simp only[List.getElem_toArray,List.getElem_cons_zero,List.getElem_cons_succ,gt,vM]at h0 h1 h2 h3 h4;obtain⟨a0,e0,_,g0⟩:=DataW.trod_int Tryz.underlying3 h0;obtain⟨a1,e1,_,g1⟩:=DataW.trod_int Tryz.underlying3 h1;obtain⟨a2,e2,_,g2⟩:=DataW.trod_int Tryz.underlying3 h2;obtain⟨a3,e3,_,g3⟩:=DataW.trod_int Tryz.underlying3 h3;obtain⟨a4,e4,_,g4⟩:=DataW.trod_int Tryz.underlying46 h4
 simp at e0 e1 e2 e3 e4;subst e0 e1 e2 e3 e4;have hs:0<=a4/\a4<=18446744073709551615:=by
  simp only[Lit.wf,Bool.and_eq_true,decide_eq_true_eq]at g4;exact⟨g4.1,g4.2⟩
 refine⟨⟨a0,a1,a2,a3,a4.toNat⟩, ?_,by show a4.toNat<_; omega⟩;rw[vA hcs (by simp)];unfold dx;rw[show((a4.toNat:Nat):Int)=a4 from Int.toNat_of_nonneg hs.1]
end
section
variable {H : Type} {enc : TypeId × Value → H} {P : Program} {w : World} {base : Nat} {spare : Nat → Bool} {held : Bool}
theorem qj {u0 u1 u2 u3 u4 u5:TypeId} {args:Array Value} {ds:List (DataW H)} {ps:List MemPlace} (h:DataW.TrodAll enc P w base spare held [u0,u1,u2,u3,u4,u5] args.toList ds ps):
  ∃v0 v1 v2 v3 v4 v5 d0 d1 d2 d3 d4 d5 p0 p1 p2 p3 p4 p5,args= #[v0,v1,v2,v3,v4,v5]/\ds=[d0,d1,d2,d3,d4,d5]/\ps=p0++p1++p2++p3++p4++p5/\DataW.Trod enc P w base spare held u0 v0 d0 p0/\DataW.Trod enc P w base spare held u1 v1 d1 p1/\DataW.Trod enc P w base spare held u2 v2 d2 p2/\DataW.Trod enc P w base spare held u3 v3 d3 p3/\DataW.Trod enc P w base spare held u4 v4 d4 p4/\DataW.Trod enc P w base spare held u5 v5 d5 p5:=by
 obtain⟨v0,vs0,d0,ds0,p0,q0,ha,rfl,rfl,h0,g0⟩:=trodAll_cons h;obtain⟨v1,vs1,d1,ds1,p1,q1,rfl,rfl,rfl,h1,g1⟩:=trodAll_cons g0;obtain⟨v2,vs2,d2,ds2,p2,q2,rfl,rfl,rfl,h2,g2⟩:=trodAll_cons g1;obtain⟨v3,vs3,d3,ds3,p3,q3,rfl,rfl,rfl,h3,g3⟩:=trodAll_cons g2;obtain⟨v4,vs4,d4,ds4,p4,q4,rfl,rfl,rfl,h4,g4⟩:=trodAll_cons g3;obtain⟨v5,vs5,d5,ds5,p5,q5,rfl,rfl,rfl,h5,g5⟩:=trodAll_cons g4
 obtain⟨rfl,rfl,rfl⟩:=trodAll_nil g5;exact⟨v0,v1,v2,v3,v4,v5,d0,d1,d2,d3,d4,d5,p0,p1,p2,p3,p4,p5,by cases args; simp_all,rfl,by simp,h0,h1,h2,h3,h4,h5⟩
theorem qi {u0 u1 u2 u3 u4 u5:TypeId} {v0 v1 v2 v3 v4 v5:Value} {d0 d1 d2 d3 d4 d5:DataW H} {p0 p1 p2 p3 p4 p5:List MemPlace} (h0:DataW.Trod enc P w base spare held u0 v0 d0 p0) (h1:DataW.Trod enc P w base spare held u1 v1 d1 p1) (h2:DataW.Trod enc P w base spare held u2 v2 d2 p2) (h3:DataW.Trod enc P w base spare held u3 v3 d3 p3) (h4:DataW.Trod enc P w base spare held u4 v4 d4 p4) (h5:DataW.Trod enc P w base spare held u5 v5 d5 p5):
  DataW.TrodAll enc P w base spare held [u0,u1,u2,u3,u4,u5] [v0,v1,v2,v3,v4,v5] [d0,d1,d2,d3,d4,d5] (p0++(p1++(p2++(p3++(p4++p5))))):=
 ⟨p0,_,h0,⟨p1,_,h1,trodAll_mk4 h2 h3 h4 h5,rfl⟩,rfl⟩
end
end Go.Proofs.YtnjkpcalgoefhaaGreatDoor
