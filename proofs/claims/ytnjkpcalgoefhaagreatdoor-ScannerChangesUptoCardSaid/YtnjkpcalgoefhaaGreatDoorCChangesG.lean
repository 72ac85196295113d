/- Texts of this proof, one after the other: ScnY, LawChg, Frame, OpI, FrameU, OpU. -/
import Derived.Test.YtnjkpcalgoefhaaGreatDoorCChangesF
set_option maxRecDepth 100000
set_option maxHeartbeats 8000000
namespace Go.Proofs.YtnjkpcalgoefhaaGreatDoor
open Go Go.RowKit Go.Maps
def om (b:Nat):List Value:=[.string ⟨#[100]⟩, .int .i64 2, .int .i64 0, .int .i64 0, .slice none 0 0, .string ⟨#[]⟩, .string ⟨#[100,47,102]⟩, .int .i64 1, .int .i64 0, .int .i64 5, .slice (some ⟨b,0,none⟩) 3 3, .string ⟨#[]⟩]
theorem yf {w:World} {b k:Nat} {cs:Array Value} {t:TypeId} {z:Nat×Nat} (h:w.heap[b]? =some (.cells cs t z)):w.cell? ⟨b,k,none⟩=cs[k]? :=by
 simp[World.cell?,h]
theorem ld {W:World} {b n sz:Nat} {cells:List Value} {t:TypeId} {z:Nat×Nat} (h:W.heap[b]? =some (.cells cells.toArray t z)) (hl:cells.length=n*sz) (hn:n<=maxLen):aN (fun _=>True) W sz (.slice (some ⟨b,0,none⟩) n n) n cells:=
 ⟨hl,some ⟨b,0,none⟩,n,rfl,Nat.le_refl _,hn, .inr ⟨b,0,rfl,trivial,fun j u hj=>by rw[yf h,Nat.zero_add,List.getElem?_toArray]; exact hj⟩⟩
theorem qI {w:World} {rb b:Nat} {d:List UInt8} {t u:TypeId} {z:Nat×Nat} (h:w.heap[rb]? =some (.cells (om b).toArray t (0,0))) (hb:w.heap[b]? =some (.cells (d.map bi).toArray u z)) (hd:d.length=3):bS (fun _=>True) w (.slice (some ⟨rb,0,none⟩) 2 2) (dT d):=by
 refine⟨om b,ld (n:=2) (sz:=6) (cells:=om b) h rfl (by unfold maxLen; omega), ?_⟩;have hda:cy (fun _=>True) w (.slice (some ⟨b,0,none⟩) 3 3) d:=by
  have h1:=ld (n:=d.length) (sz:=1) (cells:=d.map bi) hb (by simp) (by rw[hd]; unfold maxLen; omega);rw[show Value.slice (some ⟨b,0,none⟩) 3 3= .slice (some ⟨b,0,none⟩) d.length d.length by rw[hd]];exact h1
 refine⟨ie (.slice none 0 0) Aa,ie (.slice (some ⟨b,0,none⟩) 3 3) (lT d),rfl,⟨_,rfl,cy.nil _ _, ?_⟩,⟨ie (.slice (some ⟨b,0,none⟩) 3 3) (lT d),[],rfl,⟨_,rfl,hda, ?_⟩,rfl⟩⟩
 ·exact⟨by show(1:Nat)<=_; unfold maxLen; omega,by show(0:Nat)<=_; omega,rfl,rfl,rfl⟩
 ·exact⟨by show(3:Nat)<=_; unfold maxLen; omega,by show(0:Nat)<=_; omega,rfl,rfl,rfl⟩
def qH (p:ByteArray×Int):bC:=⟨p.1,p.2⟩
theorem kj (l:List (ByteArray×Int)):cr l=bh (l.map qH):=by
 induction l with
 | nil=>rfl
 | cons p l ih=>
  unfold cr bh at *;rw[List.flatMap_cons,List.map_cons,List.flatMap_cons,ih]; rfl
theorem vt {w:World} {base:Nat} {v:Value} {l:List (ByteArray×Int)} (h:w.ownsRow base 60 2 v l.length (cr l)) (hok: ∀p∈l,dd (qH p)):aK (fun _=>True) w v (l.map qH):=by
 rw[kj]at h;refine⟨_, ?_,eC (fun p hp=> ?_)⟩
 ·rw[List.length_map];exact(bm h).weak (fun _ _=>trivial)
 ·obtain⟨q,hq,rfl⟩:=List.mem_map.1 hp;exact hok q hq
theorem vm {w:World} {b:Nat} {l:List (ByteArray×Int)} {t:TypeId} (h:w.heap[b]? =some (.cells (cr l).toArray t (0,0))) (hl:l.length<=maxLen) (hok: ∀p∈l,dd (qH p)):aK (fun _=>True) w (.slice (some ⟨b,0,none⟩) l.length l.length) (l.map qH):=by
 rw[kj]at h;refine⟨_, ?_,eC (fun p hp=> ?_)⟩
 ·have h1:=(dz (n:=l.length) (sz:=2) (cells:=bh (l.map qH)) h (by rw[nK,List.length_map]) hl).weak (T:=fun _=>True) (fun _ _=>trivial);rw[List.length_map];exact h1
 ·obtain⟨q,hq,rfl⟩:=List.mem_map.1 hp;exact hok q hq
theorem vo (x:Int):([(⟨#[100]⟩,x),(⟨#[100,47,102]⟩,x)]:List (ByteArray×Int)).length<=maxLen:=by show 2<=maxLen; unfold maxLen; omega
def mS (x:Int):List (ByteArray×Int):=[(⟨#[100]⟩,x),(⟨#[100,47,102]⟩,x)]
theorem mA {x:Int} (h:x=1\/x=4): ∀p∈mS x,dd (qH p):=by
 intro p hp;simp only[mS,List.mem_cons,List.not_mem_nil,or_false]at hp
 rcases h with rfl | rfl<;> rcases hp with rfl | rfl
 all_goals exact⟨by first | (show(1:Nat)<=_; unfold maxLen; omega) | (show(3:Nat)<=_; unfold maxLen; omega),rfl⟩
theorem ku (S T:Nat->Prop) (v u:Value) (rs ss:List bC) (b:Bool) (w:World) (hv:aK S w v rs) (hu:aK T w u ss) (h:decide (rs=ss)=b):Calls Tryz.prog 24 #[v,u] w fun e w'=>e= .returned (.bool b)/\Below w.heap.size w w':=by
 rw[<-h]; exact sO S T v u rs ss w hv hu
theorem lw (w:World) (C:Array Value) (n c:Nat):(convert 28 28 (.slice (some ⟨w.heap.size,0,none⟩) n c)).run Tryz.prog (w.alloc (.cells C 5))= .ok (.slice (some ⟨w.heap.size,0,none⟩) n c) (w.alloc (.cells C 5 (C.size,C.size+1))):=
 Lib.run_convert_bytes_const w 28 5 C n c Tryz.underlying28 Tryz.underlying5
theorem wZ (v u:Value) (L M:List (List UInt8)) (b:Bool) (w:World) (hv:gq w v L) (hu:gq w u M) (h:decide (L=M)=b):Calls Tryz.prog 32 #[v,u] w fun e w'=>e= .returned (.bool b)/\Below w.heap.size w w':=by
 rw[<-h]; exact uv v u L M w hv hu
theorem xd (tv:Value) (w:World) (ht:bS (fun _=>True) w tv (dT [97,98,99])) (he:iG w):Calls Tryz.prog 20 #[.agg #[.int .i64 0, .slice none 0 0], .int .i64 10,tv, .string ⟨#[]⟩, .agg #[.int .i64 4, .int .i64 8, .int .i64 4, .int .i64 20, .int .u64 0]] w (kE (.ok ⟨⟨10,cE [bI [97,98,99]]⟩,mS 1,[[97,98,99]],1,0⟩) w):=by
 have h:=nX (fun _=>True) (fun _=>True) ⟨0,[]⟩ (.slice none 0 0) tv 10 (dT [97,98,99]) ⟨#[]⟩ iU w (aO.nil _ _) ht he (by decide) (by simp);rw[show bl ⟨#[]⟩=[]from rfl,Bc]at h;exact h
theorem yA : ∀f∈cE [bI [97,98,99]],f.parts.length<=1048576:=by
 intro f hf;simp only[cE,List.mem_cons,List.not_mem_nil,or_false]at hf
 rcases hf with rfl | rfl<;> simp
theorem xe (S:Nat->Prop) (fv tv:Value) (w:World) (hf:aO S w fv (cE [bI [97,98,99]])) (ht:bS (fun _=>True) w tv (dT [97,98,100])) (he:iG w):Calls Tryz.prog 20 #[.agg #[.int .i64 10,fv], .int .i64 20,tv, .string ⟨#[]⟩, .agg #[.int .i64 4, .int .i64 8, .int .i64 4, .int .i64 20, .int .u64 0]] w (kE (.ok ⟨⟨20,cE [bI [97,98,99]]⟩,[],[],0,1⟩) w):=by
 have h:=nX S (fun _=>True) ⟨10,cE [bI [97,98,99]]⟩ fv tv 20 (dT [97,98,100]) ⟨#[]⟩ iU w hf ht he (by decide) yA;rw[show bl ⟨#[]⟩=[]from rfl,BH]at h;exact h
theorem xf (S:Nat->Prop) (fv tv:Value) (w:World) (hf:aO S w fv (cE [bI [97,98,99]])) (ht:bS (fun _=>True) w tv (dT [97,98,100])) (he:iG w):Calls Tryz.prog 20 #[.agg #[.int .i64 10,fv], .int .i64 20,tv, .string ⟨#[100,47]⟩, .agg #[.int .i64 4, .int .i64 8, .int .i64 4, .int .i64 20, .int .u64 0]] w (kE (.ok ⟨⟨20,[]⟩,mS 4,[],0,0⟩) w):=by
 have h:=nX S (fun _=>True) ⟨10,cE [bI [97,98,99]]⟩ fv tv 20 (dT [97,98,100]) ⟨#[100,47]⟩ iU w hf ht he (by decide) yA;rw[show bl ⟨#[100,47]⟩=[100,47]from rfl,BI]at h;exact h
theorem gl (w:World) (o:Obj):(w.alloc o).heap.size=w.heap.size+1:=by simp
theorem ks {w:World} {o x:Obj} {k:Nat} (h:w.heap[k]? =some x):(w.alloc o).heap[k]? =some x:=by
 rw[heap_alloc_old _ _ (lt_of_block h)]; exact h
theorem lJ {w W:World} {n:Nat} (o p:Obj) (h:Below n w W) (hn:n<=W.heap.size):Below n w ((W.alloc o).alloc p):=
 (h.alloc hn _).alloc (by rw[gl]; omega) _
theorem qx (W:World) (o p:Obj):((W.alloc o).alloc p).heap[W.heap.size+1]? =some p:=by
 rw[<-gl W o]; exact heap_alloc_new _ _
theorem zw {w:World} {rb b c:Nat} {t:TypeId} (h:w.heap[rb]? =some (.cells (om b).toArray t (0,0))):(w.setCell ⟨rb,10,none⟩ (.slice (some ⟨c,0,none⟩) 3 3)).heap[rb]? =some (.cells (om c).toArray t (0,0)):=by
 rw[heap_setCell_same _ _ _ _ _ _ h]
 rfl
theorem As (w:World) (a:Addr) (v:Value) (o:Obj):((w.setCell a v).alloc o).heap[w.heap.size]? =some o:=by
 have h:=heap_alloc_new (w.setCell a v) o;have e:(w.setCell a v).heap.size=w.heap.size:=by simp
 rw[e]at h; exact h
theorem vr {w:World} {a:Addr} {v:Value} {o x:Obj} {k:Nat} (h:w.heap[k]? =some x) (hk:k≠a.block):((w.setCell a v).alloc o).heap[k]? =some x:=
 ks ((heap_setCell_other _ _ _ _ hk).trans h)
theorem Bn {w:World} {base b j:Nat} {v fv:Value} {o:Obj} {fs:List ay} (h:bR w base fv fs) (hb:b<base):bR ((w.setCell ⟨b,j,none⟩ v).alloc o) base fv fs:=
 bR.below (h.same fun k _ _ _ hB _ _=>heap_setCell_other _ _ _ _ (by show k≠b; omega)) ((Below.refl _ _).alloc (Nat.le_refl _) _)
theorem Bt {w W:World} {n:Nat} {a:Addr} (v:Value) (o:Obj) (h:Below n w W) (hn:n<=a.block) (hz:n<=W.heap.size):Below n w ((W.setCell a v).alloc o):=
 (h.setCell hn _).alloc (by simpa using hz) _
theorem ud {r:xQ} {w w':World} {e:Ending} (h:kE (.ok r) w e w') (hok: ∀p∈r.chg,dd (qH p)): ∃fa fn fc ca cn cc na nc,e= .returned (.tuple #[.agg #[.int .i64 r.idx.tm, .slice fa fn fc, .slice ca cn cc, .slice na r.news.length nc, .int .i64 (r.read:Int), .int .i64 (r.kept:Int)], .int .i64 0])/\Below w.heap.size w w'/\bR w' w.heap.size (.slice fa fn fc) r.idx.files/\aK (fun _=>True) w' (.slice ca cn cc) (r.chg.map qH)/\gq w' (.slice na r.news.length nc) r.news/\cn=r.chg.length:=by
 obtain⟨hb,fv,cv,nv,rfl,hf,hc,hn⟩:=h;obtain⟨zs,-,hz,-⟩:=hf.row;obtain⟨fa,fc,rfl,-,-⟩:=au hz;have hc':=vt hc hok;obtain⟨ca,cc,rfl,-,-⟩:=au hc;obtain⟨ys,hys,hn1,-⟩:=id hn;have hl:ys.length=r.news.length:=by rw[<-hys,List.length_map]
 have hn':=uj hn;obtain⟨na,nc,rfl,-,-⟩:=au hn1;rw[hl]at hn' ⊢;exact⟨fa,_,fc,ca,_,cc,na,nc,rfl,hb,hf,hc',hn',rfl⟩
theorem zS {w:World} {rb b:Nat} {d:List UInt8} {t u:TypeId} {z z':Nat×Nat} (h:w.heap[rb]? =some (.cells #[.slice (some ⟨b,0,none⟩) 3 3] t z')) (hb:w.heap[b]? =some (.cells (d.map bi).toArray u z)) (hd:d.length=3):gq w (.slice (some ⟨rb,0,none⟩) 1 1) [d]:=by
 refine⟨[.slice (some ⟨b,0,none⟩) 3 3],ld (n:=1) (sz:=1) (cells:=[.slice (some ⟨b,0,none⟩) 3 3]) h rfl (by unfold maxLen; omega),fun k y pl hy hp=> ?_⟩
 rcases k with _ | k
 ·cases hy; cases hp
  have h1:=ld (n:=d.length) (sz:=1) (cells:=d.map bi) hb (by simp) (by rw[hd]; unfold maxLen; omega);rw[show Value.slice (some ⟨b,0,none⟩) 3 3= .slice (some ⟨b,0,none⟩) d.length d.length by rw[hd]];exact h1
 ·simp at hy
theorem gq.two {w:World} {v:Value} {L:List (List UInt8)} {o p:Obj} (h:gq w v L):gq ((w.alloc o).alloc p) v L:=h.below (lJ _ _ (Below.refl _ _) (Nat.le_refl _))
theorem aK.below' {w w':World} {v:Value} {ps:List bC} (h:aK (fun _=>True) w v ps) (hb:Below w.heap.size w w'):aK (fun _=>True) w' v ps:=by
 obtain⟨cells,h1,h2⟩:=h;exact⟨cells,aN.below h1 (by omega) hb,h2⟩
theorem ft (w:World) (he:iG w):Calls Tryz.prog 11 #[] w fun e w'=>e= .returned (.bool true)/\Below w.heap.size w w':=by
 have HE:=ab he;have h6:=he.six;clear he
 go_enter Tryz.func11,Tryz.ntmps11
 go_upto_region 2 with fail
 obtain⟨W1,hW1⟩: ∃W1,W1=w.alloc (.cells #[.int .i64 4, .int .i64 8, .int .i64 4, .int .i64 20, .int .u64 0] 48):=⟨_,rfl⟩;rw[<-hW1];have HB1:=ab (show Below w.heap.size w W1 by rw[hW1]; exact(Below.refl _ _).alloc (Nat.le_refl _) _);have HC1:=ab (show W1.heap[w.heap.size]? =some (.cells #[.int .i64 4, .int .i64 8, .int .i64 4, .int .i64 20, .int .u64 0] 48 (0,0)) by rw[hW1]; exact heap_alloc_new w _)
 have hz1:w.heap.size<W1.heap.size:=lt_of_block HC1.out;clear hW1;have hcv:=lw W1 #[.int .u8 97, .int .u8 98, .int .u8 99] 3 3
 go_upto_region 3 with fail
 obtain⟨W3,hW3⟩: ∃W3,W3=(W1.alloc (.cells #[.int .u8 97, .int .u8 98, .int .u8 99] 5 (3,4))).alloc (.cells #[.string ⟨#[100]⟩, .int .i64 2, .int .i64 0, .int .i64 0, .slice none 0 0, .string ⟨#[]⟩, .string ⟨#[100,47,102]⟩, .int .i64 1, .int .i64 0, .int .i64 5, .slice (some ⟨W1.heap.size,0,none⟩) 3 3, .string ⟨#[]⟩] 30):=⟨_,rfl⟩;rw[<-hW3];have HB3:=ab (show Below w.heap.size w W3 by rw[hW3]; exact lJ _ _ HB1.out (by omega))
 have HC3:=ab (show W3.heap[w.heap.size]? =some (.cells #[.int .i64 4, .int .i64 8, .int .i64 4, .int .i64 20, .int .u64 0] 48 (0,0)) by rw[hW3]; exact ks (ks HC1.out));have HD3:=ab (show W3.heap[W1.heap.size]? =some (.cells ([97,98,99].map bi).toArray 5 (3,4)) by rw[hW3]; exact ks (heap_alloc_new W1 _));have HT3:=ab (show W3.heap[W1.heap.size+1]? =some (.cells (om W1.heap.size).toArray 30 (0,0)) by rw[hW3]; exact qx W1 _ _)
 clear hW3;have c0:=ai (k:=0) HC3.out;have c1:=ai (k:=1) HC3.out;have c2:=ai (k:=2) HC3.out;have c3:=ai (k:=3) HC3.out;have c4:=ai (k:=4) HC3.out;simp only[List.getElem?_toArray,bN]at c0 c1 c2 c3 c4;have ht3:=ab (qI HT3.out HD3.out rfl);go_wp2_with (refine(xd _ _ ht3.out (HE.out.below HB3.out)).mono ?_);intro e w4 h4;obtain⟨fa,fn,fc,ca,cn,cc,na,nc,rfl,hb4,hf4,hc4,hn4,-⟩:=ud h4 (mA (.inl rfl))
 have HB4:=ab hb4;have HF4:=ab hf4;have HP4:=ab hc4;have HN4:=ab hn4;have hz4:=hb4.size;clear h4 hb4 hf4 hc4 hn4
 go_upto_region 4 with fail
 obtain⟨W5,hW5⟩: ∃W5,W5=w4.alloc (.cells #[.int .i64 10, .slice fa fn fc, .slice ca cn cc, .slice na 1 nc, .int .i64 1, .int .i64 0] 54):=⟨_,rfl⟩;rw[<-hW5];have HX5:=ab (show W5.heap[w4.heap.size]? =some (.cells #[.int .i64 10, .slice fa fn fc, .slice ca cn cc, .slice na 1 nc, .int .i64 1, .int .i64 0] 54 (0,0)) by rw[hW5]; exact heap_alloc_new w4 _);have HB5:=ab (show Below w4.heap.size w4 W5 by rw[hW5]; exact(Below.refl _ _).alloc (Nat.le_refl _) _)
 have hz5:W5.heap.size=w4.heap.size+1:=by rw[hW5]; exact gl _ _
 clear hW5;have hcv5:=lw W5 #[.int .u8 97, .int .u8 98, .int .u8 99] 3 3;have HZ5:=ab hz5;clear hz5;have x0:=ai (k:=0) HX5.out;have x1:=ai (k:=1) HX5.out;have x2:=ai (k:=2) HX5.out;have x3:=ai (k:=3) HX5.out;have x4:=ai (k:=4) HX5.out;have x5:=ai (k:=5) HX5.out;simp only[List.getElem?_toArray,bN]at x0 x1 x2 x3 x4 x5;go_wp2_with (refine(wZ _ _ [[97,98,99]] [[97,98,99]] true _ (HN4.out.below HB5.out).two (zS (qx _ _ _) (ks (heap_alloc_new _ _)) rfl) (by decide)).mono ?_)
 rintro e w6 ⟨rfl,hb6⟩;have HB6:=ab (show Below W5.heap.size W5 w6 from(lJ _ _ (Below.refl _ _) (Nat.le_refl _)).trans (hb6.mono (by rw[gl,gl]; omega)));clear hb6;have HX6:=ab ((HB6.out.block _ (lt_of_block HX5.out)).trans HX5.out);have hz6:=HB6.out.size;have HP6:=ab ((HP4.out.below' HB5.out).below' HB6.out);clear x0 x1 x2 x3 x4 x5;have x0:=ai (k:=0) HX6.out;have x1:=ai (k:=1) HX6.out
 have x2:=ai (k:=2) HX6.out;have x3:=ai (k:=3) HX6.out;have x4:=ai (k:=4) HX6.out;have x5:=ai (k:=5) HX6.out;simp only[List.getElem?_toArray,bN]at x0 x1 x2 x3 x4 x5;go_wp2_with (refine(ku _ _ _ _ ((mS 1).map qH) ((mS 1).map qH) true _ (HP6.out.below' ((Below.refl _ _).alloc (Nat.le_refl _) _)) (vm (l:=mS 1) (heap_alloc_new _ _) (vo 1) (mA (.inl rfl))) (decide_eq_true rfl)).mono ?_)
 rintro e w7 ⟨rfl,hb7⟩;have HB7:=ab (show Below w6.heap.size w6 w7 from((Below.refl _ _).alloc (Nat.le_refl _) _).trans (hb7.mono (by rw[gl]; omega)));clear hb7;have HX7:=ab ((HB7.out.block _ (lt_of_block HX6.out)).trans HX6.out);have hz7:=HB7.out.size;clear x0 x1 x2 x3 x4 x5 hcv5
 go_upto_region 6 with fail
 have hz4s:W3.heap.size<=w7.heap.size:=by have:=HZ5.out; omega
 have HB37:=ab (show Below W3.heap.size W3 w7 from((HB4.out.trans (HB5.out.mono hz4)).trans (HB6.out.mono (by have:=HZ5.out; omega))).trans (HB7.out.mono (by have:=HZ5.out; omega)));have HT7:=ab ((HB37.out.block _ (lt_of_block HT3.out)).trans HT3.out);have HC7:=ab ((HB37.out.block _ (lt_of_block HC3.out)).trans HC3.out);have HF7:=ab (((HF4.out.below HB5.out).below HB6.out).below HB7.out)
 have hcv7:=lw w7 #[.int .u8 97, .int .u8 98, .int .u8 100] 3 3;have hz17:W1.heap.size+1<w7.heap.size:=lt_of_block HT7.out;have f10:w7.frozen? ⟨W1.heap.size+1,10,none⟩=false:=ak HT7.out;have t10:w7.cell? ⟨W1.heap.size+1,10,none⟩=some (.slice (some ⟨W1.heap.size,0,none⟩) 3 3):=yf (k:=10) HT7.out;have hw37:w.heap.size<=W3.heap.size:=HB3.out.size
 clear hz4s
 go_upto_region 7 with fail
 obtain⟨W8,hW8⟩: ∃W8,W8=(w7.setCell ⟨W1.heap.size+1,10,none⟩ (.slice (some ⟨w7.heap.size,0,none⟩) 3 3)).alloc (.cells #[.int .u8 97, .int .u8 98, .int .u8 100] 5 (3,4)):=⟨_,rfl⟩;rw[<-hW8];have HT8:=ab (show W8.heap[W1.heap.size+1]? =some (.cells (om w7.heap.size).toArray 30 (0,0)) by rw[hW8]; exact ks (zw HT7.out));have HD8:=ab (show W8.heap[w7.heap.size]? =some (.cells ([97,98,100].map bi).toArray 5 (3,4)) by rw[hW8]; exact As _ _ _ _)
 have hl3:W1.heap.size+1<W3.heap.size:=lt_of_block HT3.out;have HC8:=ab (show W8.heap[w.heap.size]? =some (.cells #[.int .i64 4, .int .i64 8, .int .i64 4, .int .i64 20, .int .u64 0] 48 (0,0)) by rw[hW8]; exact vr HC7.out (by show w.heap.size≠W1.heap.size+1; omega));have HX8:=ab (show W8.heap[w4.heap.size]? =some (.cells #[.int .i64 10, .slice fa fn fc, .slice ca cn cc, .slice na 1 nc, .int .i64 1, .int .i64 0] 54 (0,0)) by rw[hW8]; exact vr HX7.out (by show w4.heap.size≠W1.heap.size+1; omega))
 have HF8:=ab (show bR W8 W3.heap.size (.slice fa fn fc) (cE [bI [97,98,99]]) by rw[hW8]; exact Bn HF7.out hl3);have HB8:=ab (show Below w.heap.size w W8 by rw[hW8]; exact Bt _ _ (HB3.out.trans (HB37.out.mono hw37)) (by show w.heap.size<=W1.heap.size+1; omega) (by omega));have HE8:=ab (HE.out.keep HB8.out h6);have hz8:w.heap.size<=W8.heap.size:=HB8.out.size
 clear hW8 hcv7 t10 f10 c0 c1 c2 c3 c4;have x0:=ai (k:=0) HX8.out;have x1:=ai (k:=1) HX8.out;have x2:=ai (k:=2) HX8.out;have x3:=ai (k:=3) HX8.out;have x4:=ai (k:=4) HX8.out;have x5:=ai (k:=5) HX8.out;simp only[List.getElem?_toArray,bN]at x0 x1 x2 x3 x4 x5;have c0:=ai (k:=0) HC8.out;have c1:=ai (k:=1) HC8.out;have c2:=ai (k:=2) HC8.out
 have c3:=ai (k:=3) HC8.out;have c4:=ai (k:=4) HC8.out;simp only[List.getElem?_toArray,bN]at c0 c1 c2 c3 c4;have ht8:=ab (qI HT8.out HD8.out rfl);go_wp2_with (refine(xe (fun k=>W3.heap.size<=k) _ _ _ HF8.out.at ht8.out HE8.out).mono ?_);intro e w9 h9;obtain⟨fa2,fn2,fc2,ca2,cn2,cc2,na2,nc2,rfl,hb9,-,-,-,hcn2⟩:=ud h9 (fun p hp=>absurd hp (by simp))
 dsimp only at hcn2
 subst hcn2;have HB9:=ab hb9;have hz9:=hb9.size;clear h9 hb9
 go_upto_region 8 with fail
 obtain⟨WA,hWA⟩: ∃WA,WA=w9.alloc (.cells #[.int .i64 20, .slice fa2 fn2 fc2, .slice ca2 0 cc2, .slice na2 0 nc2, .int .i64 0, .int .i64 1] 54):=⟨_,rfl⟩;rw[<-hWA];have HYA:=ab (show WA.heap[w9.heap.size]? =some (.cells #[.int .i64 20, .slice fa2 fn2 fc2, .slice ca2 0 cc2, .slice na2 0 nc2, .int .i64 0, .int .i64 1] 54 (0,0)) by rw[hWA]; exact heap_alloc_new w9 _);have HBA:=ab (show Below W8.heap.size W8 WA by rw[hWA]; exact HB9.out.alloc hz9 _)
 have HTA:=ab ((HBA.out.block _ (lt_of_block HT8.out)).trans HT8.out);have HDA:=ab ((HBA.out.block _ (lt_of_block HD8.out)).trans HD8.out);have HCA:=ab ((HBA.out.block _ (lt_of_block HC8.out)).trans HC8.out);have HXA:=ab ((HBA.out.block _ (lt_of_block HX8.out)).trans HX8.out);have HFA:=ab (HF8.out.below HBA.out);have HEA:=ab (HE8.out.below HBA.out);have hzA:=HBA.out.size;clear hWA c0 c1 c2 c3 c4 x0 x1 x2 x3 x4 x5
 have x0:=ai (k:=0) HXA.out;have x1:=ai (k:=1) HXA.out;have x2:=ai (k:=2) HXA.out;have x3:=ai (k:=3) HXA.out;have x4:=ai (k:=4) HXA.out;have x5:=ai (k:=5) HXA.out;simp only[List.getElem?_toArray,bN]at x0 x1 x2 x3 x4 x5;have c0:=ai (k:=0) HCA.out;have c1:=ai (k:=1) HCA.out;have c2:=ai (k:=2) HCA.out;have c3:=ai (k:=3) HCA.out
 have c4:=ai (k:=4) HCA.out;simp only[List.getElem?_toArray,bN]at c0 c1 c2 c3 c4;have htA:=ab (qI HTA.out HDA.out rfl);go_wp2_with (refine(xf (fun k=>W3.heap.size<=k) _ _ _ HFA.out.at htA.out HEA.out).mono ?_);intro e wb hb;obtain⟨fa3,fn3,fc3,ca3,cn3,cc3,na3,nc3,rfl,hbb,-,hcb,-,-⟩:=ud hb (mA (.inr rfl));have HBB:=ab hbb;have HPB:=ab hcb;have hzb:=hbb.size
 clear hb hbb hcb
 go_upto_region 9 with fail
 obtain⟨WC,hWC⟩: ∃WC,WC=wb.alloc (.cells #[.int .i64 20, .slice fa3 fn3 fc3, .slice ca3 cn3 cc3, .slice na3 0 nc3, .int .i64 0, .int .i64 0] 54):=⟨_,rfl⟩;rw[<-hWC];have HZC:=ab (show WC.heap[wb.heap.size]? =some (.cells #[.int .i64 20, .slice fa3 fn3 fc3, .slice ca3 cn3 cc3, .slice na3 0 nc3, .int .i64 0, .int .i64 0] 54 (0,0)) by rw[hWC]; exact heap_alloc_new wb _);have HBC:=ab (show Below WA.heap.size WA WC by rw[hWC]; exact HBB.out.alloc hzb _)
 have HPC:=ab (show aK (fun _=>True) WC (.slice ca3 cn3 cc3) ((mS 4).map qH) by rw[hWC]; exact HPB.out.below' ((Below.refl _ _).alloc (Nat.le_refl _) _));have HYC:=ab ((HBC.out.block _ (lt_of_block HYA.out)).trans HYA.out);have hzC:=HBC.out.size;clear hWC c0 c1 c2 c3 c4 x0 x1 x2 x3 x4 x5;have x0:=ai (k:=0) HYC.out;have x1:=ai (k:=1) HYC.out;have x2:=ai (k:=2) HYC.out
 have x3:=ai (k:=3) HYC.out;have x4:=ai (k:=4) HYC.out;have x5:=ai (k:=5) HYC.out;simp only[List.getElem?_toArray,bN]at x0 x1 x2 x3 x4 x5;have y0:=ai (k:=0) HZC.out;have y1:=ai (k:=1) HZC.out;have y2:=ai (k:=2) HZC.out;have y3:=ai (k:=3) HZC.out;have y4:=ai (k:=4) HZC.out;have y5:=ai (k:=5) HZC.out;simp only[List.getElem?_toArray,bN]at y0 y1 y2 y3 y4 y5
 go_wp2_with (refine(ku _ _ _ _ ((mS 4).map qH) ((mS 4).map qH) true _ (HPC.out.below' ((Below.refl _ _).alloc (Nat.le_refl _) _)) (vm (l:=mS 4) (heap_alloc_new _ _) (vo 4) (mA (.inr rfl))) (decide_eq_true rfl)).mono ?_);rintro e wd ⟨rfl,hbd⟩;have HBD:=ab (show Below w.heap.size w wd from((HB8.out.trans (HBA.out.mono hz8)).trans (HBC.out.mono (by omega))).trans (((Below.refl WC.heap.size WC).alloc (Nat.le_refl _) _).mono (by omega) |>.trans (hbd.mono (by rw[gl]; omega))))
 clear hbd;go_wp2_with fail;go_ret
 first | exact HBD.out | exact⟨rfl,HBD.out⟩
theorem gV (S:Nat->Prop) (x:cJ) (fv:Value) (b:Bool) (w:World) (hx:aO S w fv x.files) (hps: ∀f∈x.files,f.path.size<=16777216) (hlen:x.files.length<=1048576) (hpl: ∀f∈x.files,f.parts.length<=1048576) (h:ci x=b):Calls Tryz.prog 13 #[cG fv x.tm] w fun e w'=>e= .returned (.bool b)/\Below w.heap.size w w':=by
 rw[<-h]; exact uu S x fv w hx hps hlen hpl
theorem ll {x:cJ} (h:ci x=true):x.files.length<=4096:=by
 unfold ci at h;simp only[Bool.and_eq_true,decide_eq_true_eq]at h;exact h.1.1.2
theorem jN {x:cJ} (h:ci x=true): ∀f∈x.files,f.path.size<=65536:=by
 unfold ci at h;simp only[Bool.and_eq_true,decide_eq_true_eq]at h;intro f hf;have h1:=(eU.1 h.2).val (fI f) (List.mem_map.2 ⟨f,hf,rfl⟩);have h2:f.path.size<=65000:=lL h1;omega
theorem tI {a b:List ay} {p:ByteArray} : ∀q∈bG a b p,q.1=p/\(q.2=1\/q.2=2\/q.2=3\/q.2=4):=by
 intro q hq;unfold bG at hq
 split at hq
 ·rw[List.mem_singleton]at hq; subst hq; simp
 ·rw[List.mem_singleton]at hq; subst hq; simp
 ·split at hq
  ·cases hq
  ·rename_i f g _ _ h;rw[List.mem_singleton]at hq; subst hq;refine⟨rfl, ?_⟩
   show dM f g=1\/_
   unfold dM at h ⊢
   split
   ·split
    ·rename_i h1 h2; rw[if_pos h1,if_pos h2]at h; exact absurd rfl h
    ·simp
   ·simp
theorem yi {a b:cJ} (ha:ci a=true) (hb:ci b=true): ∀p∈iR a.files b.files,dd (qH p):=by
 rw[<-uU ha hb];intro p hp;obtain⟨q,hq,hp⟩:=List.mem_flatMap.1 hp;obtain⟨rfl,h2⟩:=tI p hp;rw[<-nN]at hq;refine⟨?_, ?_⟩
 ·show p.1.size<=maxLen
  unfold maxLen
  rcases nP hq with⟨f,hf,e⟩ | ⟨f,hf,e⟩
  ·have:=jN ha f hf; rw[<-e]; omega
  ·have:=jN hb f hf; rw[<-e]; omega
 ·show(Lit.int .i64 p.2).wf=true
  rcases h2 with h | h | h | h<;> rw[h]<;> rfl
theorem wv {w:World} {base:Nat} {v:Value} {l:List (ByteArray×Int)} (h:w.ownsRow base 82 2 v l.length (cr l)) (hok: ∀p∈l,dd (qH p)):aK (fun _=>True) w v (l.map qH):=by
 rw[kj]at h;refine⟨_, ?_,eC (fun p hp=> ?_)⟩
 ·rw[List.length_map];exact(bm h).weak (fun _ _=>trivial)
 ·obtain⟨q,hq,rfl⟩:=List.mem_map.1 hp;exact hok q hq
def dK (X F:Obj) (b:Nat) (w:World):Prop:=w.heap[b]? =some X/\w.heap[b+1]? =some F
theorem dK.below {X F:Obj} {b:Nat} {w w':World} (h:dK X F b w) (hb:Below w.heap.size w w'):dK X F b w':=
 ⟨(hb.block _ (lt_of_block h.1)).trans h.1,(hb.block _ (lt_of_block h.2)).trans h.2⟩
theorem qh (w:World) (X F:Obj):dK X F w.heap.size ((w.alloc X).alloc F):=⟨ks (heap_alloc_new w X),qx w X F⟩
theorem pK (S T:Nat->Prop) (a b:cJ) (va vb:Value) (w:World) (ha:aO S w va a.files) (hb:aO T w vb b.files) (he:jx w) (hv:(ci a && ci b)=false):
  Calls Tryz.prog 23 #[cG va a.tm,cG vb b.tm] w fun e w'=>e= .returned (.tuple #[.slice none 0 0, .int .i64 1])/\Below w.heap.size w w':=by
 obtain⟨aa,ac,rfl,hac,ham,-⟩:=aR.shape ha dj.len;obtain⟨ba,bc,rfl,hbc,hbm,-⟩:=aR.shape hb dj.len;have HA:=ab ha;have HB:=ab hb;have HE:=ab he;obtain⟨na,hna⟩: ∃n,n=a.files.length:=⟨_,rfl⟩;obtain⟨nb,hnb⟩: ∃n,n=b.files.length:=⟨_,rfl⟩;rw[<-hna]at HA ⊢;rw[<-hnb]at HB ⊢;clear ha hb he hna hnb hac ham hbc hbm;unfold cG
 go_enter Tryz.func23,Tryz.ntmps23
 go_upto_region 1 with fail
 obtain⟨W,hW⟩: ∃W,W=(w.alloc (.cells #[.int .i64 a.tm, .slice aa na ac] 24)).alloc (.cells #[.int .i64 b.tm, .slice ba nb bc] 24):=⟨_,rfl⟩;rw[<-hW];have HBW:=ab (show Below w.heap.size w W by rw[hW]; exact lJ _ _ (Below.refl _ _) (Nat.le_refl _));have HS:=ab (show dK (.cells #[.int .i64 a.tm, .slice aa na ac] 24 (0,0)) (.cells #[.int .i64 b.tm, .slice ba nb bc] 24 (0,0)) w.heap.size W by rw[hW]; exact qh _ _ _)
 clear hW;have HAW:=ab (HA.out.below HBW.out);have HEW:=ab (HE.out.below HBW.out);have p0:=ai (k:=0) HS.out.1;have p1:=ai (k:=1) HS.out.1;have q0:=ai (k:=0) HS.out.2;have q1:=ai (k:=1) HS.out.2;simp only[List.getElem?_toArray,bN]at p0 p1 q0 q1
 cases hx:ci a
 case false=>
  have HX:=ab hx;clear hx hv;go_wp2_with (go_at_call 12; refine(cZ _ a _ false _ HAW.out HEW.out HX.out).mono ?_);rintro e w1 ⟨rfl,hb1⟩;have HB1:=ab (ag HBW.out hb1);have HS1:=ab (HS.out.below hb1);clear hb1 p0 p1 q0 q1;have p0:=ai (k:=0) HS1.out.1;have p1:=ai (k:=1) HS1.out.1;have q0:=ai (k:=0) HS1.out.2;have q1:=ai (k:=1) HS1.out.2;simp only[List.getElem?_toArray,bN]at p0 p1 q0 q1
  go_wp2_with fail
  go_ret2
  exact⟨rfl,HB1.out⟩
 case true=>
  have HX:=ab hx;have HY:=ab (show ci b=false by rw[hx]at hv; simpa using hv);clear hx hv;go_wp2_with (go_at_call 12; refine(cZ _ a _ true _ HAW.out HEW.out HX.out).mono ?_);rintro e w1 ⟨rfl,hb1⟩;have HB1:=ab (ag HBW.out hb1);have HS1:=ab (HS.out.below hb1);clear hb1 p0 p1 q0 q1;have p0:=ai (k:=0) HS1.out.1;have p1:=ai (k:=1) HS1.out.1;have q0:=ai (k:=0) HS1.out.2
  have q1:=ai (k:=1) HS1.out.2;simp only[List.getElem?_toArray,bN]at p0 p1 q0 q1;have HB1w:=ab (HB.out.below HB1.out);have HE1:=ab (HE.out.below HB1.out);go_wp2_with (go_at_call 12; refine(cZ _ b _ false _ HB1w.out HE1.out HY.out).mono ?_);rintro e w2 ⟨rfl,hb1⟩;have HB2:=ab (ag HB1.out hb1);have HS2:=ab (HS1.out.below hb1);clear hb1 p0 p1 q0 q1;have p0:=ai (k:=0) HS2.out.1
  have p1:=ai (k:=1) HS2.out.1;have q0:=ai (k:=0) HS2.out.2;have q1:=ai (k:=1) HS2.out.2;simp only[List.getElem?_toArray,bN]at p0 p1 q0 q1;go_wp2_with fail
  go_ret2
  exact⟨rfl,HB2.out⟩
theorem xh (S T:Nat->Prop) (a b:cJ) (va vb:Value) (w:World) (ha:aO S w va a.files) (hb:aO T w vb b.files) (he:jx w) (hx:ci a=true) (hy:ci b=true):
  Calls Tryz.prog 23 #[cG va a.tm,cG vb b.tm] w fun e w'=> ∃v,e= .returned (.tuple #[v, .int .i64 0])/\w'.ownsRow w.heap.size 60 2 v (iR a.files b.files).length (cr (iR a.files b.files))/\Below w.heap.size w w':=by
 obtain⟨aa,ac,rfl,hac,ham,-⟩:=aR.shape ha dj.len;obtain⟨ba,bc,rfl,hbc,hbm,-⟩:=aR.shape hb dj.len;have HA:=ab ha;have HB:=ab hb;have HE:=ab he;obtain⟨na,hna⟩: ∃n,n=a.files.length:=⟨_,rfl⟩;obtain⟨nb,hnb⟩: ∃n,n=b.files.length:=⟨_,rfl⟩;rw[<-hna]at HA ⊢;rw[<-hnb]at HB ⊢;clear ha hb he hna hnb hac ham hbc hbm;unfold cG
 go_enter Tryz.func23,Tryz.ntmps23
 go_upto_region 1 with fail
 obtain⟨W,hW⟩: ∃W,W=(w.alloc (.cells #[.int .i64 a.tm, .slice aa na ac] 24)).alloc (.cells #[.int .i64 b.tm, .slice ba nb bc] 24):=⟨_,rfl⟩;rw[<-hW];have HBW:=ab (show Below w.heap.size w W by rw[hW]; exact lJ _ _ (Below.refl _ _) (Nat.le_refl _));have HS:=ab (show dK (.cells #[.int .i64 a.tm, .slice aa na ac] 24 (0,0)) (.cells #[.int .i64 b.tm, .slice ba nb bc] 24 (0,0)) w.heap.size W by rw[hW]; exact qh _ _ _)
 clear hW;have HAW:=ab (HA.out.below HBW.out);have HEW:=ab (HE.out.below HBW.out);have p0:=ai (k:=0) HS.out.1;have p1:=ai (k:=1) HS.out.1;have q0:=ai (k:=0) HS.out.2;have q1:=ai (k:=1) HS.out.2;simp only[List.getElem?_toArray,bN]at p0 p1 q0 q1;have HX:=ab hx;have HY:=ab hy;have HLA:=ab (ll hx);have HLB:=ab (ll hy);clear hx hy;go_wp2_with (go_at_call 12; refine(cZ _ a _ true _ HAW.out HEW.out HX.out).mono ?_)
 rintro e w1 ⟨rfl,hb1⟩;have HB1:=ab (ag HBW.out hb1);have HS1:=ab (HS.out.below hb1);clear hb1 p0 p1 q0 q1;have p0:=ai (k:=0) HS1.out.1;have p1:=ai (k:=1) HS1.out.1;have q0:=ai (k:=0) HS1.out.2;have q1:=ai (k:=1) HS1.out.2;simp only[List.getElem?_toArray,bN]at p0 p1 q0 q1;have HB1w:=ab (HB.out.below HB1.out);have HE1:=ab (HE.out.below HB1.out);go_wp2_with (go_at_call 12; refine(cZ _ b _ true _ HB1w.out HE1.out HY.out).mono ?_)
 rintro e w2 ⟨rfl,hb1⟩;have HB2:=ab (ag HB1.out hb1);have HS2:=ab (HS1.out.below hb1);clear hb1 p0 p1 q0 q1;have p0:=ai (k:=0) HS2.out.1;have p1:=ai (k:=1) HS2.out.1;have q0:=ai (k:=0) HS2.out.2;have q1:=ai (k:=1) HS2.out.2;simp only[List.getElem?_toArray,bN]at p0 p1 q0 q1;have HA2:=ab (HA.out.below HB2.out);have HB2w:=ab (HB.out.below HB2.out);go_wp2_with (go_at_call 42; refine(lO S T a b _ _ _ HA2.out HB2w.out HLA.out HLB.out).mono ?_)
 rintro e w3 ⟨v,rfl,ho,hb3⟩;have HO:=ab ho;have HB3:=ab hb3;clear ho hb3;go_wp2_with fail
 go_ret2
 exact⟨v,rfl,bK HO.out HB2.out.size,ag HB2.out HB3.out⟩
def BR (w:World) (a b:cJ) (X Y:Obj) (p q:Value) (wx:World):Prop:= ∃(b4 b5:Nat) (fv3 fv4:Value),p= .pointer (some ⟨b4,0,none⟩)/\q= .pointer (some ⟨b5,0,none⟩)/\wx.heap[b4]? =some (.cells #[.int .i64 a.tm,fv3] 36 (0,0))/\wx.heap[b5]? =some (.cells #[.int .i64 b.tm,fv4] 36 (0,0))/\am wx w.heap.size fv3 a.files/\am wx w.heap.size fv4 b.files/\Below w.heap.size w wx/\dK X Y w.heap.size wx
theorem am.shape {w:World} {base:Nat} {v:Value} {fs:List ay} (h:am w base v fs): ∃a n c,v= .slice a n c:=by
 obtain⟨zs,h1,h2,-⟩:=h.row;obtain⟨a,c,rfl,-,-⟩:=au h2;exact⟨a,_,c,rfl⟩
theorem aW {U:World} {b k:Nat} {x0 x1:Value} (h:k≠b):((U.setCell ⟨b,0,none⟩ x0).setCell ⟨b,1,none⟩ x1).heap[k]? =U.heap[k]? :=(Below.heap_setCell _ _ _ _ h).trans (Below.heap_setCell _ _ _ _ h)
theorem am.store {U:World} {base b:Nat} {v x0 x1:Value} {fs:List ay} {cs:Array Value} (h:am U base v fs) (hb:U.heap[b]? =some (.cells cs 36 (0,0))):am ((U.setCell ⟨b,0,none⟩ x0).setCell ⟨b,1,none⟩ x1) base v fs:=
 h.same fun k cs t _ _ hc ht=>aW fun e=>by
  rw[e]at hc;have h1:=aL hb hc
  rcases ht with ht | ht
  ·rw[ht.1]at h1; exact absurd h1 (by decide)
  ·rw[ht]at h1; exact absurd h1 (by decide)
theorem dK.store {X Y:Obj} {c b:Nat} {U:World} {x0 x1:Value} (h:dK X Y c U) (hb:c+1<b):dK X Y c ((U.setCell ⟨b,0,none⟩ x0).setCell ⟨b,1,none⟩ x1):=⟨(aW (by omega)).trans h.1,(aW (by omega)).trans h.2⟩
theorem vS (va vb:Value) (a b:cJ) (w:World) (he:iG w) (ha:aO (fun _=>True) w va a.files) (hpa: ∀f∈a.files,f.path.size<=1048576) (hla: ∀f∈a.files,f.parts.length<=1048576) (hna:a.files.length<=1048576) (hb:aO (fun _=>True) w vb b.files) (hpb: ∀f∈b.files,f.path.size<=1048576) (hlb: ∀f∈b.files,f.parts.length<=1048576) (hnb:b.files.length<=1048576):
  Calls Tryz.prog 6 #[cG va a.tm,cG vb b.tm] w fun e w'=>e= .returned (.bool true)/\Below w.heap.size w w':=by
 obtain⟨aa,ac,rfl,hac,ham,-⟩:=aR.shape ha dj.len;obtain⟨ba,bc,rfl,hbc,hbm,-⟩:=aR.shape hb dj.len;have HE:=ab he;have h6:=he.six;have HA:=ab ha;have HB:=ab hb;have HPA:=ab (show ∀f∈a.files,f.path.size<=16777216 from fun f h=>by have:=hpa f h; omega);have HPB:=ab (show ∀f∈b.files,f.path.size<=16777216 from fun f h=>by have:=hpb f h; omega)
 have HLA:=ab hla;have HLB:=ab hlb;have HFA:=ab (show ∀f∈a.files,f.parts.length<=1125899906842624 from fun f h=>by have:=hla f h; omega);have HFB:=ab (show ∀f∈b.files,f.parts.length<=1125899906842624 from fun f h=>by have:=hlb f h; omega);have HOA:=ab (show ∀f∈a.files,∀p∈f.parts,dd p from fun g hg=>by
  obtain⟨k,hk⟩:=List.getElem?_of_mem hg;obtain⟨_,_,_,_,_,_,h3,_⟩:=cj ha (Below.refl _ _) hk;exact nL h3)
 have HOB:=ab (show ∀f∈b.files,∀p∈f.parts,dd p from fun g hg=>by
  obtain⟨k,hk⟩:=List.getElem?_of_mem hg;obtain⟨_,_,_,_,_,_,h3,_⟩:=cj hb (Below.refl _ _) hk;exact nL h3)
 have HNA:=ab hna;have HNB:=ab hnb;obtain⟨na,hna'⟩: ∃n,n=a.files.length:=⟨_,rfl⟩;obtain⟨nb,hnb'⟩: ∃n,n=b.files.length:=⟨_,rfl⟩;rw[<-hna']at HA ⊢;rw[<-hnb']at HB ⊢;clear he ha hpa hla hna hb hpb hlb hnb hna' hnb' hac ham hbc hbm;unfold cG
 go_enter Tryz.func6,Tryz.ntmps6
 go_upto_region 1 with fail
 obtain⟨W,hW⟩: ∃W,W=(w.alloc (.cells #[.int .i64 a.tm, .slice aa na ac] 24)).alloc (.cells #[.int .i64 b.tm, .slice ba nb bc] 24):=⟨_,rfl⟩;rw[<-hW];have HBW:=ab (show Below w.heap.size w W by rw[hW]; exact lJ _ _ (Below.refl _ _) (Nat.le_refl _));have HS:=ab (show dK (.cells #[.int .i64 a.tm, .slice aa na ac] 24 (0,0)) (.cells #[.int .i64 b.tm, .slice ba nb bc] 24 (0,0)) w.heap.size W by rw[hW]; exact qh _ _ _)
 clear hW;have p0:=ai (k:=0) HS.out.1;have p1:=ai (k:=1) HS.out.1;have q0:=ai (k:=0) HS.out.2;have q1:=ai (k:=1) HS.out.2;simp only[List.getElem?_toArray,bN]at p0 p1 q0 q1;have HAW:=ab (HA.out.below HBW.out);go_wp2_with (go_at_call 10; refine(pM _ a _ _ HAW.out HFA.out).mono ?_);rintro e w1 ⟨rfl,hb1⟩;have HB1:=ab (ag HBW.out hb1);have HS1:=ab (HS.out.below hb1)
 clear hb1 p0 p1 q0 q1
 cases hsa:kw a
 case false=>
  go_wp2_with fail;refine(ft _ (HE.out.keep HB1.out h6)).mono ?_;rintro e wz ⟨rfl,hbz⟩;have HBZ:=ab (ag HB1.out hbz);clear hbz;go_wp2_with fail;go_ret;exact⟨rfl,HBZ.out⟩
 have p0:=ai (k:=0) HS1.out.1;have p1:=ai (k:=1) HS1.out.1;have q0:=ai (k:=0) HS1.out.2;have q1:=ai (k:=1) HS1.out.2;simp only[List.getElem?_toArray,bN]at p0 p1 q0 q1;have HBW1:=ab (HB.out.below HB1.out);go_wp2_with (go_at_call 10; refine(pM _ b _ _ HBW1.out HFB.out).mono ?_);rintro e w2 ⟨rfl,hb2⟩;have HB2:=ab (ag HB1.out hb2);have HS2:=ab (HS1.out.below hb2)
 clear hb2 p0 p1 q0 q1
 cases hsb:kw b
 case false=>
  go_wp2_with fail;refine(ft _ (HE.out.keep HB2.out h6)).mono ?_;rintro e wz ⟨rfl,hbz⟩;have HBZ:=ab (ag HB2.out hbz);clear hbz;go_wp2_with fail;go_ret;exact⟨rfl,HBZ.out⟩
 go_upto_region 3 with fail
 go_cut [5,6]from 18 to 21 (fun p q wx=>BR w a b (.cells #[.int .i64 a.tm, .slice aa na ac] 24 (0,0)) (.cells #[.int .i64 b.tm, .slice ba nb bc] 24 (0,0)) p q wx)
 case first=>
  refine cu (dK (.cells #[.int .i64 a.tm, .slice aa na ac] 24 (0,0)) (.cells #[.int .i64 b.tm, .slice ba nb bc] 24 (0,0)) w.heap.size) (by kernel_rfl) ?_;obtain⟨U0,hV⟩: ∃V:World,V=w2.drew:=⟨_,rfl⟩;rw[<-hV];have hb:Below w2.heap.size w2 U0:=by rw[hV]; exact(Below.refl _ _).drew
  have HU0:=ab (ag HB2.out hb);have SS:=ab (HS2.out.below hb);clear hV hb;refine af 0 rfl (by kernel_rfl) (by kernel_rfl) (by kernel_rfl) (fun _ _ _ h=>h) rfl SS.out (by rintro w' ⟨hx,hf⟩; have x0:=ai (k:=0) hx; have x1:=ai (k:=1) hx; have f0:=ai (k:=0) hf; have f1:=ai (k:=1) hf; simp only[List.getElem?_toArray,bN]at x0 x1 f0 f1; clear hx hf; go_simp; rfl) ?_
  simp only[Act.put,aC,aD,aE];refine af 2 rfl (by kernel_rfl) (by kernel_rfl) (by kernel_rfl) (fun _ _ _ h=>h) rfl SS.out (by rintro w' ⟨hx,hf⟩; have x0:=ai (k:=0) hx; have x1:=ai (k:=1) hx; have f0:=ai (k:=0) hf; have f1:=ai (k:=1) hf; simp only[List.getElem?_toArray,bN]at x0 x1 f0 f1; clear hx hf; go_simp; rfl) ?_;simp only[Act.put,aC,aD,aE]
  refine kD.of (wpAnyH_all (rs:=[1,4,5]) (by kernel_rfl) (by simp) fun jj hjj=> ?_);simp only[List.mem_cons,List.not_mem_nil,or_false]at hjj
  rcases hjj with rfl | rfl | rfl
  case inl=>
   refine bT 1 rfl rfl (fun K hK=> ?_);go_wp2_with (go_at_call 14; refine(bH _ a _ _ (HA.out.below HU0.out) HNA.out HLA.out HOA.out).mono ?_; rintro e U1 ⟨fv3,rfl,hfo,hb⟩; obtain⟨va3,vn3,vc3,rfl⟩:=hfo.shape; unfold cG);have HU1:=ab (ag HU0.out hb)
   replace SS:=ab (SS.out.below hb)
   try replace FA:=ab (FA.out.below hb)
   try replace FB:=ab (FB.out.below hb)
   try replace X4:=ab ((hb.block _ (lt_of_block X4.out)).trans X4.out)
   try replace X5:=ab ((hb.block _ (lt_of_block X5.out)).trans X5.out)
   have FA:=ab (hfo.le HU0.out.size);clear hfo hb;refine⟨SS.out, ?_⟩;refine kD.of (wpAnyH_all (rs:=[3,4,5]) (by kernel_rfl) (by simp) fun jj hjj=> ?_);simp only[List.mem_cons,List.not_mem_nil,or_false]at hjj
   rcases hjj with rfl | rfl | rfl
   case inl=>
    refine bT 3 rfl rfl (fun K hK=> ?_);go_wp2_with (go_at_call 14; refine(bH _ b _ _ (HB.out.below HU1.out) HNB.out HLB.out HOB.out).mono ?_; rintro e U2 ⟨fv4,rfl,hfo,hb⟩; obtain⟨va4,vn4,vc4,rfl⟩:=hfo.shape; unfold cG);have HU2:=ab (ag HU1.out hb)
    replace SS:=ab (SS.out.below hb)
    try replace FA:=ab (FA.out.below hb)
    try replace FB:=ab (FB.out.below hb)
    try replace X4:=ab ((hb.block _ (lt_of_block X4.out)).trans X4.out)
    try replace X5:=ab ((hb.block _ (lt_of_block X5.out)).trans X5.out)
    have FB:=ab (hfo.le HU1.out.size);clear hfo hb;refine⟨SS.out, ?_⟩;refine kD.of (wpAnyH_all (rs:=[4,5]) (by kernel_rfl) (by simp) fun jj hjj=> ?_);simp only[List.mem_cons,List.not_mem_nil,or_false]at hjj
    rcases hjj with rfl | rfl
    case inl=>
     refine bT 4 rfl rfl (fun K hK=> ?_)
     try have N45:=ab (show(U2).heap.size≠b5 from(Nat.ne_of_lt (lt_of_block X5.out)).symm)
     go_wp2_with fail;obtain⟨U3,hV⟩: ∃u:World,u=(U2).alloc (.cells #[.int .i64 0, .slice none 0 0] 36):=⟨_,rfl⟩;rw[<-hV];have hb:Below (U2).heap.size U2 U3:=by rw[hV]; exact(Below.refl _ _).alloc (Nat.le_refl _) _
     have L4:=ab (lt_of_block SS.out.2);have HU3:=ab (ag HU2.out hb)
     replace SS:=ab (SS.out.below hb)
     try replace FA:=ab (FA.out.below hb)
     try replace FB:=ab (FB.out.below hb)
     try replace X4:=ab ((hb.block _ (lt_of_block X4.out)).trans X4.out)
     try replace X5:=ab ((hb.block _ (lt_of_block X5.out)).trans X5.out)
     have X4:=ab (show(U3).heap[(U2).heap.size]? =some (.cells #[.int .i64 0, .slice none 0 0] 36 (0,0)) by rw[hV]; exact heap_alloc_new _ _);clear hV hb;obtain⟨b4,hb4⟩: ∃k,k=(U2).heap.size:=⟨_,rfl⟩;rw[<-hb4]at X4 L4;rw[<-hb4]
     try rw[<-hb4]at N45
     clear hb4;refine⟨SS.out, ?_⟩;refine az 5 rfl (by kernel_rfl) rfl (fun K hK=> ?_)
     try have N45:=ab (show b4≠(U3).heap.size from Nat.ne_of_lt (lt_of_block X4.out))
     go_wp2_with fail;obtain⟨U4,hV⟩: ∃u:World,u=(U3).alloc (.cells #[.int .i64 0, .slice none 0 0] 36):=⟨_,rfl⟩;rw[<-hV];have hb:Below (U3).heap.size U3 U4:=by rw[hV]; exact(Below.refl _ _).alloc (Nat.le_refl _) _
     have L5:=ab (lt_of_block SS.out.2);have HU4:=ab (ag HU3.out hb)
     replace SS:=ab (SS.out.below hb)
     try replace FA:=ab (FA.out.below hb)
     try replace FB:=ab (FB.out.below hb)
     try replace X4:=ab ((hb.block _ (lt_of_block X4.out)).trans X4.out)
     try replace X5:=ab ((hb.block _ (lt_of_block X5.out)).trans X5.out)
     have X5:=ab (show(U4).heap[(U3).heap.size]? =some (.cells #[.int .i64 0, .slice none 0 0] 36 (0,0)) by rw[hV]; exact heap_alloc_new _ _);clear hV hb;obtain⟨b5,hb4⟩: ∃k,k=(U3).heap.size:=⟨_,rfl⟩;rw[<-hb4]at X5 L5;rw[<-hb4]
     try rw[<-hb4]at N45
     clear hb4;refine⟨SS.out, ?_⟩;have f0:(U4).frozen? ⟨b4,0,none⟩=false:=al (k:=0) X4.out;have f1:(U4).frozen? ⟨b4,1,none⟩=false:=al (k:=1) X4.out;have c0:=ai (k:=0) X4.out;have c1:=ai (k:=1) X4.out;simp only[List.getElem?_toArray,bN]at c0 c1;refine az 6 rfl (by kernel_rfl) rfl (fun K hK=> ?_);go_wp2_with fail;obtain⟨Z,hZ⟩: ∃u:World,u=((U4).setCell ⟨b4,0,none⟩ (.int .i64 a.tm)).setCell ⟨b4,1,none⟩ (.slice va3 vn3 vc3):=⟨_,rfl⟩
     rw[<-hZ];have HZ:=ab (show Below w.heap.size w Z by rw[hZ]; exact(HU4.out.setCell (by show w.heap.size<=b4; have:=L4.out; omega) _).setCell (by show w.heap.size<=b4; have:=L4.out; omega) _)
     replace SS:=ab (show dK _ _ w.heap.size Z by rw[hZ]; exact SS.out.store L4.out)
     replace FA:=ab (show am Z w.heap.size (.slice va3 vn3 vc3) a.files by rw[hZ]; exact FA.out.store X4.out)
     replace FB:=ab (show am Z w.heap.size (.slice va4 vn4 vc4) b.files by rw[hZ]; exact FB.out.store X4.out)
     replace X5:=ab (show Z.heap[b5]? =some (.cells #[.int .i64 0, .slice none 0 0] 36 (0,0)) by rw[hZ]; exact(aW N45.out.symm).trans X5.out)
     replace X4:=ab (show Z.heap[b4]? =some (.cells #[.int .i64 a.tm,(.slice va3 vn3 vc3)] 36 (0,0)) by rw[hZ]; exact dE X4.out)
     clear hZ f0 f1 c0 c1;refine⟨SS.out, ?_⟩;have f0:Z.frozen? ⟨b5,0,none⟩=false:=al (k:=0) X5.out;have f1:Z.frozen? ⟨b5,1,none⟩=false:=al (k:=1) X5.out;have c0:=ai (k:=0) X5.out;have c1:=ai (k:=1) X5.out;simp only[List.getElem?_toArray,bN]at c0 c1;refine az 7 rfl (by kernel_rfl) rfl (fun K hK=> ?_);go_wp2_with fail;obtain⟨Y,hY⟩: ∃u:World,u=(Z.setCell ⟨b5,0,none⟩ (.int .i64 b.tm)).setCell ⟨b5,1,none⟩ (.slice va4 vn4 vc4):=⟨_,rfl⟩
     rw[<-hY];have HY:=ab (show Below w.heap.size w Y by rw[hY]; exact(HZ.out.setCell (by show w.heap.size<=b5; have:=L5.out; omega) _).setCell (by show w.heap.size<=b5; have:=L5.out; omega) _)
     replace SS:=ab (show dK _ _ w.heap.size Y by rw[hY]; exact SS.out.store L5.out)
     replace FA:=ab (show am Y w.heap.size (.slice va3 vn3 vc3) a.files by rw[hY]; exact FA.out.store X5.out)
     replace FB:=ab (show am Y w.heap.size (.slice va4 vn4 vc4) b.files by rw[hY]; exact FB.out.store X5.out)
     replace X4:=ab (show Y.heap[b4]? =some (.cells #[.int .i64 a.tm,(.slice va3 vn3 vc3)] 36 (0,0)) by rw[hY]; exact(aW N45.out).trans X4.out)
     replace X5:=ab (show Y.heap[b5]? =some (.cells #[.int .i64 b.tm,(.slice va4 vn4 vc4)] 36 (0,0)) by rw[hY]; exact dE X5.out)
     clear hY f0 f1 c0 c1;refine⟨SS.out, ?_⟩;refine aZ (by kernel_rfl) ?_;go_wp2_with fail
     go_meet
     case rel=>exact⟨b4,b5,(.slice va3 vn3 vc3),(.slice va4 vn4 vc4),rfl,rfl,X4.out,X5.out,FA.out,FB.out,HY.out,SS.out⟩
    case inr=>
     refine bT 5 rfl rfl (fun K hK=> ?_)
     try have N45:=ab (show b4≠(U2).heap.size from Nat.ne_of_lt (lt_of_block X4.out))
     go_wp2_with fail;obtain⟨U3,hV⟩: ∃u:World,u=(U2).alloc (.cells #[.int .i64 0, .slice none 0 0] 36):=⟨_,rfl⟩;rw[<-hV];have hb:Below (U2).heap.size U2 U3:=by rw[hV]; exact(Below.refl _ _).alloc (Nat.le_refl _) _
     have L5:=ab (lt_of_block SS.out.2);have HU3:=ab (ag HU2.out hb)
     replace SS:=ab (SS.out.below hb)
     try replace FA:=ab (FA.out.below hb)
     try replace FB:=ab (FB.out.below hb)
     try replace X4:=ab ((hb.block _ (lt_of_block X4.out)).trans X4.out)
     try replace X5:=ab ((hb.block _ (lt_of_block X5.out)).trans X5.out)
     have X5:=ab (show(U3).heap[(U2).heap.size]? =some (.cells #[.int .i64 0, .slice none 0 0] 36 (0,0)) by rw[hV]; exact heap_alloc_new _ _);clear hV hb;obtain⟨b5,hb4⟩: ∃k,k=(U2).heap.size:=⟨_,rfl⟩;rw[<-hb4]at X5 L5;rw[<-hb4]
     try rw[<-hb4]at N45
     clear hb4;refine⟨SS.out, ?_⟩;refine az 4 rfl (by kernel_rfl) rfl (fun K hK=> ?_)
     try have N45:=ab (show(U3).heap.size≠b5 from(Nat.ne_of_lt (lt_of_block X5.out)).symm)
     go_wp2_with fail;obtain⟨U4,hV⟩: ∃u:World,u=(U3).alloc (.cells #[.int .i64 0, .slice none 0 0] 36):=⟨_,rfl⟩;rw[<-hV];have hb:Below (U3).heap.size U3 U4:=by rw[hV]; exact(Below.refl _ _).alloc (Nat.le_refl _) _
     have L4:=ab (lt_of_block SS.out.2);have HU4:=ab (ag HU3.out hb)
     replace SS:=ab (SS.out.below hb)
     try replace FA:=ab (FA.out.below hb)
     try replace FB:=ab (FB.out.below hb)
     try replace X4:=ab ((hb.block _ (lt_of_block X4.out)).trans X4.out)
     try replace X5:=ab ((hb.block _ (lt_of_block X5.out)).trans X5.out)
     have X4:=ab (show(U4).heap[(U3).heap.size]? =some (.cells #[.int .i64 0, .slice none 0 0] 36 (0,0)) by rw[hV]; exact heap_alloc_new _ _);clear hV hb;obtain⟨b4,hb4⟩: ∃k,k=(U3).heap.size:=⟨_,rfl⟩;rw[<-hb4]at X4 L4;rw[<-hb4]
     try rw[<-hb4]at N45
     clear hb4;refine⟨SS.out, ?_⟩;have f0:(U4).frozen? ⟨b4,0,none⟩=false:=al (k:=0) X4.out;have f1:(U4).frozen? ⟨b4,1,none⟩=false:=al (k:=1) X4.out;have c0:=ai (k:=0) X4.out;have c1:=ai (k:=1) X4.out;simp only[List.getElem?_toArray,bN]at c0 c1;refine az 6 rfl (by kernel_rfl) rfl (fun K hK=> ?_);go_wp2_with fail;obtain⟨Z,hZ⟩: ∃u:World,u=((U4).setCell ⟨b4,0,none⟩ (.int .i64 a.tm)).setCell ⟨b4,1,none⟩ (.slice va3 vn3 vc3):=⟨_,rfl⟩
     rw[<-hZ];have HZ:=ab (show Below w.heap.size w Z by rw[hZ]; exact(HU4.out.setCell (by show w.heap.size<=b4; have:=L4.out; omega) _).setCell (by show w.heap.size<=b4; have:=L4.out; omega) _)
     replace SS:=ab (show dK _ _ w.heap.size Z by rw[hZ]; exact SS.out.store L4.out)
     replace FA:=ab (show am Z w.heap.size (.slice va3 vn3 vc3) a.files by rw[hZ]; exact FA.out.store X4.out)
     replace FB:=ab (show am Z w.heap.size (.slice va4 vn4 vc4) b.files by rw[hZ]; exact FB.out.store X4.out)
     replace X5:=ab (show Z.heap[b5]? =some (.cells #[.int .i64 0, .slice none 0 0] 36 (0,0)) by rw[hZ]; exact(aW N45.out.symm).trans X5.out)
     replace X4:=ab (show Z.heap[b4]? =some (.cells #[.int .i64 a.tm,(.slice va3 vn3 vc3)] 36 (0,0)) by rw[hZ]; exact dE X4.out)
     clear hZ f0 f1 c0 c1;refine⟨SS.out, ?_⟩;have f0:Z.frozen? ⟨b5,0,none⟩=false:=al (k:=0) X5.out;have f1:Z.frozen? ⟨b5,1,none⟩=false:=al (k:=1) X5.out;have c0:=ai (k:=0) X5.out;have c1:=ai (k:=1) X5.out;simp only[List.getElem?_toArray,bN]at c0 c1;refine az 7 rfl (by kernel_rfl) rfl (fun K hK=> ?_);go_wp2_with fail;obtain⟨Y,hY⟩: ∃u:World,u=(Z.setCell ⟨b5,0,none⟩ (.int .i64 b.tm)).setCell ⟨b5,1,none⟩ (.slice va4 vn4 vc4):=⟨_,rfl⟩
     rw[<-hY];have HY:=ab (show Below w.heap.size w Y by rw[hY]; exact(HZ.out.setCell (by show w.heap.size<=b5; have:=L5.out; omega) _).setCell (by show w.heap.size<=b5; have:=L5.out; omega) _)
     replace SS:=ab (show dK _ _ w.heap.size Y by rw[hY]; exact SS.out.store L5.out)
     replace FA:=ab (show am Y w.heap.size (.slice va3 vn3 vc3) a.files by rw[hY]; exact FA.out.store X5.out)
     replace FB:=ab (show am Y w.heap.size (.slice va4 vn4 vc4) b.files by rw[hY]; exact FB.out.store X5.out)
     replace X4:=ab (show Y.heap[b4]? =some (.cells #[.int .i64 a.tm,(.slice va3 vn3 vc3)] 36 (0,0)) by rw[hY]; exact(aW N45.out).trans X4.out)
     replace X5:=ab (show Y.heap[b5]? =some (.cells #[.int .i64 b.tm,(.slice va4 vn4 vc4)] 36 (0,0)) by rw[hY]; exact dE X5.out)
     clear hY f0 f1 c0 c1;refine⟨SS.out, ?_⟩;refine aZ (by kernel_rfl) ?_;go_wp2_with fail
     go_meet
     case rel=>exact⟨b4,b5,(.slice va3 vn3 vc3),(.slice va4 vn4 vc4),rfl,rfl,X4.out,X5.out,FA.out,FB.out,HY.out,SS.out⟩
   case inr.inl=>
    refine bT 4 rfl rfl (fun K hK=> ?_)
    try have N45:=ab (show(U1).heap.size≠b5 from(Nat.ne_of_lt (lt_of_block X5.out)).symm)
    go_wp2_with fail;obtain⟨U2,hV⟩: ∃u:World,u=(U1).alloc (.cells #[.int .i64 0, .slice none 0 0] 36):=⟨_,rfl⟩;rw[<-hV];have hb:Below (U1).heap.size U1 U2:=by rw[hV]; exact(Below.refl _ _).alloc (Nat.le_refl _) _
    have L4:=ab (lt_of_block SS.out.2);have HU2:=ab (ag HU1.out hb)
    replace SS:=ab (SS.out.below hb)
    try replace FA:=ab (FA.out.below hb)
    try replace FB:=ab (FB.out.below hb)
    try replace X4:=ab ((hb.block _ (lt_of_block X4.out)).trans X4.out)
    try replace X5:=ab ((hb.block _ (lt_of_block X5.out)).trans X5.out)
    have X4:=ab (show(U2).heap[(U1).heap.size]? =some (.cells #[.int .i64 0, .slice none 0 0] 36 (0,0)) by rw[hV]; exact heap_alloc_new _ _);clear hV hb;obtain⟨b4,hb4⟩: ∃k,k=(U1).heap.size:=⟨_,rfl⟩;rw[<-hb4]at X4 L4;rw[<-hb4]
    try rw[<-hb4]at N45
    clear hb4;refine⟨SS.out, ?_⟩;refine kD.of (wpAnyH_all (rs:=[3,5]) (by kernel_rfl) (by simp) fun jj hjj=> ?_);simp only[List.mem_cons,List.not_mem_nil,or_false]at hjj
    rcases hjj with rfl | rfl
    case inl=>
     refine bT 3 rfl rfl (fun K hK=> ?_);go_wp2_with (go_at_call 14; refine(bH _ b _ _ (HB.out.below HU2.out) HNB.out HLB.out HOB.out).mono ?_; rintro e U3 ⟨fv4,rfl,hfo,hb⟩; obtain⟨va4,vn4,vc4,rfl⟩:=hfo.shape; unfold cG);have HU3:=ab (ag HU2.out hb)
     replace SS:=ab (SS.out.below hb)
     try replace FA:=ab (FA.out.below hb)
     try replace FB:=ab (FB.out.below hb)
     try replace X4:=ab ((hb.block _ (lt_of_block X4.out)).trans X4.out)
     try replace X5:=ab ((hb.block _ (lt_of_block X5.out)).trans X5.out)
     have FB:=ab (hfo.le HU2.out.size);clear hfo hb;refine⟨SS.out, ?_⟩;refine az 5 rfl (by kernel_rfl) rfl (fun K hK=> ?_)
     try have N45:=ab (show b4≠(U3).heap.size from Nat.ne_of_lt (lt_of_block X4.out))
     go_wp2_with fail;obtain⟨U4,hV⟩: ∃u:World,u=(U3).alloc (.cells #[.int .i64 0, .slice none 0 0] 36):=⟨_,rfl⟩;rw[<-hV];have hb:Below (U3).heap.size U3 U4:=by rw[hV]; exact(Below.refl _ _).alloc (Nat.le_refl _) _
     have L5:=ab (lt_of_block SS.out.2);have HU4:=ab (ag HU3.out hb)
     replace SS:=ab (SS.out.below hb)
     try replace FA:=ab (FA.out.below hb)
     try replace FB:=ab (FB.out.below hb)
     try replace X4:=ab ((hb.block _ (lt_of_block X4.out)).trans X4.out)
     try replace X5:=ab ((hb.block _ (lt_of_block X5.out)).trans X5.out)
     have X5:=ab (show(U4).heap[(U3).heap.size]? =some (.cells #[.int .i64 0, .slice none 0 0] 36 (0,0)) by rw[hV]; exact heap_alloc_new _ _);clear hV hb;obtain⟨b5,hb4⟩: ∃k,k=(U3).heap.size:=⟨_,rfl⟩;rw[<-hb4]at X5 L5;rw[<-hb4]
     try rw[<-hb4]at N45
     clear hb4;refine⟨SS.out, ?_⟩;have f0:(U4).frozen? ⟨b4,0,none⟩=false:=al (k:=0) X4.out;have f1:(U4).frozen? ⟨b4,1,none⟩=false:=al (k:=1) X4.out;have c0:=ai (k:=0) X4.out;have c1:=ai (k:=1) X4.out;simp only[List.getElem?_toArray,bN]at c0 c1;refine az 6 rfl (by kernel_rfl) rfl (fun K hK=> ?_);go_wp2_with fail;obtain⟨Z,hZ⟩: ∃u:World,u=((U4).setCell ⟨b4,0,none⟩ (.int .i64 a.tm)).setCell ⟨b4,1,none⟩ (.slice va3 vn3 vc3):=⟨_,rfl⟩
     rw[<-hZ];have HZ:=ab (show Below w.heap.size w Z by rw[hZ]; exact(HU4.out.setCell (by show w.heap.size<=b4; have:=L4.out; omega) _).setCell (by show w.heap.size<=b4; have:=L4.out; omega) _)
     replace SS:=ab (show dK _ _ w.heap.size Z by rw[hZ]; exact SS.out.store L4.out)
     replace FA:=ab (show am Z w.heap.size (.slice va3 vn3 vc3) a.files by rw[hZ]; exact FA.out.store X4.out)
     replace FB:=ab (show am Z w.heap.size (.slice va4 vn4 vc4) b.files by rw[hZ]; exact FB.out.store X4.out)
     replace X5:=ab (show Z.heap[b5]? =some (.cells #[.int .i64 0, .slice none 0 0] 36 (0,0)) by rw[hZ]; exact(aW N45.out.symm).trans X5.out)
     replace X4:=ab (show Z.heap[b4]? =some (.cells #[.int .i64 a.tm,(.slice va3 vn3 vc3)] 36 (0,0)) by rw[hZ]; exact dE X4.out)
     clear hZ f0 f1 c0 c1;refine⟨SS.out, ?_⟩;have f0:Z.frozen? ⟨b5,0,none⟩=false:=al (k:=0) X5.out;have f1:Z.frozen? ⟨b5,1,none⟩=false:=al (k:=1) X5.out;have c0:=ai (k:=0) X5.out;have c1:=ai (k:=1) X5.out;simp only[List.getElem?_toArray,bN]at c0 c1;refine az 7 rfl (by kernel_rfl) rfl (fun K hK=> ?_);go_wp2_with fail;obtain⟨Y,hY⟩: ∃u:World,u=(Z.setCell ⟨b5,0,none⟩ (.int .i64 b.tm)).setCell ⟨b5,1,none⟩ (.slice va4 vn4 vc4):=⟨_,rfl⟩
     rw[<-hY];have HY:=ab (show Below w.heap.size w Y by rw[hY]; exact(HZ.out.setCell (by show w.heap.size<=b5; have:=L5.out; omega) _).setCell (by show w.heap.size<=b5; have:=L5.out; omega) _)
     replace SS:=ab (show dK _ _ w.heap.size Y by rw[hY]; exact SS.out.store L5.out)
     replace FA:=ab (show am Y w.heap.size (.slice va3 vn3 vc3) a.files by rw[hY]; exact FA.out.store X5.out)
     replace FB:=ab (show am Y w.heap.size (.slice va4 vn4 vc4) b.files by rw[hY]; exact FB.out.store X5.out)
     replace X4:=ab (show Y.heap[b4]? =some (.cells #[.int .i64 a.tm,(.slice va3 vn3 vc3)] 36 (0,0)) by rw[hY]; exact(aW N45.out).trans X4.out)
     replace X5:=ab (show Y.heap[b5]? =some (.cells #[.int .i64 b.tm,(.slice va4 vn4 vc4)] 36 (0,0)) by rw[hY]; exact dE X5.out)
     clear hY f0 f1 c0 c1;refine⟨SS.out, ?_⟩;refine aZ (by kernel_rfl) ?_;go_wp2_with fail
     go_meet
     case rel=>exact⟨b4,b5,(.slice va3 vn3 vc3),(.slice va4 vn4 vc4),rfl,rfl,X4.out,X5.out,FA.out,FB.out,HY.out,SS.out⟩
    case inr=>
     refine bT 5 rfl rfl (fun K hK=> ?_)
     try have N45:=ab (show b4≠(U2).heap.size from Nat.ne_of_lt (lt_of_block X4.out))
     go_wp2_with fail;obtain⟨U3,hV⟩: ∃u:World,u=(U2).alloc (.cells #[.int .i64 0, .slice none 0 0] 36):=⟨_,rfl⟩;rw[<-hV];have hb:Below (U2).heap.size U2 U3:=by rw[hV]; exact(Below.refl _ _).alloc (Nat.le_refl _) _
     have L5:=ab (lt_of_block SS.out.2);have HU3:=ab (ag HU2.out hb)
     replace SS:=ab (SS.out.below hb)
     try replace FA:=ab (FA.out.below hb)
     try replace FB:=ab (FB.out.below hb)
     try replace X4:=ab ((hb.block _ (lt_of_block X4.out)).trans X4.out)
     try replace X5:=ab ((hb.block _ (lt_of_block X5.out)).trans X5.out)
     have X5:=ab (show(U3).heap[(U2).heap.size]? =some (.cells #[.int .i64 0, .slice none 0 0] 36 (0,0)) by rw[hV]; exact heap_alloc_new _ _);clear hV hb;obtain⟨b5,hb4⟩: ∃k,k=(U2).heap.size:=⟨_,rfl⟩;rw[<-hb4]at X5 L5;rw[<-hb4]
     try rw[<-hb4]at N45
     clear hb4;refine⟨SS.out, ?_⟩;refine az 3 rfl (by kernel_rfl) rfl (fun K hK=> ?_);go_wp2_with (go_at_call 14; refine(bH _ b _ _ (HB.out.below HU3.out) HNB.out HLB.out HOB.out).mono ?_; rintro e U4 ⟨fv4,rfl,hfo,hb⟩; obtain⟨va4,vn4,vc4,rfl⟩:=hfo.shape; unfold cG);have HU4:=ab (ag HU3.out hb)
     replace SS:=ab (SS.out.below hb)
     try replace FA:=ab (FA.out.below hb)
     try replace FB:=ab (FB.out.below hb)
     try replace X4:=ab ((hb.block _ (lt_of_block X4.out)).trans X4.out)
     try replace X5:=ab ((hb.block _ (lt_of_block X5.out)).trans X5.out)
     have FB:=ab (hfo.le HU3.out.size);clear hfo hb;refine⟨SS.out, ?_⟩;have f0:(U4).frozen? ⟨b4,0,none⟩=false:=al (k:=0) X4.out;have f1:(U4).frozen? ⟨b4,1,none⟩=false:=al (k:=1) X4.out;have c0:=ai (k:=0) X4.out;have c1:=ai (k:=1) X4.out;simp only[List.getElem?_toArray,bN]at c0 c1;refine az 6 rfl (by kernel_rfl) rfl (fun K hK=> ?_);go_wp2_with fail
     obtain⟨Z,hZ⟩: ∃u:World,u=((U4).setCell ⟨b4,0,none⟩ (.int .i64 a.tm)).setCell ⟨b4,1,none⟩ (.slice va3 vn3 vc3):=⟨_,rfl⟩;rw[<-hZ];have HZ:=ab (show Below w.heap.size w Z by rw[hZ]; exact(HU4.out.setCell (by show w.heap.size<=b4; have:=L4.out; omega) _).setCell (by show w.heap.size<=b4; have:=L4.out; omega) _)
     replace SS:=ab (show dK _ _ w.heap.size Z by rw[hZ]; exact SS.out.store L4.out)
     replace FA:=ab (show am Z w.heap.size (.slice va3 vn3 vc3) a.files by rw[hZ]; exact FA.out.store X4.out)
     replace FB:=ab (show am Z w.heap.size (.slice va4 vn4 vc4) b.files by rw[hZ]; exact FB.out.store X4.out)
     replace X5:=ab (show Z.heap[b5]? =some (.cells #[.int .i64 0, .slice none 0 0] 36 (0,0)) by rw[hZ]; exact(aW N45.out.symm).trans X5.out)
     replace X4:=ab (show Z.heap[b4]? =some (.cells #[.int .i64 a.tm,(.slice va3 vn3 vc3)] 36 (0,0)) by rw[hZ]; exact dE X4.out)
     clear hZ f0 f1 c0 c1;refine⟨SS.out, ?_⟩;have f0:Z.frozen? ⟨b5,0,none⟩=false:=al (k:=0) X5.out;have f1:Z.frozen? ⟨b5,1,none⟩=false:=al (k:=1) X5.out;have c0:=ai (k:=0) X5.out;have c1:=ai (k:=1) X5.out;simp only[List.getElem?_toArray,bN]at c0 c1;refine az 7 rfl (by kernel_rfl) rfl (fun K hK=> ?_);go_wp2_with fail;obtain⟨Y,hY⟩: ∃u:World,u=(Z.setCell ⟨b5,0,none⟩ (.int .i64 b.tm)).setCell ⟨b5,1,none⟩ (.slice va4 vn4 vc4):=⟨_,rfl⟩
     rw[<-hY];have HY:=ab (show Below w.heap.size w Y by rw[hY]; exact(HZ.out.setCell (by show w.heap.size<=b5; have:=L5.out; omega) _).setCell (by show w.heap.size<=b5; have:=L5.out; omega) _)
     replace SS:=ab (show dK _ _ w.heap.size Y by rw[hY]; exact SS.out.store L5.out)
     replace FA:=ab (show am Y w.heap.size (.slice va3 vn3 vc3) a.files by rw[hY]; exact FA.out.store X5.out)
     replace FB:=ab (show am Y w.heap.size (.slice va4 vn4 vc4) b.files by rw[hY]; exact FB.out.store X5.out)
     replace X4:=ab (show Y.heap[b4]? =some (.cells #[.int .i64 a.tm,(.slice va3 vn3 vc3)] 36 (0,0)) by rw[hY]; exact(aW N45.out).trans X4.out)
     replace X5:=ab (show Y.heap[b5]? =some (.cells #[.int .i64 b.tm,(.slice va4 vn4 vc4)] 36 (0,0)) by rw[hY]; exact dE X5.out)
     clear hY f0 f1 c0 c1;refine⟨SS.out, ?_⟩;refine aZ (by kernel_rfl) ?_;go_wp2_with fail
     go_meet
     case rel=>exact⟨b4,b5,(.slice va3 vn3 vc3),(.slice va4 vn4 vc4),rfl,rfl,X4.out,X5.out,FA.out,FB.out,HY.out,SS.out⟩
   case inr.inr=>
    refine bT 5 rfl rfl (fun K hK=> ?_)
    try have N45:=ab (show b4≠(U1).heap.size from Nat.ne_of_lt (lt_of_block X4.out))
    go_wp2_with fail;obtain⟨U2,hV⟩: ∃u:World,u=(U1).alloc (.cells #[.int .i64 0, .slice none 0 0] 36):=⟨_,rfl⟩;rw[<-hV];have hb:Below (U1).heap.size U1 U2:=by rw[hV]; exact(Below.refl _ _).alloc (Nat.le_refl _) _
    have L5:=ab (lt_of_block SS.out.2);have HU2:=ab (ag HU1.out hb)
    replace SS:=ab (SS.out.below hb)
    try replace FA:=ab (FA.out.below hb)
    try replace FB:=ab (FB.out.below hb)
    try replace X4:=ab ((hb.block _ (lt_of_block X4.out)).trans X4.out)
    try replace X5:=ab ((hb.block _ (lt_of_block X5.out)).trans X5.out)
    have X5:=ab (show(U2).heap[(U1).heap.size]? =some (.cells #[.int .i64 0, .slice none 0 0] 36 (0,0)) by rw[hV]; exact heap_alloc_new _ _);clear hV hb;obtain⟨b5,hb4⟩: ∃k,k=(U1).heap.size:=⟨_,rfl⟩;rw[<-hb4]at X5 L5;rw[<-hb4]
    try rw[<-hb4]at N45
    clear hb4;refine⟨SS.out, ?_⟩;refine kD.of (wpAnyH_all (rs:=[3,4]) (by kernel_rfl) (by simp) fun jj hjj=> ?_);simp only[List.mem_cons,List.not_mem_nil,or_false]at hjj
    rcases hjj with rfl | rfl
    case inl=>
     refine bT 3 rfl rfl (fun K hK=> ?_);go_wp2_with (go_at_call 14; refine(bH _ b _ _ (HB.out.below HU2.out) HNB.out HLB.out HOB.out).mono ?_; rintro e U3 ⟨fv4,rfl,hfo,hb⟩; obtain⟨va4,vn4,vc4,rfl⟩:=hfo.shape; unfold cG);have HU3:=ab (ag HU2.out hb)
     replace SS:=ab (SS.out.below hb)
     try replace FA:=ab (FA.out.below hb)
     try replace FB:=ab (FB.out.below hb)
     try replace X4:=ab ((hb.block _ (lt_of_block X4.out)).trans X4.out)
     try replace X5:=ab ((hb.block _ (lt_of_block X5.out)).trans X5.out)
     have FB:=ab (hfo.le HU2.out.size);clear hfo hb;refine⟨SS.out, ?_⟩;refine az 4 rfl (by kernel_rfl) rfl (fun K hK=> ?_)
     try have N45:=ab (show(U3).heap.size≠b5 from(Nat.ne_of_lt (lt_of_block X5.out)).symm)
     go_wp2_with fail;obtain⟨U4,hV⟩: ∃u:World,u=(U3).alloc (.cells #[.int .i64 0, .slice none 0 0] 36):=⟨_,rfl⟩;rw[<-hV];have hb:Below (U3).heap.size U3 U4:=by rw[hV]; exact(Below.refl _ _).alloc (Nat.le_refl _) _
     have L4:=ab (lt_of_block SS.out.2);have HU4:=ab (ag HU3.out hb)
     replace SS:=ab (SS.out.below hb)
     try replace FA:=ab (FA.out.below hb)
     try replace FB:=ab (FB.out.below hb)
     try replace X4:=ab ((hb.block _ (lt_of_block X4.out)).trans X4.out)
     try replace X5:=ab ((hb.block _ (lt_of_block X5.out)).trans X5.out)
     have X4:=ab (show(U4).heap[(U3).heap.size]? =some (.cells #[.int .i64 0, .slice none 0 0] 36 (0,0)) by rw[hV]; exact heap_alloc_new _ _);clear hV hb;obtain⟨b4,hb4⟩: ∃k,k=(U3).heap.size:=⟨_,rfl⟩;rw[<-hb4]at X4 L4;rw[<-hb4]
     try rw[<-hb4]at N45
     clear hb4;refine⟨SS.out, ?_⟩;have f0:(U4).frozen? ⟨b4,0,none⟩=false:=al (k:=0) X4.out;have f1:(U4).frozen? ⟨b4,1,none⟩=false:=al (k:=1) X4.out;have c0:=ai (k:=0) X4.out;have c1:=ai (k:=1) X4.out;simp only[List.getElem?_toArray,bN]at c0 c1;refine az 6 rfl (by kernel_rfl) rfl (fun K hK=> ?_);go_wp2_with fail;obtain⟨Z,hZ⟩: ∃u:World,u=((U4).setCell ⟨b4,0,none⟩ (.int .i64 a.tm)).setCell ⟨b4,1,none⟩ (.slice va3 vn3 vc3):=⟨_,rfl⟩
     rw[<-hZ];have HZ:=ab (show Below w.heap.size w Z by rw[hZ]; exact(HU4.out.setCell (by show w.heap.size<=b4; have:=L4.out; omega) _).setCell (by show w.heap.size<=b4; have:=L4.out; omega) _)
     replace SS:=ab (show dK _ _ w.heap.size Z by rw[hZ]; exact SS.out.store L4.out)
     replace FA:=ab (show am Z w.heap.size (.slice va3 vn3 vc3) a.files by rw[hZ]; exact FA.out.store X4.out)
     replace FB:=ab (show am Z w.heap.size (.slice va4 vn4 vc4) b.files by rw[hZ]; exact FB.out.store X4.out)
     replace X5:=ab (show Z.heap[b5]? =some (.cells #[.int .i64 0, .slice none 0 0] 36 (0,0)) by rw[hZ]; exact(aW N45.out.symm).trans X5.out)
     replace X4:=ab (show Z.heap[b4]? =some (.cells #[.int .i64 a.tm,(.slice va3 vn3 vc3)] 36 (0,0)) by rw[hZ]; exact dE X4.out)
     clear hZ f0 f1 c0 c1;refine⟨SS.out, ?_⟩;have f0:Z.frozen? ⟨b5,0,none⟩=false:=al (k:=0) X5.out;have f1:Z.frozen? ⟨b5,1,none⟩=false:=al (k:=1) X5.out;have c0:=ai (k:=0) X5.out;have c1:=ai (k:=1) X5.out;simp only[List.getElem?_toArray,bN]at c0 c1;refine az 7 rfl (by kernel_rfl) rfl (fun K hK=> ?_);go_wp2_with fail;obtain⟨Y,hY⟩: ∃u:World,u=(Z.setCell ⟨b5,0,none⟩ (.int .i64 b.tm)).setCell ⟨b5,1,none⟩ (.slice va4 vn4 vc4):=⟨_,rfl⟩
     rw[<-hY];have HY:=ab (show Below w.heap.size w Y by rw[hY]; exact(HZ.out.setCell (by show w.heap.size<=b5; have:=L5.out; omega) _).setCell (by show w.heap.size<=b5; have:=L5.out; omega) _)
     replace SS:=ab (show dK _ _ w.heap.size Y by rw[hY]; exact SS.out.store L5.out)
     replace FA:=ab (show am Y w.heap.size (.slice va3 vn3 vc3) a.files by rw[hY]; exact FA.out.store X5.out)
     replace FB:=ab (show am Y w.heap.size (.slice va4 vn4 vc4) b.files by rw[hY]; exact FB.out.store X5.out)
     replace X4:=ab (show Y.heap[b4]? =some (.cells #[.int .i64 a.tm,(.slice va3 vn3 vc3)] 36 (0,0)) by rw[hY]; exact(aW N45.out).trans X4.out)
     replace X5:=ab (show Y.heap[b5]? =some (.cells #[.int .i64 b.tm,(.slice va4 vn4 vc4)] 36 (0,0)) by rw[hY]; exact dE X5.out)
     clear hY f0 f1 c0 c1;refine⟨SS.out, ?_⟩;refine aZ (by kernel_rfl) ?_;go_wp2_with fail
     go_meet
     case rel=>exact⟨b4,b5,(.slice va3 vn3 vc3),(.slice va4 vn4 vc4),rfl,rfl,X4.out,X5.out,FA.out,FB.out,HY.out,SS.out⟩
    case inr=>
     refine bT 4 rfl rfl (fun K hK=> ?_)
     try have N45:=ab (show(U2).heap.size≠b5 from(Nat.ne_of_lt (lt_of_block X5.out)).symm)
     go_wp2_with fail;obtain⟨U3,hV⟩: ∃u:World,u=(U2).alloc (.cells #[.int .i64 0, .slice none 0 0] 36):=⟨_,rfl⟩;rw[<-hV];have hb:Below (U2).heap.size U2 U3:=by rw[hV]; exact(Below.refl _ _).alloc (Nat.le_refl _) _
     have L4:=ab (lt_of_block SS.out.2);have HU3:=ab (ag HU2.out hb)
     replace SS:=ab (SS.out.below hb)
     try replace FA:=ab (FA.out.below hb)
     try replace FB:=ab (FB.out.below hb)
     try replace X4:=ab ((hb.block _ (lt_of_block X4.out)).trans X4.out)
     try replace X5:=ab ((hb.block _ (lt_of_block X5.out)).trans X5.out)
     have X4:=ab (show(U3).heap[(U2).heap.size]? =some (.cells #[.int .i64 0, .slice none 0 0] 36 (0,0)) by rw[hV]; exact heap_alloc_new _ _);clear hV hb;obtain⟨b4,hb4⟩: ∃k,k=(U2).heap.size:=⟨_,rfl⟩;rw[<-hb4]at X4 L4;rw[<-hb4]
     try rw[<-hb4]at N45
     clear hb4;refine⟨SS.out, ?_⟩;refine az 3 rfl (by kernel_rfl) rfl (fun K hK=> ?_);go_wp2_with (go_at_call 14; refine(bH _ b _ _ (HB.out.below HU3.out) HNB.out HLB.out HOB.out).mono ?_; rintro e U4 ⟨fv4,rfl,hfo,hb⟩; obtain⟨va4,vn4,vc4,rfl⟩:=hfo.shape; unfold cG);have HU4:=ab (ag HU3.out hb)
     replace SS:=ab (SS.out.below hb)
     try replace FA:=ab (FA.out.below hb)
     try replace FB:=ab (FB.out.below hb)
     try replace X4:=ab ((hb.block _ (lt_of_block X4.out)).trans X4.out)
     try replace X5:=ab ((hb.block _ (lt_of_block X5.out)).trans X5.out)
     have FB:=ab (hfo.le HU3.out.size);clear hfo hb;refine⟨SS.out, ?_⟩;have f0:(U4).frozen? ⟨b4,0,none⟩=false:=al (k:=0) X4.out;have f1:(U4).frozen? ⟨b4,1,none⟩=false:=al (k:=1) X4.out;have c0:=ai (k:=0) X4.out;have c1:=ai (k:=1) X4.out;simp only[List.getElem?_toArray,bN]at c0 c1;refine az 6 rfl (by kernel_rfl) rfl (fun K hK=> ?_);go_wp2_with fail
     obtain⟨Z,hZ⟩: ∃u:World,u=((U4).setCell ⟨b4,0,none⟩ (.int .i64 a.tm)).setCell ⟨b4,1,none⟩ (.slice va3 vn3 vc3):=⟨_,rfl⟩;rw[<-hZ];have HZ:=ab (show Below w.heap.size w Z by rw[hZ]; exact(HU4.out.setCell (by show w.heap.size<=b4; have:=L4.out; omega) _).setCell (by show w.heap.size<=b4; have:=L4.out; omega) _)
     replace SS:=ab (show dK _ _ w.heap.size Z by rw[hZ]; exact SS.out.store L4.out)
     replace FA:=ab (show am Z w.heap.size (.slice va3 vn3 vc3) a.files by rw[hZ]; exact FA.out.store X4.out)
     replace FB:=ab (show am Z w.heap.size (.slice va4 vn4 vc4) b.files by rw[hZ]; exact FB.out.store X4.out)
     replace X5:=ab (show Z.heap[b5]? =some (.cells #[.int .i64 0, .slice none 0 0] 36 (0,0)) by rw[hZ]; exact(aW N45.out.symm).trans X5.out)
     replace X4:=ab (show Z.heap[b4]? =some (.cells #[.int .i64 a.tm,(.slice va3 vn3 vc3)] 36 (0,0)) by rw[hZ]; exact dE X4.out)
     clear hZ f0 f1 c0 c1;refine⟨SS.out, ?_⟩;have f0:Z.frozen? ⟨b5,0,none⟩=false:=al (k:=0) X5.out;have f1:Z.frozen? ⟨b5,1,none⟩=false:=al (k:=1) X5.out;have c0:=ai (k:=0) X5.out;have c1:=ai (k:=1) X5.out;simp only[List.getElem?_toArray,bN]at c0 c1;refine az 7 rfl (by kernel_rfl) rfl (fun K hK=> ?_);go_wp2_with fail;obtain⟨Y,hY⟩: ∃u:World,u=(Z.setCell ⟨b5,0,none⟩ (.int .i64 b.tm)).setCell ⟨b5,1,none⟩ (.slice va4 vn4 vc4):=⟨_,rfl⟩
     rw[<-hY];have HY:=ab (show Below w.heap.size w Y by rw[hY]; exact(HZ.out.setCell (by show w.heap.size<=b5; have:=L5.out; omega) _).setCell (by show w.heap.size<=b5; have:=L5.out; omega) _)
     replace SS:=ab (show dK _ _ w.heap.size Y by rw[hY]; exact SS.out.store L5.out)
     replace FA:=ab (show am Y w.heap.size (.slice va3 vn3 vc3) a.files by rw[hY]; exact FA.out.store X5.out)
     replace FB:=ab (show am Y w.heap.size (.slice va4 vn4 vc4) b.files by rw[hY]; exact FB.out.store X5.out)
     replace X4:=ab (show Y.heap[b4]? =some (.cells #[.int .i64 a.tm,(.slice va3 vn3 vc3)] 36 (0,0)) by rw[hY]; exact(aW N45.out).trans X4.out)
     replace X5:=ab (show Y.heap[b5]? =some (.cells #[.int .i64 b.tm,(.slice va4 vn4 vc4)] 36 (0,0)) by rw[hY]; exact dE X5.out)
     clear hY f0 f1 c0 c1;refine⟨SS.out, ?_⟩;refine aZ (by kernel_rfl) ?_;go_wp2_with fail
     go_meet
     case rel=>exact⟨b4,b5,(.slice va3 vn3 vc3),(.slice va4 vn4 vc4),rfl,rfl,X4.out,X5.out,FA.out,FB.out,HY.out,SS.out⟩
  case inr.inl=>
   refine bT 4 rfl rfl (fun K hK=> ?_)
   try have N45:=ab (show(U0).heap.size≠b5 from(Nat.ne_of_lt (lt_of_block X5.out)).symm)
   go_wp2_with fail;obtain⟨U1,hV⟩: ∃u:World,u=(U0).alloc (.cells #[.int .i64 0, .slice none 0 0] 36):=⟨_,rfl⟩;rw[<-hV];have hb:Below (U0).heap.size U0 U1:=by rw[hV]; exact(Below.refl _ _).alloc (Nat.le_refl _) _
   have L4:=ab (lt_of_block SS.out.2);have HU1:=ab (ag HU0.out hb)
   replace SS:=ab (SS.out.below hb)
   try replace FA:=ab (FA.out.below hb)
   try replace FB:=ab (FB.out.below hb)
   try replace X4:=ab ((hb.block _ (lt_of_block X4.out)).trans X4.out)
   try replace X5:=ab ((hb.block _ (lt_of_block X5.out)).trans X5.out)
   have X4:=ab (show(U1).heap[(U0).heap.size]? =some (.cells #[.int .i64 0, .slice none 0 0] 36 (0,0)) by rw[hV]; exact heap_alloc_new _ _);clear hV hb;obtain⟨b4,hb4⟩: ∃k,k=(U0).heap.size:=⟨_,rfl⟩;rw[<-hb4]at X4 L4;rw[<-hb4]
   try rw[<-hb4]at N45
   clear hb4;refine⟨SS.out, ?_⟩;refine kD.of (wpAnyH_all (rs:=[1,5]) (by kernel_rfl) (by simp) fun jj hjj=> ?_);simp only[List.mem_cons,List.not_mem_nil,or_false]at hjj
   rcases hjj with rfl | rfl
   case inl=>
    refine bT 1 rfl rfl (fun K hK=> ?_);go_wp2_with (go_at_call 14; refine(bH _ a _ _ (HA.out.below HU1.out) HNA.out HLA.out HOA.out).mono ?_; rintro e U2 ⟨fv3,rfl,hfo,hb⟩; obtain⟨va3,vn3,vc3,rfl⟩:=hfo.shape; unfold cG);have HU2:=ab (ag HU1.out hb)
    replace SS:=ab (SS.out.below hb)
    try replace FA:=ab (FA.out.below hb)
    try replace FB:=ab (FB.out.below hb)
    try replace X4:=ab ((hb.block _ (lt_of_block X4.out)).trans X4.out)
    try replace X5:=ab ((hb.block _ (lt_of_block X5.out)).trans X5.out)
    have FA:=ab (hfo.le HU1.out.size);clear hfo hb;refine⟨SS.out, ?_⟩;refine kD.of (wpAnyH_all (rs:=[3,5]) (by kernel_rfl) (by simp) fun jj hjj=> ?_);simp only[List.mem_cons,List.not_mem_nil,or_false]at hjj
    rcases hjj with rfl | rfl
    case inl=>
     refine bT 3 rfl rfl (fun K hK=> ?_);go_wp2_with (go_at_call 14; refine(bH _ b _ _ (HB.out.below HU2.out) HNB.out HLB.out HOB.out).mono ?_; rintro e U3 ⟨fv4,rfl,hfo,hb⟩; obtain⟨va4,vn4,vc4,rfl⟩:=hfo.shape; unfold cG);have HU3:=ab (ag HU2.out hb)
     replace SS:=ab (SS.out.below hb)
     try replace FA:=ab (FA.out.below hb)
     try replace FB:=ab (FB.out.below hb)
     try replace X4:=ab ((hb.block _ (lt_of_block X4.out)).trans X4.out)
     try replace X5:=ab ((hb.block _ (lt_of_block X5.out)).trans X5.out)
     have FB:=ab (hfo.le HU2.out.size);clear hfo hb;refine⟨SS.out, ?_⟩;refine az 5 rfl (by kernel_rfl) rfl (fun K hK=> ?_)
     try have N45:=ab (show b4≠(U3).heap.size from Nat.ne_of_lt (lt_of_block X4.out))
     go_wp2_with fail;obtain⟨U4,hV⟩: ∃u:World,u=(U3).alloc (.cells #[.int .i64 0, .slice none 0 0] 36):=⟨_,rfl⟩;rw[<-hV];have hb:Below (U3).heap.size U3 U4:=by rw[hV]; exact(Below.refl _ _).alloc (Nat.le_refl _) _
     have L5:=ab (lt_of_block SS.out.2);have HU4:=ab (ag HU3.out hb)
     replace SS:=ab (SS.out.below hb)
     try replace FA:=ab (FA.out.below hb)
     try replace FB:=ab (FB.out.below hb)
     try replace X4:=ab ((hb.block _ (lt_of_block X4.out)).trans X4.out)
     try replace X5:=ab ((hb.block _ (lt_of_block X5.out)).trans X5.out)
     have X5:=ab (show(U4).heap[(U3).heap.size]? =some (.cells #[.int .i64 0, .slice none 0 0] 36 (0,0)) by rw[hV]; exact heap_alloc_new _ _);clear hV hb;obtain⟨b5,hb4⟩: ∃k,k=(U3).heap.size:=⟨_,rfl⟩;rw[<-hb4]at X5 L5;rw[<-hb4]
     try rw[<-hb4]at N45
     clear hb4;refine⟨SS.out, ?_⟩;have f0:(U4).frozen? ⟨b4,0,none⟩=false:=al (k:=0) X4.out;have f1:(U4).frozen? ⟨b4,1,none⟩=false:=al (k:=1) X4.out;have c0:=ai (k:=0) X4.out;have c1:=ai (k:=1) X4.out;simp only[List.getElem?_toArray,bN]at c0 c1;refine az 6 rfl (by kernel_rfl) rfl (fun K hK=> ?_);go_wp2_with fail;obtain⟨Z,hZ⟩: ∃u:World,u=((U4).setCell ⟨b4,0,none⟩ (.int .i64 a.tm)).setCell ⟨b4,1,none⟩ (.slice va3 vn3 vc3):=⟨_,rfl⟩
     rw[<-hZ];have HZ:=ab (show Below w.heap.size w Z by rw[hZ]; exact(HU4.out.setCell (by show w.heap.size<=b4; have:=L4.out; omega) _).setCell (by show w.heap.size<=b4; have:=L4.out; omega) _)
     replace SS:=ab (show dK _ _ w.heap.size Z by rw[hZ]; exact SS.out.store L4.out)
     replace FA:=ab (show am Z w.heap.size (.slice va3 vn3 vc3) a.files by rw[hZ]; exact FA.out.store X4.out)
     replace FB:=ab (show am Z w.heap.size (.slice va4 vn4 vc4) b.files by rw[hZ]; exact FB.out.store X4.out)
     replace X5:=ab (show Z.heap[b5]? =some (.cells #[.int .i64 0, .slice none 0 0] 36 (0,0)) by rw[hZ]; exact(aW N45.out.symm).trans X5.out)
     replace X4:=ab (show Z.heap[b4]? =some (.cells #[.int .i64 a.tm,(.slice va3 vn3 vc3)] 36 (0,0)) by rw[hZ]; exact dE X4.out)
     clear hZ f0 f1 c0 c1;refine⟨SS.out, ?_⟩;have f0:Z.frozen? ⟨b5,0,none⟩=false:=al (k:=0) X5.out;have f1:Z.frozen? ⟨b5,1,none⟩=false:=al (k:=1) X5.out;have c0:=ai (k:=0) X5.out;have c1:=ai (k:=1) X5.out;simp only[List.getElem?_toArray,bN]at c0 c1;refine az 7 rfl (by kernel_rfl) rfl (fun K hK=> ?_);go_wp2_with fail;obtain⟨Y,hY⟩: ∃u:World,u=(Z.setCell ⟨b5,0,none⟩ (.int .i64 b.tm)).setCell ⟨b5,1,none⟩ (.slice va4 vn4 vc4):=⟨_,rfl⟩
     rw[<-hY];have HY:=ab (show Below w.heap.size w Y by rw[hY]; exact(HZ.out.setCell (by show w.heap.size<=b5; have:=L5.out; omega) _).setCell (by show w.heap.size<=b5; have:=L5.out; omega) _)
     replace SS:=ab (show dK _ _ w.heap.size Y by rw[hY]; exact SS.out.store L5.out)
     replace FA:=ab (show am Y w.heap.size (.slice va3 vn3 vc3) a.files by rw[hY]; exact FA.out.store X5.out)
     replace FB:=ab (show am Y w.heap.size (.slice va4 vn4 vc4) b.files by rw[hY]; exact FB.out.store X5.out)
     replace X4:=ab (show Y.heap[b4]? =some (.cells #[.int .i64 a.tm,(.slice va3 vn3 vc3)] 36 (0,0)) by rw[hY]; exact(aW N45.out).trans X4.out)
     replace X5:=ab (show Y.heap[b5]? =some (.cells #[.int .i64 b.tm,(.slice va4 vn4 vc4)] 36 (0,0)) by rw[hY]; exact dE X5.out)
     clear hY f0 f1 c0 c1;refine⟨SS.out, ?_⟩;refine aZ (by kernel_rfl) ?_;go_wp2_with fail
     go_meet
     case rel=>exact⟨b4,b5,(.slice va3 vn3 vc3),(.slice va4 vn4 vc4),rfl,rfl,X4.out,X5.out,FA.out,FB.out,HY.out,SS.out⟩
    case inr=>
     refine bT 5 rfl rfl (fun K hK=> ?_)
     try have N45:=ab (show b4≠(U2).heap.size from Nat.ne_of_lt (lt_of_block X4.out))
     go_wp2_with fail;obtain⟨U3,hV⟩: ∃u:World,u=(U2).alloc (.cells #[.int .i64 0, .slice none 0 0] 36):=⟨_,rfl⟩;rw[<-hV];have hb:Below (U2).heap.size U2 U3:=by rw[hV]; exact(Below.refl _ _).alloc (Nat.le_refl _) _
     have L5:=ab (lt_of_block SS.out.2);have HU3:=ab (ag HU2.out hb)
     replace SS:=ab (SS.out.below hb)
     try replace FA:=ab (FA.out.below hb)
     try replace FB:=ab (FB.out.below hb)
     try replace X4:=ab ((hb.block _ (lt_of_block X4.out)).trans X4.out)
     try replace X5:=ab ((hb.block _ (lt_of_block X5.out)).trans X5.out)
     have X5:=ab (show(U3).heap[(U2).heap.size]? =some (.cells #[.int .i64 0, .slice none 0 0] 36 (0,0)) by rw[hV]; exact heap_alloc_new _ _);clear hV hb;obtain⟨b5,hb4⟩: ∃k,k=(U2).heap.size:=⟨_,rfl⟩;rw[<-hb4]at X5 L5;rw[<-hb4]
     try rw[<-hb4]at N45
     clear hb4;refine⟨SS.out, ?_⟩;refine az 3 rfl (by kernel_rfl) rfl (fun K hK=> ?_);go_wp2_with (go_at_call 14; refine(bH _ b _ _ (HB.out.below HU3.out) HNB.out HLB.out HOB.out).mono ?_; rintro e U4 ⟨fv4,rfl,hfo,hb⟩; obtain⟨va4,vn4,vc4,rfl⟩:=hfo.shape; unfold cG);have HU4:=ab (ag HU3.out hb)
     replace SS:=ab (SS.out.below hb)
     try replace FA:=ab (FA.out.below hb)
     try replace FB:=ab (FB.out.below hb)
     try replace X4:=ab ((hb.block _ (lt_of_block X4.out)).trans X4.out)
     try replace X5:=ab ((hb.block _ (lt_of_block X5.out)).trans X5.out)
     have FB:=ab (hfo.le HU3.out.size);clear hfo hb;refine⟨SS.out, ?_⟩;have f0:(U4).frozen? ⟨b4,0,none⟩=false:=al (k:=0) X4.out;have f1:(U4).frozen? ⟨b4,1,none⟩=false:=al (k:=1) X4.out;have c0:=ai (k:=0) X4.out;have c1:=ai (k:=1) X4.out;simp only[List.getElem?_toArray,bN]at c0 c1;refine az 6 rfl (by kernel_rfl) rfl (fun K hK=> ?_);go_wp2_with fail
     obtain⟨Z,hZ⟩: ∃u:World,u=((U4).setCell ⟨b4,0,none⟩ (.int .i64 a.tm)).setCell ⟨b4,1,none⟩ (.slice va3 vn3 vc3):=⟨_,rfl⟩;rw[<-hZ];have HZ:=ab (show Below w.heap.size w Z by rw[hZ]; exact(HU4.out.setCell (by show w.heap.size<=b4; have:=L4.out; omega) _).setCell (by show w.heap.size<=b4; have:=L4.out; omega) _)
     replace SS:=ab (show dK _ _ w.heap.size Z by rw[hZ]; exact SS.out.store L4.out)
     replace FA:=ab (show am Z w.heap.size (.slice va3 vn3 vc3) a.files by rw[hZ]; exact FA.out.store X4.out)
     replace FB:=ab (show am Z w.heap.size (.slice va4 vn4 vc4) b.files by rw[hZ]; exact FB.out.store X4.out)
     replace X5:=ab (show Z.heap[b5]? =some (.cells #[.int .i64 0, .slice none 0 0] 36 (0,0)) by rw[hZ]; exact(aW N45.out.symm).trans X5.out)
     replace X4:=ab (show Z.heap[b4]? =some (.cells #[.int .i64 a.tm,(.slice va3 vn3 vc3)] 36 (0,0)) by rw[hZ]; exact dE X4.out)
     clear hZ f0 f1 c0 c1;refine⟨SS.out, ?_⟩;have f0:Z.frozen? ⟨b5,0,none⟩=false:=al (k:=0) X5.out;have f1:Z.frozen? ⟨b5,1,none⟩=false:=al (k:=1) X5.out;have c0:=ai (k:=0) X5.out;have c1:=ai (k:=1) X5.out;simp only[List.getElem?_toArray,bN]at c0 c1;refine az 7 rfl (by kernel_rfl) rfl (fun K hK=> ?_);go_wp2_with fail;obtain⟨Y,hY⟩: ∃u:World,u=(Z.setCell ⟨b5,0,none⟩ (.int .i64 b.tm)).setCell ⟨b5,1,none⟩ (.slice va4 vn4 vc4):=⟨_,rfl⟩
     rw[<-hY];have HY:=ab (show Below w.heap.size w Y by rw[hY]; exact(HZ.out.setCell (by show w.heap.size<=b5; have:=L5.out; omega) _).setCell (by show w.heap.size<=b5; have:=L5.out; omega) _)
     replace SS:=ab (show dK _ _ w.heap.size Y by rw[hY]; exact SS.out.store L5.out)
     replace FA:=ab (show am Y w.heap.size (.slice va3 vn3 vc3) a.files by rw[hY]; exact FA.out.store X5.out)
     replace FB:=ab (show am Y w.heap.size (.slice va4 vn4 vc4) b.files by rw[hY]; exact FB.out.store X5.out)
     replace X4:=ab (show Y.heap[b4]? =some (.cells #[.int .i64 a.tm,(.slice va3 vn3 vc3)] 36 (0,0)) by rw[hY]; exact(aW N45.out).trans X4.out)
     replace X5:=ab (show Y.heap[b5]? =some (.cells #[.int .i64 b.tm,(.slice va4 vn4 vc4)] 36 (0,0)) by rw[hY]; exact dE X5.out)
     clear hY f0 f1 c0 c1;refine⟨SS.out, ?_⟩;refine aZ (by kernel_rfl) ?_;go_wp2_with fail
     go_meet
     case rel=>exact⟨b4,b5,(.slice va3 vn3 vc3),(.slice va4 vn4 vc4),rfl,rfl,X4.out,X5.out,FA.out,FB.out,HY.out,SS.out⟩
   case inr=>
    refine bT 5 rfl rfl (fun K hK=> ?_)
    try have N45:=ab (show b4≠(U1).heap.size from Nat.ne_of_lt (lt_of_block X4.out))
    go_wp2_with fail;obtain⟨U2,hV⟩: ∃u:World,u=(U1).alloc (.cells #[.int .i64 0, .slice none 0 0] 36):=⟨_,rfl⟩;rw[<-hV];have hb:Below (U1).heap.size U1 U2:=by rw[hV]; exact(Below.refl _ _).alloc (Nat.le_refl _) _
    have L5:=ab (lt_of_block SS.out.2);have HU2:=ab (ag HU1.out hb)
    replace SS:=ab (SS.out.below hb)
    try replace FA:=ab (FA.out.below hb)
    try replace FB:=ab (FB.out.below hb)
    try replace X4:=ab ((hb.block _ (lt_of_block X4.out)).trans X4.out)
    try replace X5:=ab ((hb.block _ (lt_of_block X5.out)).trans X5.out)
    have X5:=ab (show(U2).heap[(U1).heap.size]? =some (.cells #[.int .i64 0, .slice none 0 0] 36 (0,0)) by rw[hV]; exact heap_alloc_new _ _);clear hV hb;obtain⟨b5,hb4⟩: ∃k,k=(U1).heap.size:=⟨_,rfl⟩;rw[<-hb4]at X5 L5;rw[<-hb4]
    try rw[<-hb4]at N45
    clear hb4;refine⟨SS.out, ?_⟩;refine az 1 rfl (by kernel_rfl) rfl (fun K hK=> ?_);go_wp2_with (go_at_call 14; refine(bH _ a _ _ (HA.out.below HU2.out) HNA.out HLA.out HOA.out).mono ?_; rintro e U3 ⟨fv3,rfl,hfo,hb⟩; obtain⟨va3,vn3,vc3,rfl⟩:=hfo.shape; unfold cG);have HU3:=ab (ag HU2.out hb)
    replace SS:=ab (SS.out.below hb)
    try replace FA:=ab (FA.out.below hb)
    try replace FB:=ab (FB.out.below hb)
    try replace X4:=ab ((hb.block _ (lt_of_block X4.out)).trans X4.out)
    try replace X5:=ab ((hb.block _ (lt_of_block X5.out)).trans X5.out)
    have FA:=ab (hfo.le HU2.out.size);clear hfo hb;refine⟨SS.out, ?_⟩;refine az 3 rfl (by kernel_rfl) rfl (fun K hK=> ?_);go_wp2_with (go_at_call 14; refine(bH _ b _ _ (HB.out.below HU3.out) HNB.out HLB.out HOB.out).mono ?_; rintro e U4 ⟨fv4,rfl,hfo,hb⟩; obtain⟨va4,vn4,vc4,rfl⟩:=hfo.shape; unfold cG);have HU4:=ab (ag HU3.out hb)
    replace SS:=ab (SS.out.below hb)
    try replace FA:=ab (FA.out.below hb)
    try replace FB:=ab (FB.out.below hb)
    try replace X4:=ab ((hb.block _ (lt_of_block X4.out)).trans X4.out)
    try replace X5:=ab ((hb.block _ (lt_of_block X5.out)).trans X5.out)
    have FB:=ab (hfo.le HU3.out.size);clear hfo hb;refine⟨SS.out, ?_⟩;have f0:(U4).frozen? ⟨b4,0,none⟩=false:=al (k:=0) X4.out;have f1:(U4).frozen? ⟨b4,1,none⟩=false:=al (k:=1) X4.out;have c0:=ai (k:=0) X4.out;have c1:=ai (k:=1) X4.out;simp only[List.getElem?_toArray,bN]at c0 c1;refine az 6 rfl (by kernel_rfl) rfl (fun K hK=> ?_);go_wp2_with fail
    obtain⟨Z,hZ⟩: ∃u:World,u=((U4).setCell ⟨b4,0,none⟩ (.int .i64 a.tm)).setCell ⟨b4,1,none⟩ (.slice va3 vn3 vc3):=⟨_,rfl⟩;rw[<-hZ];have HZ:=ab (show Below w.heap.size w Z by rw[hZ]; exact(HU4.out.setCell (by show w.heap.size<=b4; have:=L4.out; omega) _).setCell (by show w.heap.size<=b4; have:=L4.out; omega) _)
    replace SS:=ab (show dK _ _ w.heap.size Z by rw[hZ]; exact SS.out.store L4.out)
    replace FA:=ab (show am Z w.heap.size (.slice va3 vn3 vc3) a.files by rw[hZ]; exact FA.out.store X4.out)
    replace FB:=ab (show am Z w.heap.size (.slice va4 vn4 vc4) b.files by rw[hZ]; exact FB.out.store X4.out)
    replace X5:=ab (show Z.heap[b5]? =some (.cells #[.int .i64 0, .slice none 0 0] 36 (0,0)) by rw[hZ]; exact(aW N45.out.symm).trans X5.out)
    replace X4:=ab (show Z.heap[b4]? =some (.cells #[.int .i64 a.tm,(.slice va3 vn3 vc3)] 36 (0,0)) by rw[hZ]; exact dE X4.out)
    clear hZ f0 f1 c0 c1;refine⟨SS.out, ?_⟩;have f0:Z.frozen? ⟨b5,0,none⟩=false:=al (k:=0) X5.out;have f1:Z.frozen? ⟨b5,1,none⟩=false:=al (k:=1) X5.out;have c0:=ai (k:=0) X5.out;have c1:=ai (k:=1) X5.out;simp only[List.getElem?_toArray,bN]at c0 c1;refine az 7 rfl (by kernel_rfl) rfl (fun K hK=> ?_);go_wp2_with fail;obtain⟨Y,hY⟩: ∃u:World,u=(Z.setCell ⟨b5,0,none⟩ (.int .i64 b.tm)).setCell ⟨b5,1,none⟩ (.slice va4 vn4 vc4):=⟨_,rfl⟩
    rw[<-hY];have HY:=ab (show Below w.heap.size w Y by rw[hY]; exact(HZ.out.setCell (by show w.heap.size<=b5; have:=L5.out; omega) _).setCell (by show w.heap.size<=b5; have:=L5.out; omega) _)
    replace SS:=ab (show dK _ _ w.heap.size Y by rw[hY]; exact SS.out.store L5.out)
    replace FA:=ab (show am Y w.heap.size (.slice va3 vn3 vc3) a.files by rw[hY]; exact FA.out.store X5.out)
    replace FB:=ab (show am Y w.heap.size (.slice va4 vn4 vc4) b.files by rw[hY]; exact FB.out.store X5.out)
    replace X4:=ab (show Y.heap[b4]? =some (.cells #[.int .i64 a.tm,(.slice va3 vn3 vc3)] 36 (0,0)) by rw[hY]; exact(aW N45.out).trans X4.out)
    replace X5:=ab (show Y.heap[b5]? =some (.cells #[.int .i64 b.tm,(.slice va4 vn4 vc4)] 36 (0,0)) by rw[hY]; exact dE X5.out)
    clear hY f0 f1 c0 c1;refine⟨SS.out, ?_⟩;refine aZ (by kernel_rfl) ?_;go_wp2_with fail
    go_meet
    case rel=>exact⟨b4,b5,(.slice va3 vn3 vc3),(.slice va4 vn4 vc4),rfl,rfl,X4.out,X5.out,FA.out,FB.out,HY.out,SS.out⟩
  case inr.inr=>
   refine bT 5 rfl rfl (fun K hK=> ?_)
   try have N45:=ab (show b4≠(U0).heap.size from Nat.ne_of_lt (lt_of_block X4.out))
   go_wp2_with fail;obtain⟨U1,hV⟩: ∃u:World,u=(U0).alloc (.cells #[.int .i64 0, .slice none 0 0] 36):=⟨_,rfl⟩;rw[<-hV];have hb:Below (U0).heap.size U0 U1:=by rw[hV]; exact(Below.refl _ _).alloc (Nat.le_refl _) _
   have L5:=ab (lt_of_block SS.out.2);have HU1:=ab (ag HU0.out hb)
   replace SS:=ab (SS.out.below hb)
   try replace FA:=ab (FA.out.below hb)
   try replace FB:=ab (FB.out.below hb)
   try replace X4:=ab ((hb.block _ (lt_of_block X4.out)).trans X4.out)
   try replace X5:=ab ((hb.block _ (lt_of_block X5.out)).trans X5.out)
   have X5:=ab (show(U1).heap[(U0).heap.size]? =some (.cells #[.int .i64 0, .slice none 0 0] 36 (0,0)) by rw[hV]; exact heap_alloc_new _ _);clear hV hb;obtain⟨b5,hb4⟩: ∃k,k=(U0).heap.size:=⟨_,rfl⟩;rw[<-hb4]at X5 L5;rw[<-hb4]
   try rw[<-hb4]at N45
   clear hb4;refine⟨SS.out, ?_⟩;refine kD.of (wpAnyH_all (rs:=[1,4]) (by kernel_rfl) (by simp) fun jj hjj=> ?_);simp only[List.mem_cons,List.not_mem_nil,or_false]at hjj
   rcases hjj with rfl | rfl
   case inl=>
    refine bT 1 rfl rfl (fun K hK=> ?_);go_wp2_with (go_at_call 14; refine(bH _ a _ _ (HA.out.below HU1.out) HNA.out HLA.out HOA.out).mono ?_; rintro e U2 ⟨fv3,rfl,hfo,hb⟩; obtain⟨va3,vn3,vc3,rfl⟩:=hfo.shape; unfold cG);have HU2:=ab (ag HU1.out hb)
    replace SS:=ab (SS.out.below hb)
    try replace FA:=ab (FA.out.below hb)
    try replace FB:=ab (FB.out.below hb)
    try replace X4:=ab ((hb.block _ (lt_of_block X4.out)).trans X4.out)
    try replace X5:=ab ((hb.block _ (lt_of_block X5.out)).trans X5.out)
    have FA:=ab (hfo.le HU1.out.size);clear hfo hb;refine⟨SS.out, ?_⟩;refine kD.of (wpAnyH_all (rs:=[3,4]) (by kernel_rfl) (by simp) fun jj hjj=> ?_);simp only[List.mem_cons,List.not_mem_nil,or_false]at hjj
    rcases hjj with rfl | rfl
    case inl=>
     refine bT 3 rfl rfl (fun K hK=> ?_);go_wp2_with (go_at_call 14; refine(bH _ b _ _ (HB.out.below HU2.out) HNB.out HLB.out HOB.out).mono ?_; rintro e U3 ⟨fv4,rfl,hfo,hb⟩; obtain⟨va4,vn4,vc4,rfl⟩:=hfo.shape; unfold cG);have HU3:=ab (ag HU2.out hb)
     replace SS:=ab (SS.out.below hb)
     try replace FA:=ab (FA.out.below hb)
     try replace FB:=ab (FB.out.below hb)
     try replace X4:=ab ((hb.block _ (lt_of_block X4.out)).trans X4.out)
     try replace X5:=ab ((hb.block _ (lt_of_block X5.out)).trans X5.out)
     have FB:=ab (hfo.le HU2.out.size);clear hfo hb;refine⟨SS.out, ?_⟩;refine az 4 rfl (by kernel_rfl) rfl (fun K hK=> ?_)
     try have N45:=ab (show(U3).heap.size≠b5 from(Nat.ne_of_lt (lt_of_block X5.out)).symm)
     go_wp2_with fail;obtain⟨U4,hV⟩: ∃u:World,u=(U3).alloc (.cells #[.int .i64 0, .slice none 0 0] 36):=⟨_,rfl⟩;rw[<-hV];have hb:Below (U3).heap.size U3 U4:=by rw[hV]; exact(Below.refl _ _).alloc (Nat.le_refl _) _
     have L4:=ab (lt_of_block SS.out.2);have HU4:=ab (ag HU3.out hb)
     replace SS:=ab (SS.out.below hb)
     try replace FA:=ab (FA.out.below hb)
     try replace FB:=ab (FB.out.below hb)
     try replace X4:=ab ((hb.block _ (lt_of_block X4.out)).trans X4.out)
     try replace X5:=ab ((hb.block _ (lt_of_block X5.out)).trans X5.out)
     have X4:=ab (show(U4).heap[(U3).heap.size]? =some (.cells #[.int .i64 0, .slice none 0 0] 36 (0,0)) by rw[hV]; exact heap_alloc_new _ _);clear hV hb;obtain⟨b4,hb4⟩: ∃k,k=(U3).heap.size:=⟨_,rfl⟩;rw[<-hb4]at X4 L4;rw[<-hb4]
     try rw[<-hb4]at N45
     clear hb4;refine⟨SS.out, ?_⟩;have f0:(U4).frozen? ⟨b4,0,none⟩=false:=al (k:=0) X4.out;have f1:(U4).frozen? ⟨b4,1,none⟩=false:=al (k:=1) X4.out;have c0:=ai (k:=0) X4.out;have c1:=ai (k:=1) X4.out;simp only[List.getElem?_toArray,bN]at c0 c1;refine az 6 rfl (by kernel_rfl) rfl (fun K hK=> ?_);go_wp2_with fail;obtain⟨Z,hZ⟩: ∃u:World,u=((U4).setCell ⟨b4,0,none⟩ (.int .i64 a.tm)).setCell ⟨b4,1,none⟩ (.slice va3 vn3 vc3):=⟨_,rfl⟩
     rw[<-hZ];have HZ:=ab (show Below w.heap.size w Z by rw[hZ]; exact(HU4.out.setCell (by show w.heap.size<=b4; have:=L4.out; omega) _).setCell (by show w.heap.size<=b4; have:=L4.out; omega) _)
     replace SS:=ab (show dK _ _ w.heap.size Z by rw[hZ]; exact SS.out.store L4.out)
     replace FA:=ab (show am Z w.heap.size (.slice va3 vn3 vc3) a.files by rw[hZ]; exact FA.out.store X4.out)
     replace FB:=ab (show am Z w.heap.size (.slice va4 vn4 vc4) b.files by rw[hZ]; exact FB.out.store X4.out)
     replace X5:=ab (show Z.heap[b5]? =some (.cells #[.int .i64 0, .slice none 0 0] 36 (0,0)) by rw[hZ]; exact(aW N45.out.symm).trans X5.out)
     replace X4:=ab (show Z.heap[b4]? =some (.cells #[.int .i64 a.tm,(.slice va3 vn3 vc3)] 36 (0,0)) by rw[hZ]; exact dE X4.out)
     clear hZ f0 f1 c0 c1;refine⟨SS.out, ?_⟩;have f0:Z.frozen? ⟨b5,0,none⟩=false:=al (k:=0) X5.out;have f1:Z.frozen? ⟨b5,1,none⟩=false:=al (k:=1) X5.out;have c0:=ai (k:=0) X5.out;have c1:=ai (k:=1) X5.out;simp only[List.getElem?_toArray,bN]at c0 c1;refine az 7 rfl (by kernel_rfl) rfl (fun K hK=> ?_);go_wp2_with fail;obtain⟨Y,hY⟩: ∃u:World,u=(Z.setCell ⟨b5,0,none⟩ (.int .i64 b.tm)).setCell ⟨b5,1,none⟩ (.slice va4 vn4 vc4):=⟨_,rfl⟩
     rw[<-hY];have HY:=ab (show Below w.heap.size w Y by rw[hY]; exact(HZ.out.setCell (by show w.heap.size<=b5; have:=L5.out; omega) _).setCell (by show w.heap.size<=b5; have:=L5.out; omega) _)
     replace SS:=ab (show dK _ _ w.heap.size Y by rw[hY]; exact SS.out.store L5.out)
     replace FA:=ab (show am Y w.heap.size (.slice va3 vn3 vc3) a.files by rw[hY]; exact FA.out.store X5.out)
     replace FB:=ab (show am Y w.heap.size (.slice va4 vn4 vc4) b.files by rw[hY]; exact FB.out.store X5.out)
     replace X4:=ab (show Y.heap[b4]? =some (.cells #[.int .i64 a.tm,(.slice va3 vn3 vc3)] 36 (0,0)) by rw[hY]; exact(aW N45.out).trans X4.out)
     replace X5:=ab (show Y.heap[b5]? =some (.cells #[.int .i64 b.tm,(.slice va4 vn4 vc4)] 36 (0,0)) by rw[hY]; exact dE X5.out)
     clear hY f0 f1 c0 c1;refine⟨SS.out, ?_⟩;refine aZ (by kernel_rfl) ?_;go_wp2_with fail
     go_meet
     case rel=>exact⟨b4,b5,(.slice va3 vn3 vc3),(.slice va4 vn4 vc4),rfl,rfl,X4.out,X5.out,FA.out,FB.out,HY.out,SS.out⟩
    case inr=>
     refine bT 4 rfl rfl (fun K hK=> ?_)
     try have N45:=ab (show(U2).heap.size≠b5 from(Nat.ne_of_lt (lt_of_block X5.out)).symm)
     go_wp2_with fail;obtain⟨U3,hV⟩: ∃u:World,u=(U2).alloc (.cells #[.int .i64 0, .slice none 0 0] 36):=⟨_,rfl⟩;rw[<-hV];have hb:Below (U2).heap.size U2 U3:=by rw[hV]; exact(Below.refl _ _).alloc (Nat.le_refl _) _
     have L4:=ab (lt_of_block SS.out.2);have HU3:=ab (ag HU2.out hb)
     replace SS:=ab (SS.out.below hb)
     try replace FA:=ab (FA.out.below hb)
     try replace FB:=ab (FB.out.below hb)
     try replace X4:=ab ((hb.block _ (lt_of_block X4.out)).trans X4.out)
     try replace X5:=ab ((hb.block _ (lt_of_block X5.out)).trans X5.out)
     have X4:=ab (show(U3).heap[(U2).heap.size]? =some (.cells #[.int .i64 0, .slice none 0 0] 36 (0,0)) by rw[hV]; exact heap_alloc_new _ _);clear hV hb;obtain⟨b4,hb4⟩: ∃k,k=(U2).heap.size:=⟨_,rfl⟩;rw[<-hb4]at X4 L4;rw[<-hb4]
     try rw[<-hb4]at N45
     clear hb4;refine⟨SS.out, ?_⟩;refine az 3 rfl (by kernel_rfl) rfl (fun K hK=> ?_);go_wp2_with (go_at_call 14; refine(bH _ b _ _ (HB.out.below HU3.out) HNB.out HLB.out HOB.out).mono ?_; rintro e U4 ⟨fv4,rfl,hfo,hb⟩; obtain⟨va4,vn4,vc4,rfl⟩:=hfo.shape; unfold cG);have HU4:=ab (ag HU3.out hb)
     replace SS:=ab (SS.out.below hb)
     try replace FA:=ab (FA.out.below hb)
     try replace FB:=ab (FB.out.below hb)
     try replace X4:=ab ((hb.block _ (lt_of_block X4.out)).trans X4.out)
     try replace X5:=ab ((hb.block _ (lt_of_block X5.out)).trans X5.out)
     have FB:=ab (hfo.le HU3.out.size);clear hfo hb;refine⟨SS.out, ?_⟩;have f0:(U4).frozen? ⟨b4,0,none⟩=false:=al (k:=0) X4.out;have f1:(U4).frozen? ⟨b4,1,none⟩=false:=al (k:=1) X4.out;have c0:=ai (k:=0) X4.out;have c1:=ai (k:=1) X4.out;simp only[List.getElem?_toArray,bN]at c0 c1;refine az 6 rfl (by kernel_rfl) rfl (fun K hK=> ?_);go_wp2_with fail
     obtain⟨Z,hZ⟩: ∃u:World,u=((U4).setCell ⟨b4,0,none⟩ (.int .i64 a.tm)).setCell ⟨b4,1,none⟩ (.slice va3 vn3 vc3):=⟨_,rfl⟩;rw[<-hZ];have HZ:=ab (show Below w.heap.size w Z by rw[hZ]; exact(HU4.out.setCell (by show w.heap.size<=b4; have:=L4.out; omega) _).setCell (by show w.heap.size<=b4; have:=L4.out; omega) _)
     replace SS:=ab (show dK _ _ w.heap.size Z by rw[hZ]; exact SS.out.store L4.out)
     replace FA:=ab (show am Z w.heap.size (.slice va3 vn3 vc3) a.files by rw[hZ]; exact FA.out.store X4.out)
     replace FB:=ab (show am Z w.heap.size (.slice va4 vn4 vc4) b.files by rw[hZ]; exact FB.out.store X4.out)
     replace X5:=ab (show Z.heap[b5]? =some (.cells #[.int .i64 0, .slice none 0 0] 36 (0,0)) by rw[hZ]; exact(aW N45.out.symm).trans X5.out)
     replace X4:=ab (show Z.heap[b4]? =some (.cells #[.int .i64 a.tm,(.slice va3 vn3 vc3)] 36 (0,0)) by rw[hZ]; exact dE X4.out)
     clear hZ f0 f1 c0 c1;refine⟨SS.out, ?_⟩;have f0:Z.frozen? ⟨b5,0,none⟩=false:=al (k:=0) X5.out;have f1:Z.frozen? ⟨b5,1,none⟩=false:=al (k:=1) X5.out;have c0:=ai (k:=0) X5.out;have c1:=ai (k:=1) X5.out;simp only[List.getElem?_toArray,bN]at c0 c1;refine az 7 rfl (by kernel_rfl) rfl (fun K hK=> ?_);go_wp2_with fail;obtain⟨Y,hY⟩: ∃u:World,u=(Z.setCell ⟨b5,0,none⟩ (.int .i64 b.tm)).setCell ⟨b5,1,none⟩ (.slice va4 vn4 vc4):=⟨_,rfl⟩
     rw[<-hY];have HY:=ab (show Below w.heap.size w Y by rw[hY]; exact(HZ.out.setCell (by show w.heap.size<=b5; have:=L5.out; omega) _).setCell (by show w.heap.size<=b5; have:=L5.out; omega) _)
     replace SS:=ab (show dK _ _ w.heap.size Y by rw[hY]; exact SS.out.store L5.out)
     replace FA:=ab (show am Y w.heap.size (.slice va3 vn3 vc3) a.files by rw[hY]; exact FA.out.store X5.out)
     replace FB:=ab (show am Y w.heap.size (.slice va4 vn4 vc4) b.files by rw[hY]; exact FB.out.store X5.out)
     replace X4:=ab (show Y.heap[b4]? =some (.cells #[.int .i64 a.tm,(.slice va3 vn3 vc3)] 36 (0,0)) by rw[hY]; exact(aW N45.out).trans X4.out)
     replace X5:=ab (show Y.heap[b5]? =some (.cells #[.int .i64 b.tm,(.slice va4 vn4 vc4)] 36 (0,0)) by rw[hY]; exact dE X5.out)
     clear hY f0 f1 c0 c1;refine⟨SS.out, ?_⟩;refine aZ (by kernel_rfl) ?_;go_wp2_with fail
     go_meet
     case rel=>exact⟨b4,b5,(.slice va3 vn3 vc3),(.slice va4 vn4 vc4),rfl,rfl,X4.out,X5.out,FA.out,FB.out,HY.out,SS.out⟩
   case inr=>
    refine bT 4 rfl rfl (fun K hK=> ?_)
    try have N45:=ab (show(U1).heap.size≠b5 from(Nat.ne_of_lt (lt_of_block X5.out)).symm)
    go_wp2_with fail;obtain⟨U2,hV⟩: ∃u:World,u=(U1).alloc (.cells #[.int .i64 0, .slice none 0 0] 36):=⟨_,rfl⟩;rw[<-hV];have hb:Below (U1).heap.size U1 U2:=by rw[hV]; exact(Below.refl _ _).alloc (Nat.le_refl _) _
    have L4:=ab (lt_of_block SS.out.2);have HU2:=ab (ag HU1.out hb)
    replace SS:=ab (SS.out.below hb)
    try replace FA:=ab (FA.out.below hb)
    try replace FB:=ab (FB.out.below hb)
    try replace X4:=ab ((hb.block _ (lt_of_block X4.out)).trans X4.out)
    try replace X5:=ab ((hb.block _ (lt_of_block X5.out)).trans X5.out)
    have X4:=ab (show(U2).heap[(U1).heap.size]? =some (.cells #[.int .i64 0, .slice none 0 0] 36 (0,0)) by rw[hV]; exact heap_alloc_new _ _);clear hV hb;obtain⟨b4,hb4⟩: ∃k,k=(U1).heap.size:=⟨_,rfl⟩;rw[<-hb4]at X4 L4;rw[<-hb4]
    try rw[<-hb4]at N45
    clear hb4;refine⟨SS.out, ?_⟩;refine az 1 rfl (by kernel_rfl) rfl (fun K hK=> ?_);go_wp2_with (go_at_call 14; refine(bH _ a _ _ (HA.out.below HU2.out) HNA.out HLA.out HOA.out).mono ?_; rintro e U3 ⟨fv3,rfl,hfo,hb⟩; obtain⟨va3,vn3,vc3,rfl⟩:=hfo.shape; unfold cG);have HU3:=ab (ag HU2.out hb)
    replace SS:=ab (SS.out.below hb)
    try replace FA:=ab (FA.out.below hb)
    try replace FB:=ab (FB.out.below hb)
    try replace X4:=ab ((hb.block _ (lt_of_block X4.out)).trans X4.out)
    try replace X5:=ab ((hb.block _ (lt_of_block X5.out)).trans X5.out)
    have FA:=ab (hfo.le HU2.out.size);clear hfo hb;refine⟨SS.out, ?_⟩;refine az 3 rfl (by kernel_rfl) rfl (fun K hK=> ?_);go_wp2_with (go_at_call 14; refine(bH _ b _ _ (HB.out.below HU3.out) HNB.out HLB.out HOB.out).mono ?_; rintro e U4 ⟨fv4,rfl,hfo,hb⟩; obtain⟨va4,vn4,vc4,rfl⟩:=hfo.shape; unfold cG);have HU4:=ab (ag HU3.out hb)
    replace SS:=ab (SS.out.below hb)
    try replace FA:=ab (FA.out.below hb)
    try replace FB:=ab (FB.out.below hb)
    try replace X4:=ab ((hb.block _ (lt_of_block X4.out)).trans X4.out)
    try replace X5:=ab ((hb.block _ (lt_of_block X5.out)).trans X5.out)
    have FB:=ab (hfo.le HU3.out.size);clear hfo hb;refine⟨SS.out, ?_⟩;have f0:(U4).frozen? ⟨b4,0,none⟩=false:=al (k:=0) X4.out;have f1:(U4).frozen? ⟨b4,1,none⟩=false:=al (k:=1) X4.out;have c0:=ai (k:=0) X4.out;have c1:=ai (k:=1) X4.out;simp only[List.getElem?_toArray,bN]at c0 c1;refine az 6 rfl (by kernel_rfl) rfl (fun K hK=> ?_);go_wp2_with fail
    obtain⟨Z,hZ⟩: ∃u:World,u=((U4).setCell ⟨b4,0,none⟩ (.int .i64 a.tm)).setCell ⟨b4,1,none⟩ (.slice va3 vn3 vc3):=⟨_,rfl⟩;rw[<-hZ];have HZ:=ab (show Below w.heap.size w Z by rw[hZ]; exact(HU4.out.setCell (by show w.heap.size<=b4; have:=L4.out; omega) _).setCell (by show w.heap.size<=b4; have:=L4.out; omega) _)
    replace SS:=ab (show dK _ _ w.heap.size Z by rw[hZ]; exact SS.out.store L4.out)
    replace FA:=ab (show am Z w.heap.size (.slice va3 vn3 vc3) a.files by rw[hZ]; exact FA.out.store X4.out)
    replace FB:=ab (show am Z w.heap.size (.slice va4 vn4 vc4) b.files by rw[hZ]; exact FB.out.store X4.out)
    replace X5:=ab (show Z.heap[b5]? =some (.cells #[.int .i64 0, .slice none 0 0] 36 (0,0)) by rw[hZ]; exact(aW N45.out.symm).trans X5.out)
    replace X4:=ab (show Z.heap[b4]? =some (.cells #[.int .i64 a.tm,(.slice va3 vn3 vc3)] 36 (0,0)) by rw[hZ]; exact dE X4.out)
    clear hZ f0 f1 c0 c1;refine⟨SS.out, ?_⟩;have f0:Z.frozen? ⟨b5,0,none⟩=false:=al (k:=0) X5.out;have f1:Z.frozen? ⟨b5,1,none⟩=false:=al (k:=1) X5.out;have c0:=ai (k:=0) X5.out;have c1:=ai (k:=1) X5.out;simp only[List.getElem?_toArray,bN]at c0 c1;refine az 7 rfl (by kernel_rfl) rfl (fun K hK=> ?_);go_wp2_with fail;obtain⟨Y,hY⟩: ∃u:World,u=(Z.setCell ⟨b5,0,none⟩ (.int .i64 b.tm)).setCell ⟨b5,1,none⟩ (.slice va4 vn4 vc4):=⟨_,rfl⟩
    rw[<-hY];have HY:=ab (show Below w.heap.size w Y by rw[hY]; exact(HZ.out.setCell (by show w.heap.size<=b5; have:=L5.out; omega) _).setCell (by show w.heap.size<=b5; have:=L5.out; omega) _)
    replace SS:=ab (show dK _ _ w.heap.size Y by rw[hY]; exact SS.out.store L5.out)
    replace FA:=ab (show am Y w.heap.size (.slice va3 vn3 vc3) a.files by rw[hY]; exact FA.out.store X5.out)
    replace FB:=ab (show am Y w.heap.size (.slice va4 vn4 vc4) b.files by rw[hY]; exact FB.out.store X5.out)
    replace X4:=ab (show Y.heap[b4]? =some (.cells #[.int .i64 a.tm,(.slice va3 vn3 vc3)] 36 (0,0)) by rw[hY]; exact(aW N45.out).trans X4.out)
    replace X5:=ab (show Y.heap[b5]? =some (.cells #[.int .i64 b.tm,(.slice va4 vn4 vc4)] 36 (0,0)) by rw[hY]; exact dE X5.out)
    clear hY f0 f1 c0 c1;refine⟨SS.out, ?_⟩;refine aZ (by kernel_rfl) ?_;go_wp2_with fail
    go_meet
    case rel=>exact⟨b4,b5,(.slice va3 vn3 vc3),(.slice va4 vn4 vc4),rfl,rfl,X4.out,X5.out,FA.out,FB.out,HY.out,SS.out⟩
 case rest=>
  obtain⟨b4,b5,fv3,fv4,rfl,rfl,hx4,hx5,hfa,hfb,hbc,hss⟩:=hcut;obtain⟨va3,vn3,vc3,rfl⟩:=hfa.shape;obtain⟨va4,vn4,vc4,rfl⟩:=hfb.shape;have X4:=ab hx4;have X5:=ab hx5;have FA:=ab hfa.at
  have FB:=ab hfb.at
  have HBC:=ab hbc;have HS3:=ab hss;have HAC:=ab (HA.out.below hbc);have HBB:=ab (HB.out.below hbc);have HEC:=ab (HE.out.keep hbc h6).env;clear hx4 hx5 hfa hfb hbc hss;have p0:=ai (k:=0) HS3.out.1;have p1:=ai (k:=1) HS3.out.1;have q0:=ai (k:=0) HS3.out.2;have q1:=ai (k:=1) HS3.out.2;simp only[List.getElem?_toArray,bN]at p0 p1 q0 q1;have k40:=ai (k:=0) X4.out
  have k41:=ai (k:=1) X4.out;have k50:=ai (k:=0) X5.out;have k51:=ai (k:=1) X5.out;simp only[List.getElem?_toArray,bN]at k40 k41 k50 k51
  cases hva:ci a
  case false=>
   have HVA:=ab hva;have HN:=ab (show(ci a && ci b)=false by rw[hva]; rfl);go_wp2_with (go_at_call 23; refine(pK _ _ a b _ _ _ HAC.out HBB.out HEC.out HN.out).mono ?_);rintro e w4 ⟨rfl,hb4⟩;have HB4:=ab (ag HBC.out hb4);clear p0 p1 q0 q1;have HLW:=ab hb4
   replace X4:=ab ((hb4.block _ (lt_of_block X4.out)).trans X4.out)
   replace X5:=ab ((hb4.block _ (lt_of_block X5.out)).trans X5.out)
   replace FA:=ab (FA.out.below hb4)
   replace FB:=ab (FB.out.below hb4)
   clear hb4 k40 k41 k50 k51;have k40:=ai (k:=0) X4.out;have k41:=ai (k:=1) X4.out;have k50:=ai (k:=0) X5.out;have k51:=ai (k:=1) X5.out;simp only[List.getElem?_toArray,bN]at k40 k41 k50 k51;go_wp2_with (go_at_call 13; refine(gV _ a _ false _ FA.out HPA.out HNA.out HLA.out HVA.out).mono ?_);rintro e w5 ⟨rfl,hb4⟩;have HB5:=ab (ag HB4.out hb4);have HLW:=ab hb4
   replace X4:=ab ((hb4.block _ (lt_of_block X4.out)).trans X4.out)
   replace X5:=ab ((hb4.block _ (lt_of_block X5.out)).trans X5.out)
   replace FA:=ab (FA.out.below hb4)
   replace FB:=ab (FB.out.below hb4)
   clear hb4 k40 k41 k50 k51;have k40:=ai (k:=0) X4.out;have k41:=ai (k:=1) X4.out;have k50:=ai (k:=0) X5.out;have k51:=ai (k:=1) X5.out;simp only[List.getElem?_toArray,bN]at k40 k41 k50 k51;go_wp2_with (go_at_call 11; refine(ft _ (HE.out.keep HB5.out h6)).mono ?_);rintro e wz ⟨rfl,hbz⟩;have HBZ:=ab (ag HB5.out hbz);clear hbz;go_wp2_with fail;go_ret
   exact⟨rfl,HBZ.out⟩
  case true=>
   have HVA:=ab hva
   cases hvb:ci b
   case false=>
    have HVB:=ab hvb;have HN:=ab (show(ci a && ci b)=false by rw[hva,hvb]; rfl);go_wp2_with (go_at_call 23; refine(pK _ _ a b _ _ _ HAC.out HBB.out HEC.out HN.out).mono ?_);rintro e w4 ⟨rfl,hb4⟩;have HB4:=ab (ag HBC.out hb4);clear p0 p1 q0 q1;have HLW:=ab hb4
    replace X4:=ab ((hb4.block _ (lt_of_block X4.out)).trans X4.out)
    replace X5:=ab ((hb4.block _ (lt_of_block X5.out)).trans X5.out)
    replace FA:=ab (FA.out.below hb4)
    replace FB:=ab (FB.out.below hb4)
    clear hb4 k40 k41 k50 k51;have k40:=ai (k:=0) X4.out;have k41:=ai (k:=1) X4.out;have k50:=ai (k:=0) X5.out;have k51:=ai (k:=1) X5.out;simp only[List.getElem?_toArray,bN]at k40 k41 k50 k51;go_wp2_with (go_at_call 13; refine(gV _ a _ true _ FA.out HPA.out HNA.out HLA.out HVA.out).mono ?_);rintro e w5 ⟨rfl,hb4⟩;have HB5:=ab (ag HB4.out hb4);have HLW:=ab hb4
    replace X4:=ab ((hb4.block _ (lt_of_block X4.out)).trans X4.out)
    replace X5:=ab ((hb4.block _ (lt_of_block X5.out)).trans X5.out)
    replace FA:=ab (FA.out.below hb4)
    replace FB:=ab (FB.out.below hb4)
    clear hb4 k40 k41 k50 k51;have k40:=ai (k:=0) X4.out;have k41:=ai (k:=1) X4.out;have k50:=ai (k:=0) X5.out;have k51:=ai (k:=1) X5.out;simp only[List.getElem?_toArray,bN]at k40 k41 k50 k51;go_wp2_with (go_at_call 13; refine(gV _ b _ false _ FB.out HPB.out HNB.out HLB.out HVB.out).mono ?_);rintro e w6 ⟨rfl,hb4⟩;have HB6:=ab (ag HB5.out hb4);have HLW:=ab hb4
    replace X4:=ab ((hb4.block _ (lt_of_block X4.out)).trans X4.out)
    replace X5:=ab ((hb4.block _ (lt_of_block X5.out)).trans X5.out)
    replace FA:=ab (FA.out.below hb4)
    replace FB:=ab (FB.out.below hb4)
    clear hb4 k40 k41 k50 k51;have k40:=ai (k:=0) X4.out;have k41:=ai (k:=1) X4.out;have k50:=ai (k:=0) X5.out;have k51:=ai (k:=1) X5.out;simp only[List.getElem?_toArray,bN]at k40 k41 k50 k51;go_wp2_with (go_at_call 11; refine(ft _ (HE.out.keep HB6.out h6)).mono ?_);rintro e wz ⟨rfl,hbz⟩;have HBZ:=ab (ag HB6.out hbz);clear hbz;go_wp2_with fail;go_ret
    exact⟨rfl,HBZ.out⟩
   case true=>
    have HVB:=ab hvb;go_wp2_with (go_at_call 23; refine(xh _ _ a b _ _ _ HAC.out HBB.out HEC.out HVA.out HVB.out).mono ?_);rintro e w4 ⟨cv,rfl,hco,hb4⟩;have CV:=ab (vt hco (yi HVA.out HVB.out));obtain⟨ca,cc,rfl,-,-⟩:=au hco;have HB4:=ab (ag HBC.out hb4);clear p0 p1 q0 q1;have HLW:=ab hb4
    replace X4:=ab ((hb4.block _ (lt_of_block X4.out)).trans X4.out)
    replace X5:=ab ((hb4.block _ (lt_of_block X5.out)).trans X5.out)
    replace FA:=ab (FA.out.below hb4)
    replace FB:=ab (FB.out.below hb4)
    clear hb4 k40 k41 k50 k51;have k40:=ai (k:=0) X4.out;have k41:=ai (k:=1) X4.out;have k50:=ai (k:=0) X5.out;have k51:=ai (k:=1) X5.out;simp only[List.getElem?_toArray,bN]at k40 k41 k50 k51;clear hco;go_wp2_with (go_at_call 13; refine(gV _ a _ true _ FA.out HPA.out HNA.out HLA.out HVA.out).mono ?_);rintro e w5 ⟨rfl,hb4⟩;have HB5:=ab (ag HB4.out hb4)
    have HLW:=ab hb4
    replace X4:=ab ((hb4.block _ (lt_of_block X4.out)).trans X4.out)
    replace X5:=ab ((hb4.block _ (lt_of_block X5.out)).trans X5.out)
    replace FA:=ab (FA.out.below hb4)
    replace FB:=ab (FB.out.below hb4)
    clear hb4 k40 k41 k50 k51;have k40:=ai (k:=0) X4.out;have k41:=ai (k:=1) X4.out;have k50:=ai (k:=0) X5.out;have k51:=ai (k:=1) X5.out;simp only[List.getElem?_toArray,bN]at k40 k41 k50 k51
    replace CV:=ab (CV.out.below HLW.out)
    go_wp2_with (go_at_call 13; refine(gV _ b _ true _ FB.out HPB.out HNB.out HLB.out HVB.out).mono ?_);rintro e w6 ⟨rfl,hb4⟩;have HB6:=ab (ag HB5.out hb4);have HLW:=ab hb4
    replace X4:=ab ((hb4.block _ (lt_of_block X4.out)).trans X4.out)
    replace X5:=ab ((hb4.block _ (lt_of_block X5.out)).trans X5.out)
    replace FA:=ab (FA.out.below hb4)
    replace FB:=ab (FB.out.below hb4)
    clear hb4 k40 k41 k50 k51;have k40:=ai (k:=0) X4.out;have k41:=ai (k:=1) X4.out;have k50:=ai (k:=0) X5.out;have k51:=ai (k:=1) X5.out;simp only[List.getElem?_toArray,bN]at k40 k41 k50 k51
    replace CV:=ab (CV.out.below HLW.out)
    go_wp2_with (go_at_call 11; refine(ft _ (HE.out.keep HB6.out h6)).mono ?_);rintro e w7 ⟨rfl,hb4⟩;have HB7:=ab (ag HB6.out hb4);have HLW:=ab hb4
    replace X4:=ab ((hb4.block _ (lt_of_block X4.out)).trans X4.out)
    replace X5:=ab ((hb4.block _ (lt_of_block X5.out)).trans X5.out)
    replace FA:=ab (FA.out.below hb4)
    replace FB:=ab (FB.out.below hb4)
    clear hb4 k40 k41 k50 k51;have k40:=ai (k:=0) X4.out;have k41:=ai (k:=1) X4.out;have k50:=ai (k:=0) X5.out;have k51:=ai (k:=1) X5.out;simp only[List.getElem?_toArray,bN]at k40 k41 k50 k51
    replace CV:=ab (CV.out.below HLW.out)
    go_wp2_with (go_at_call 25; refine(qD _ _ a b _ _ _ FA.out FB.out (ll HVA.out) (ll HVB.out) (jN HVA.out) (jN HVB.out)).mono ?_);rintro e w8 ⟨rv,rfl,hro,hb4⟩;rw[uU HVA.out HVB.out]at hro;have RV:=ab (wv hro (yi HVA.out HVB.out));obtain⟨ra,rc,rfl,-,-⟩:=au hro;have HB8:=ab (ag HB7.out hb4);have HLW:=ab hb4
    replace CV:=ab (CV.out.below HLW.out)
    clear hro hb4;go_wp2_with (go_at_call 24; refine(ku _ _ _ _ ((iR a.files b.files).map qH) ((iR a.files b.files).map qH) true _ CV.out RV.out (by simp)).mono ?_);rintro e w9 ⟨rfl,hb4⟩;have HB9:=ab (ag HB8.out hb4);clear hb4;go_wp2_with fail;go_ret;exact⟨rfl,HB9.out⟩
end Go.Proofs.YtnjkpcalgoefhaaGreatDoor
namespace Go.Proofs.YtnjkpcalgoefhaaGreatDoor
open Go.ChangeShapes Go.WideShapes Go.ChangeAt Go.RowKit Go.Lib Go.Shelf
open Go.ChangeMaps (open_string shut_string)
section
variable {H : Type} {enc : TypeId × Value → H}
end
def AY :List (String×DataW Unit):=[("math/bits.deBruijn64tab",Rows.laid_math_bits_deBruijn64tab),("kinkeep/sha256.initial",Rows.laid_kinkeep_sha256_initial),("kinkeep/sha256.constants",Rows.laid_kinkeep_sha256_constants),("unicode/utf8.acceptRanges",Rows.laid_unicode_utf8_acceptRanges),("unicode/utf8.first",Rows.laid_unicode_utf8_first)]
theorem own :ownKnob Tryz.prog.godebug=none:=by kernel_rfl
theorem vL :(Rows.laid_unicode_utf8_acceptRanges:DataW Unit)=acceptData:=by kernel_rfl
theorem vO :(Rows.laid_math_bits_deBruijn64tab:DataW Unit)=tabData .u8 (Lib.deBruijn64tab.map fun(n:Nat)=>(n:Int)):=by kernel_rfl
theorem tV :(Rows.laid_kinkeep_sha256_initial:DataW Unit)=tabData .u32 (lK.list.map fun(n:Nat)=>(n:Int)):=by kernel_rfl
theorem qk :(Rows.laid_kinkeep_sha256_constants:DataW Unit)=tabData .u32 (kc.map fun(n:Nat)=>(n:Int)):=by kernel_rfl
theorem lI {P:Program} {w:World} {n:String} {k:IntKind} {zs:List Int} {g:Nat} {t e:TypeId} {N:Nat} (hg:P.globalNamed n=some g) (hty:(P.globals[g]?).map (·.type)=some t)
  (ht:P.underlying t=some (.array N e)) (he:P.underlying e=some (.int k)) (hce:P.cellsOf e=1) (hct:P.cellsOf t=N) (h:VarReads P w n (tabData k zs)) (j:Nat):w.cell? ⟨g,j,none⟩=(zs.map fun z=>Value.int k z)[j]? :=by
 obtain⟨g',t',cs,fuel,p,hg',hty',hvar,hd⟩:=h;obtain rfl:=Option.some.inj (hg.symm.trans hg');obtain rfl:=Option.some.inj (hty.symm.trans hty');rw[World.var?_cell hg hvar j,<-Array.getElem?_toList,cells_of_tab ht he hce hct hd]
theorem qi {w:World} {b k:Nat} {v:Value} (h:w.cell? ⟨b,k,none⟩=some v):b<w.heap.size:=by
 by_cases hb:b<w.heap.size
 ·exact hb
 ·exfalso
  have:w.heap[b]? =none:=Array.getElem?_eq_none (by omega);simp[World.cell?,this]at h
theorem Bl {W:World} (hL:laidMetH Tryz.prog AY W) (hsh:W.ShapedOpen Tryz.prog):iG W:=by
 rw[MakeChecks.laidMetH_plain _ _ _ (by kernel_rfl)]at hL;have h1:=Lib.laidMet.reads hL (.head _);have h2:=Lib.laidMet.reads hL (.tail _ (.head _));have h3:=Lib.laidMet.reads hL (.tail _ (.tail _ (.head _)));have h4:=Lib.laidMet.reads hL (.tail _ (.tail _ (.tail _ (.head _))));have h5:=Lib.laidMet.reads hL (.tail _ (.tail _ (.tail _ (.tail _ (.head _)))));rw[vO]at h1;rw[tV]at h2
 rw[qk]at h3;rw[vL]at h4;have c1:=lI (g:=5) (t:=240) (e:=5) (N:=64) (by kernel_rfl) (by kernel_rfl) (by kernel_rfl) (by kernel_rfl) (by kernel_rfl) (by kernel_rfl) h1;have c2:=lI (g:=1) (t:=101) (e:=100) (N:=8) (by kernel_rfl) (by kernel_rfl) (by kernel_rfl) (by kernel_rfl) (by kernel_rfl) (by kernel_rfl) h2;have c3:=lI (g:=4) (t:=156) (e:=100) (N:=64) (by kernel_rfl) (by kernel_rfl) (by kernel_rfl) (by kernel_rfl) (by kernel_rfl) (by kernel_rfl) h3
 have hI:iM W:=fun j x hj=>by
  rw[c2 j];simp[hj,fB]
 have hK:fV W:=fun j x hj=>by
  rw[c3 j];simp[hj,fB]
 have hD:TabAt 5 Lib.deBruijn64tab W:=fun j hj=>by
  rw[c1 j];simp[hj]
 have hi0:=hI 0 0x6a09e667 rfl;have hk0:=hK 0 0x428a2f98 rfl;have hd0:=hD 0 (by decide);refine⟨⟨?_, ?_⟩,hI,hK,qi hi0,qi hk0,⟨hD,qi hd0⟩⟩
 ·exact cell_of_shapedOpen_int (zero:= #[.int .i64 0]) (t:=3) hsh (of_decide_eq_true (by kernel_rfl)) (by kernel_rfl) rfl (by kernel_rfl) (by kernel_rfl) Tryz.underlying3
 ·exact utf8Tabs_of_readsT (U8Types.of196 Tryz.laysValid) ⟨by kernel_rfl,by kernel_rfl,by kernel_rfl,by kernel_rfl,by kernel_rfl,by kernel_rfl,by kernel_rfl⟩ (Pinned.utf8First_eq▸h5) h4
end Go.Proofs.YtnjkpcalgoefhaaGreatDoor
namespace Go.Proofs.YtnjkpcalgoefhaaGreatDoor
open Go.ChangeShapes Go.WideShapes Go.ChangeAt Go.RowKit Go.Lib Go.Shelf
section
variable {H : Type} {enc : TypeId × Value → H} {P : Program} {W : World} {base b0 : Nat} {spare : Nat → Bool} {held : Bool} {v : Value} {d : DataW H} {ps : List MemPlace}
theorem zN (a:Addr) (i j:Nat):(a.add i).add j=a.add (i+j):=by
 unfold Addr.add
 by_cases hi:i=0
 ·simp[hi]
 ·by_cases hj:j=0
  ·simp[hi,hj]
  ·simp[hi,hj]; omega
end
section
variable {H : Type} {enc : TypeId × Value → H} {W : World} {base b0 : Nat} {spare : Nat → Bool} {held : Bool} {v : Value} {d : DataW H} {ps : List MemPlace}
theorem eX {P:Program} {t:TypeId} {fs:Array Field} {fuel:Nat} {cs:List Value} {x:DataW H×List MemPlace} (ht:P.underlying t=some (.struct fs)) (h:DataW.trod enc P W base spare held fuel t cs=some x) (i:Nat) {f:Field} (hf:fs[i]? =some f):
  ∃n y,DataW.trod enc P W base spare held n f.type ((cs.drop f.offset).take (P.cellsOf f.type))=some y:=by
 obtain⟨xs,n,_,_,_,hlen,hF⟩:=DataW.trod_struct ht h;have hi:i<xs.length:=by rw[hlen]; exact(Array.getElem?_eq_some_iff.1 hf).1
 exact⟨n,xs[i],by rw[hF i f hf]; simp[hi]⟩
theorem kB {P:Program} {t:TypeId} {fs:Array Field} {fuel:Nat} {cs:List Value} {x:DataW H×List MemPlace} (ht:P.underlying t=some (.struct fs)) (h:DataW.trod enc P W base spare held fuel t cs=some x):cs.length=P.cellsOf t:=by
 obtain⟨xs,n,_,_,hl,_,_⟩:=DataW.trod_struct ht h;exact hl
theorem qU :Tryz.prog.cellsOf 9=1:=by kernel_rfl
theorem mP :Tryz.prog.cellsOf 3=1:=by kernel_rfl
theorem Bi {v:Value} {l:List Value} (h:v.cells.toList=l) (hl:1<l.length):v= .agg l.toArray:=by
 cases v
 case agg cs=>simp only[Value.cells]at h; rw[<-h]
 all_goals (exfalso; simp only[Value.cells]at h; rw[<-h]at hl; simp at hl)
theorem oT :Tryz.prog.cellsOf 62=2:=by kernel_rfl
theorem tF :Tryz.prog.cellsOf 25=1:=by kernel_rfl
theorem oS :Tryz.prog.cellsOf 27=7:=by kernel_rfl
theorem tE :Tryz.prog.cellsOf 22=1:=by kernel_rfl
theorem yg :Tryz.prog.cellsOf 24=2:=by kernel_rfl
theorem AZ {α:Type} {cs:List α} (h:cs.length=2): ∃c0 c1,cs=[c0,c1]:=by
 match cs,h with
 | [c0,c1],_=>exact⟨c0,c1,rfl⟩
theorem BF {α:Type} {cs:List α} (h:cs.length=7): ∃c0 c1 c2 c3 c4 c5 c6,cs=[c0,c1,c2,c3,c4,c5,c6]:=by
 match cs,h with
 | [c0,c1,c2,c3,c4,c5,c6],_=>exact⟨c0,c1,c2,c3,c4,c5,c6,rfl⟩
theorem nV {α:Type} {R:List Value->α->Prop} {X:α->Prop} : ∀ {xs:List α} {cells:List Value},bq (fun c x=>R c x/\X x) cells xs->bq R cells xs/\ ∀x∈xs,X x
 | [],_,h=>⟨h,by simp⟩
 | x::xs,_,⟨c,rest,e,hx,hr⟩=>by
  obtain⟨h1,h2⟩:=nV hr;refine⟨⟨c,rest,e,hx.1,h1⟩,fun y hy=> ?_⟩
  rcases List.mem_cons.1 hy with rfl | hy
  ·exact hx.2
  ·exact h2 y hy
end
section
variable {H : Type} {enc : TypeId × Value → H} {P : Program} {w : World} {base : Nat} {spare : Nat → Bool} {held : Bool}
end
section
variable {H : Type} {enc : TypeId × Value → H}
theorem BV {C:Checked} {os:Os} {f:FuncId} {fn:Func} {s:OpenSpec} {conds:List PathCond} {apart:Bool} {laid:List (String×DataW Unit)} (modest:Bool) (w0:World) (args:Array Value) (fuel:Nat) (hos:w0.os=os)
  (hsh:(w0.forCall (fun _ _=>0) ⟨#[],args,[]⟩).Shaped C.prog)
  (hok:Input.okWideB C.prog (w0.forCall (fun _ _=>0) ⟨#[],args,[]⟩) f ⟨#[],args,[]⟩=true)
  (hs:(DataW.whole enc C.prog (w0.forCall (fun _ _=>0) ⟨#[],args,[]⟩).memory fn.params.toList s.vars apart args.toList fuel).isSome=true)
  (hconds:conds.all (PathCond.test C.prog ⟨fn.params.toList,(Option.get _ hs).1,s.bare.plain.varTypes C.prog,(Option.get _ hs).2.1⟩)=true) (hkk: ∀k,s.cond=some k->k H ((Option.get _ hs).1++(Option.get _ hs).2.1)=true)
  (hsz:s.bare.sizedB enc C.prog fn apart (w0.forCall (fun _ _=>0) ⟨#[],args,[]⟩).memory args fuel=true) (hl:laidMetH C.prog laid (w0.forCall (fun _ _=>0) ⟨#[],args,[]⟩).memory):
  ∃(w:World) (tape:Tape) (i:Input),w.os=os/\(w.forCall tape i).Shaped C.prog/\i.vars=[]/\Input.okWide C.prog (w.forCall tape i) .any w.heap.size f i/\
   s.preRow enc C.prog fn conds apart laid (w.forCall tape i).memory i.args/\({modest:=modest} :Assume).holds C.prog (lone (Frame.enter C.prog f i.args .normal) [] (w.forCall tape i)):=
 ⟨w0,fun _ _=>0,⟨#[],args,[]⟩,hos,hsh,(Input.okWide_of_okWideB (base:=0) hok).1,(Input.okWide_of_okWideB hok).2,OpenSpec.preRow_of_cond fuel (Option.some_get hs).symm hconds hkk hsz hl,by
  simp only[Assume.holds];exact⟨by simp,by simp,fun _=>Modest.zero,by simp,by simp⟩⟩
end
theorem lu {H:Type} {d:DataW H} {l:List (DataW H)} (h:d∈l):Rows.uptoBulk d<=Rows.uptoBulkAll l:=by
 induction l with
 | nil=>cases h
 | cons x r ih=>
  simp only[Rows.uptoBulkAll]
  cases List.mem_cons.1 h with
  | inl e=>subst e; omega
  | inr e=>have:=ih e; omega
theorem tD {H:Type} {l:List (DataW H)} (hk:Rows.uptoSmall H l=true):Rows.uptoBulkAll l<=1048576:=of_decide_eq_true hk
section
variable {H : Type} {enc : TypeId × Value → H} {P : Program} {W : World} {base b0 : Nat} {spare : Nat → Bool} {held : Bool} {v : Value} {d : DataW H} {ps : List MemPlace}
def qL (d:DataW H):Prop:=Rows.uptoBulk d<=1048576
theorem ye (d:DataW H):1<=Rows.uptoBulk d:=by
 cases d
 case lit l=>cases l<;> simp[Rows.uptoBulk]
 all_goals simp[Rows.uptoBulk]
theorem qS : ∀(l:List (DataW H)),l.length<=Rows.uptoBulkAll l
 | []=>by simp[Rows.uptoBulkAll]
 | d::l=>by
  have h1:=qS l;have h2:=ye d;simp only[Rows.uptoBulkAll,List.length_cons]; omega
theorem rG {l:List (DataW H)} (h:Rows.uptoSmall H l=true) {d:DataW H} (hd:d∈l):qL d:=Nat.le_trans (lu hd) (tD h)
theorem xr {es rest:List (DataW H)} (h:qL (.slice es rest)):es.length<=1048576/\ ∀d∈es,qL d:=by
 unfold qL at h;simp only[Rows.uptoBulk]at h;have h1:=qS es;refine⟨by omega,fun d hd=> ?_⟩;have:=lu hd;unfold qL; omega
theorem zO {ds:List (DataW H)} (h:qL (.agg ds)): ∀d∈ds,qL d:=fun d hd=>by
 unfold qL at h;simp only[Rows.uptoBulk]at h;have:=lu hd;unfold qL; omega
theorem gO {P:Program} {t:TypeId} {fs:Array Field} {fuel:Nat} {cs:List Value} {x:DataW H×List MemPlace} (ht:P.underlying t=some (.struct fs)) (h:DataW.trod enc P W base spare held fuel t cs=some x) (hL:qL x.1) (i:Nat) {f:Field} (hf:fs[i]? =some f):
  ∃n y,DataW.trod enc P W base spare held n f.type ((cs.drop f.offset).take (P.cellsOf f.type))=some y/\qL y.1:=by
 obtain⟨xs,n,_,hx,_,hlen,hF⟩:=DataW.trod_struct ht h;have hi:i<xs.length:=by rw[hlen]; exact(Array.getElem?_eq_some_iff.1 hf).1
 refine⟨n,xs[i],by rw[hF i f hf]; simp[hi], ?_⟩;rw[hx]at hL;exact zO hL _ (List.mem_map.2 ⟨_,List.getElem_mem hi,rfl⟩)
theorem vB {α:Type} {P:Program} {R:List Value->α->Prop} {t e:TypeId} {sz:Nat} {fuel:Nat} {cs0:List Value} {y0:DataW H×List MemPlace} (ht:P.underlying t=some (.slice e)) (hc:P.cellsOf e=sz) (hpos:0<sz)
  (hR: ∀n cs y,DataW.trod enc P W base spare held n e cs=some y->qL y.1-> ∃x,R cs x) (hs: ∀c x,R c x->c.length=sz)
  (hf:DataW.trod enc P W base spare held fuel t cs0=some y0) (hL:qL y0.1): ∃v,cs0=[v]/\ ∃xs:List α,aR (fun _=>True) W sz R v xs/\xs.length<=1048576:=by
 rcases DataW.trod_slice ht hf with⟨hcs,_⟩ | ⟨a,len0,cap0,elems,rest,n,_,hcs,hy0,hb,hl,hm,hlen,hel,_,_⟩
 ·exact⟨_,hcs,[],aR.nil,by simp⟩
 ·refine⟨_,hcs, ?_⟩;rw[hc]at hel;rw[hy0]at hL;obtain⟨hL1,hL2⟩:=xr hL;rw[List.length_map,hlen]at hL1;have each: ∀i,i<len0-> ∃cs x,R cs x/\cs.length=sz/\ ∀j,j<sz->W.cell? (a.add (i*sz+j))=cs[j]? :=by
   intro i hi;have h1:=hel i hi;rw[List.getElem?_eq_getElem (by omega),Option.bind_eq_some_iff]at h1;obtain⟨cs,hcs,hy⟩:=h1;obtain⟨x,hx⟩:=hR n cs _ hy (hL2 _ (List.mem_map.2 ⟨_,List.getElem_mem (by omega),rfl⟩));refine⟨cs,x,hx,hs cs x hx,fun j hj=> ?_⟩;have h3:=World.cells?_some hcs;rw[<-zN];exact h3.2.2 j hj
  have main: ∀m,m<=len0-> ∃(cells:List Value) (xs:List α),xs.length=m/\cells.length=m*sz/\bq R cells xs/\ ∀(j:Nat) u,cells[j]? =some u->W.cell? (a.add j)=some u:=by
   intro m
   induction m with
   | zero=>intro _; exact⟨[],[],rfl,by simp,rfl,fun j u hj=>by simp at hj⟩
   | succ m ih=>
    intro hm;obtain⟨cells,xs,h1,h2,h3,h4⟩:=ih (by omega);obtain⟨cs,x,hx,hcl,hcc⟩:=each m (by omega);refine⟨cells++cs,xs++[x],by simp[h1],by rw[List.length_append,h2,hcl,Nat.add_mul]; omega,bq.snoc h3 hx,fun j u hj=> ?_⟩
    rcases Nat.lt_or_ge j cells.length with hj2 | hj2
    ·rw[List.getElem?_append_left hj2]at hj; exact h4 j u hj
    ·rw[List.getElem?_append_right hj2]at hj;have hlt:=(List.getElem?_eq_some_iff.1 hj).1;have:=hcc (j-cells.length) (by omega);rw[h2,show m*sz+(j-m*sz)=j by omega]at this;rw[this,<-h2]; exact hj
  obtain⟨cells,xs,h1,h2,h3,h4⟩:=main len0 (Nat.le_refl _);subst h1;refine⟨xs,⟨cells,⟨h2,some a,cap0,rfl,hl,hm, ?_⟩,h3⟩,hL1⟩
  rcases Nat.eq_zero_or_pos xs.length with h0 | h0
  ·exact .inl h0
  ·right
   have hpl:0<cells.length:=by rw[h2]; exact Nat.mul_pos h0 hpos
   have hc0:=h4 0 cells[0] (by simp[hpl]);have hsp:a.spot=none:=by simpa [Addr.add]using World.cell?_spot hc0
   obtain⟨b,o,sp⟩:=a;simp only at hsp;subst hsp;refine⟨b,o,rfl,trivial,fun j u hj=> ?_⟩;have:=h4 j u hj;rw[qb]at this; exact this
end
section
variable {H : Type} {enc : TypeId × Value → H} {W : World} {base b0 : Nat} {spare : Nat → Bool} {held : Bool} {v : Value} {d : DataW H} {ps : List MemPlace}
theorem kz {n:Nat} {t:TypeId} {cs:List Value} {x:DataW H×List MemPlace} {P:Program} (ht:P.underlying t=some .string) (h:DataW.trod enc P W base spare held n t cs=some x) (hL:qL x.1): ∃s:ByteArray,cs=[.string s]/\s.size<=maxLen/\s.size<=1048576:=by
 obtain⟨s,e,hx,hw⟩:=DataW.trod_string ht h;refine⟨s,e,hw, ?_⟩;rw[hx]at hL;unfold qL at hL;simp only[Rows.uptoBulk]at hL;have h4:s.data.toList.length=s.size:=rfl;omega
structure xK (f : ay) : Prop where
 pth:f.path.size<=1048576
 lnk:f.link.size<=1048576
 len:f.parts.length<=1048576
 sum: ∀p∈f.parts,p.sum.size<=1048576
theorem un {n:Nat} {cs:List Value} {y:DataW H×List MemPlace} (h:DataW.trod enc Tryz.prog W base spare held n 62 cs=some y) (hL:qL y.1): ∃p,dq cs p/\p.sum.size<=1048576:=by
 have hl:=kB Tryz.underlying62 h;rw[oT]at hl;obtain⟨c0,c1,rfl⟩:=AZ hl;obtain⟨n0,y0,h0,hL0⟩:=gO Tryz.underlying62 h hL 0 rfl;obtain⟨n1,y1,h1⟩:=eX Tryz.underlying62 h 1 rfl;simp only[List.getElem_toArray,List.getElem_cons_zero,List.getElem_cons_succ,qU,mP]at h0 h1;obtain⟨a0,e0,g0,gb⟩:=kz Tryz.underlying9 h0 hL0;obtain⟨a1,e1,_,g1⟩:=DataW.trod_int Tryz.underlying3 h1
 simp at e0 e1;subst e0 e1;exact⟨⟨a0,a1⟩,⟨rfl,⟨g0,g1⟩⟩,gb⟩
theorem um {n:Nat} {cs:List Value} {y:DataW H×List MemPlace} (h:DataW.trod enc Tryz.prog W base spare held n 27 cs=some y) (hL:qL y.1): ∃f,dj (fun _=>True) W cs f/\xK f:=by
 have hl:=kB Tryz.underlying27 h;rw[oS]at hl;obtain⟨c0,c1,c2,c3,c4,c5,c6,rfl⟩:=BF hl;obtain⟨n0,y0,h0,hL0⟩:=gO Tryz.underlying27 h hL 0 rfl;obtain⟨n1,y1,h1⟩:=eX Tryz.underlying27 h 1 rfl;obtain⟨n2,y2,h2⟩:=eX Tryz.underlying27 h 2 rfl;obtain⟨n3,y3,h3⟩:=eX Tryz.underlying27 h 3 rfl;obtain⟨n4,y4,h4⟩:=eX Tryz.underlying27 h 4 rfl
 obtain⟨n5,y5,h5,hL5⟩:=gO Tryz.underlying27 h hL 5 rfl;obtain⟨n6,y6,h6,hL6⟩:=gO Tryz.underlying27 h hL 6 rfl;simp only[List.getElem_toArray,List.getElem_cons_zero,List.getElem_cons_succ,qU,mP,tF]at h0 h1 h2 h3 h4 h5 h6;obtain⟨a0,e0,g0,k0⟩:=kz Tryz.underlying9 h0 hL0;obtain⟨a5,e5,g5,k5⟩:=kz Tryz.underlying9 h5 hL5;obtain⟨a1,e1,_,g1⟩:=DataW.trod_int Tryz.underlying3 h1
 obtain⟨a2,e2,_,g2⟩:=DataW.trod_int Tryz.underlying3 h2;obtain⟨a3,e3,_,g3⟩:=DataW.trod_int Tryz.underlying3 h3;obtain⟨a4,e4,_,g4⟩:=DataW.trod_int Tryz.underlying3 h4;obtain⟨a6,e6,ps,⟨cells,g6,g7⟩,gb⟩:=vB (R:=fun c p=>dq c p/\p.sum.size<=1048576) Tryz.underlying25 oT (by omega) (fun n cs y hy hf=>un hy hf) (fun c x hx=>dq.len c x hx.1) h6 hL6
 obtain⟨g8,g9⟩:=nV g7;simp at e0 e1 e2 e3 e4 e5 e6;subst e0 e1 e2 e3 e4 e5 e6;exact⟨⟨a0,a1,a2,a3,a4,a5,ps⟩,⟨_,rfl,⟨cells,g6,g8⟩,⟨g0,g5,g1,g2,g3,g4⟩⟩,⟨k0,k5,gb,g9⟩⟩
theorem py (h:DataW.Trod enc Tryz.prog W base spare held 24 v d ps) (hL:qL d): ∃(fv:Value) (x:cJ),v=cG fv x.tm/\aO (fun _=>True) W fv x.files/\(∀f∈x.files,xK f)/\x.files.length<=1048576/\(Lit.int .i64 x.tm).wf=true:=by
 obtain⟨fuel,h⟩:=h;have hl:=kB Tryz.underlying24 h;rw[yg]at hl;obtain⟨c0,c1,hcs⟩:=AZ hl;rw[hcs]at h;obtain⟨n0,y0,h0⟩:=eX Tryz.underlying24 h 0 rfl;obtain⟨n1,y1,h1,hL1⟩:=gO Tryz.underlying24 h hL 1 rfl;simp only[List.getElem_toArray,List.getElem_cons_zero,List.getElem_cons_succ,tE,mP]at h0 h1;obtain⟨a0,e0,_,g0⟩:=DataW.trod_int Tryz.underlying3 h0
 obtain⟨a1,e1,xs,⟨cells,h2,h3⟩,hn⟩:=vB (R:=fun c f=>dj (fun _=>True) W c f/\xK f) Tryz.underlying22 oS (by omega) (fun n cs y hy hy2=>um hy hy2) (fun c x hx=>dj.len c x hx.1) h1 hL1;simp at e0 e1;subst e0 e1;obtain⟨h4,h5⟩:=nV h3;exact⟨_,⟨a0,xs⟩,Bi hcs (by simp),⟨cells,h2,h4⟩,h5,hn,g0⟩
end
end Go.Proofs.YtnjkpcalgoefhaaGreatDoor
