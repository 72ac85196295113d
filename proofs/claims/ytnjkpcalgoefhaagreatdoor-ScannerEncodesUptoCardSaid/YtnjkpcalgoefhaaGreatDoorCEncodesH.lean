/- Texts of this proof, one after the other: ScnY, LawDec, SealA, AppU, ScE, RefL, SameI, LawEnc, Frame, OpI, FrameU, OpU. -/
import Derived.Test.YtnjkpcalgoefhaaGreatDoorCEncodesG
set_option maxRecDepth 100000
set_option maxHeartbeats 8000000
namespace Go.Proofs.YtnjkpcalgoefhaaGreatDoor
open Go Go.RowKit Go.Maps
def qr (b:Nat):List Value:=[.string ⟨#[100]⟩, .int .i64 2, .int .i64 0, .int .i64 0, .slice none 0 0, .string ⟨#[]⟩, .string ⟨#[100,47,102]⟩, .int .i64 1, .int .i64 0, .int .i64 5, .slice (some ⟨b,0,none⟩) 3 3, .string ⟨#[]⟩]
theorem BR {w:World} {b k:Nat} {cs:Array Value} {t:TypeId} {z:Nat×Nat} (h:w.heap[b]? =some (.cells cs t z)):w.cell? ⟨b,k,none⟩=cs[k]? :=by
 simp[World.cell?,h]
theorem mH {W:World} {b n sz:Nat} {cells:List Value} {t:TypeId} {z:Nat×Nat} (h:W.heap[b]? =some (.cells cells.toArray t z)) (hl:cells.length=n*sz) (hn:n<=maxLen):aS (fun _=>True) W sz (.slice (some ⟨b,0,none⟩) n n) n cells:=
 ⟨hl,some ⟨b,0,none⟩,n,rfl,Nat.le_refl _,hn, .inr ⟨b,0,rfl,trivial,fun j u hj=>by rw[BR h,Nat.zero_add,List.getElem?_toArray]; exact hj⟩⟩
theorem tQ {w:World} {rb b:Nat} {d:List UInt8} {t u:TypeId} {z:Nat×Nat} (h:w.heap[rb]? =some (.cells (qr b).toArray t (0,0))) (hb:w.heap[b]? =some (.cells (d.map aN).toArray u z)) (hd:d.length=3):cl (fun _=>True) w (.slice (some ⟨rb,0,none⟩) 2 2) (em d):=by
 refine⟨qr b,mH (n:=2) (sz:=6) (cells:=qr b) h rfl (by unfold maxLen; omega), ?_⟩;have hda:cN (fun _=>True) w (.slice (some ⟨b,0,none⟩) 3 3) d:=by
  have h1:=mH (n:=d.length) (sz:=1) (cells:=d.map aN) hb (by simp) (by rw[hd]; unfold maxLen; omega);rw[show Value.slice (some ⟨b,0,none⟩) 3 3= .slice (some ⟨b,0,none⟩) d.length d.length by rw[hd]];exact h1
 refine⟨jc (.slice none 0 0) El,jc (.slice (some ⟨b,0,none⟩) 3 3) (nJ d),rfl,⟨_,rfl,cN.nil _ _, ?_⟩,⟨jc (.slice (some ⟨b,0,none⟩) 3 3) (nJ d),[],rfl,⟨_,rfl,hda, ?_⟩,rfl⟩⟩
 ·exact⟨by show(1:Nat)<=_; unfold maxLen; omega,by show(0:Nat)<=_; omega,rfl,rfl,rfl⟩
 ·exact⟨by show(3:Nat)<=_; unfold maxLen; omega,by show(0:Nat)<=_; omega,rfl,rfl,rfl⟩
def zg (p:ByteArray×Int):bm:=⟨p.1,p.2⟩
theorem oR (l:List (ByteArray×Int)):gt l=bg (l.map zg):=by
 induction l with
 | nil=>rfl
 | cons p l ih=>
  unfold gt bg at *;rw[List.flatMap_cons,List.map_cons,List.flatMap_cons,ih]; rfl
theorem EO {w:World} {base:Nat} {v:Value} {l:List (ByteArray×Int)} (h:w.ownsRow base 60 2 v l.length (gt l)) (hok: ∀p∈l,dk (zg p)):aP (fun _=>True) w v (l.map zg):=by
 rw[oR]at h;refine⟨_, ?_,gh (fun p hp=> ?_)⟩
 ·rw[List.length_map];exact(bp h).weak (fun _ _=>trivial)
 ·obtain⟨q,hq,rfl⟩:=List.mem_map.1 hp;exact hok q hq
theorem yM {w:World} {b:Nat} {l:List (ByteArray×Int)} {t:TypeId} (h:w.heap[b]? =some (.cells (gt l).toArray t (0,0))) (hl:l.length<=maxLen) (hok: ∀p∈l,dk (zg p)):aP (fun _=>True) w (.slice (some ⟨b,0,none⟩) l.length l.length) (l.map zg):=by
 rw[oR]at h;refine⟨_, ?_,gh (fun p hp=> ?_)⟩
 ·have h1:=(fS (n:=l.length) (sz:=2) (cells:=bg (l.map zg)) h (by rw[pQ,List.length_map]) hl).weak (T:=fun _=>True) (fun _ _=>trivial);rw[List.length_map];exact h1
 ·obtain⟨q,hq,rfl⟩:=List.mem_map.1 hp;exact hok q hq
theorem yN (x:Int):([(⟨#[100]⟩,x),(⟨#[100,47,102]⟩,x)]:List (ByteArray×Int)).length<=maxLen:=by show 2<=maxLen; unfold maxLen; omega
def oP (x:Int):List (ByteArray×Int):=[(⟨#[100]⟩,x),(⟨#[100,47,102]⟩,x)]
theorem ov {x:Int} (h:x=1\/x=4): ∀p∈oP x,dk (zg p):=by
 intro p hp;simp only[oP,List.mem_cons,List.not_mem_nil,or_false]at hp
 rcases h with rfl | rfl<;> rcases hp with rfl | rfl
 all_goals exact⟨by first | (show(1:Nat)<=_; unfold maxLen; omega) | (show(3:Nat)<=_; unfold maxLen; omega),rfl⟩
theorem qg (S T:Nat->Prop) (v u:Value) (rs ss:List bm) (b:Bool) (w:World) (hv:aP S w v rs) (hu:aP T w u ss) (h:decide (rs=ss)=b):Calls Tryz.prog 24 #[v,u] w fun e w'=>e= .returned (.bool b)/\Below w.heap.size w w':=by
 rw[<-h]; exact vR S T v u rs ss w hv hu
theorem mV (w:World) (C:Array Value) (n c:Nat):(convert 28 28 (.slice (some ⟨w.heap.size,0,none⟩) n c)).run Tryz.prog (w.alloc (.cells C 5))= .ok (.slice (some ⟨w.heap.size,0,none⟩) n c) (w.alloc (.cells C 5 (C.size,C.size+1))):=
 Lib.run_convert_bytes_const w 28 5 C n c Tryz.underlying28 Tryz.underlying5
theorem AK (v u:Value) (L M:List (List UInt8)) (b:Bool) (w:World) (hv:ie w v L) (hu:ie w u M) (h:decide (L=M)=b):Calls Tryz.prog 32 #[v,u] w fun e w'=>e= .returned (.bool b)/\Below w.heap.size w w':=by
 rw[<-h]; exact xO v u L M w hv hu
theorem AM (tv:Value) (w:World) (ht:cl (fun _=>True) w tv (em [97,98,99])) (he:jF w):Calls Tryz.prog 20 #[.agg #[.int .i64 0, .slice none 0 0], .int .i64 10,tv, .string ⟨#[]⟩, .agg #[.int .i64 4, .int .i64 8, .int .i64 4, .int .i64 20, .int .u64 0]] w (lV (.ok ⟨⟨10,cU [bP [97,98,99]]⟩,oP 1,[[97,98,99]],1,0⟩) w):=by
 have h:=qh (fun _=>True) (fun _=>True) ⟨0,[]⟩ (.slice none 0 0) tv 10 (em [97,98,99]) ⟨#[]⟩ jW w (aT.nil _ _) ht he (by decide) (by simp);rw[show bl ⟨#[]⟩=[]from rfl,FD]at h;exact h
theorem Cu : ∀f∈cU [bP [97,98,99]],f.parts.length<=1048576:=by
 intro f hf;simp only[cU,List.mem_cons,List.not_mem_nil,or_false]at hf
 rcases hf with rfl | rfl<;> simp
theorem AN (S:Nat->Prop) (fv tv:Value) (w:World) (hf:aT S w fv (cU [bP [97,98,99]])) (ht:cl (fun _=>True) w tv (em [97,98,100])) (he:jF w):Calls Tryz.prog 20 #[.agg #[.int .i64 10,fv], .int .i64 20,tv, .string ⟨#[]⟩, .agg #[.int .i64 4, .int .i64 8, .int .i64 4, .int .i64 20, .int .u64 0]] w (lV (.ok ⟨⟨20,cU [bP [97,98,99]]⟩,[],[],0,1⟩) w):=by
 have h:=qh S (fun _=>True) ⟨10,cU [bP [97,98,99]]⟩ fv tv 20 (em [97,98,100]) ⟨#[]⟩ jW w hf ht he (by decide) Cu;rw[show bl ⟨#[]⟩=[]from rfl,Gw]at h;exact h
theorem AO (S:Nat->Prop) (fv tv:Value) (w:World) (hf:aT S w fv (cU [bP [97,98,99]])) (ht:cl (fun _=>True) w tv (em [97,98,100])) (he:jF w):Calls Tryz.prog 20 #[.agg #[.int .i64 10,fv], .int .i64 20,tv, .string ⟨#[100,47]⟩, .agg #[.int .i64 4, .int .i64 8, .int .i64 4, .int .i64 20, .int .u64 0]] w (lV (.ok ⟨⟨20,[]⟩,oP 4,[],0,0⟩) w):=by
 have h:=qh S (fun _=>True) ⟨10,cU [bP [97,98,99]]⟩ fv tv 20 (em [97,98,100]) ⟨#[100,47]⟩ jW w hf ht he (by decide) Cu;rw[show bl ⟨#[100,47]⟩=[100,47]from rfl,Gx]at h;exact h
theorem gZ (w:World) (o:Obj):(w.alloc o).heap.size=w.heap.size+1:=by simp
theorem nf {w:World} {o x:Obj} {k:Nat} (h:w.heap[k]? =some x):(w.alloc o).heap[k]? =some x:=by
 rw[heap_alloc_old _ _ (lt_of_block h)]; exact h
theorem ye {w W:World} {n:Nat} (o p:Obj) (h:Below n w W) (hn:n<=W.heap.size):Below n w ((W.alloc o).alloc p):=
 (h.alloc hn _).alloc (by rw[gZ]; omega) _
theorem yP (W:World) (o p:Obj):((W.alloc o).alloc p).heap[W.heap.size+1]? =some p:=by
 rw[<-gZ W o]; exact heap_alloc_new _ _
theorem DA {w:World} {rb b c:Nat} {t:TypeId} (h:w.heap[rb]? =some (.cells (qr b).toArray t (0,0))):(w.setCell ⟨rb,10,none⟩ (.slice (some ⟨c,0,none⟩) 3 3)).heap[rb]? =some (.cells (qr c).toArray t (0,0)):=by
 rw[heap_setCell_same _ _ _ _ _ _ h]
 rfl
theorem EJ (w:World) (a:Addr) (v:Value) (o:Obj):((w.setCell a v).alloc o).heap[w.heap.size]? =some o:=by
 have h:=heap_alloc_new (w.setCell a v) o;have e:(w.setCell a v).heap.size=w.heap.size:=by simp
 rw[e]at h; exact h
theorem yS {w:World} {a:Addr} {v:Value} {o x:Obj} {k:Nat} (h:w.heap[k]? =some x) (hk:k≠a.block):((w.setCell a v).alloc o).heap[k]? =some x:=
 nf ((heap_setCell_other _ _ _ _ hk).trans h)
theorem FR {w:World} {base b j:Nat} {v fv:Value} {o:Obj} {fs:List aw} (h:bQ w base fv fs) (hb:b<base):bQ ((w.setCell ⟨b,j,none⟩ v).alloc o) base fv fs:=
 bQ.below (h.same fun k _ _ _ hB _ _=>heap_setCell_other _ _ _ _ (by show k≠b; omega)) ((Below.refl _ _).alloc (Nat.le_refl _) _)
theorem FZ {w W:World} {n:Nat} {a:Addr} (v:Value) (o:Obj) (h:Below n w W) (hn:n<=a.block) (hz:n<=W.heap.size):Below n w ((W.setCell a v).alloc o):=
 (h.setCell hn _).alloc (by simpa using hz) _
theorem xy {r:BE} {w w':World} {e:Ending} (h:lV (.ok r) w e w') (hok: ∀p∈r.chg,dk (zg p)): ∃fa fn fc ca cn cc na nc,e= .returned (.tuple #[.agg #[.int .i64 r.idx.tm, .slice fa fn fc, .slice ca cn cc, .slice na r.news.length nc, .int .i64 (r.read:Int), .int .i64 (r.kept:Int)], .int .i64 0])/\Below w.heap.size w w'/\bQ w' w.heap.size (.slice fa fn fc) r.idx.files/\aP (fun _=>True) w' (.slice ca cn cc) (r.chg.map zg)/\ie w' (.slice na r.news.length nc) r.news/\cn=r.chg.length:=by
 obtain⟨hb,fv,cv,nv,rfl,hf,hc,hn⟩:=h;obtain⟨zs,-,hz,-⟩:=hf.row;obtain⟨fa,fc,rfl,-,-⟩:=au hz;have hc':=EO hc hok;obtain⟨ca,cc,rfl,-,-⟩:=au hc;obtain⟨ys,hys,hn1,-⟩:=id hn;have hl:ys.length=r.news.length:=by rw[<-hys,List.length_map]
 have hn':=xE hn;obtain⟨na,nc,rfl,-,-⟩:=au hn1;rw[hl]at hn' ⊢;exact⟨fa,_,fc,ca,_,cc,na,nc,rfl,hb,hf,hc',hn',rfl⟩
theorem Ea {w:World} {rb b:Nat} {d:List UInt8} {t u:TypeId} {z z':Nat×Nat} (h:w.heap[rb]? =some (.cells #[.slice (some ⟨b,0,none⟩) 3 3] t z')) (hb:w.heap[b]? =some (.cells (d.map aN).toArray u z)) (hd:d.length=3):ie w (.slice (some ⟨rb,0,none⟩) 1 1) [d]:=by
 refine⟨[.slice (some ⟨b,0,none⟩) 3 3],mH (n:=1) (sz:=1) (cells:=[.slice (some ⟨b,0,none⟩) 3 3]) h rfl (by unfold maxLen; omega),fun k y pl hy hp=> ?_⟩
 rcases k with _ | k
 ·cases hy; cases hp
  have h1:=mH (n:=d.length) (sz:=1) (cells:=d.map aN) hb (by simp) (by rw[hd]; unfold maxLen; omega);rw[show Value.slice (some ⟨b,0,none⟩) 3 3= .slice (some ⟨b,0,none⟩) d.length d.length by rw[hd]];exact h1
 ·simp at hy
theorem ie.two {w:World} {v:Value} {L:List (List UInt8)} {o p:Obj} (h:ie w v L):ie ((w.alloc o).alloc p) v L:=h.below (ye _ _ (Below.refl _ _) (Nat.le_refl _))
theorem aP.below' {w w':World} {v:Value} {ps:List bm} (h:aP (fun _=>True) w v ps) (hb:Below w.heap.size w w'):aP (fun _=>True) w' v ps:=by
 obtain⟨cells,h1,h2⟩:=h;exact⟨cells,aS.below h1 (by omega) hb,h2⟩
theorem jR (w:World) (he:jF w):Calls Tryz.prog 11 #[] w fun e w'=>e= .returned (.bool true)/\Below w.heap.size w w':=by
 have HE:=ab he;have h6:=he.six;clear he
 go_enter Tryz.func11,Tryz.ntmps11
 go_upto_region 2 with fail
 obtain⟨W1,hW1⟩: ∃W1,W1=w.alloc (.cells #[.int .i64 4, .int .i64 8, .int .i64 4, .int .i64 20, .int .u64 0] 48):=⟨_,rfl⟩;rw[<-hW1];have HB1:=ab (show Below w.heap.size w W1 by rw[hW1]; exact(Below.refl _ _).alloc (Nat.le_refl _) _);have HC1:=ab (show W1.heap[w.heap.size]? =some (.cells #[.int .i64 4, .int .i64 8, .int .i64 4, .int .i64 20, .int .u64 0] 48 (0,0)) by rw[hW1]; exact heap_alloc_new w _)
 have hz1:w.heap.size<W1.heap.size:=lt_of_block HC1.out;clear hW1;have hcv:=mV W1 #[.int .u8 97, .int .u8 98, .int .u8 99] 3 3
 go_upto_region 3 with fail
 obtain⟨W3,hW3⟩: ∃W3,W3=(W1.alloc (.cells #[.int .u8 97, .int .u8 98, .int .u8 99] 5 (3,4))).alloc (.cells #[.string ⟨#[100]⟩, .int .i64 2, .int .i64 0, .int .i64 0, .slice none 0 0, .string ⟨#[]⟩, .string ⟨#[100,47,102]⟩, .int .i64 1, .int .i64 0, .int .i64 5, .slice (some ⟨W1.heap.size,0,none⟩) 3 3, .string ⟨#[]⟩] 30):=⟨_,rfl⟩;rw[<-hW3];have HB3:=ab (show Below w.heap.size w W3 by rw[hW3]; exact ye _ _ HB1.out (by omega))
 have HC3:=ab (show W3.heap[w.heap.size]? =some (.cells #[.int .i64 4, .int .i64 8, .int .i64 4, .int .i64 20, .int .u64 0] 48 (0,0)) by rw[hW3]; exact nf (nf HC1.out));have HD3:=ab (show W3.heap[W1.heap.size]? =some (.cells ([97,98,99].map aN).toArray 5 (3,4)) by rw[hW3]; exact nf (heap_alloc_new W1 _));have HT3:=ab (show W3.heap[W1.heap.size+1]? =some (.cells (qr W1.heap.size).toArray 30 (0,0)) by rw[hW3]; exact yP W1 _ _)
 clear hW3;have c0:=ai (k:=0) HC3.out;have c1:=ai (k:=1) HC3.out;have c2:=ai (k:=2) HC3.out;have c3:=ai (k:=3) HC3.out;have c4:=ai (k:=4) HC3.out;simp only[List.getElem?_toArray,bV]at c0 c1 c2 c3 c4;have ht3:=ab (tQ HT3.out HD3.out rfl);go_wp2_with (refine(AM _ _ ht3.out (HE.out.below HB3.out)).mono ?_);intro e w4 h4;obtain⟨fa,fn,fc,ca,cn,cc,na,nc,rfl,hb4,hf4,hc4,hn4,-⟩:=xy h4 (ov (.inl rfl))
 have HB4:=ab hb4;have HF4:=ab hf4;have HP4:=ab hc4;have HN4:=ab hn4;have hz4:=hb4.size;clear h4 hb4 hf4 hc4 hn4
 go_upto_region 4 with fail
 obtain⟨W5,hW5⟩: ∃W5,W5=w4.alloc (.cells #[.int .i64 10, .slice fa fn fc, .slice ca cn cc, .slice na 1 nc, .int .i64 1, .int .i64 0] 54):=⟨_,rfl⟩;rw[<-hW5];have HX5:=ab (show W5.heap[w4.heap.size]? =some (.cells #[.int .i64 10, .slice fa fn fc, .slice ca cn cc, .slice na 1 nc, .int .i64 1, .int .i64 0] 54 (0,0)) by rw[hW5]; exact heap_alloc_new w4 _);have HB5:=ab (show Below w4.heap.size w4 W5 by rw[hW5]; exact(Below.refl _ _).alloc (Nat.le_refl _) _)
 have hz5:W5.heap.size=w4.heap.size+1:=by rw[hW5]; exact gZ _ _
 clear hW5;have hcv5:=mV W5 #[.int .u8 97, .int .u8 98, .int .u8 99] 3 3;have HZ5:=ab hz5;clear hz5;have x0:=ai (k:=0) HX5.out;have x1:=ai (k:=1) HX5.out;have x2:=ai (k:=2) HX5.out;have x3:=ai (k:=3) HX5.out;have x4:=ai (k:=4) HX5.out;have x5:=ai (k:=5) HX5.out;simp only[List.getElem?_toArray,bV]at x0 x1 x2 x3 x4 x5;go_wp2_with (refine(AK _ _ [[97,98,99]] [[97,98,99]] true _ (HN4.out.below HB5.out).two (Ea (yP _ _ _) (nf (heap_alloc_new _ _)) rfl) (by decide)).mono ?_)
 rintro e w6 ⟨rfl,hb6⟩;have HB6:=ab (show Below W5.heap.size W5 w6 from(ye _ _ (Below.refl _ _) (Nat.le_refl _)).trans (hb6.mono (by rw[gZ,gZ]; omega)));clear hb6;have HX6:=ab ((HB6.out.block _ (lt_of_block HX5.out)).trans HX5.out);have hz6:=HB6.out.size;have HP6:=ab ((HP4.out.below' HB5.out).below' HB6.out);clear x0 x1 x2 x3 x4 x5;have x0:=ai (k:=0) HX6.out;have x1:=ai (k:=1) HX6.out
 have x2:=ai (k:=2) HX6.out;have x3:=ai (k:=3) HX6.out;have x4:=ai (k:=4) HX6.out;have x5:=ai (k:=5) HX6.out;simp only[List.getElem?_toArray,bV]at x0 x1 x2 x3 x4 x5;go_wp2_with (refine(qg _ _ _ _ ((oP 1).map zg) ((oP 1).map zg) true _ (HP6.out.below' ((Below.refl _ _).alloc (Nat.le_refl _) _)) (yM (l:=oP 1) (heap_alloc_new _ _) (yN 1) (ov (.inl rfl))) (decide_eq_true rfl)).mono ?_)
 rintro e w7 ⟨rfl,hb7⟩;have HB7:=ab (show Below w6.heap.size w6 w7 from((Below.refl _ _).alloc (Nat.le_refl _) _).trans (hb7.mono (by rw[gZ]; omega)));clear hb7;have HX7:=ab ((HB7.out.block _ (lt_of_block HX6.out)).trans HX6.out);have hz7:=HB7.out.size;clear x0 x1 x2 x3 x4 x5 hcv5
 go_upto_region 6 with fail
 have hz4s:W3.heap.size<=w7.heap.size:=by have:=HZ5.out; omega
 have HB37:=ab (show Below W3.heap.size W3 w7 from((HB4.out.trans (HB5.out.mono hz4)).trans (HB6.out.mono (by have:=HZ5.out; omega))).trans (HB7.out.mono (by have:=HZ5.out; omega)));have HT7:=ab ((HB37.out.block _ (lt_of_block HT3.out)).trans HT3.out);have HC7:=ab ((HB37.out.block _ (lt_of_block HC3.out)).trans HC3.out);have HF7:=ab (((HF4.out.below HB5.out).below HB6.out).below HB7.out)
 have hcv7:=mV w7 #[.int .u8 97, .int .u8 98, .int .u8 100] 3 3;have hz17:W1.heap.size+1<w7.heap.size:=lt_of_block HT7.out;have f10:w7.frozen? ⟨W1.heap.size+1,10,none⟩=false:=am HT7.out;have t10:w7.cell? ⟨W1.heap.size+1,10,none⟩=some (.slice (some ⟨W1.heap.size,0,none⟩) 3 3):=BR (k:=10) HT7.out;have hw37:w.heap.size<=W3.heap.size:=HB3.out.size
 clear hz4s
 go_upto_region 7 with fail
 obtain⟨W8,hW8⟩: ∃W8,W8=(w7.setCell ⟨W1.heap.size+1,10,none⟩ (.slice (some ⟨w7.heap.size,0,none⟩) 3 3)).alloc (.cells #[.int .u8 97, .int .u8 98, .int .u8 100] 5 (3,4)):=⟨_,rfl⟩;rw[<-hW8];have HT8:=ab (show W8.heap[W1.heap.size+1]? =some (.cells (qr w7.heap.size).toArray 30 (0,0)) by rw[hW8]; exact nf (DA HT7.out));have HD8:=ab (show W8.heap[w7.heap.size]? =some (.cells ([97,98,100].map aN).toArray 5 (3,4)) by rw[hW8]; exact EJ _ _ _ _)
 have hl3:W1.heap.size+1<W3.heap.size:=lt_of_block HT3.out;have HC8:=ab (show W8.heap[w.heap.size]? =some (.cells #[.int .i64 4, .int .i64 8, .int .i64 4, .int .i64 20, .int .u64 0] 48 (0,0)) by rw[hW8]; exact yS HC7.out (by show w.heap.size≠W1.heap.size+1; omega));have HX8:=ab (show W8.heap[w4.heap.size]? =some (.cells #[.int .i64 10, .slice fa fn fc, .slice ca cn cc, .slice na 1 nc, .int .i64 1, .int .i64 0] 54 (0,0)) by rw[hW8]; exact yS HX7.out (by show w4.heap.size≠W1.heap.size+1; omega))
 have HF8:=ab (show bQ W8 W3.heap.size (.slice fa fn fc) (cU [bP [97,98,99]]) by rw[hW8]; exact FR HF7.out hl3);have HB8:=ab (show Below w.heap.size w W8 by rw[hW8]; exact FZ _ _ (HB3.out.trans (HB37.out.mono hw37)) (by show w.heap.size<=W1.heap.size+1; omega) (by omega));have HE8:=ab (HE.out.keep HB8.out h6);have hz8:w.heap.size<=W8.heap.size:=HB8.out.size
 clear hW8 hcv7 t10 f10 c0 c1 c2 c3 c4;have x0:=ai (k:=0) HX8.out;have x1:=ai (k:=1) HX8.out;have x2:=ai (k:=2) HX8.out;have x3:=ai (k:=3) HX8.out;have x4:=ai (k:=4) HX8.out;have x5:=ai (k:=5) HX8.out;simp only[List.getElem?_toArray,bV]at x0 x1 x2 x3 x4 x5;have c0:=ai (k:=0) HC8.out;have c1:=ai (k:=1) HC8.out;have c2:=ai (k:=2) HC8.out
 have c3:=ai (k:=3) HC8.out;have c4:=ai (k:=4) HC8.out;simp only[List.getElem?_toArray,bV]at c0 c1 c2 c3 c4;have ht8:=ab (tQ HT8.out HD8.out rfl);go_wp2_with (refine(AN (fun k=>W3.heap.size<=k) _ _ _ HF8.out.at ht8.out HE8.out).mono ?_);intro e w9 h9;obtain⟨fa2,fn2,fc2,ca2,cn2,cc2,na2,nc2,rfl,hb9,-,-,-,hcn2⟩:=xy h9 (fun p hp=>absurd hp (by simp))
 dsimp only at hcn2
 subst hcn2;have HB9:=ab hb9;have hz9:=hb9.size;clear h9 hb9
 go_upto_region 8 with fail
 obtain⟨WA,hWA⟩: ∃WA,WA=w9.alloc (.cells #[.int .i64 20, .slice fa2 fn2 fc2, .slice ca2 0 cc2, .slice na2 0 nc2, .int .i64 0, .int .i64 1] 54):=⟨_,rfl⟩;rw[<-hWA];have HYA:=ab (show WA.heap[w9.heap.size]? =some (.cells #[.int .i64 20, .slice fa2 fn2 fc2, .slice ca2 0 cc2, .slice na2 0 nc2, .int .i64 0, .int .i64 1] 54 (0,0)) by rw[hWA]; exact heap_alloc_new w9 _);have HBA:=ab (show Below W8.heap.size W8 WA by rw[hWA]; exact HB9.out.alloc hz9 _)
 have HTA:=ab ((HBA.out.block _ (lt_of_block HT8.out)).trans HT8.out);have HDA:=ab ((HBA.out.block _ (lt_of_block HD8.out)).trans HD8.out);have HCA:=ab ((HBA.out.block _ (lt_of_block HC8.out)).trans HC8.out);have HXA:=ab ((HBA.out.block _ (lt_of_block HX8.out)).trans HX8.out);have HFA:=ab (HF8.out.below HBA.out);have HEA:=ab (HE8.out.below HBA.out);have hzA:=HBA.out.size;clear hWA c0 c1 c2 c3 c4 x0 x1 x2 x3 x4 x5
 have x0:=ai (k:=0) HXA.out;have x1:=ai (k:=1) HXA.out;have x2:=ai (k:=2) HXA.out;have x3:=ai (k:=3) HXA.out;have x4:=ai (k:=4) HXA.out;have x5:=ai (k:=5) HXA.out;simp only[List.getElem?_toArray,bV]at x0 x1 x2 x3 x4 x5;have c0:=ai (k:=0) HCA.out;have c1:=ai (k:=1) HCA.out;have c2:=ai (k:=2) HCA.out;have c3:=ai (k:=3) HCA.out
 have c4:=ai (k:=4) HCA.out;simp only[List.getElem?_toArray,bV]at c0 c1 c2 c3 c4;have htA:=ab (tQ HTA.out HDA.out rfl);go_wp2_with (refine(AO (fun k=>W3.heap.size<=k) _ _ _ HFA.out.at htA.out HEA.out).mono ?_);intro e wb hb;obtain⟨fa3,fn3,fc3,ca3,cn3,cc3,na3,nc3,rfl,hbb,-,hcb,-,-⟩:=xy hb (ov (.inr rfl));have HBB:=ab hbb;have HPB:=ab hcb;have hzb:=hbb.size
 clear hb hbb hcb
 go_upto_region 9 with fail
 obtain⟨WC,hWC⟩: ∃WC,WC=wb.alloc (.cells #[.int .i64 20, .slice fa3 fn3 fc3, .slice ca3 cn3 cc3, .slice na3 0 nc3, .int .i64 0, .int .i64 0] 54):=⟨_,rfl⟩;rw[<-hWC];have HZC:=ab (show WC.heap[wb.heap.size]? =some (.cells #[.int .i64 20, .slice fa3 fn3 fc3, .slice ca3 cn3 cc3, .slice na3 0 nc3, .int .i64 0, .int .i64 0] 54 (0,0)) by rw[hWC]; exact heap_alloc_new wb _);have HBC:=ab (show Below WA.heap.size WA WC by rw[hWC]; exact HBB.out.alloc hzb _)
 have HPC:=ab (show aP (fun _=>True) WC (.slice ca3 cn3 cc3) ((oP 4).map zg) by rw[hWC]; exact HPB.out.below' ((Below.refl _ _).alloc (Nat.le_refl _) _));have HYC:=ab ((HBC.out.block _ (lt_of_block HYA.out)).trans HYA.out);have hzC:=HBC.out.size;clear hWC c0 c1 c2 c3 c4 x0 x1 x2 x3 x4 x5;have x0:=ai (k:=0) HYC.out;have x1:=ai (k:=1) HYC.out;have x2:=ai (k:=2) HYC.out
 have x3:=ai (k:=3) HYC.out;have x4:=ai (k:=4) HYC.out;have x5:=ai (k:=5) HYC.out;simp only[List.getElem?_toArray,bV]at x0 x1 x2 x3 x4 x5;have y0:=ai (k:=0) HZC.out;have y1:=ai (k:=1) HZC.out;have y2:=ai (k:=2) HZC.out;have y3:=ai (k:=3) HZC.out;have y4:=ai (k:=4) HZC.out;have y5:=ai (k:=5) HZC.out;simp only[List.getElem?_toArray,bV]at y0 y1 y2 y3 y4 y5
 go_wp2_with (refine(qg _ _ _ _ ((oP 4).map zg) ((oP 4).map zg) true _ (HPC.out.below' ((Below.refl _ _).alloc (Nat.le_refl _) _)) (yM (l:=oP 4) (heap_alloc_new _ _) (yN 4) (ov (.inr rfl))) (decide_eq_true rfl)).mono ?_);rintro e wd ⟨rfl,hbd⟩;have HBD:=ab (show Below w.heap.size w wd from((HB8.out.trans (HBA.out.mono hz8)).trans (HBC.out.mono (by omega))).trans (((Below.refl WC.heap.size WC).alloc (Nat.le_refl _) _).mono (by omega) |>.trans (hbd.mono (by rw[gZ]; omega))))
 clear hbd;go_wp2_with fail;go_ret
 first | exact HBD.out | exact⟨rfl,HBD.out⟩
theorem Cc (S:Nat->Prop) (data:List UInt8) (v:Value) (x:cA) (w:World) (hv:bi S w v data) (hl:data.length<=32768) (he:jE w) (h:mX data=some x):Calls Tryz.prog 26 #[v] w fun e w'=> ∃a c,e= .returned (.tuple #[.agg #[.int .i64 x.tm, .slice a x.files.length c], .int .i64 0])/\aT (w.heap.size<= ·) w' (.slice a x.files.length c) x.files/\Below w.heap.size w w':=by
 refine(re S data v w hv hl he).mono ?_;rintro e w' ⟨hb,hr⟩;rw[h]at hr;obtain⟨fv,rfl,hf⟩:=hr;obtain⟨a,c,rfl,-,-,-⟩:=aY.shape hf dT.len;exact⟨a,c,rfl,hf,hb⟩
structure Gg (x : cA) : Prop where
 tml:x.tm<9223372036854775808
 sh:Fv x
 fok: ∀f∈x.files,wC f
 path: ∀f∈x.files,f.path.size<=16777216
 len: ∀f∈x.files,f.parts.length<=1048576
 pok: ∀f∈x.files,∀p∈f.parts,dk p
 n:x.files.length<=1048576
theorem Et {S:Nat->Prop} {w:World} {fv:Value} {x:cA} (ht:x.tm<9223372036854775808) (h:cR x=true) (hl:(cr x).length<=32768) (hf:aT S w fv x.files):Gg x:=by
 have h1:=zM h hl;obtain⟨a,cap,rfl,-,-,-⟩:=aY.shape hf dT.len;obtain⟨-,-,h2⟩:=gC h;have h3: ∀f∈x.files,wC f:=fun f hm=>mw (h2 f hm).1 (h2 f hm).2 (by
  have h4:=ke hf f hm;exact⟨h4.knd,h4.mde,h4.tim,by have:=h1.each f hm; omega⟩)
 exact⟨ht,h1,h3,fun f hm=>by have:=(h3 f hm).path; omega,fun f hm=>by have:=h1.each f hm; omega,fun g hg=>by
  obtain⟨k,hk⟩:=List.getElem?_of_mem hg;obtain⟨_,_,_,_,_,_,h3,_⟩:=cQ hf (Below.refl _ _) hk;exact pR h3,by have:=h1.num; omega⟩
theorem FX (S:Nat->Prop) (x:cA) (fv:Value) (data:List UInt8) (w:World) (hx:aT S w fv x.files) (h:Gg x) (he:cr x=data) (hl:data.length<=32768):
  Calls Tryz.prog 27 #[dQ fv x.tm] w fun e w'=> ∃v,e= .returned v/\bi (w.heap.size<= ·) w' v data/\Below w.heap.size w w':=by
 subst he;exact vN S x fv w hx h.sh.num h.sh.tot h.fok h.sh.tm h.tml (by omega)
end Go.Proofs.YtnjkpcalgoefhaaGreatDoor
namespace Go.Proofs.YtnjkpcalgoefhaaGreatDoor
open Go Go.RowKit
def iS (w:World) (base:Nat) (v:Value) (acc:List UInt8):Prop:=w.ownsRow base 5 1 v acc.length (acc.map aN)
theorem Gv {x:Nat} (h:x<256):x ||| 128=x%128+128:=by
 have: ∀y:Fin 256,y.val ||| 128=y.val%128+128:=by decide
 exact this ⟨x,h⟩
theorem zz (n:Nat):Value.int .u8 (bits BinOp.or IntKind.u8 ((n:Int)%256) 128)=aN (UInt8.ofNat (n%128+128)):=by
 rw[kE (by omega),show((n:Int)%256)=((n%256:Nat):Int) by omega,show(128:Int)=((128:Nat):Int)from rfl,u8_or_nat _ _ (by omega) (by decide),Gv (by omega)]
 congr 2
 omega
theorem zy {n:Nat} (h:n<256):Value.int .u8 (n:Int)=aN (UInt8.ofNat n):=(kE h).symm
def FH (base:Nat) (v:Value) (acc:List UInt8) (w:World) (e:Ending) (w':World):Prop:= ∃v',e= .returned v'/\iS w' base v' acc/\w.grownBy w' v.ownBlock/\(∀k,v'.ownBlock=some k->v.ownBlock=some k\/w.heap.size<=k)
structure DO (base : Nat) (v : Value) (w : World) (x : Value) (ac : List UInt8) (wr : World) : Prop where
 own:iS wr base x ac
 grown:w.grownBy wr v.ownBlock
 place: ∀k,x.ownBlock=some k->v.ownBlock=some k\/w.heap.size<=k
theorem DO.next {base:Nat} {v:Value} {w:World} {x:Value} {ac:List UInt8} {wr wc:World} {v' u:Value} {n:Nat} {b:UInt8} (h:DO base v w x ac wr) (h1:wc.ownsRow base 5 1 v' (n+1) (ac.map aN++[u])) (h2:wr.grownBy wc x.ownBlock) (h3: ∀k,v'.ownBlock=some k->x.ownBlock=some k\/wr.heap.size<=k)
  (hn:n=ac.length) (hu:u=aN b):DO base v w v' (ac++[b]) wc:=by
 subst hn hu;refine⟨by unfold iS; simpa using h1,⟨h2.os.trans h.grown.os,h2.tape.trans h.grown.tape,h2.output.trans h.grown.output,Nat.le_trans h.grown.size h2.size,fun k hk hne=> ?_⟩,fun k hk=> ?_⟩
 ·rw[h2.block k (Nat.lt_of_lt_of_le hk h.grown.size) (fun e=> ?_)]
  ·exact h.grown.block k hk hne
  ·rcases h.place k e.symm with e2 | e2
   ·exact hne e2.symm
   ·omega
 ·rcases h3 k hk with e | e
  ·exact h.place k e
  ·exact .inr (Nat.le_trans h.grown.size e)
theorem wZ (base:Nat) (v:Value) (acc:List UInt8) (n:Nat) (w:World) (hv:iS w base v acc) (hb:base<=w.heap.size) (hl:acc.length<1099511000000) (hn:n<18446744073709551616):
  Calls Tryz.prog 124 #[v, .int .u64 (n:Int)] w (FH base v (acc++aB n) w):=by
 have HV:=ab hv;obtain⟨a0,c0,rfl,h10,h20⟩:=au hv;clear hv
 go_enter Tryz.func124,Tryz.ntmps124
 go_wp2_with fail
 go_loopw [0,1] (fun x y wr=> ∃(f m:Nat) (ac:List UInt8),y= .int .u64 (m:Int)/\m<18446744073709551616/\m<2^(7*f)/\ac++ep f m=acc++aB n/\DO base (.slice a0 acc.length c0) w x ac wr) (fun _ y _=>(intOf y).toNat)
 case atStart=>exact⟨10,n,acc,rfl,hn,Nat.lt_trans hn (by decide),rfl,HV.out,jf _ _,fun k hk=> .inl hk⟩
 case round=>
  obtain⟨f,m,ac,rfl,hm,hmf,henc,hinv⟩:=hrel;obtain⟨ax,cx,rfl,h1,h2⟩:=au hinv.own;obtain⟨xl,hxl⟩: ∃xl,xl=ac.length:=⟨_,rfl⟩;rw[<-hxl]at hinv h1 ⊢;have HI:=ab hinv;have HXL:=ab hxl;have HO:=ab (show wr.ownsRow base 5 1 (.slice ax xl cx) xl (ac.map aN) by have:=hinv.own; unfold iS at this; rw[<-hxl]at this; exact this);have HE:=ab henc;have HMF:=ab hmf
  have hbz:base<=wr.heap.size:=by have:=hinv.grown.size; omega
  have hlen:=congrArg List.length henc;rw[List.length_append,List.length_append]at hlen;have:=dP n;have hxb:xl<1099511627775:=by omega
  clear hinv henc hmf hlen this hxl
  by_cases hlt:127<m
  ·have HV:=ab (zz m);have HZ:=ab (show ∀u∈[(Value.int .u8 (bits BinOp.or IntKind.u8 ((m:Int)%256) 128))],u.oneCell'=true by simp[Value.oneCell']);obtain⟨f,rfl⟩: ∃g,f=g+1:=⟨f-1,by
    cases f with
    | zero=>have:=HMF.out; simp at this; omega
    | succ g=>rfl⟩
   have HE2:=ab (show(ac++[UInt8.ofNat (m%128+128)])++ep f (m/128)=acc++aB n by rw[<-HE.out,ep,if_pos hlt]; simp);have HMF2:=ab (show m/128<2^(7*f) by
    have h3:=HMF.out;rw[show 7*(f+1)=7*f+7 by omega,Nat.pow_add]at h3;exact Nat.div_lt_of_lt_mul (by omega))
   go_wp2_with (at_builtin; go_loud (refine bK Tryz.appBytes rfl _ _ rfl base (.slice ax xl cx) xl (ac.map aN) rfl wr [Value.int .u8 (bits BinOp.or IntKind.u8 ((m:Int)%256) 128)] _ rfl rfl HZ.out HO.out hxb hbz ?_); intro v' wc hown' hgrow' _ hpl'; go_loud (have HP:=ab (HI.out.next hown' hgrow' hpl' HXL.out HV.out)); obtain⟨ae,ce,rfl,-,-⟩:=au hown'; clear hown' hgrow' hpl')
   go_roundw
   case rel=>exact⟨f,m/128,_,by simp,by omega,HMF2.out,HE2.out,HP.out⟩
   case measure=>simp[intOf]; omega
  ·have HV:=ab (zy (n:=m) (by omega));have HZ:=ab (show ∀u∈[(Value.int .u8 (m:Int))],u.oneCell'=true by simp[Value.oneCell']);have HE2:=ab (show ac++[UInt8.ofNat m]=acc++aB n by
    rw[<-HE.out]
    cases f with
    | zero=>rfl
    | succ f=>rw[ep,if_neg hlt])
   go_wp2_with (at_builtin; go_loud (refine bK Tryz.appBytes rfl _ _ rfl base (.slice ax xl cx) xl (ac.map aN) rfl wr [Value.int .u8 (m:Int)] _ rfl rfl HZ.out HO.out hxb hbz ?_); intro v' wc hown' hgrow' _ hpl'; go_loud (have HP:=ab (HI.out.next hown' hgrow' hpl' HXL.out HV.out)); obtain⟨ae,ce,rfl,-,-⟩:=au hown'; clear hown' hgrow' hpl');go_ret;rw[<-HE2.out];exact⟨_,rfl,HP.out.own,HP.out.grown,HP.out.place⟩
theorem oJ (n:Nat) (w:World) (hn:n<18446744073709551616):
  Calls Tryz.prog 94 #[.slice none 0 0, .int .u64 (n:Int)] w fun e w'=> ∃v,e= .returned v/\iS w' w.heap.size v (aB n)/\Below w.heap.size w w':=by
 obtain⟨ht9,⟨i9,z9,h91,h92,h93,h94,h95⟩,-,-⟩:=Tryz.appBytes;have hb32:i9.bytes*10<=281474976710656:=by rw[h94]; decide
 have H9:=ab (And.intro h91 (And.intro h92 (And.intro h93 hb32)));clear h91 h92 h93 h94 h95 hb32
 go_enter Tryz.func94,Tryz.ntmps94
 go_wp2_with (first | (refine wpList_make_own _ rfl _ _ 28 rfl w.heap.size 5 i9 z9 1 Tryz.underlying28 H9.out.1 H9.out.2.1 H9.out.2.2.1 .i64 .i64 10 10 rfl rfl rfl H9.out.2.2.2 (by decide) (Nat.le_refl _) ?_; intro w4 hown4 hg4; have HO4:=ab hown4; have HG4:=ab hg4; clear hown4 hg4));refine(wZ w.heap.size _ [] n w4 HO4.out HG4.out.size (by simp) hn).mono ?_;rintro e w5 ⟨v',rfl,ho5,hg5,-⟩
 rw[List.nil_append]at ho5;have HO5:=ab ho5;have HB5:=ab ((kZ HG4.out).grown hg5 HG4.out.size (fun k hk=>by cases hk; exact Nat.le_refl _));obtain⟨a5,c5,rfl,-,-⟩:=au ho5;clear ho5 hg5;go_wp2_with fail;go_ret;exact⟨_,rfl,HO5.out,HB5.out⟩
structure iU (base : Nat) (w w' : World) : Prop where
 below:Below base w w'
 keep: ∀t,t≠5->dG t w w'
 size:w.heap.size<=w'.heap.size
theorem iU.refl (base:Nat) (w:World):iU base w w:=⟨Below.refl _ _,fun _ _=>dG.refl _,Nat.le_refl _⟩
theorem iU.trans {b:Nat} {A B C:World} (h:iU b A B) (k:iU b B C):iU b A C:=⟨h.below.trans k.below,fun t h1=>(h.keep t h1).trans (k.keep t h1),Nat.le_trans h.size k.size⟩
theorem iU.row {b:Nat} {w w':World} {v:Value} {data:List UInt8} (ho:iS w b v data) (hb:b<=w.heap.size) (hg:w.grownBy w' v.ownBlock):iU b w w':=
 ⟨(Below.refl _ _).grown hg hb (fun k e=>(lL ho e).1),fun t h1=>dG.grown hg (fun r e cs hcs=>by
  obtain⟨_,cur,hc⟩:=lL ho e;rw[hc]at hcs; cases hcs; exact h1 rfl),hg.size⟩
theorem iU.into {b:Nat} {w w':World} (hb:Below w.heap.size w w') (h:b<=w.heap.size):iU b w w':=⟨hb.mono h,fun _ _=>dG.below hb,hb.size⟩
theorem iU.box {b k:Nat} {w w':World} {cs:Array Value} {t:TypeId} (h:iU b w w') (hb:w.heap[k]? =some (.cells cs t (0,0))) (ht:t≠5):w'.heap[k]? =some (.cells cs t (0,0)):=(h.keep t ht k cs hb).trans hb
def sV (base:Nat) (acc:List UInt8) (w:World) (e:Ending) (w':World):Prop:= ∃a m c,e= .returned (.slice a m c)/\m=acc.length/\iS w' base (.slice a m c) acc/\iU base w w'
theorem oI (base:Nat) (v:Value) (acc:List UInt8) (n:Nat) (w:World) (hv:iS w base v acc) (hb:base<=w.heap.size) (hl:acc.length<1099511000000) (hn:n<9223372036854775808):
  Calls Tryz.prog 59 #[v, .int .i64 (n:Int)] w (sV base (acc++aB n) w):=by
 have HV:=ab hv;obtain⟨a0,c0,rfl,h10,h20⟩:=au hv;clear hv;obtain⟨m0,hm0⟩: ∃m0,m0=acc.length:=⟨_,rfl⟩;rw[<-hm0]at HV h10 hl ⊢;have HM0:=ab hm0;clear hm0;have hnu:IntKind.u64.wrap (n:Int)=(n:Int):=by rw[IntKind.wrap_u64]; omega
 go_enter Tryz.func59,Tryz.ntmps59
 go_wp2_with fail;refine(oJ n w (by omega)).mono ?_;rintro e w1 ⟨u,rfl,hu,hb1⟩;obtain⟨a1,c1,hv1,h11,h21⟩:=au hu;obtain⟨m1,hm1⟩: ∃m1,m1=(aB n).length:=⟨_,rfl⟩;rw[<-hm1]at hv1 h11;subst hv1;have hm10:=bT (n:=n) (by omega);rw[<-hm1]at hm10;have HU:=ab (show aS (w.heap.size<= ·) w1 1 (.slice a1 m1 c1) m1 ((aB n).map aN) by
  have h1:=bp hu;rw[<-hm1]at h1;exact h1.weak fun k hk=>hk.1)
 have HO:=ab (show w1.ownsRow base 5 1 (.slice a0 m0 c0) m0 (acc.map aN) by
  have h1:iS w1 base (.slice a0 m0 c0) acc:=aV HV.out hb1;have h2:=HM0.out;unfold iS at h1;rw[<-h2]at h1;exact h1)
 have HB1:=ab hb1;have HM1:=ab hm1;clear hu hb1 hm1;go_wp2_with (at_builtin; go_must (refine bI Tryz.appBytes rfl _ _ rfl base (.slice a0 m0 c0) m0 (acc.map aN) rfl HO.out _ m1 ((aB n).map aN) rfl HU.out (fD _) (by omega) (by have:=HB1.out.size; omega) ?_); intro v2 w2 hown2 hgrow2; obtain⟨a2,c2,rfl,-,-⟩:=au hown2; have HO2:=ab hown2; have HG2:=ab hgrow2; clear hown2 hgrow2)
 go_ret;refine⟨a2,_,c2,rfl,by rw[List.length_append,<-HM0.out,<-HM1.out], ?_,(iU.into HB1.out hb).trans (iU.row (v:= .slice a0 m0 c0) (data:=acc) (by have h1:=HO.out; rw[HM0.out]at h1; unfold iS; rw[<-HM0.out]at h1 ⊢; exact h1) (Nat.le_trans hb HB1.out.size) HG2.out)⟩;have h1:=HO2.out;unfold iS;rw[List.length_append,List.map_append,<-HM0.out,<-HM1.out];exact h1
theorem wJ (base:Nat) (v:Value) (acc:List UInt8) (t:ByteArray) (w:World) (hv:iS w base v acc) (hb:base<=w.heap.size) (hl:acc.length<1099000000000) (hn:t.size<500000000):
  Calls Tryz.prog 60 #[v, .string t] w (sV base (acc++(aB t.size++bl t)) w):=by
 have HV:=ab hv;obtain⟨a0,c0,rfl,h10,h20⟩:=au hv;clear hv;obtain⟨m0,hm0⟩: ∃m0,m0=acc.length:=⟨_,rfl⟩;rw[<-hm0]at HV h10 ⊢;have HM0:=ab hm0;clear hm0
 go_enter Tryz.func60,Tryz.ntmps60
 go_wp2_with fail;refine(oI base (.slice a0 m0 c0) acc t.size w HV.out hb (by have:=HM0.out; omega) (by omega)).mono ?_;rintro e w1 ⟨a1,m1,c1,rfl,hm1,ho1,hg1⟩;have h10:=bT (n:=t.size) (by omega);have HO1:=ab ho1;have HG1:=ab hg1;have HM1:=ab hm1;have HL1:=ab (show(acc++aB t.size).length+t.size<1099511627775 by rw[List.length_append]; omega);have hlt1:base<=w1.heap.size:=Nat.le_trans hb hg1.size
 clear ho1 hg1 hm1;go_wp2_with (at_builtin; go_must (refine eN rfl _ _ rfl base (.slice a1 m1 c1) (acc++aB t.size) rfl HO1.out t rfl HL1.out hlt1 ?_); intro v2 w2 hown2 hgrow2; obtain⟨a2,c2,hv2,-,-⟩:=au hown2; obtain⟨m2,hm2⟩: ∃m2,m2=(acc++aB t.size).length+t.size:=⟨_,rfl⟩; try (rw[<-hm2]at hv2); subst hv2; have HM2:=ab hm2; clear hm2; have HO2:=ab hown2; have HG2:=ab hgrow2; clear hown2 hgrow2)
 go_ret;have e1:m2=(acc++(aB t.size++bl t)).length:=by
  rw[HM2.out];simp only[List.length_append,<-ay];omega
 refine⟨a2,m2,c2,rfl,e1, ?_,HG1.out.trans (iU.row HO1.out hlt1 HG2.out)⟩;have h1:=HO2.out;unfold iS;rw[<-e1,<-List.append_assoc,List.map_append,HM2.out];rw[HM2.out]at h1;exact h1
def ff (x:cA) (k:Nat):List UInt8:=aB x.tm.toNat++(aB x.files.length++(x.files.take k).flatMap cK)
theorem zH (x:cA):ff x x.files.length=cr x:=by unfold ff cr; rw[List.take_length]
theorem pj {x:cA} {k:Nat} {f:aw} (h:x.files[k]? =some f):ff x (k+1)=ff x k++cK f:=by
 unfold ff;rw[aX h];simp
theorem je {α:Type} (g:α->List UInt8) (l:List α) (k:Nat):((l.take k).flatMap g).length<=(l.flatMap g).length:=by
 conv=>rhs; rw[<-List.take_append_drop k l]
 rw[List.flatMap_append,List.length_append];omega
theorem Cg (x:cA) (k:Nat):(ff x k).length<=(cr x).length:=by
 have:=je cK x.files k;unfold ff cr;simp only[List.length_append];omega
def gQ (f:aw):List Nat:=[f.kind.toNat,f.mode.toNat,f.time.toNat,f.size.toNat]
def ja (f:aw):List UInt8:=aB f.path.size++bl f.path
def dh (f:aw) (j:Nat):List UInt8:=((gQ f).take j).flatMap aB
def ms (f:aw):List UInt8:=aB f.link.size++bl f.link
def bU (f:aw) (j:Nat):List UInt8:=(f.parts.take j).flatMap dr
theorem pi (f:aw):cK f=ja f++(dh f 4++(ms f++(aB f.parts.length++bU f f.parts.length))):=by
 unfold cK ja dh ms bU gQ;simp
theorem tw {f:aw} {j m:Nat} (h:(gQ f)[j]? =some m):dh f (j+1)=dh f j++aB m:=by
 unfold dh;rw[aX h];simp
theorem wV (f:aw) (j:Nat):(dh f j).length<=(dh f 4).length:=by
 have h1:=je aB (gQ f) j;have h2:(gQ f).take 4=gQ f:=rfl;unfold dh;rw[h2];exact h1
theorem qJ {f:aw} {j:Nat} {p:bm} (h:f.parts[j]? =some p):bU f (j+1)=bU f j++(bl p.sum++aB p.size.toNat):=by
 unfold bU;rw[aX h];simp[dr]
theorem uE (f:aw) (j:Nat):(bU f j).length<=(bU f f.parts.length).length:=by
 have h1:=je dr f.parts j;unfold bU;rw[List.take_length];exact h1
structure ia (w W : World) (bv : Value) (acc : List UInt8) : Prop where
 own:iS W w.heap.size bv acc
 below:Below w.heap.size w W
theorem ia.into {w W W':World} {bv:Value} {acc:List UInt8} (h:ia w W bv acc) (hb:Below W.heap.size W W'):ia w W' bv acc:=
 ⟨aV h.own hb,h.below.trans (hb.mono h.below.size)⟩
theorem ia.next {w W W':World} {bv bv':Value} {acc acc':List UInt8} (h:ia w W bv acc) (ho:iS W' w.heap.size bv' acc') (hk:iU w.heap.size W W'):ia w W' bv' acc':=⟨ho,h.below.trans hk.below⟩
theorem ia.appn {w W:World} {bv:Value} {acc:List UInt8} {n:Nat} (h:ia w W bv acc) (hl:acc.length<1099000000000) (hn:n<9223372036854775808):
  Calls Tryz.prog 59 #[bv, .int .i64 (n:Int)] W (sV w.heap.size (acc++aB n) W):=oI w.heap.size bv acc n W h.own h.below.size (by omega) hn
theorem ia.appt {w W:World} {bv:Value} {acc:List UInt8} {t:ByteArray} (h:ia w W bv acc) (hl:acc.length<1099000000000) (hn:t.size<500000000):
  Calls Tryz.prog 60 #[bv, .string t] W (sV w.heap.size (acc++(aB t.size++bl t)) W):=wJ w.heap.size bv acc t W h.own h.below.size hl hn
theorem Ep {W:World} {nb j:Nat} {f:aw} (h:W.heap[nb]? =some (.cells #[.int .i64 f.kind, .int .i64 f.mode, .int .i64 f.time, .int .i64 f.size] 3 (0,0))) (hf:wC f) (hj:j<4):
  ∃m:Nat,(gQ f)[j]? =some m/\W.cell? ⟨nb,j,none⟩=some (.int .i64 (m:Int))/\m<9223372036854775808:=by
 have hc:=ai (k:=j) h;have h1:=hf.kind;have h2:=hf.mode;have h3:=hf.time;have h4:=hf.size;have hj':j=0\/j=1\/j=2\/j=3:=by omega
 rcases hj' with rfl | rfl | rfl | rfl
 ·exact⟨_,rfl,by rw[hc,Int.toNat_of_nonneg h1.1]; rfl,by omega⟩
 ·exact⟨_,rfl,by rw[hc,Int.toNat_of_nonneg h2.1]; rfl,by omega⟩
 ·exact⟨_,rfl,by rw[hc,Int.toNat_of_nonneg h3.1]; rfl,by omega⟩
 ·exact⟨_,rfl,by rw[hc,Int.toNat_of_nonneg h4.1]; rfl,by omega⟩
def sT (fb nb:Nat) (f:aw) (pv:Value) (w:World):Prop:=w.heap[fb]? =some (.cells #[.string f.path, .int .i64 f.kind, .int .i64 f.mode, .int .i64 f.time, .int .i64 f.size, .string f.link,pv] 27 (0,0))/\w.heap[nb]? =some (.cells #[.int .i64 f.kind, .int .i64 f.mode, .int .i64 f.time, .int .i64 f.size] 3 (0,0))
theorem sT.kept {fb nb b:Nat} {f:aw} {pv:Value} {w w':World} (h:sT fb nb f pv w) (hk:iU b w w'):sT fb nb f pv w':=⟨hk.box h.1 (by decide),hk.box h.2 (by decide)⟩
def tZ (x:cA) (w:World) (e:Ending) (w':World):Prop:=Below w.heap.size w w'/\match cR x with
 | false=>e= .returned (.tuple #[.slice none 0 0, .int .i64 1])
 | true=> ∃v,e= .returned (.tuple #[v, .int .i64 0])/\iS w' w.heap.size v (cr x)
theorem Df {x:cA} {w w':World} (h:cR x=false) (hb:Below w.heap.size w w'):tZ x w (.returned (.tuple #[.slice none 0 0, .int .i64 1])) w':=by
 unfold tZ;rw[h];exact⟨hb,rfl⟩
theorem Dg {x:cA} {w w':World} {v:Value} (h:cR x=true) (hi:ia w w' v (cr x)):tZ x w (.returned (.tuple #[v, .int .i64 0])) w':=by
 unfold tZ;rw[h];exact⟨hi.below,v,rfl,hi.own⟩
theorem lw (S:Nat->Prop) (x:cA) (fv:Value) (w:World) (hx:aT S w fv x.files) (ht:(Lit.int .i64 x.tm).wf=true) (hpl: ∀f∈x.files,f.parts.length<=1048576) (hsm:cR x=true->(cr x).length<=1048576) (henv:jE w):
  Calls Tryz.prog 28 #[dQ fv x.tm] w (tZ x w):=by
 obtain⟨fa,fc,rfl,hf1,hf2,-⟩:=aY.shape hx dT.len;unfold maxLen at hf2;have hb0:Below w.heap.size w (w.alloc (.cells #[.int .i64 x.tm, .slice fa x.files.length fc] 24)):=(Below.refl _ _).alloc (Nat.le_refl _) _;have HXW:=ab hx;have HX:=ab (hx.below hb0);have HE:=ab henv;have HB0:=ab hb0;have HX0:=ab (heap_alloc_new w (.cells #[.int .i64 x.tm, .slice fa x.files.length fc] 24))
 have HPL:=ab hpl;clear hx henv hb0 hpl;unfold dQ
 go_enter Tryz.func28,Tryz.ntmps28
 cases hv:cR x
 ·have HV:=ab hv;clear hv hsm;go_wp2_with fail;obtain⟨W0,hW0⟩: ∃W0,W0=w.alloc (.cells #[.int .i64 x.tm, .slice fa x.files.length fc] 24):=⟨_,rfl⟩;rw[<-hW0]at HX HB0 HX0 ⊢;clear hW0;refine(dM _ x _ false _ HX.out (HE.out.below HB0.out) HV.out).mono ?_;rintro e w1 ⟨rfl,hb1⟩;have HB1:=ab (HB0.out.trans (hb1.mono HB0.out.size));clear hb1;go_wp2_with fail
  go_ret2
  exact Df HV.out HB1.out
 ·have HV:=ab hv;have hsm2:=hsm hv;have HSM:=ab hsm2;obtain⟨htm,hnf,hfs⟩:=gC hv;have HFS:=ab (show ∀f∈x.files,wC f from fun f hf=>mw (hfs f hf).1 (hfs f hf).2 (by
   have h1:=ke HX.out f hf;exact⟨h1.knd,h1.mde,h1.tim,HPL.out f hf⟩))
  clear hv hsm hfs hsm2;obtain⟨n,hn⟩: ∃n,n=x.files.length:=⟨_,rfl⟩;rw[<-hn]at HX HXW HB0 HX0 hf1 hnf ⊢;have HN:=ab hn;clear hn;go_wp2_with fail;obtain⟨W0,hW0⟩: ∃W0,W0=w.alloc (.cells #[.int .i64 x.tm, .slice fa n fc] 24):=⟨_,rfl⟩;rw[<-hW0]at HX HB0 HX0 ⊢;clear hW0;refine(dM _ x _ true _ HX.out (HE.out.below HB0.out) HV.out).mono ?_;rintro e w1 ⟨rfl,hb1⟩;have HI0:=ab (show ia w w1 (.slice none 0 0) []from⟨World.ownsRow_nil _ _ _ _,HB0.out.trans (hb1.mono HB0.out.size)⟩)
  have HB1:=ab ((hb1.block _ (lt_of_block HX0.out)).trans HX0.out);clear hb1;have y0:=ai (k:=0) HB1.out;have y1:=ai (k:=1) HB1.out;simp only[List.getElem?_toArray,bV]at y0 y1;obtain⟨tn,htn⟩: ∃tn:Nat,tn=x.tm.toNat:=⟨_,rfl⟩;have htn2:x.tm=(tn:Int):=by omega
  have HTN:=ab htn;have htl:tn<9223372036854775808:=by
   have e:IntKind.i64.max=9223372036854775807:=by decide
   simp only[Lit.wf,Bool.and_eq_true,decide_eq_true_eq,e]at ht;omega
  rw[htn2]at y0;clear htn htn2 ht;go_wp2_with fail;refine(HI0.out.appn (n:=tn) (by simp) htl).mono ?_;rintro e w2 ⟨b2,m2,c2,rfl,hm2,ho2,hk2⟩;have HI2:=ab (HI0.out.next ho2 hk2);have HB2:=ab (hk2.box HB1.out (by decide));clear y0 y1 ho2 hk2 HB1 HI0;have y1:=ai (k:=1) HB2.out;simp only[List.getElem?_toArray,bV]at y1;have hl2:=dP tn;have HM2:=ab hm2;clear hm2;go_wp2_with fail
  refine(HI2.out.appn (n:=n) (by simp only[List.nil_append]; omega) (by omega)).mono ?_;rintro e w3 ⟨b3,m3,c3,rfl,hm3,ho3,hk3⟩;have h0:[]++aB tn++aB n=ff x 0:=by unfold ff; rw[<-HTN.out,<-HN.out]; simp
  rw[h0]at hm3 ho3;have HI3:=ab (HI2.out.next ho3 hk3);have HB3:=ab (hk3.box HB2.out (by decide));have HM3:=ab hm3;clear y1 ho3 hk3 hm3 h0 HB2 HI2 hl2;have y1:=ai (k:=1) HB3.out;simp only[List.getElem?_toArray,bV]at y1;go_wp2_with fail;clear y1
  go_loopw [4,25] (fun bv i wr=> ∃(k m:Nat) (a:Option Addr) (c:Nat),k<=n/\i= .int .i64 k/\bv= .slice a m c/\m=(ff x k).length/\ia w wr (.slice a m c) (ff x k)) (fun _ i _=>n-(intOf i).toNat)
  case atStart=>exact⟨0,m3,b3,c3,Nat.zero_le _,rfl,rfl,HM3.out,HI3.out⟩
  case round=>
   obtain⟨k,m,a,c,hk,rfl,rfl,hml,hin⟩:=hrel;have HML:=ab hml;have HIN:=ab hin;clear hml hin
   by_cases hlt:k<n
   ·obtain⟨f,hfk⟩: ∃f,x.files[k]? =some f:=⟨x.files[k]'(by have:=HN.out; omega),List.getElem?_eq_getElem (by have:=HN.out; omega)⟩;have HFO:=ab (HFS.out f (List.mem_of_getElem? hfk));have HFK:=ab hfk;have hpl1:=HPL.out f (List.mem_of_getElem? hfk);obtain⟨b,o,pa,pc,rfl,hok,hps,hbl,-,hcl⟩:=cQ HXW.out (Below.refl _ _) hfk;have HPS:=ab hps;obtain⟨np,hnp⟩: ∃np,np=f.parts.length:=⟨_,rfl⟩
    rw[<-hnp]at HPS hpl1 hcl;have HNP:=ab hnp;have q0:=(HIN.out.below.cell (p:=⟨b,o+k*7+0,none⟩) hbl).trans (hcl 0 (by omega));have q1:=(HIN.out.below.cell (p:=⟨b,o+k*7+1,none⟩) hbl).trans (hcl 1 (by omega));have q2:=(HIN.out.below.cell (p:=⟨b,o+k*7+2,none⟩) hbl).trans (hcl 2 (by omega));have q3:=(HIN.out.below.cell (p:=⟨b,o+k*7+3,none⟩) hbl).trans (hcl 3 (by omega))
    have q4:=(HIN.out.below.cell (p:=⟨b,o+k*7+4,none⟩) hbl).trans (hcl 4 (by omega));have q5:=(HIN.out.below.cell (p:=⟨b,o+k*7+5,none⟩) hbl).trans (hcl 5 (by omega));have q6:=(HIN.out.below.cell (p:=⟨b,o+k*7+6,none⟩) hbl).trans (hcl 6 (by omega));simp only[bM,bV,Nat.add_zero]at q0 q1 q2 q3 q4 q5 q6;obtain⟨fb,hfb⟩: ∃fb,fb=wr.heap.size:=⟨_,rfl⟩;obtain⟨W1,hW1⟩: ∃W1,W1=wr.alloc (.cells #[.string f.path, .int .i64 f.kind, .int .i64 f.mode, .int .i64 f.time, .int .i64 f.size, .string f.link, .slice pa np pc] 27):=⟨_,rfl⟩
    have HI1:=ab (show ia w W1 (.slice a m c) (ff x k) by rw[hW1]; exact HIN.out.into ((Below.refl _ _).alloc (Nat.le_refl _) _));have HF1:=ab (show W1.heap[fb]? =some (.cells #[.string f.path, .int .i64 f.kind, .int .i64 f.mode, .int .i64 f.time, .int .i64 f.size, .string f.link, .slice pa np pc] 27 (0,0)) by rw[hW1,hfb]; exact heap_alloc_new wr _);have hLL:=Cg x (k+1);rw[pj hfk,pi,<-hnp]at hLL
    simp only[List.length_append]at hLL;have hLM:=HSM.out;have hlf:=HFO.out.link;have hpf:=HFO.out.path;clear hcl hps hfk hnp hok;go_wp2_with fail;rw[<-hW1,<-hfb];clear hW1 hfb q0 q1 q2 q3 q4 q5 q6;refine(HI1.out.appt (t:=f.path) (by omega) (by omega)).mono ?_;rintro e w4 ⟨b4,m4,c4,rfl,hm4,ho4,hk4⟩
    change m4=(ff x k++ja f).length at hm4
    have HI4:=ab (show ia w w4 (.slice b4 m4 c4) (ff x k++ja f)from HI1.out.next ho4 hk4);have HF4:=ab (hk4.box HF1.out (by decide));have HM4:=ab hm4;clear ho4 hk4 hm4 HF1 HI1;have k1:=ai (k:=1) HF4.out;have k2:=ai (k:=2) HF4.out;have k3:=ai (k:=3) HF4.out;have k4:=ai (k:=4) HF4.out;simp only[List.getElem?_toArray,bV]at k1 k2 k3 k4;obtain⟨nb,hnb⟩: ∃nb,nb=w4.heap.size:=⟨_,rfl⟩
    obtain⟨W5,hW5⟩: ∃W5,W5=w4.alloc (.cells #[.int .i64 f.kind, .int .i64 f.mode, .int .i64 f.time, .int .i64 f.size] 3):=⟨_,rfl⟩;have hal:=(Below.refl w4.heap.size w4).alloc (Nat.le_refl _) (.cells #[.int .i64 f.kind, .int .i64 f.mode, .int .i64 f.time, .int .i64 f.size] 3);have HI5:=ab (show ia w W5 (.slice b4 m4 c4) ((ff x k++ja f)++dh f 0) by rw[hW5]; unfold dh; simp only[List.take_zero,List.flatMap_nil,List.append_nil]; exact HI4.out.into hal)
    have HF5:=ab (show W5.heap[fb]? =some (.cells #[.string f.path, .int .i64 f.kind, .int .i64 f.mode, .int .i64 f.time, .int .i64 f.size, .string f.link, .slice pa np pc] 27 (0,0)) by rw[hW5]; exact(hal.block fb (lt_of_block HF4.out)).trans HF4.out);have HA5:=ab (show W5.heap[nb]? =some (.cells #[.int .i64 f.kind, .int .i64 f.mode, .int .i64 f.time, .int .i64 f.size] 3 (0,0)) by rw[hW5,hnb]; exact heap_alloc_new w4 _)
    have HM5:=ab (show m4=((ff x k++ja f)++dh f 0).length by unfold dh; simp only[List.take_zero,List.flatMap_nil,List.append_nil]; exact HM4.out);clear hal;go_wp2_with fail;rw[<-hW5,<-hnb];have HNE:=ab (show fb≠nb by rw[hnb]; have:=lt_of_block HF4.out; omega);clear hW5 hnb k1 k2 k3 k4 HF4 HI4 HM4;obtain⟨A1,hA1⟩: ∃A,A=ff x k++ja f:=⟨_,rfl⟩
    rw[<-hA1]at HI5 HM5;have HA1:=ab hA1;have hlA:=congrArg List.length hA1;rw[List.length_append]at hlA;clear hA1
    go_loopw [4,43] (fun bv i wq=> ∃(j m':Nat) (a':Option Addr) (c':Nat),j<=4/\i= .int .i64 j/\bv= .slice a' m' c'/\m'=(A1++dh f j).length/\ia w wq (.slice a' m' c') (A1++dh f j)/\sT fb nb f (.slice pa np pc) wq) (fun _ i _=>4-(intOf i).toNat)
    case atStart=>exact⟨0,m4,b4,c4,by omega,rfl,rfl,HM5.out,HI5.out,HF5.out,HA5.out⟩
    case round=>
     obtain⟨j,mj,aj,cj,hj,rfl,rfl,hmj,hij,hfj⟩:=hrel;have HMJ:=ab hmj;have HIJ:=ab hij;have HFJ:=ab hfj;have hl4:=wV f j;have hlj2:(A1++dh f j).length<1099000000000:=by rw[List.length_append]; omega
     clear hmj hij hfj;obtain⟨W6,hW6⟩: ∃y:World,y=wr:=⟨_,rfl⟩;subst hW6
     by_cases hlj:j<4
     ·obtain⟨u,hu,hcu,hub⟩:=Ep HFJ.out.2 HFO.out hlj;have HU:=ab (tw hu);clear hu;go_wp2_with fail;refine(HIJ.out.appn (n:=u) hlj2 hub).mono ?_;rintro e w6 ⟨b6,m6,c6,rfl,hm6,ho6,hk6⟩;rw[List.append_assoc,<-HU.out]at hm6 ho6;have HI6:=ab (HIJ.out.next ho6 hk6);have HF6:=ab (HFJ.out.kept hk6);have HM6:=ab hm6;clear ho6 hk6 hm6 hcu;go_wp2_with fail
      go_roundw
      case rel=>exact⟨j+1,m6,b6,c6,by omega,by go_num,rfl,HM6.out,HI6.out,HF6.out⟩
      case measure=>simp[intOf]; omega
     ·have hj4:j=4:=by omega
      subst hj4;have d5:=ai (k:=5) HFJ.out.1;have d6:=ai (k:=6) HFJ.out.1;simp only[List.getElem?_toArray,bV]at d5 d6;clear d6;go_wp2_with fail;refine(HIJ.out.appt (t:=f.link) hlj2 (by omega)).mono ?_;rintro e w7 ⟨b7,m7,c7,rfl,hm7,ho7,hk7⟩;have HI7:=ab (show ia w w7 (.slice b7 m7 c7) (A1++dh f 4++ms f)from HIJ.out.next ho7 hk7);have HF7:=ab (HFJ.out.kept hk7)
      clear ho7 hk7 hm7 d5;have hl7:(A1++dh f 4++ms f).length<=1048576:=by simp only[List.length_append]; omega
      have d6:=ai (k:=6) HF7.out.1;simp only[List.getElem?_toArray,bV]at d6;go_wp2_with fail;refine(HI7.out.appn (n:=np) (by omega) (by omega)).mono ?_;rintro e w8 ⟨b8,m8,c8,rfl,hm8,ho8,hk8⟩;obtain⟨A2,hA2⟩: ∃A,A=A1++dh f 4++ms f++aB np:=⟨_,rfl⟩;rw[<-hA2]at hm8 ho8;have HA2:=ab hA2;have hlA2:=congrArg List.length hA2;simp only[List.length_append]at hlA2
      have HI8:=ab (show ia w w8 (.slice b8 m8 c8) (A2++bU f 0) by unfold bU; simp only[List.take_zero,List.flatMap_nil,List.append_nil]; exact HI7.out.next ho8 hk8);have HM8:=ab (show m8=(A2++bU f 0).length by unfold bU; simp only[List.take_zero,List.flatMap_nil,List.append_nil]; exact hm8);have HF8:=ab (HF7.out.kept hk8);clear ho8 hk8 hm8 hA2 d6 hl7 HI7 HF7
      have d6:=ai (k:=6) HF8.out.1;simp only[List.getElem?_toArray,bV]at d6;go_wp2_with fail;clear d6
      go_loopw [4,63] (fun bv i wq=> ∃(j m':Nat) (a':Option Addr) (c':Nat),j<=np/\i= .int .i64 j/\bv= .slice a' m' c'/\m'=(A2++bU f j).length/\ia w wq (.slice a' m' c') (A2++bU f j)) (fun _ i _=>np-(intOf i).toNat)
      case atStart=>exact⟨0,m8,b8,c8,by omega,rfl,rfl,HM8.out,HI8.out⟩
      case round=>
       obtain⟨q,mq,aq,cq,hq,rfl,rfl,hmq,hiq⟩:=hrel;have HMQ:=ab hmq;have HIQ:=ab hiq;have hlp:=uE f q;rw[<-HNP.out]at hlp;have hlq2:(A2++bU f q).length<=1048576:=by rw[List.length_append]; omega
       clear hmq hiq;obtain⟨W9,hW9⟩: ∃y:World,y=wr:=⟨_,rfl⟩;subst hW9
       by_cases hlq:q<np
       ·obtain⟨p,hp⟩: ∃p,f.parts[q]? =some p:=⟨f.parts[q]'(by have:=HNP.out; omega),List.getElem?_eq_getElem (by have:=HNP.out; omega)⟩;obtain⟨pb,po,rfl,-,-,-,r0,r1⟩:=dz HPS.out HIQ.out.below hp;obtain⟨hps1,hps2,hps3⟩:=fO.1 (HFO.out.parts p (List.mem_of_getElem? hp));obtain⟨pz,hpz⟩: ∃z:Nat,z=p.size.toNat:=⟨_,rfl⟩;have hpz2:p.size=(pz:Int):=by omega
        have HPN:=ab (qJ hp);rw[<-hpz]at HPN;rw[hpz2]at r1;have hpz3:pz<9223372036854775808:=by omega
        clear hp hpz hpz2 hps2 hps3;obtain⟨qb,hqb⟩: ∃qb,qb=W9.heap.size:=⟨_,rfl⟩;obtain⟨WA,hWA⟩: ∃WA,WA=W9.alloc (.cells #[.string p.sum, .int .i64 (pz:Int)] 62):=⟨_,rfl⟩;have HIA:=ab (show ia w WA (.slice aq mq cq) (A2++bU f q) by rw[hWA]; exact HIQ.out.into ((Below.refl _ _).alloc (Nat.le_refl _) _));have HQA:=ab (show WA.heap[qb]? =some (.cells #[.string p.sum, .int .i64 (pz:Int)] 62 (0,0)) by rw[hWA,hqb]; exact heap_alloc_new W9 _)
        have HLQ:=ab (show(A2++bU f q).length+p.sum.size<1099511627775 by omega);have hszA:w.heap.size<=WA.heap.size:=HIA.out.below.size
        go_upto_region 19 with fail
        rw[<-hWA,<-hqb];clear hWA hqb r0 r1;have s0:=ai (k:=0) HQA.out;simp only[List.getElem?_toArray,List.getElem?_cons_zero]at s0;go_wp2_with (at_builtin; go_must (refine eN rfl _ _ rfl w.heap.size (.slice aq mq cq) (A2++bU f q) rfl HIA.out.own p.sum rfl HLQ.out hszA ?_); intro v2 wb hown2 hgrow2; obtain⟨a2,c2,hv2,-,-⟩:=au hown2; obtain⟨m2,hm2⟩: ∃m2,m2=(A2++bU f q).length+p.sum.size:=⟨_,rfl⟩; try (rw[<-hm2]at hv2); subst hv2; have HM2:=ab hm2; clear hm2; have HO2:=ab hown2; have HKB:=ab (iU.row HIA.out.own hszA hgrow2); clear hown2 hgrow2; have s1:=ai (k:=1) (HKB.out.box HQA.out (by decide)); simp only[List.getElem?_toArray,bV]at s1)
        have hmb2:m2=(A2++bU f q++bl p.sum).length:=by
         have h1:=HM2.out;have h2:=ay p.sum;rw[List.length_append];omega
        have HIB:=ab (show ia w wb (.slice a2 m2 c2) (A2++bU f q++bl p.sum)from HIA.out.next (by
         have h1:=HO2.out;unfold iS;rw[<-hmb2,List.map_append,HM2.out];rw[HM2.out]at h1;exact h1) HKB.out)
        clear hmb2;refine(HIB.out.appn (n:=pz) (by rw[List.length_append,<-ay]; omega) hpz3).mono ?_;rintro e wc ⟨b9,m9,c9,rfl,hm9,ho9,hk9⟩;rw[List.append_assoc,List.append_assoc,<-HPN.out]at hm9 ho9;have HIC:=ab (HIB.out.next ho9 hk9);have HMC:=ab hm9;clear ho9 hk9 hm9 s1;go_wp2_with fail
        go_roundw
        case rel=>exact⟨q+1,m9,b9,c9,by omega,by go_num,rfl,HMC.out,HIC.out⟩
        case measure=>simp[intOf]; omega
       ·have hqn:q=np:=by omega
        subst hqn;have hmq3:mq<=1048576:=by have:=HMQ.out; omega
        have hmq4: ¬(1048576:Int)<(mq:Int):=by omega
        have HUP:=ab (show A2++bU f q=ff x (k+1) by
         rw[pj HFK.out,pi,HA2.out,HA1.out,<-HNP.out];simp only[List.append_assoc])
        go_wp2_with fail;exact⟨⟨k+1,mq,aq,cq,by omega,by go_num,rfl,by rw[<-HUP.out]; exact HMQ.out,by rw[<-HUP.out]; exact HIQ.out⟩,by simp[intOf]; omega⟩
   ·have hkn:k=n:=by omega
    subst hkn;have HE1:=ab (show ff x k=cr x by rw[HN.out]; exact zH x);go_wp2_with fail
    go_ret2
    exact Dg HV.out (by rw[<-HE1.out]; exact HIN.out)
open Go Go.RowKit Go.Maps
theorem Co (r r':bm) (w:World):(Op.equalIn 10000 85 (jB r) (jB r')).run Tryz.prog w= .ok (decide (r=r')) w:=by
 have u1:=Tryz.underlying9;have u2:=Tryz.underlying3;have hS:Tryz.prog.underlying 85=some (.struct (Tryz.prog.fieldsOf 85)):=by kernel_rfl
 rw[show(10000:Nat)=9999+1 from rfl];unfold jB;rw[run_equalIn_struct w 9999 85 _ _ hS (by kernel_rfl)];simp only[Program.fieldsOf,Tryz.underlying85]
 go_simp
 obtain⟨n,s⟩:=r;obtain⟨n',s'⟩:=r';have hn:n.toList=n'.toList<->n=n':=⟨fun h=>iY (by rw[<-bD,<-bD,h]),fun h=>by rw[h]⟩;simp only[bm.mk.injEq,hn]
 by_cases h1:n=n'<;> by_cases h3:s=s'<;> simp[h1,h3]
theorem om (S T:Nat->Prop) (v u:Value) (rs ss:List bm) (w:World) (hv:aP S w v rs) (hu:aP T w u ss):
  Calls Tryz.prog 47 #[v,u] w fun e w'=>e= .returned (.bool (decide (rs=ss)))/\Below w.heap.size w w':=by
 obtain⟨a,cap,rfl,hc,hm,-⟩:=aY.shape hv dD.len;obtain⟨a2,cap2,rfl,hc2,hm2,-⟩:=aY.shape hu dD.len;unfold maxLen at hm hm2;have HV:=ab hv;have HU:=ab hu;clear hv hu
 by_cases hl:rs.length=ss.length
 ·have HL:=ab hl;have hl2:ss.length=rs.length:=hl.symm;rw[hl2]at HU hc2 ⊢;clear hl hl2
  go_enter Tryz.func47,Tryz.ntmps47
  go_wp2_with fail
  go_loopw [5] (fun i wr=> ∃k:Nat,k<=rs.length/\i= .int .i64 k/\rs.take k=ss.take k/\Below w.heap.size w wr) (fun i _=>rs.length-(intOf i).toNat)
  case atStart=>exact⟨0,Nat.zero_le _,rfl,by simp,Below.refl _ _⟩
  case round=>
   obtain⟨k,hk,rfl,hn,hb⟩:=hrel;have HN:=ab hn;have HB:=ab hb;clear hn hb
   by_cases hlt:k<rs.length
   ·obtain⟨r,hr⟩: ∃r,rs[k]? =some r:=⟨rs[k],by simp[hlt]⟩;obtain⟨x,hx⟩: ∃x,ss[k]? =some x:=⟨ss[k]'(by have:=HL.out; omega),by simp⟩;have HR:=ab hr;have HX:=ab hx;have heq:=Co r x;obtain⟨W,hW⟩: ∃W:World,W=wr.drew:=⟨_,rfl⟩;have HBW:=ab (show Below w.heap.size w W by rw[hW]; exact HB.out.drew);obtain⟨b,o,rfl,-,-,-,q0,q1⟩:=dz HV.out HBW.out hr
    obtain⟨b2,o2,rfl,-,-,-,p0,p1⟩:=dz (by have:=HU.out; rw[HL.out]at this; exact this) HBW.out hx;unfold jB at heq;clear hr hx
    by_cases hm:r=x
    ·have e1:decide (r=x)=true:=by simp[hm]
     rw[e1]at heq;have HT:=ab (show rs.take (k+1)=ss.take (k+1) by rw[aX HR.out,aX HX.out,HN.out,hm]);clear e1 hm;go_wp2_with fail;refine aA [some 9] (by kernel_rfl) (by kernel_rfl) (by kernel_rfl) ?_;simp only[bz,List.take_succ_cons,List.take_zero];rw[<-hW];clear hW
     repeat (first | (refine aD rfl ?_; simp only[Act.put,aH,aI,aJ]) | (refine aM rfl (fun K hK=> ?_); go_simp; refine hK _ ?_; clear hK K))
     refine aL ?_;go_wp2_with fail
     go_roundw
     case rel=>exact⟨k+1,by omega,rfl,HT.out,HBW.out⟩
     case measure=>simp only[intOf,Int.toNat_natCast]; omega
    ·have e1:decide (r=x)=false:=by simp[hm]
     rw[e1]at heq;have HT:=ab (show decide (rs=ss)=false by
      rw[decide_eq_false_iff_not];intro e;have h1:=HR.out;rw[e,HX.out]at h1;exact hm (Option.some.inj h1).symm)
     clear e1 hm;go_wp2_with fail;refine aA [some 9] (by kernel_rfl) (by kernel_rfl) (by kernel_rfl) ?_;simp only[bz,List.take_succ_cons,List.take_zero];rw[<-hW];clear hW
     repeat (first | (refine aD rfl ?_; simp only[Act.put,aH,aI,aJ]) | (refine aM rfl (fun K hK=> ?_); go_simp; refine hK _ ?_; clear hK K))
     refine aL ?_;go_wp2_with fail;go_ret;exact⟨az HT.out.symm,HBW.out⟩
   ·obtain rfl:k=rs.length:=by omega
    have HT:=ab (show decide (rs=ss)=true by
     have:=HN.out;rw[List.take_of_length_le (Nat.le_refl _),List.take_of_length_le (by rw[HL.out]; exact Nat.le_refl _)]at this;simp[this])
    go_wp2_with fail;go_ret;exact⟨az HT.out.symm,HB.out⟩
 ·have HT:=ab (show decide (rs=ss)=false by rw[decide_eq_false_iff_not]; intro e; exact hl (by rw[e]));have e1:((rs.length:Int) != (ss.length:Int))=true:=by simp; omega
  clear hl
  go_enter Tryz.func47,Tryz.ntmps47
  go_wp2_with fail;go_ret;exact⟨az HT.out.symm,Below.refl _ _⟩
theorem oo (S T:Nat->Prop) (v u:Value) (rs ss:List bm) (b:Bool) (w:World) (hv:aP S w v rs) (hu:aP T w u ss) (h:decide (rs=ss)=b):
  Calls Tryz.prog 47 #[v,u] w fun e w'=>e= .returned (.bool b)/\Below w.heap.size w w':=by
 rw[<-h]; exact om S T v u rs ss w hv hu
theorem qZ (S T:Nat->Prop) (f:aw) (pv qv:Value) (w:World) (hp:aP S w pv f.parts) (hq:aP T w qv f.parts):Calls Tryz.prog 61 #[dU pv f,dU qv f] w fun e w'=>e= .returned (.bool true)/\Below w.heap.size w w':=by
 obtain⟨pa,pc,rfl,-,-,-⟩:=aY.shape hp dD.len;obtain⟨qa,qc,rfl,-,-,-⟩:=aY.shape hq dD.len;obtain⟨n,hn⟩: ∃n,n=f.parts.length:=⟨_,rfl⟩;rw[<-hn]at hp hq ⊢;have HP:=ab hp;have HQ:=ab hq;clear hn hp hq;obtain⟨W,hW⟩: ∃W,W=(w.alloc (.cells (bM (.slice pa n pc) f).toArray 42)).alloc (.cells (bM (.slice qa n qc) f).toArray 42):=⟨_,rfl⟩;have HBW:=ab (show Below w.heap.size w W by rw[hW]; exact((Below.refl _ _).alloc (Nat.le_refl _) _).alloc (by simp) _)
 have HX:=ab (show W.heap[w.heap.size]? =some (.cells (bM (.slice pa n pc) f).toArray 42 (0,0)) by rw[hW]; exact jQ (heap_alloc_new w _) _);have HY:=ab (show W.heap[w.heap.size+1]? =some (.cells (bM (.slice qa n qc) f).toArray 42 (0,0)) by rw[hW]; exact heap_alloc2_new w _ _);unfold dU
 go_enter Tryz.func61,Tryz.ntmps61
 go_upto_region 1 with fail
 change Code.wp _ _ _ _ ((w.alloc (.cells (bM (.slice pa n pc) f).toArray 42)).alloc (.cells (bM (.slice qa n qc) f).toArray 42))
 rw[<-hW];clear hW;have c0:=ai (k:=0) HX.out;have c1:=ai (k:=1) HX.out;have c2:=ai (k:=2) HX.out;have c3:=ai (k:=3) HX.out;have c4:=ai (k:=4) HX.out;have c5:=ai (k:=5) HX.out;have c6:=ai (k:=6) HX.out;have d0:=ai (k:=0) HY.out;have d1:=ai (k:=1) HY.out;have d2:=ai (k:=2) HY.out;have d3:=ai (k:=3) HY.out;have d4:=ai (k:=4) HY.out
 have d5:=ai (k:=5) HY.out;have d6:=ai (k:=6) HY.out;simp only[bM,List.getElem?_toArray,bV]at c0 c1 c2 c3 c4 c5 c6 d0 d1 d2 d3 d4 d5 d6;have HPW:=ab (aP.below HP.out HBW.out);have HQW:=ab (aP.below HQ.out HBW.out);go_wp2_with (go_at_call 47; refine(oo S T _ _ f.parts f.parts true _ HPW.out HQW.out (by simp)).mono ?_; rintro e w1 ⟨rfl,hb1⟩; have HB1:=ab (ak HBW.out hb1); clear hb1)
 go_ret;exact⟨rfl,HB1.out⟩
theorem tN (S T:Nat->Prop) (x:cA) (va vb:Value) (w:World) (ha:aT S w va x.files) (hb:aT T w vb x.files):Calls Tryz.prog 29 #[dQ va x.tm,dQ vb x.tm] w fun e w'=>e= .returned (.bool true)/\Below w.heap.size w w':=by
 obtain⟨aa,ac,rfl,hac,ham,-⟩:=aY.shape ha dT.len;obtain⟨ba,bc,rfl,hbc,hbm,-⟩:=aY.shape hb dT.len;unfold maxLen at ham hbm;have HA:=ab ha;have HB:=ab hb;obtain⟨n,hn⟩: ∃n,n=x.files.length:=⟨_,rfl⟩;rw[<-hn]at HA HB hac hbc ⊢;have HN:=ab hn;clear ha hb hn;unfold dQ
 go_enter Tryz.func29,Tryz.ntmps29
 go_upto_region 1 with fail
 obtain⟨W,hW⟩: ∃W,W=(w.alloc (.cells #[.int .i64 x.tm, .slice aa n ac] 36)).alloc (.cells #[.int .i64 x.tm, .slice ba n bc] 36):=⟨_,rfl⟩;rw[<-hW];have HBW:=ab (show Below w.heap.size w W by rw[hW]; exact((Below.refl _ _).alloc (Nat.le_refl _) _).alloc (by simp) _);have HX:=ab (show W.heap[w.heap.size]? =some (.cells #[.int .i64 x.tm, .slice aa n ac] 36 (0,0)) by rw[hW]; exact jQ (heap_alloc_new w _) _)
 have HY:=ab (show W.heap[w.heap.size+1]? =some (.cells #[.int .i64 x.tm, .slice ba n bc] 36 (0,0)) by rw[hW]; exact heap_alloc2_new w _ _);clear hW;have HAW:=ab (HA.out.below HBW.out);have HBB:=ab (HB.out.below HBW.out);have c0:=ai (k:=0) HX.out;have c1:=ai (k:=1) HX.out;have d0:=ai (k:=0) HY.out;have d1:=ai (k:=1) HY.out;simp only[List.getElem?_toArray,bV]at c0 c1 d0 d1
 go_wp2_with fail;clear c0 c1 d0 d1
 go_loopw [5] (fun i wr=> ∃k:Nat,k<=n/\i= .int .i64 k/\Below W.heap.size W wr) (fun i _=>n-(intOf i).toNat)
 case atStart=>exact⟨0,Nat.zero_le _,rfl,Below.refl _ _⟩
 case round=>
  obtain⟨k,hk,rfl,hbr⟩:=hrel;have HBR:=ab hbr;have c1:=(hbr.cell (p:=⟨w.heap.size,1,none⟩) (lt_of_block HX.out)).trans (ai (k:=1) HX.out);simp only[List.getElem?_toArray,bV]at c1;clear hbr
  by_cases hlt:k<n
  ·obtain⟨f,hf⟩: ∃f,x.files[k]? =some f:=⟨_,List.getElem?_eq_getElem (show k<x.files.length by rw[<-HN.out]; exact hlt)⟩;obtain⟨W2,hW2⟩: ∃V:World,V=wr.drew:=⟨_,rfl⟩;have HB2:=ab (show Below W.heap.size W W2 by rw[hW2]; exact HBR.out.drew);obtain⟨b1,o1,pa,pc,rfl,-,hpa,-,-,hcl1⟩:=cQ HAW.out HB2.out hf;obtain⟨b2,o2,qa,qc,rfl,-,hqa,-,-,hcl2⟩:=cQ HBB.out HB2.out hf
   have x1:=(HB2.out.cell (p:=⟨w.heap.size,1,none⟩) (lt_of_block HX.out)).trans (ai (k:=1) HX.out);have y1:=(HB2.out.cell (p:=⟨w.heap.size+1,1,none⟩) (lt_of_block HY.out)).trans (ai (k:=1) HY.out);have u0:=hcl1 0 (by omega);have u1:=hcl1 1 (by omega);have u2:=hcl1 2 (by omega);have u3:=hcl1 3 (by omega);have u4:=hcl1 4 (by omega);have u5:=hcl1 5 (by omega);have u6:=hcl1 6 (by omega)
   have z0:=hcl2 0 (by omega);have z1:=hcl2 1 (by omega);have z2:=hcl2 2 (by omega);have z3:=hcl2 3 (by omega);have z4:=hcl2 4 (by omega);have z5:=hcl2 5 (by omega);have z6:=hcl2 6 (by omega);simp only[bM,List.getElem?_toArray,bV,Nat.add_zero]at x1 y1 u0 u1 u2 u3 u4 u5 u6 z0 z1 z2 z3 z4 z5 z6;have HPA:=ab hpa;have HQA:=ab hqa;clear hcl1 hcl2 hpa hqa hf;go_wp2_with fail
   refine aA [some 10,none,some 1] (by kernel_rfl) (by kernel_rfl) (by kernel_rfl) ?_;simp only[bz,List.take_succ_cons,List.take_zero,List.drop_succ_cons,List.drop_zero];rw[<-hW2];clear hW2
   repeat (first | (refine aD rfl ?_; simp only[Act.put,aH,aI,aJ]) | (refine aM rfl (fun K hK=> ?_); go_simp; refine hK _ ?_; clear hK K))
   refine aL ?_;clear x1 y1 u0 u1 u2 u3 u4 u5 u6 z0 z1 z2 z3 z4 z5 z6 c1;refine bE rfl (fun K hK=> ?_);go_wp2_with (go_at_call 61; refine(qZ _ _ f _ _ _ HPA.out HQA.out).mono ?_; rintro e w3 ⟨rfl,hb3⟩; have HB3:=ab (ak HB2.out hb3); clear hb3)
   repeat (first | (refine aD rfl ?_; simp only[Act.put,aH,aI,aJ]) | (refine aM rfl (fun K hK=> ?_); go_simp; refine hK _ ?_; clear hK K))
   refine aL ?_;go_wp2_with fail
   go_roundw
   case rel=>exact⟨k+1,by omega,by go_num,HB3.out⟩
   case measure=>simp[intOf]; omega
  ·go_wp2_with fail;go_ret;exact⟨rfl,ak HBW.out HBR.out⟩
def tV (X Y:Obj) (b c:Nat) (v:Value) (data:List UInt8) (w:World):Prop:=w.heap[b]? =some X/\w.heap[c]? =some Y/\bi (fun _=>True) w v data
theorem tV.below {X Y:Obj} {b c:Nat} {v:Value} {data:List UInt8} {w w':World} (h:tV X Y b c v data w) (hb:Below w.heap.size w w'):tV X Y b c v data w':=
 ⟨(hb.block _ (lt_of_block h.1)).trans h.1,(hb.block _ (lt_of_block h.2.1)).trans h.2.1,aS.below h.2.2 (by omega) hb⟩
theorem FN (S:Nat->Prop) (x:cA) (fv:Value) (w:World) (hx:aT S w fv x.files) (ht:(Lit.int .i64 x.tm).wf=true) (hpl: ∀f∈x.files,f.parts.length<=1048576) (henv:jE w) (h:cR x=false):
  Calls Tryz.prog 28 #[dQ fv x.tm] w fun e w'=>e= .returned (.tuple #[.slice none 0 0, .int .i64 1])/\Below w.heap.size w w':=by
 refine(lw S x fv w hx ht hpl (fun h1=>by rw[h]at h1; cases h1) henv).mono ?_;rintro e w' ⟨hb,hr⟩;rw[h]at hr;exact⟨hr,hb⟩
theorem FO (S:Nat->Prop) (x:cA) (fv:Value) (w:World) (hx:aT S w fv x.files) (ht:(Lit.int .i64 x.tm).wf=true) (hpl: ∀f∈x.files,f.parts.length<=1048576) (hsm:(cr x).length<=32768) (henv:jE w) (h:cR x=true):
  Calls Tryz.prog 28 #[dQ fv x.tm] w fun e w'=> ∃a c,e= .returned (.tuple #[.slice a (cr x).length c, .int .i64 0])/\bi (fun _=>True) w' (.slice a (cr x).length c) (cr x)/\(cr x).length<=c/\c<=maxLen/\Below w.heap.size w w':=by
 refine(lw S x fv w hx ht hpl (fun _=>by omega) henv).mono ?_;rintro e w' ⟨hb,hr⟩;rw[h]at hr;obtain⟨v,rfl,ho⟩:=hr;have hby:bi (fun _=>True) w' v (cr x):=(bp ho).weak (fun _ _=>trivial);obtain⟨_,a,c,rfl,hc,hm,-⟩:=id hby
 exact⟨a,c,rfl,hby,hc,hm,hb⟩
theorem qf (S:Nat->Prop) (x:cA) (fv:Value) (b:Bool) (w:World) (hx:aT S w fv x.files) (hps: ∀f∈x.files,f.path.size<=16777216) (hlen:x.files.length<=1048576) (hpl: ∀f∈x.files,f.parts.length<=1048576) (h:cR x=b):Calls Tryz.prog 13 #[dQ fv x.tm] w fun e w'=>e= .returned (.bool b)/\Below w.heap.size w w':=by
 rw[<-h]; exact xN S x fv w hx hps hlen hpl
theorem Cj (fv:Value) (x:cA) (w:World) (he:jF w) (hf:aT (fun _=>True) w fv x.files) (hps: ∀f∈x.files,f.path.size<=1048576) (hpl: ∀f∈x.files,f.parts.length<=1048576) (hfl:x.files.length<=1048576) (ht:(Lit.int .i64 x.tm).wf=true):
  Calls Tryz.prog 8 #[dQ fv x.tm] w fun e w'=>e= .returned (.bool true)/\Below w.heap.size w w':=by
 obtain⟨fa,fc,rfl,hfc,hfm,-⟩:=aY.shape hf dT.len;have HE:=ab he;have h6:=he.six;have HF:=ab hf;have HT:=ab ht;have HPS:=ab (show ∀f∈x.files,f.path.size<=16777216 from fun f h=>by have:=hps f h; omega);have HPL:=ab hpl;have HFB:=ab (show ∀f∈x.files,f.parts.length<=1125899906842624 from fun f h=>by have:=hpl f h; omega);have HFPO:=ab (show ∀f∈x.files,∀p∈f.parts,dk p from fun g hg=>by
  obtain⟨k,hk⟩:=List.getElem?_of_mem hg;obtain⟨_,_,_,_,_,_,h3,_⟩:=cQ hf (Below.refl _ _) hk;exact pR h3)
 have HFL:=ab hfl;have HFS:=ab (ke hf);obtain⟨fl,hfl'⟩: ∃n,n=x.files.length:=⟨_,rfl⟩;rw[<-hfl']at HF ⊢;have HFN:=ab hfl';clear he hf hps hpl hfl hfl' hfc hfm ht;unfold dQ
 go_enter Tryz.func8,Tryz.ntmps8
 go_upto_region 1 with fail
 obtain⟨W,hW⟩: ∃W,W=w.alloc (.cells #[.int .i64 x.tm, .slice fa fl fc] 24):=⟨_,rfl⟩;rw[<-hW];have HB:=ab (show Below w.heap.size w W by rw[hW]; exact(Below.refl _ _).alloc (Nat.le_refl _) _);have HBX:=ab (show W.heap[w.heap.size]? =some (.cells #[.int .i64 x.tm, .slice fa fl fc] 24 (0,0)) by rw[hW]; exact heap_alloc_new w _);clear hW;have k0:=ai (k:=0) HBX.out;have k1:=ai (k:=1) HBX.out
 simp only[eE]at k0 k1;have HFW:=ab (HF.out.below HB.out);go_wp2_with (go_at_call 10; refine(AZ _ x _ _ HFW.out HFB.out).mono ?_);rintro e w1 ⟨rfl,hb1⟩;have HB1:=ab (ak HB.out hb1);have HX1:=ab ((hb1.block _ (lt_of_block HBX.out)).trans HBX.out);clear hb1 k0 k1
 cases hsh:jn x
 case false=>
  go_wp2_with fail;refine(jR _ (HE.out.keep HB1.out h6)).mono ?_;rintro e wz ⟨rfl,hbz⟩;have HBZ:=ab (ak HB1.out hbz);clear hbz;go_wp2_with fail;go_ret;exact⟨rfl,HBZ.out⟩
 have HTOT:=ab (Ba hsh);have HN16:=ab (show x.files.length<=16 by unfold jn at hsh; simp only[Bool.and_eq_true,decide_eq_true_eq]at hsh; exact hsh.1);have k0:=ai (k:=0) HX1.out;have k1:=ai (k:=1) HX1.out;simp only[eE]at k0 k1;have HF1:=ab (HF.out.below HB1.out);have HE1:=ab (HE.out.keep HB1.out h6).env
 cases hv:cR x
 case false=>
  have HVI:=ab hv;clear hv;go_wp2_with (go_at_call 28; refine(FN _ x _ _ HF1.out HT.out HPL.out HE1.out HVI.out).mono ?_);rintro e w2 ⟨rfl,hb2⟩;have HB2:=ab (ak HB1.out hb2);have HX2:=ab ((hb2.block _ (lt_of_block HX1.out)).trans HX1.out);clear hb2 k0 k1;have k0:=ai (k:=0) HX2.out;have k1:=ai (k:=1) HX2.out;simp only[eE]at k0 k1;have HF2:=ab (HF.out.below HB2.out)
  go_wp2_with (go_at_call 14; refine(fZ _ x _ _ HF2.out HFL.out HPL.out HFPO.out).mono ?_);rintro e w3 ⟨fv2,rfl,hfo,hb3⟩;have HFO:=ab hfo.at
  have HB3:=ab (ak HB2.out hb3);clear hfo hb3 k0 k1;unfold dQ;go_wp2_with (go_at_call 13; refine(qf _ x fv2 false _ HFO.out HPS.out HFL.out HPL.out HVI.out).mono ?_);rintro e w4 ⟨rfl,hb4⟩;have HB4:=ab (ak HB3.out hb4);clear hb4;go_wp2_with fail;refine(jR _ (HE.out.keep HB4.out h6)).mono ?_;rintro e wz ⟨rfl,hbz⟩;have HBZ:=ab (ak HB4.out hbz);clear hbz
  go_wp2_with fail;go_ret;exact⟨rfl,HBZ.out⟩
 have HVI:=ab hv;have HFK:=ab (show ∀f∈x.files,wC f from fun f hf=>mw ((gC hv).2.2 f hf).1 ((gC hv).2.2 f hf).2 (by
  have h1:=HFS.out f hf;exact⟨h1.knd,h1.mde,h1.tim,HPL.out f hf⟩))
 have HTM:=ab (show x.tm<9223372036854775808 by
  have e:IntKind.i64.max=9223372036854775807:=by decide
  have ht:=HT.out;simp only[Lit.wf,Bool.and_eq_true,decide_eq_true_eq,e]at ht
  omega)
 have HSM:=ab (uC HFK.out HPL.out HN16.out HTOT.out HTM.out);have HDEC:=ab (Ev hv (fun f hf=>by
  have h1:=HFS.out f hf;exact⟨h1.knd,h1.mde,h1.tim,HPL.out f hf⟩) HTM.out (by have:=HSM.out; omega))
 have HIF:=ab (Et HTM.out hv HSM.out HF.out);obtain⟨data,hdata⟩: ∃d,d=cr x:=⟨_,rfl⟩;have HDT:=ab hdata;clear hv hdata;go_wp2_with (go_at_call 28; refine(FO _ x _ _ HF1.out HT.out HPL.out HSM.out HE1.out HVI.out).mono ?_);rintro e w2 ⟨da,dc,rfl,hby,hdc,hdm,hb2⟩;rw[<-HDT.out]at hby hdc HDEC HSM ⊢;have HB2:=ab (ak HB1.out hb2);have HX2:=ab ((hb2.block _ (lt_of_block HX1.out)).trans HX1.out)
 obtain⟨dl,hdl⟩: ∃n,n=data.length:=⟨_,rfl⟩;rw[<-hdl]at hby hdc ⊢;have HDL:=ab hdl;have HBY:=ab hby
 clear hb2 k0 k1 hby hdl hdm hdc;have k0:=ai (k:=0) HX2.out;have k1:=ai (k:=1) HX2.out;simp only[eE]at k0 k1;have HF2:=ab (HF.out.below HB2.out);go_wp2_with (go_at_call 14; refine(fZ _ x _ _ HF2.out HFL.out HPL.out HFPO.out).mono ?_);rintro e w3 ⟨fv2,rfl,hfo,hb3⟩;have HFO:=ab hfo.at
 have HB3:=ab (ak HB2.out hb3);have HX3:=ab ((hb3.block _ (lt_of_block HX2.out)).trans HX2.out);have HBY3:=ab (show bi (fun _=>True) w3 (.slice da dl dc) data from aS.below HBY.out (by omega) hb3);clear hfo hb3 k0 k1;unfold dQ;go_wp2_with (go_at_call 13; refine(qf _ x fv2 true _ HFO.out HPS.out HFL.out HPL.out HVI.out).mono ?_);rintro e w4 ⟨rfl,hb4⟩;have HB4:=ab (ak HB3.out hb4)
 have HX4:=ab ((hb4.block _ (lt_of_block HX3.out)).trans HX3.out);have HBY4:=ab (show bi (fun _=>True) w4 (.slice da dl dc) data from aS.below HBY3.out (by omega) hb4);clear hb4 HFO;go_wp2_with (go_at_call 26; refine(Cc _ data _ x _ HBY4.out HSM.out (HE.out.keep HB4.out h6).env HDEC.out).mono ?_);rintro e w5 ⟨ga,gc,rfl,hg,hb5⟩;have HB5:=ab (ak HB4.out hb5);have HX5:=ab ((hb5.block _ (lt_of_block HX4.out)).trans HX4.out)
 have HBY5:=ab (show bi (fun _=>True) w5 (.slice da dl dc) data from aS.below HBY4.out (by omega) hb5);rw[<-HFN.out]at hg ⊢;have HG5:=ab hg;clear hb5 hg;go_wp2_with fail;obtain⟨W6,hW6⟩: ∃W6,W6=w5.alloc (.cells #[.int .i64 x.tm, .slice ga fl gc] 24):=⟨_,rfl⟩;rw[<-hW6];have hbw:Below w5.heap.size w5 W6:=by rw[hW6]; exact(Below.refl _ _).alloc (Nat.le_refl _) _
 have HY6:=ab (show W6.heap[w5.heap.size]? =some (.cells #[.int .i64 x.tm, .slice ga fl gc] 24 (0,0)) by rw[hW6]; exact heap_alloc_new w5 _);have HB6:=ab (ak HB5.out hbw);have HG6:=ab (HG5.out.below hbw);have SW:=ab (show tV (.cells #[.int .i64 x.tm, .slice fa fl fc] 24 (0,0)) (.cells #[.int .i64 x.tm, .slice ga fl gc] 24 (0,0)) w.heap.size w5.heap.size (.slice da dl dc) data W6 from⟨(hbw.block _ (lt_of_block HX5.out)).trans HX5.out,HY6.out,aS.below HBY5.out (by omega) hbw⟩)
 obtain⟨yb,hyb⟩: ∃b,b=w5.heap.size:=⟨_,rfl⟩;rw[<-hyb]at SW ⊢;clear hW6 hbw hyb HY6 HX5 HBY5 HG5;refine cX (tV (.cells #[.int .i64 x.tm, .slice fa fl fc] 24 (0,0)) (.cells #[.int .i64 x.tm, .slice ga fl gc] 24 (0,0)) w.heap.size yb (.slice da dl dc) data) (by kernel_rfl) ?_;obtain⟨V,hV⟩: ∃V:World,V=W6.drew:=⟨_,rfl⟩;rw[<-hV];have hb:Below W6.heap.size W6 V:=by rw[hV]; exact(Below.refl _ _).drew
 have HBV:=ab (ak HB6.out hb);have HGV:=ab (HG6.out.below hb);have SV:=ab (SW.out.below hb);clear hV hb;refine aC 0 rfl (by kernel_rfl) rfl (fun K hK=> ?_);go_wp2_with (go_at_call 11; refine(jR _ (HE.out.keep HBV.out h6)).mono ?_; rintro e wa ⟨rfl,hb⟩);have HGA:=ab (HGV.out.below hb);have HBA:=ab (ak HBV.out hb);have SA:=ab (SV.out.below hb);clear hb
 refine⟨SA.out, ?_⟩;refine ag 1 rfl (by kernel_rfl) (by kernel_rfl) (by kernel_rfl) (fun _ _ _ h=>h) rfl SA.out (by rintro w' ⟨hx,hy,hv⟩; have x0:=ai (k:=0) hx; have x1:=ai (k:=1) hx; have y0:=ai (k:=0) hy; have y1:=ai (k:=1) hy; have hcv:=bw hv; simp only[List.getElem?_toArray,bV]at x0 x1 y0 y1; go_simp; rfl) ?_;simp only[Act.put,aH,aI,aJ]
 refine ag 2 rfl (by kernel_rfl) (by kernel_rfl) (by kernel_rfl) (fun _ _ _ h=>h) rfl SA.out (by rintro w' ⟨hx,hy,hv⟩; have x0:=ai (k:=0) hx; have x1:=ai (k:=1) hx; have y0:=ai (k:=0) hy; have y1:=ai (k:=1) hy; have hcv:=bw hv; simp only[List.getElem?_toArray,bV]at x0 x1 y0 y1; go_simp; rfl) ?_;simp only[Act.put,aH,aI,aJ];refine ag 3 rfl (by kernel_rfl) (by kernel_rfl) (by kernel_rfl) (fun _ _ _ h=>h) rfl SA.out (by rintro w' ⟨hx,hy,hv⟩; have x0:=ai (k:=0) hx; have x1:=ai (k:=1) hx; have y0:=ai (k:=0) hy; have y1:=ai (k:=1) hy; have hcv:=bw hv; simp only[List.getElem?_toArray,bV]at x0 x1 y0 y1; go_simp; rfl) ?_
 simp only[Act.put,aH,aI,aJ];refine ag 4 rfl (by kernel_rfl) (by kernel_rfl) (by kernel_rfl) (fun _ _ _ h=>h) rfl SA.out (by rintro w' ⟨hx,hy,hv⟩; have x0:=ai (k:=0) hx; have x1:=ai (k:=1) hx; have y0:=ai (k:=0) hy; have y1:=ai (k:=1) hy; have hcv:=bw hv; simp only[List.getElem?_toArray,bV]at x0 x1 y0 y1; go_simp; rfl) ?_;simp only[Act.put,aH,aI,aJ]
 refine ag 5 rfl (by kernel_rfl) (by kernel_rfl) (by kernel_rfl) (fun _ _ _ h=>h) rfl SA.out (by rintro w' ⟨hx,hy,hv⟩; have x0:=ai (k:=0) hx; have x1:=ai (k:=1) hx; have y0:=ai (k:=0) hy; have y1:=ai (k:=1) hy; have hcv:=bw hv; simp only[List.getElem?_toArray,bV]at x0 x1 y0 y1; go_simp; rfl) ?_;simp only[Act.put,aH,aI,aJ];refine ag 6 rfl (by kernel_rfl) (by kernel_rfl) (by kernel_rfl) (fun _ _ _ h=>h) rfl SA.out (by rintro w' ⟨hx,hy,hv⟩; have x0:=ai (k:=0) hx; have x1:=ai (k:=1) hx; have y0:=ai (k:=0) hy; have y1:=ai (k:=1) hy; have hcv:=bw hv; simp only[List.getElem?_toArray,bV]at x0 x1 y0 y1; go_simp; rfl) ?_
 simp only[Act.put,aH,aI,aJ];refine ag 7 rfl (by kernel_rfl) (by kernel_rfl) (by kernel_rfl) (fun _ _ _ h=>h) rfl SA.out (by rintro w' ⟨hx,hy,hv⟩; have x0:=ai (k:=0) hx; have x1:=ai (k:=1) hx; have y0:=ai (k:=0) hy; have y1:=ai (k:=1) hy; have hcv:=bw hv; simp only[List.getElem?_toArray,bV]at x0 x1 y0 y1; go_simp; rfl) ?_;simp only[Act.put,aH,aI,aJ]
 refine ag 8 rfl (by kernel_rfl) (by kernel_rfl) (by kernel_rfl) (fun _ _ _ h=>h) rfl SA.out (by rintro w' ⟨hx,hy,hv⟩; have x0:=ai (k:=0) hx; have x1:=ai (k:=1) hx; have y0:=ai (k:=0) hy; have y1:=ai (k:=1) hy; have hcv:=bw hv; simp only[List.getElem?_toArray,bV]at x0 x1 y0 y1; go_simp; rfl) ?_;simp only[Act.put,aH,aI,aJ];refine ag 9 rfl (by kernel_rfl) (by kernel_rfl) (by kernel_rfl) (fun _ _ _ h=>h) rfl SA.out (by rintro w' ⟨hx,hy,hv⟩; have x0:=ai (k:=0) hx; have x1:=ai (k:=1) hx; have y0:=ai (k:=0) hy; have y1:=ai (k:=1) hy; have hcv:=bw hv; simp only[List.getElem?_toArray,bV]at x0 x1 y0 y1; go_simp; rfl) ?_
 simp only[Act.put,aH,aI,aJ];refine ag 10 rfl (by kernel_rfl) (by kernel_rfl) (by kernel_rfl) (fun _ _ _ h=>h) rfl SA.out (by rintro w' ⟨hx,hy,hv⟩; have x0:=ai (k:=0) hx; have x1:=ai (k:=1) hx; have y0:=ai (k:=0) hy; have y1:=ai (k:=1) hy; have hcv:=bw hv; simp only[List.getElem?_toArray,bV]at x0 x1 y0 y1; go_simp; rfl) ?_;simp only[Act.put,aH,aI,aJ]
 refine ag 11 rfl (by kernel_rfl) (by kernel_rfl) (by kernel_rfl) (fun _ _ _ h=>h) rfl SA.out (by rintro w' ⟨hx,hy,hv⟩; have x0:=ai (k:=0) hx; have x1:=ai (k:=1) hx; have y0:=ai (k:=0) hy; have y1:=ai (k:=1) hy; have hcv:=bw hv; simp only[List.getElem?_toArray,bV]at x0 x1 y0 y1; go_simp; rfl) ?_;simp only[Act.put,aH,aI,aJ];refine ag 12 rfl (by kernel_rfl) (by kernel_rfl) (by kernel_rfl) (fun _ _ _ h=>h) rfl SA.out (by rintro w' ⟨hx,hy,hv⟩; have x0:=ai (k:=0) hx; have x1:=ai (k:=1) hx; have y0:=ai (k:=0) hy; have y1:=ai (k:=1) hy; have hcv:=bw hv; simp only[List.getElem?_toArray,bV]at x0 x1 y0 y1; go_simp; rfl) ?_
 simp only[Act.put,aH,aI,aJ];have HFA:=ab (HF.out.below HBA.out);refine aC 13 rfl (by kernel_rfl) rfl (fun K hK=> ?_);go_wp2_with (go_at_call 14; refine(fZ _ x _ _ HFA.out HFL.out HPL.out HFPO.out).mono ?_; rintro e wb ⟨fv3,rfl,hfo,hb⟩; unfold dQ);have HFO:=ab hfo.at
 have HGB:=ab (HGA.out.below hb);clear hfo;have HBB:=ab (ak HBA.out hb);have SB:=ab (SA.out.below hb);clear hb;refine⟨SB.out, ?_⟩;refine aC 14 rfl (by kernel_rfl) rfl (fun K hK=> ?_);go_wp2_with (go_at_call 27; refine(FX _ x fv3 data _ HFO.out HIF.out HDT.out.symm HSM.out).mono ?_; rintro e wc ⟨bv,rfl,hbv,hb⟩);have hcv:=bw hbv;have HGC:=ab (HGB.out.below hb)
 clear HFO;have HBC:=ab (ak HBB.out hb);have SC:=ab (SB.out.below hb);clear hb;refine⟨SC.out, ?_⟩;refine aC 15 rfl (by kernel_rfl) rfl (fun K hK=> ?_);go_wp2_with fail;refine⟨SC.out, ?_⟩;clear hcv hbv;refine ag 16 rfl (by kernel_rfl) (by kernel_rfl) (by kernel_rfl) (fun _ _ _ h=>h) rfl SC.out (by rintro w' ⟨hx,hy,hv⟩; have x0:=ai (k:=0) hx; have x1:=ai (k:=1) hx; have y0:=ai (k:=0) hy; have y1:=ai (k:=1) hy; have hcv:=bw hv; simp only[List.getElem?_toArray,bV]at x0 x1 y0 y1; go_simp; rfl) ?_
 simp only[Act.put,aH,aI,aJ];refine ag 17 rfl (by kernel_rfl) (by kernel_rfl) (by kernel_rfl) (fun _ _ _ h=>h) rfl SC.out (by rintro w' ⟨hx,hy,hv⟩; have x0:=ai (k:=0) hx; have x1:=ai (k:=1) hx; have y0:=ai (k:=0) hy; have y1:=ai (k:=1) hy; have hcv:=bw hv; simp only[List.getElem?_toArray,bV]at x0 x1 y0 y1; go_simp; rfl) ?_;simp only[Act.put,aH,aI,aJ]
 refine ag 18 rfl (by kernel_rfl) (by kernel_rfl) (by kernel_rfl) (fun _ _ _ h=>h) rfl SC.out (by rintro w' ⟨hx,hy,hv⟩; have x0:=ai (k:=0) hx; have x1:=ai (k:=1) hx; have y0:=ai (k:=0) hy; have y1:=ai (k:=1) hy; have hcv:=bw hv; simp only[List.getElem?_toArray,bV]at x0 x1 y0 y1; go_simp; rfl) ?_;simp only[Act.put,aH,aI,aJ];refine ag 19 rfl (by kernel_rfl) (by kernel_rfl) (by kernel_rfl) (fun _ _ _ h=>h) rfl SC.out (by rintro w' ⟨hx,hy,hv⟩; have x0:=ai (k:=0) hx; have x1:=ai (k:=1) hx; have y0:=ai (k:=0) hy; have y1:=ai (k:=1) hy; have hcv:=bw hv; simp only[List.getElem?_toArray,bV]at x0 x1 y0 y1; go_simp; rfl) ?_
 simp only[Act.put,aH,aI,aJ];refine ag 21 rfl (by kernel_rfl) (by kernel_rfl) (by kernel_rfl) (fun _ _ _ h=>h) rfl SC.out (by rintro w' ⟨hx,hy,hv⟩; have x0:=ai (k:=0) hx; have x1:=ai (k:=1) hx; have y0:=ai (k:=0) hy; have y1:=ai (k:=1) hy; have hcv:=bw hv; simp only[List.getElem?_toArray,bV]at x0 x1 y0 y1; go_simp; rfl) ?_;simp only[Act.put,aH,aI,aJ]
 have HFC:=ab (HF.out.below HBC.out);refine aC 20 rfl (by kernel_rfl) rfl (fun K hK=> ?_);go_wp2_with (go_at_call 14; refine(fZ _ x _ _ HFC.out HFL.out HPL.out HFPO.out).mono ?_; rintro e wd ⟨fv4,rfl,hfo,hb⟩; unfold dQ);have HQ1:=ab hfo.at
 have HGD:=ab (HGC.out.below hb);clear hfo;have HBD:=ab (ak HBC.out hb);have SD:=ab (SC.out.below hb);clear hb;refine⟨SD.out, ?_⟩;refine aC 22 rfl (by kernel_rfl) rfl (fun K hK=> ?_);go_wp2_with (go_at_call 14; refine(fZ _ x _ _ HGD.out HFL.out HPL.out HFPO.out).mono ?_; rintro e we ⟨fv5,rfl,hfo,hb⟩; unfold dQ);have HQ2:=ab hfo.at
 replace HQ1:=ab (HQ1.out.below hb)
 clear hfo;have HBE:=ab (ak HBD.out hb);have SE:=ab (SD.out.below hb);clear hb;refine⟨SE.out, ?_⟩;refine aC 23 rfl (by kernel_rfl) rfl (fun K hK=> ?_);go_wp2_with (go_at_call 29; refine(tN _ _ x fv4 fv5 _ HQ1.out HQ2.out).mono ?_; rintro e wf ⟨rfl,hb⟩);have HBF:=ab (ak HBE.out hb);have SF:=ab (SE.out.below hb);clear hb;refine⟨SF.out, ?_⟩;refine ag 24 rfl (by kernel_rfl) (by kernel_rfl) (by kernel_rfl) (fun _ _ _ h=>h) rfl SF.out (by rintro w' ⟨hx,hy,hv⟩; have x0:=ai (k:=0) hx; have x1:=ai (k:=1) hx; have y0:=ai (k:=0) hy; have y1:=ai (k:=1) hy; have hcv:=bw hv; simp only[List.getElem?_toArray,bV]at x0 x1 y0 y1; go_simp; rfl) ?_
 simp only[Act.put,aH,aI,aJ];refine ag 25 rfl (by kernel_rfl) (by kernel_rfl) (by kernel_rfl) (fun _ _ _ h=>h) rfl SF.out (by rintro w' ⟨hx,hy,hv⟩; have x0:=ai (k:=0) hx; have x1:=ai (k:=1) hx; have y0:=ai (k:=0) hy; have y1:=ai (k:=1) hy; have hcv:=bw hv; simp only[List.getElem?_toArray,bV]at x0 x1 y0 y1; go_simp; rfl) ?_;simp only[Act.put,aH,aI,aJ]
 refine bu (by kernel_rfl) ?_;go_wp2_with fail;go_ret;exact⟨rfl,HBF.out⟩
end Go.Proofs.YtnjkpcalgoefhaaGreatDoor
namespace Go.Proofs.YtnjkpcalgoefhaaGreatDoor
open Go.ChangeShapes Go.WideShapes Go.ChangeAt Go.RowKit Go.Lib Go.Shelf
open Go.ChangeMaps (open_string shut_string)
section
variable {H : Type} {enc : TypeId × Value → H}
end
def Fz :List (String×DataW Unit):=[("math/bits.deBruijn64tab",Rows.laid_math_bits_deBruijn64tab),("kinkeep/sha256.initial",Rows.laid_kinkeep_sha256_initial),("kinkeep/sha256.constants",Rows.laid_kinkeep_sha256_constants),("unicode/utf8.acceptRanges",Rows.laid_unicode_utf8_acceptRanges),("unicode/utf8.first",Rows.laid_unicode_utf8_first)]
theorem own :ownKnob Tryz.prog.godebug=none:=by kernel_rfl
theorem zq :(Rows.laid_unicode_utf8_acceptRanges:DataW Unit)=acceptData:=by kernel_rfl
theorem zx :(Rows.laid_math_bits_deBruijn64tab:DataW Unit)=tabData .u8 (Lib.deBruijn64tab.map fun(n:Nat)=>(n:Int)):=by kernel_rfl
theorem xp :(Rows.laid_kinkeep_sha256_initial:DataW Unit)=tabData .u32 (nz.list.map fun(n:Nat)=>(n:Int)):=by kernel_rfl
theorem ti :(Rows.laid_kinkeep_sha256_constants:DataW Unit)=tabData .u32 (kc.map fun(n:Nat)=>(n:Int)):=by kernel_rfl
theorem nu {P:Program} {w:World} {n:String} {k:IntKind} {zs:List Int} {g:Nat} {t e:TypeId} {N:Nat} (hg:P.globalNamed n=some g) (hty:(P.globals[g]?).map (·.type)=some t)
  (ht:P.underlying t=some (.array N e)) (he:P.underlying e=some (.int k)) (hce:P.cellsOf e=1) (hct:P.cellsOf t=N) (h:VarReads P w n (tabData k zs)) (j:Nat):w.cell? ⟨g,j,none⟩=(zs.map fun z=>Value.int k z)[j]? :=by
 obtain⟨g',t',cs,fuel,p,hg',hty',hvar,hd⟩:=h;obtain rfl:=Option.some.inj (hg.symm.trans hg');obtain rfl:=Option.some.inj (hty.symm.trans hty');rw[World.var?_cell hg hvar j,<-Array.getElem?_toList,cells_of_tab ht he hce hct hd]
theorem th {w:World} {b k:Nat} {v:Value} (h:w.cell? ⟨b,k,none⟩=some v):b<w.heap.size:=by
 by_cases hb:b<w.heap.size
 ·exact hb
 ·exfalso
  have:w.heap[b]? =none:=Array.getElem?_eq_none (by omega);simp[World.cell?,this]at h
theorem FP {W:World} (hL:laidMetH Tryz.prog Fz W) (hsh:W.ShapedOpen Tryz.prog):jF W:=by
 rw[MakeChecks.laidMetH_plain _ _ _ (by kernel_rfl)]at hL;have h1:=Lib.laidMet.reads hL (.head _);have h2:=Lib.laidMet.reads hL (.tail _ (.head _));have h3:=Lib.laidMet.reads hL (.tail _ (.tail _ (.head _)));have h4:=Lib.laidMet.reads hL (.tail _ (.tail _ (.tail _ (.head _))));have h5:=Lib.laidMet.reads hL (.tail _ (.tail _ (.tail _ (.tail _ (.head _)))));rw[zx]at h1;rw[xp]at h2
 rw[ti]at h3;rw[zq]at h4;have c1:=nu (g:=5) (t:=240) (e:=5) (N:=64) (by kernel_rfl) (by kernel_rfl) (by kernel_rfl) (by kernel_rfl) (by kernel_rfl) (by kernel_rfl) h1;have c2:=nu (g:=1) (t:=101) (e:=100) (N:=8) (by kernel_rfl) (by kernel_rfl) (by kernel_rfl) (by kernel_rfl) (by kernel_rfl) (by kernel_rfl) h2;have c3:=nu (g:=4) (t:=156) (e:=100) (N:=64) (by kernel_rfl) (by kernel_rfl) (by kernel_rfl) (by kernel_rfl) (by kernel_rfl) (by kernel_rfl) h3
 have hI:jM W:=fun j x hj=>by
  rw[c2 j];simp[hj,gi]
 have hK:gH W:=fun j x hj=>by
  rw[c3 j];simp[hj,gi]
 have hD:TabAt 5 Lib.deBruijn64tab W:=fun j hj=>by
  rw[c1 j];simp[hj]
 have hi0:=hI 0 0x6a09e667 rfl;have hk0:=hK 0 0x428a2f98 rfl;have hd0:=hD 0 (by decide);refine⟨⟨?_, ?_⟩,hI,hK,th hi0,th hk0,⟨hD,th hd0⟩⟩
 ·exact cell_of_shapedOpen_int (zero:= #[.int .i64 0]) (t:=3) hsh (of_decide_eq_true (by kernel_rfl)) (by kernel_rfl) rfl (by kernel_rfl) (by kernel_rfl) Tryz.underlying3
 ·exact utf8Tabs_of_readsT (U8Types.of196 Tryz.laysValid) ⟨by kernel_rfl,by kernel_rfl,by kernel_rfl,by kernel_rfl,by kernel_rfl,by kernel_rfl,by kernel_rfl⟩ (Pinned.utf8First_eq▸h5) h4
end Go.Proofs.YtnjkpcalgoefhaaGreatDoor
namespace Go.Proofs.YtnjkpcalgoefhaaGreatDoor
open Go.ChangeShapes Go.WideShapes Go.ChangeAt Go.RowKit Go.Lib Go.Shelf
section
variable {H : Type} {enc : TypeId × Value → H} {P : Program} {W : World} {base b0 : Nat} {spare : Nat → Bool} {held : Bool} {v : Value} {d : DataW H} {ps : List MemPlace}
theorem DV (a:Addr) (i j:Nat):(a.add i).add j=a.add (i+j):=by
 unfold Addr.add
 by_cases hi:i=0
 ·simp[hi]
 ·by_cases hj:j=0
  ·simp[hi,hj]
  ·simp[hi,hj]; omega
end
section
variable {H : Type} {enc : TypeId × Value → H} {W : World} {base b0 : Nat} {spare : Nat → Bool} {held : Bool} {v : Value} {d : DataW H} {ps : List MemPlace}
theorem fI {P:Program} {t:TypeId} {fs:Array Field} {fuel:Nat} {cs:List Value} {x:DataW H×List MemPlace} (ht:P.underlying t=some (.struct fs)) (h:DataW.trod enc P W base spare held fuel t cs=some x) (i:Nat) {f:Field} (hf:fs[i]? =some f):
  ∃n y,DataW.trod enc P W base spare held n f.type ((cs.drop f.offset).take (P.cellsOf f.type))=some y:=by
 obtain⟨xs,n,_,_,_,hlen,hF⟩:=DataW.trod_struct ht h;have hi:i<xs.length:=by rw[hlen]; exact(Array.getElem?_eq_some_iff.1 hf).1
 exact⟨n,xs[i],by rw[hF i f hf]; simp[hi]⟩
theorem lS {P:Program} {t:TypeId} {fs:Array Field} {fuel:Nat} {cs:List Value} {x:DataW H×List MemPlace} (ht:P.underlying t=some (.struct fs)) (h:DataW.trod enc P W base spare held fuel t cs=some x):cs.length=P.cellsOf t:=by
 obtain⟨xs,n,_,_,hl,_,_⟩:=DataW.trod_struct ht h;exact hl
theorem ug :Tryz.prog.cellsOf 9=1:=by kernel_rfl
theorem oM :Tryz.prog.cellsOf 3=1:=by kernel_rfl
theorem FK {v:Value} {l:List Value} (h:v.cells.toList=l) (hl:1<l.length):v= .agg l.toArray:=by
 cases v
 case agg cs=>simp only[Value.cells]at h; rw[<-h]
 all_goals (exfalso; simp only[Value.cells]at h; rw[<-h]at hl; simp at hl)
theorem rq :Tryz.prog.cellsOf 62=2:=by kernel_rfl
theorem wQ :Tryz.prog.cellsOf 25=1:=by kernel_rfl
theorem ro :Tryz.prog.cellsOf 27=7:=by kernel_rfl
theorem wP :Tryz.prog.cellsOf 22=1:=by kernel_rfl
theorem BS :Tryz.prog.cellsOf 24=2:=by kernel_rfl
theorem FA {α:Type} {cs:List α} (h:cs.length=2): ∃c0 c1,cs=[c0,c1]:=by
 match cs,h with
 | [c0,c1],_=>exact⟨c0,c1,rfl⟩
theorem Gs {α:Type} {cs:List α} (h:cs.length=7): ∃c0 c1 c2 c3 c4 c5 c6,cs=[c0,c1,c2,c3,c4,c5,c6]:=by
 match cs,h with
 | [c0,c1,c2,c3,c4,c5,c6],_=>exact⟨c0,c1,c2,c3,c4,c5,c6,rfl⟩
theorem pZ {α:Type} {R:List Value->α->Prop} {X:α->Prop} : ∀ {xs:List α} {cells:List Value},bB (fun c x=>R c x/\X x) cells xs->bB R cells xs/\ ∀x∈xs,X x
 | [],_,h=>⟨h,by simp⟩
 | x::xs,_,⟨c,rest,e,hx,hr⟩=>by
  obtain⟨h1,h2⟩:=pZ hr;refine⟨⟨c,rest,e,hx.1,h1⟩,fun y hy=> ?_⟩
  rcases List.mem_cons.1 hy with rfl | hy
  ·exact hx.2
  ·exact h2 y hy
end
section
variable {H : Type} {enc : TypeId × Value → H} {P : Program} {w : World} {base : Nat} {spare : Nat → Bool} {held : Bool}
end
section
variable {H : Type} {enc : TypeId × Value → H}
theorem GL {C:Checked} {os:Os} {f:FuncId} {fn:Func} {s:OpenSpec} {conds:List PathCond} {apart:Bool} {laid:List (String×DataW Unit)} (modest:Bool) (w0:World) (args:Array Value) (fuel:Nat) (hos:w0.os=os)
  (hsh:(w0.forCall (fun _ _=>0) ⟨#[],args,[]⟩).Shaped C.prog)
  (hok:Input.okWideB C.prog (w0.forCall (fun _ _=>0) ⟨#[],args,[]⟩) f ⟨#[],args,[]⟩=true)
  (hs:(DataW.whole enc C.prog (w0.forCall (fun _ _=>0) ⟨#[],args,[]⟩).memory fn.params.toList s.vars apart args.toList fuel).isSome=true)
  (hconds:conds.all (PathCond.test C.prog ⟨fn.params.toList,(Option.get _ hs).1,s.bare.plain.varTypes C.prog,(Option.get _ hs).2.1⟩)=true) (hkk: ∀k,s.cond=some k->k H ((Option.get _ hs).1++(Option.get _ hs).2.1)=true)
  (hsz:s.bare.sizedB enc C.prog fn apart (w0.forCall (fun _ _=>0) ⟨#[],args,[]⟩).memory args fuel=true) (hl:laidMetH C.prog laid (w0.forCall (fun _ _=>0) ⟨#[],args,[]⟩).memory):
  ∃(w:World) (tape:Tape) (i:Input),w.os=os/\(w.forCall tape i).Shaped C.prog/\i.vars=[]/\Input.okWide C.prog (w.forCall tape i) .any w.heap.size f i/\
   s.preRow enc C.prog fn conds apart laid (w.forCall tape i).memory i.args/\({modest:=modest} :Assume).holds C.prog (lone (Frame.enter C.prog f i.args .normal) [] (w.forCall tape i)):=
 ⟨w0,fun _ _=>0,⟨#[],args,[]⟩,hos,hsh,(Input.okWide_of_okWideB (base:=0) hok).1,(Input.okWide_of_okWideB hok).2,OpenSpec.preRow_of_cond fuel (Option.some_get hs).symm hconds hkk hsz hl,by
  simp only[Assume.holds];exact⟨by simp,by simp,fun _=>Modest.zero,by simp,by simp⟩⟩
end
theorem mT {H:Type} {d:DataW H} {l:List (DataW H)} (h:d∈l):Rows.uptoBulk d<=Rows.uptoBulkAll l:=by
 induction l with
 | nil=>cases h
 | cons x r ih=>
  simp only[Rows.uptoBulkAll]
  cases List.mem_cons.1 h with
  | inl e=>subst e; omega
  | inr e=>have:=ih e; omega
theorem wO {H:Type} {l:List (DataW H)} (hk:Rows.uptoSmall H l=true):Rows.uptoBulkAll l<=1048576:=of_decide_eq_true hk
section
variable {H : Type} {enc : TypeId × Value → H} {P : Program} {W : World} {base b0 : Nat} {spare : Nat → Bool} {held : Bool} {v : Value} {d : DataW H} {ps : List MemPlace}
def tT (d:DataW H):Prop:=Rows.uptoBulk d<=1048576
theorem BQ (d:DataW H):1<=Rows.uptoBulk d:=by
 cases d
 case lit l=>cases l<;> simp[Rows.uptoBulk]
 all_goals simp[Rows.uptoBulk]
theorem ue : ∀(l:List (DataW H)),l.length<=Rows.uptoBulkAll l
 | []=>by simp[Rows.uptoBulkAll]
 | d::l=>by
  have h1:=ue l;have h2:=BQ d;simp only[Rows.uptoBulkAll,List.length_cons]; omega
theorem Ct {l:List (DataW H)} (h:Rows.uptoSmall H l=true) {d:DataW H} (hd:d∈l):tT d:=Nat.le_trans (mT hd) (wO h)
theorem Bd {es rest:List (DataW H)} (h:tT (.slice es rest)):es.length<=1048576/\ ∀d∈es,tT d:=by
 unfold tT at h;simp only[Rows.uptoBulk]at h;have h1:=ue es;refine⟨by omega,fun d hd=> ?_⟩;have:=mT hd;unfold tT; omega
theorem DW {ds:List (DataW H)} (h:tT (.agg ds)): ∀d∈ds,tT d:=fun d hd=>by
 unfold tT at h;simp only[Rows.uptoBulk]at h;have:=mT hd;unfold tT; omega
theorem iK {P:Program} {t:TypeId} {fs:Array Field} {fuel:Nat} {cs:List Value} {x:DataW H×List MemPlace} (ht:P.underlying t=some (.struct fs)) (h:DataW.trod enc P W base spare held fuel t cs=some x) (hL:tT x.1) (i:Nat) {f:Field} (hf:fs[i]? =some f):
  ∃n y,DataW.trod enc P W base spare held n f.type ((cs.drop f.offset).take (P.cellsOf f.type))=some y/\tT y.1:=by
 obtain⟨xs,n,_,hx,_,hlen,hF⟩:=DataW.trod_struct ht h;have hi:i<xs.length:=by rw[hlen]; exact(Array.getElem?_eq_some_iff.1 hf).1
 refine⟨n,xs[i],by rw[hF i f hf]; simp[hi], ?_⟩;rw[hx]at hL;exact DW hL _ (List.mem_map.2 ⟨_,List.getElem_mem hi,rfl⟩)
theorem ze {α:Type} {P:Program} {R:List Value->α->Prop} {t e:TypeId} {sz:Nat} {fuel:Nat} {cs0:List Value} {y0:DataW H×List MemPlace} (ht:P.underlying t=some (.slice e)) (hc:P.cellsOf e=sz) (hpos:0<sz)
  (hR: ∀n cs y,DataW.trod enc P W base spare held n e cs=some y->tT y.1-> ∃x,R cs x) (hs: ∀c x,R c x->c.length=sz)
  (hf:DataW.trod enc P W base spare held fuel t cs0=some y0) (hL:tT y0.1): ∃v,cs0=[v]/\ ∃xs:List α,aY (fun _=>True) W sz R v xs/\xs.length<=1048576:=by
 rcases DataW.trod_slice ht hf with⟨hcs,_⟩ | ⟨a,len0,cap0,elems,rest,n,_,hcs,hy0,hb,hl,hm,hlen,hel,_,_⟩
 ·exact⟨_,hcs,[],aY.nil,by simp⟩
 ·refine⟨_,hcs, ?_⟩;rw[hc]at hel;rw[hy0]at hL;obtain⟨hL1,hL2⟩:=Bd hL;rw[List.length_map,hlen]at hL1;have each: ∀i,i<len0-> ∃cs x,R cs x/\cs.length=sz/\ ∀j,j<sz->W.cell? (a.add (i*sz+j))=cs[j]? :=by
   intro i hi;have h1:=hel i hi;rw[List.getElem?_eq_getElem (by omega),Option.bind_eq_some_iff]at h1;obtain⟨cs,hcs,hy⟩:=h1;obtain⟨x,hx⟩:=hR n cs _ hy (hL2 _ (List.mem_map.2 ⟨_,List.getElem_mem (by omega),rfl⟩));refine⟨cs,x,hx,hs cs x hx,fun j hj=> ?_⟩;have h3:=World.cells?_some hcs;rw[<-DV];exact h3.2.2 j hj
  have main: ∀m,m<=len0-> ∃(cells:List Value) (xs:List α),xs.length=m/\cells.length=m*sz/\bB R cells xs/\ ∀(j:Nat) u,cells[j]? =some u->W.cell? (a.add j)=some u:=by
   intro m
   induction m with
   | zero=>intro _; exact⟨[],[],rfl,by simp,rfl,fun j u hj=>by simp at hj⟩
   | succ m ih=>
    intro hm;obtain⟨cells,xs,h1,h2,h3,h4⟩:=ih (by omega);obtain⟨cs,x,hx,hcl,hcc⟩:=each m (by omega);refine⟨cells++cs,xs++[x],by simp[h1],by rw[List.length_append,h2,hcl,Nat.add_mul]; omega,bB.snoc h3 hx,fun j u hj=> ?_⟩
    rcases Nat.lt_or_ge j cells.length with hj2 | hj2
    ·rw[List.getElem?_append_left hj2]at hj; exact h4 j u hj
    ·rw[List.getElem?_append_right hj2]at hj;have hlt:=(List.getElem?_eq_some_iff.1 hj).1;have:=hcc (j-cells.length) (by omega);rw[h2,show m*sz+(j-m*sz)=j by omega]at this;rw[this,<-h2]; exact hj
  obtain⟨cells,xs,h1,h2,h3,h4⟩:=main len0 (Nat.le_refl _);subst h1;refine⟨xs,⟨cells,⟨h2,some a,cap0,rfl,hl,hm, ?_⟩,h3⟩,hL1⟩
  rcases Nat.eq_zero_or_pos xs.length with h0 | h0
  ·exact .inl h0
  ·right
   have hpl:0<cells.length:=by rw[h2]; exact Nat.mul_pos h0 hpos
   have hc0:=h4 0 cells[0] (by simp[hpl]);have hsp:a.spot=none:=by simpa [Addr.add]using World.cell?_spot hc0
   obtain⟨b,o,sp⟩:=a;simp only at hsp;subst hsp;refine⟨b,o,rfl,trivial,fun j u hj=> ?_⟩;have:=h4 j u hj;rw[sX]at this; exact this
end
section
variable {H : Type} {enc : TypeId × Value → H} {W : World} {base b0 : Nat} {spare : Nat → Bool} {held : Bool} {v : Value} {d : DataW H} {ps : List MemPlace}
theorem lQ {n:Nat} {t:TypeId} {cs:List Value} {x:DataW H×List MemPlace} {P:Program} (ht:P.underlying t=some .string) (h:DataW.trod enc P W base spare held n t cs=some x) (hL:tT x.1): ∃s:ByteArray,cs=[.string s]/\s.size<=maxLen/\s.size<=1048576:=by
 obtain⟨s,e,hx,hw⟩:=DataW.trod_string ht h;refine⟨s,e,hw, ?_⟩;rw[hx]at hL;unfold tT at hL;simp only[Rows.uptoBulk]at hL;have h4:s.data.toList.length=s.size:=rfl;omega
structure Bw (f : aw) : Prop where
 pth:f.path.size<=1048576
 lnk:f.link.size<=1048576
 len:f.parts.length<=1048576
 sum: ∀p∈f.parts,p.sum.size<=1048576
theorem xI {n:Nat} {cs:List Value} {y:DataW H×List MemPlace} (h:DataW.trod enc Tryz.prog W base spare held n 62 cs=some y) (hL:tT y.1): ∃p,dD cs p/\p.sum.size<=1048576:=by
 have hl:=lS Tryz.underlying62 h;rw[rq]at hl;obtain⟨c0,c1,rfl⟩:=FA hl;obtain⟨n0,y0,h0,hL0⟩:=iK Tryz.underlying62 h hL 0 rfl;obtain⟨n1,y1,h1⟩:=fI Tryz.underlying62 h 1 rfl;simp only[List.getElem_toArray,List.getElem_cons_zero,List.getElem_cons_succ,ug,oM]at h0 h1;obtain⟨a0,e0,g0,gb⟩:=lQ Tryz.underlying9 h0 hL0;obtain⟨a1,e1,_,g1⟩:=DataW.trod_int Tryz.underlying3 h1
 simp at e0 e1;subst e0 e1;exact⟨⟨a0,a1⟩,⟨rfl,⟨g0,g1⟩⟩,gb⟩
theorem xH {n:Nat} {cs:List Value} {y:DataW H×List MemPlace} (h:DataW.trod enc Tryz.prog W base spare held n 27 cs=some y) (hL:tT y.1): ∃f,dT (fun _=>True) W cs f/\Bw f:=by
 have hl:=lS Tryz.underlying27 h;rw[ro]at hl;obtain⟨c0,c1,c2,c3,c4,c5,c6,rfl⟩:=Gs hl;obtain⟨n0,y0,h0,hL0⟩:=iK Tryz.underlying27 h hL 0 rfl;obtain⟨n1,y1,h1⟩:=fI Tryz.underlying27 h 1 rfl;obtain⟨n2,y2,h2⟩:=fI Tryz.underlying27 h 2 rfl;obtain⟨n3,y3,h3⟩:=fI Tryz.underlying27 h 3 rfl;obtain⟨n4,y4,h4⟩:=fI Tryz.underlying27 h 4 rfl
 obtain⟨n5,y5,h5,hL5⟩:=iK Tryz.underlying27 h hL 5 rfl;obtain⟨n6,y6,h6,hL6⟩:=iK Tryz.underlying27 h hL 6 rfl;simp only[List.getElem_toArray,List.getElem_cons_zero,List.getElem_cons_succ,ug,oM,wQ]at h0 h1 h2 h3 h4 h5 h6;obtain⟨a0,e0,g0,k0⟩:=lQ Tryz.underlying9 h0 hL0;obtain⟨a5,e5,g5,k5⟩:=lQ Tryz.underlying9 h5 hL5;obtain⟨a1,e1,_,g1⟩:=DataW.trod_int Tryz.underlying3 h1
 obtain⟨a2,e2,_,g2⟩:=DataW.trod_int Tryz.underlying3 h2;obtain⟨a3,e3,_,g3⟩:=DataW.trod_int Tryz.underlying3 h3;obtain⟨a4,e4,_,g4⟩:=DataW.trod_int Tryz.underlying3 h4;obtain⟨a6,e6,ps,⟨cells,g6,g7⟩,gb⟩:=ze (R:=fun c p=>dD c p/\p.sum.size<=1048576) Tryz.underlying25 rq (by omega) (fun n cs y hy hf=>xI hy hf) (fun c x hx=>dD.len c x hx.1) h6 hL6
 obtain⟨g8,g9⟩:=pZ g7;simp at e0 e1 e2 e3 e4 e5 e6;subst e0 e1 e2 e3 e4 e5 e6;exact⟨⟨a0,a1,a2,a3,a4,a5,ps⟩,⟨_,rfl,⟨cells,g6,g8⟩,⟨g0,g5,g1,g2,g3,g4⟩⟩,⟨k0,k5,gb,g9⟩⟩
theorem Ae (h:DataW.Trod enc Tryz.prog W base spare held 24 v d ps) (hL:tT d): ∃(fv:Value) (x:cA),v=dQ fv x.tm/\aT (fun _=>True) W fv x.files/\(∀f∈x.files,Bw f)/\x.files.length<=1048576/\(Lit.int .i64 x.tm).wf=true:=by
 obtain⟨fuel,h⟩:=h;have hl:=lS Tryz.underlying24 h;rw[BS]at hl;obtain⟨c0,c1,hcs⟩:=FA hl;rw[hcs]at h;obtain⟨n0,y0,h0⟩:=fI Tryz.underlying24 h 0 rfl;obtain⟨n1,y1,h1,hL1⟩:=iK Tryz.underlying24 h hL 1 rfl;simp only[List.getElem_toArray,List.getElem_cons_zero,List.getElem_cons_succ,wP,oM]at h0 h1;obtain⟨a0,e0,_,g0⟩:=DataW.trod_int Tryz.underlying3 h0
 obtain⟨a1,e1,xs,⟨cells,h2,h3⟩,hn⟩:=ze (R:=fun c f=>dT (fun _=>True) W c f/\Bw f) Tryz.underlying22 ro (by omega) (fun n cs y hy hy2=>xH hy hy2) (fun c x hx=>dT.len c x hx.1) h1 hL1;simp at e0 e1;subst e0 e1;obtain⟨h4,h5⟩:=pZ h3;exact⟨_,⟨a0,xs⟩,FK hcs (by simp),⟨cells,h2,h4⟩,h5,hn,g0⟩
end
end Go.Proofs.YtnjkpcalgoefhaaGreatDoor
