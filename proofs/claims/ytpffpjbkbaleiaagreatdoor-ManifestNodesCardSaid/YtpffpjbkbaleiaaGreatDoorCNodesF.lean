/- Texts of this proof, one after the other: BldB, BldC, BldD, BldE, RGet, Pres, RGood, RefA, RefB, RItem. -/
import Derived.Test.YtpffpjbkbaleiaaGreatDoorCNodesE
set_option maxRecDepth 100000
set_option maxHeartbeats 8000000
namespace Go.Proofs.YtpffpjbkbaleiaaGreatDoor
open Go Go.RowKit Go.Maps
structure kq (w : World) : Prop where
 env:fN w
 envh:rA w
 deb:sL w
theorem kq.keep {B:Nat} {w w':World} (h:kq w) (hb:Below B w w') (h7:7<=B):kq w':=
 ⟨h.env.belowB hb (by omega) (by omega) (by omega),⟨fun j x hj=>(hb.cell (p:=⟨2,j,none⟩) (show 2<B by omega)).trans (h.envh.init j x hj),fun j x hj=>(hb.cell (p:=⟨5,j,none⟩) (show 5<B by omega)).trans (h.envh.kons j x hj),⟨(hb.cell (p:=⟨0,0,none⟩) (show 0<B by omega)).trans h.envh.pads.1,(hb.cell (p:=⟨0,1,none⟩) (show 0<B by omega)).trans h.envh.pads.2⟩,
  Nat.lt_of_lt_of_le h.envh.ilt hb.size,Nat.lt_of_lt_of_le h.envh.klt hb.size,Nat.lt_of_lt_of_le h.envh.plt hb.size⟩,h.deb.block (hb.block _ (show 6<B by omega)) hb.size⟩
theorem kq.seven {w:World} (h:kq w):7<=w.heap.size:=by
 have:=h.deb.lt;omega
theorem kq.below {w w':World} (h:kq w) (hb:Below w.heap.size w w'):kq w':=h.keep hb h.seven
theorem Ck {a:Act} {w:World} {b:Nat} {x0 x1 x2 e5:Value} (h:w.heap[b]? =some (.cells #[x0,x1,x2] 26 (0,0)))
  (h4:a.tmps[4]? =some (.pointer (some ⟨b,0,none⟩))) (h5:a.tmps[5]? =some e5):(results Tryz.f123 a.tmps).run Tryz.prog w= .ok (.tuple #[.agg #[x0,x1,x2],e5]) w:=by
 have m0:=aj (k:=0) h;have m1:=aj (k:=1) h;have m2:=aj (k:=2) h;simp only[aW]at m0 m1 m2;simp[results,Tryz.results123,go_sem,h4,h5,m0,m1,m2]
theorem nh {a:Act} {w:World} {b:Nat} {a0 a1 a2 x0 x1 x2 e5:Value} {Q:Ending->World->Prop} (h:w.heap[b]? =some (.cells #[a0,a1,a2] 26 (0,0)))
  (h4:a.tmps[4]? =some (.pointer (some ⟨b,0,none⟩))) (h5:a.tmps[5]? =some e5) (hd:a.defers=[])
  (hQ:Q (.returned (.tuple #[.agg #[x0,x1,x2],e5])) (((w.setCell ⟨b,0,none⟩ x0).setCell ⟨b,1,none⟩ x1).setCell ⟨b,2,none⟩ x2)):
  bodyPost Tryz.prog Tryz.f123 Q Exit.ret a (((w.setCell ⟨b,0,none⟩ x0).setCell ⟨b,1,none⟩ x1).setCell ⟨b,2,none⟩ x2):=bodyPost_ret (Ck (Bo h) h4 h5) hd hQ
theorem cR.ofGrown {base bb kb:Nat} {v:Value} {w w':World} (h:w.grownBy w' (some kb)) (hb:base<=w.heap.size) (hk:base<=kb):cR base bb kb v v w w':=
 ⟨(Below.refl base w).grown h hb (fun i e=>by cases e; exact hk),fun i h1 _ h3 _=>h.block i h1 (fun e=>h3 (Option.some.inj e)),fun _ e=> .inl e⟩
theorem cR.setNew {base bb kb b j:Nat} {v v' u:Value} {w w':World} (h:cR base bb kb v v' w w') (hb:w.heap.size<=b) (hbz:base<=w.heap.size):cR base bb kb v v' w (w'.setCell ⟨b,j,none⟩ u):=
 ⟨Below.setCell h.below (show base<=b by omega) u,fun i h1 h2 h3 h4=>(Below.heap_setCell _ _ _ _ (show i≠b by omega)).trans (h.same i h1 h2 h3 h4),h.place⟩
theorem dV.other {w w':World} {base bb im kb b:Nat} {k:bF} {c:dD} {gv v:Value} {bs:List bI} {cs:Array Value} {t:TypeId} {z:Nat×Nat} (h:dV w base bb k c gv im kb v bs) (hb:w.heap[b]? =some (.cells cs t z)) (h1:t≠122) (h2:t≠53) (h3:t≠5) (hs: ∀i,i≠b->i<w.heap.size->w'.heap[i]? =w.heap[i]?):dV w' base bb k c gv im kb v bs:=by
 obtain⟨zs,hz,hr,hd⟩:=h.own;refine⟨(hs bb (fun e=> ?_) (lt_of_block h.box)).trans h.box,⟨zs,hz,dp hr (fun i hi hu=>hs i (fun e=> ?_) hi),fun y hy=>dp (hd y hy) (fun i hi hu=>hs i (fun e=> ?_) hi)⟩,h.known.same (hs kb (fun e=>h.known.cells (by rw[e]; exact hb)) h.known.map.lt)⟩
 ·subst e; exact h1 (aI hb h.box)
 ·subst e;obtain⟨cs2,hc2⟩:=aA hr hu;exact h2 (aI hb hc2)
 ·subst e;obtain⟨cs2,hc2⟩:=aA (hd y hy) hu;exact h3 (aI hb hc2)
theorem re (gs:List (ByteArray×Int)) (hgs: ∀p∈gs,0<=p.2/\p.2<=1099511627776) (n:ByteArray):0<=ju gs n/\ju gs n<=1099511627776:=by
 unfold ju
 cases hf:gs.find? (fun p=>decide (p.1=n))with
 | none=>exact⟨by decide,by decide⟩
 | some p=>exact hgs p (List.mem_of_find?_eq_some hf)
theorem mh {S:Nat->Prop} {w:World} {v:Value} {bs:List UInt8} {kb:Nat} {l:List aN} (h:aF S w v bs) (hk:du w kb l):aF (fun i=>i≠kb/\i<w.heap.size) w v bs:=by
 obtain⟨h1,a,cap,rfl,h2,h3,h4⟩:=h;refine⟨h1,a,cap,rfl,h2,h3, ?_⟩
 rcases h4 with h4 | ⟨b,o,rfl,hS,hc⟩
 ·exact .inl h4
 ·cases bs with
  | nil=>exact .inl rfl
  | cons y ys=>
   have q:=hc 0 (an y) rfl;refine .inr ⟨b,o,rfl,⟨fun e=> ?_,aR q⟩,hc⟩;subst e;obtain⟨es,clock,hb,_⟩:=hk.map;simp[World.cell?,hb]at q
def uP (base bb kb:Nat) (k:bF) (c:dD) (gs:List (ByteArray×Int)) (gv:Value) (im:Nat) (v:Value) (bs:List bI) (x:List UInt8) (w:World) (e:Ending) (w':World):Prop:=
 e= .returned (.tuple #[bJ (aZ k gs x), .int .i64 0])/\ ∃v',dV w' base bb k c gv im kb v' (gw k gs bs x)/\cR base bb kb v v' w w'
theorem wI (S:Nat->Prop) (base bb kb im:Nat) (k:bF) (c:dD) (gs:List (ByteArray×Int)) (gv v cv:Value) (bs:List bI) (x:List UInt8) (w:World) (h:dV w base bb k c gv im kb v bs) (hk:fC k=true) (hg:gS (· <base) w gv gs) (hgs: ∀p∈gs,0<=p.2/\p.2<=1099511627776)
  (hx:aF S w cv x) (hl:x.length<=32768) (hE:kq w) (hbb:base<=bb) (hkb:base<=kb) (hbz:base<=w.heap.size) (_h7:7<=base) (hn:bs.length<1000000000000):
  Calls Tryz.prog 123 #[.pointer (some ⟨bb,0,none⟩),cv] w (uP base bb kb k c gs gv im v bs x w):=by
 obtain⟨_,a,cap,rfl,hcap,hcm,-⟩:=id hx;have HX:=ab hx;obtain⟨xl,hxl⟩: ∃xl,xl=x.length:=⟨_,rfl⟩;rw[<-hxl]at hl hcap ⊢;have HXL:=ab hxl;obtain⟨W0,hW0⟩: ∃W0,W0=(w.alloc (.cells #[.string ⟨#[]⟩, .int .i64 0, .int .i64 0] 26)).alloc (.cells #[.string ⟨#[]⟩, .int .i64 0, .int .i64 (xl:Int)] 26):=⟨_,rfl⟩;have hb0:Below w.heap.size w W0:=by rw[hW0]; exact((Below.refl _ _).alloc (Nat.le_refl _) _).alloc (by simp) _
 have HB0:=ab hb0;have HR0:=ab (show W0.heap[w.heap.size]? =some (.cells #[.string ⟨#[]⟩, .int .i64 0, .int .i64 0] 26 (0,0)) by rw[hW0]; exact iK (bY w _) _);have HF0:=ab (show W0.heap[w.heap.size+1]? =some (.cells #[.string ⟨#[]⟩, .int .i64 0, .int .i64 (xl:Int)] 26 (0,0)) by rw[hW0]; exact jC w _ _);have HBD:=ab (h.below hb0);have HH:=ab h;have HK:=ab hk;have HG:=ab hg
 have HGS:=ab hgs;have HE:=ab (hE.below hb0);have HEW:=ab hE;have hlt:bb<w.heap.size:=lt_of_block h.box;have HBOX:=ab HBD.out.box;have k0:=aa (k:=0) HBOX.out;have k1:=aa (k:=1) HBOX.out;have k2:=aa (k:=2) HBOX.out;have k3:=aa (k:=3) HBOX.out;have k4:=aa (k:=4) HBOX.out;have k10:=aa (k:=10) HBOX.out;have k12:=aa (k:=12) HBOX.out
 have k13:=aa (k:=13) HBOX.out;simp only[fQ,cY,dr,List.cons_append,List.nil_append,aW]at k0 k1 k2 k3 k4 k10 k12 k13;clear h hk hg hgs hx hE hb0 hxl hcm
 go_enter Tryz.func123,Tryz.ntmps123
 go_upto_region 3 with(fail)
 rw[<-hW0];clear hW0;have hX0:aF S W0 (.slice a xl cap) x:=by have h1:=HX.out; rw[<-HXL.out]at h1; exact aO.below h1 (by omega) HB0.out
 have hnm:=lq S k 0 x (.slice a xl cap) W0 HK.out (by omega) hX0 (by rw[<-HXL.out]; exact hl) HE.out.envh;unfold iy at hnm;have HNM:=ab hnm;have f0:=aa (k:=0) HF0.out;have fz0:=ai (k:=0) HF0.out;simp only[List.getElem?_toArray,List.getElem?_cons_zero]at f0;clear hnm;go_wp2_with fail;refine HNM.out.mono ?_;rintro e w1 ⟨rfl,hb1⟩;obtain⟨n0,hn0⟩: ∃n0,n0=ld k 0 x:=⟨_,rfl⟩
 rw[<-hn0];have hz0:n0.size=32:=by rw[hn0]; exact kE _ _ _
 have hf1:=(hb1.block _ (lt_of_block HF0.out)).trans HF0.out;have hr1:=(hb1.block _ (lt_of_block HR0.out)).trans HR0.out;have f0':=aa (k:=0) hf1;have fz0':=ai (k:=0) hf1;simp only[List.getElem?_toArray,List.getElem?_cons_zero]at f0';have HN0:=ab hn0;clear hn0 k0 k1 k2 k3 k4 k10 k12 k13 f0 fz0;go_wp2_with fail;obtain⟨W2,hW2⟩: ∃W2:World,W2=(w1.setCell ⟨w.heap.size+1,0,none⟩ (.string n0)).drew:=⟨_,rfl⟩
 have hb2:Below w.heap.size w W2:=by rw[hW2]; exact(Below.setCell (ah HB0.out hb1) (show w.heap.size<=w.heap.size+1 by omega) _).drew
 have HB2:=ab hb2;have hf2:=dq (k:=0) hf1 (.string n0);simp only[List.setIfInBounds_toArray,List.set_cons_zero]at hf2;have HF2:=ab (show W2.heap[w.heap.size+1]? =some (.cells #[.string n0, .int .i64 0, .int .i64 (xl:Int)] 26 (0,0)) by rw[hW2]; exact hf2);have HR2:=ab (show W2.heap[w.heap.size]? =some (.cells #[.string ⟨#[]⟩, .int .i64 0, .int .i64 0] 26 (0,0)) by rw[hW2]; exact(Below.heap_setCell _ _ _ _ (by show w.heap.size≠w.heap.size+1; omega)).trans hr1)
 have HBD2:=ab (HH.out.below hb2);have HBX2:=ab HBD2.out.box;have hgl:=Ap (HG.out.keep (w':=W2) (fun i h1 h2=>hb2.block i h2)) (n:=n0) (by rw[hz0]; unfold maxLen; omega);have HE2:=ab (HEW.out.below hb2);obtain⟨g,hg⟩: ∃g,g=ju gs n0:=⟨_,rfl⟩;have hgb:=re gs HGS.out n0;rw[<-hg]at hgl hgb;have HGN:=ab hg;have k0:=aa (k:=0) HBX2.out;have k1:=aa (k:=1) HBX2.out
 have k2:=aa (k:=2) HBX2.out;have k3:=aa (k:=3) HBX2.out;have k4:=aa (k:=4) HBX2.out;have k10:=aa (k:=10) HBX2.out;have k12:=aa (k:=12) HBX2.out;have k13:=aa (k:=13) HBX2.out;simp only[fQ,cY,dr,List.cons_append,List.nil_append,aW]at k0 k1 k2 k3 k4 k10 k12 k13;have f0:=aa (k:=0) HF2.out;simp only[List.getElem?_toArray,List.getElem?_cons_zero]at f0
 clear hf1 hr1 f0' fz0' hb2 hf2 hg hb1;refine aw [some 8] (by kernel_rfl) (by kernel_rfl) (by kernel_rfl) ?_;simp only[bi,List.take_succ_cons,List.take_zero];rw[<-hW2];clear hW2
 repeat (first | (refine aG rfl ?_; simp only[Act.put,aB,aC,aD]) | (refine aL rfl (fun K hK=> ?_); go_simp; refine hK _ ?_; clear hK K))
 refine aK ?_;obtain⟨r,hr⟩: ∃r,r=aZ k gs x:=⟨_,rfl⟩;have HRE:=ab hr;have hrs:r.size=(xl:Int):=by rw[hr,HXL.out]; rfl
 have hrg:r.gen=g:=by rw[hr,HGN.out,HN0.out]; rfl
 have hrn:r.name=ld k g.toNat x:=by rw[hr,HGN.out,HN0.out]; rfl
 have HRO:=ab (show bz r from⟨by rw[hrn,kE]; unfold maxLen; omega,by rw[hrg]; exact WalkArith.wf_i64 ⟨by omega,by omega⟩,by rw[hrs]; exact WalkArith.wf_i64 ⟨by omega,by omega⟩⟩);have HRN:=ab hrn;have HRG:=ab hrg;have HRS:=ab hrs;clear hr hrn hrg hrs k0 k1 k2 k3 k4 k10 k12 k13
 by_cases hg0:g=0
 ·go_wp2_with fail;have HF5:=ab (show W2.heap[w.heap.size+1]? =some (.cells #[.string r.name, .int .i64 r.gen, .int .i64 r.size] 26 (0,0)) by rw[HRN.out,HRG.out,HRS.out,hg0,Int.toNat_zero,<-HN0.out]; exact HF2.out);have HB5:=HB2;have HR5:=HR2;clear f0;obtain⟨W6,hW6⟩: ∃W6:World,W6=(W2).drew:=⟨_,rfl⟩;have hb6:Below (W2).heap.size (W2) W6:=by rw[hW6]; exact(Below.refl _ _).drew
  have HB6:=ab (ah HB5.out hb6);have HF6:=ab ((hb6.block _ (lt_of_block HF5.out)).trans HF5.out);have HR6:=ab ((hb6.block _ (lt_of_block HR5.out)).trans HR5.out);have HBD6:=ab (HH.out.below HB6.out);have HBX6:=ab HBD6.out.box;have k0:=aa (k:=0) HBX6.out;have k1:=aa (k:=1) HBX6.out;have k2:=aa (k:=2) HBX6.out;have k3:=aa (k:=3) HBX6.out;have k4:=aa (k:=4) HBX6.out
  have k10:=aa (k:=10) HBX6.out;have k12:=aa (k:=12) HBX6.out;have k13:=aa (k:=13) HBX6.out;simp only[fQ,cY,dr,List.cons_append,List.nil_append,aW]at k0 k1 k2 k3 k4 k10 k12 k13;have f0:=aa (k:=0) HF6.out;have f1:=aa (k:=1) HF6.out;have f2:=aa (k:=2) HF6.out;simp only[aW]at f0 f1 f2;have hlk:=HBD6.out.known.look HRO.out;unfold bJ at hlk
  by_cases hin:r∈bs.map bI.ref
  ·have e1:decide (r∈bs.map bI.ref)=true:=by simp[hin]
   rw[e1]at hlk;have HPB:=ab (show gw k gs bs x=bs by unfold gw; rw[<-HRE.out,if_pos hin]);clear hb6 hin e1;refine aw [some 7] (by kernel_rfl) (by kernel_rfl) (by kernel_rfl) ?_;simp only[bi,List.take_succ_cons,List.take_zero];rw[<-hW6];clear hW6
   repeat (first | (refine aG rfl ?_; simp only[Act.put,aB,aC,aD]) | (refine aL rfl (fun K hK=> ?_); go_simp; refine hK _ ?_; clear hK K))
   refine aK ?_;have z0:=aa (k:=0) HR6.out;have z1:=aa (k:=1) HR6.out;have z2:=aa (k:=2) HR6.out;have y0:=ai (k:=0) HR6.out;have y1:=ai (k:=1) HR6.out;have y2:=ai (k:=2) HR6.out;simp only[aW]at z0 z1 z2;go_wp2_with fail;refine nh HR6.out rfl rfl rfl ?_;refine⟨by rw[<-HRE.out]; rfl,v, ?_, ?_⟩
   ·rw[HPB.out];exact HBD6.out.other HR6.out (by decide) (by decide) (by decide) (fun i hi _=>bK hi)
   ·exact((((cR.ofBelow HB6.out hbz).setNew (Nat.le_refl _) hbz).setNew (Nat.le_refl _) hbz).setNew (Nat.le_refl _) hbz)
  ·have e1:decide (r∈bs.map bI.ref)=false:=by simp[hin]
   rw[e1]at hlk;have HPB:=ab (show gw k gs bs x=bs++[⟨r,x⟩] by unfold gw; rw[<-HRE.out,if_neg hin]);have HNI:=ab hin;clear hb6 hin e1;refine aw [some 7] (by kernel_rfl) (by kernel_rfl) (by kernel_rfl) ?_;simp only[bi,List.take_succ_cons,List.take_zero];rw[<-hW6];clear hW6
   repeat (first | (refine aG rfl ?_; simp only[Act.put,aB,aC,aD]) | (refine aL rfl (fun K hK=> ?_); go_simp; refine hK _ ?_; clear hK K))
   refine aK ?_;go_wp2_with fail;refine aw [some 5,none] (by kernel_rfl) (by kernel_rfl) (by kernel_rfl) ?_;simp only[bi,List.take_succ_cons,List.take_zero,List.drop_succ_cons,List.drop_zero]
   repeat (first | (refine aG rfl ?_; simp only[Act.put,aB,aC,aD]) | (refine aL rfl (fun K hK=> ?_); go_simp; refine hK _ ?_; clear hK K))
   refine aK ?_;refine bA rfl (fun K hK=> ?_);have HKd:=ab (HBD6.out.known.same (w':=W6.drew) rfl);go_wp2_with (at_mapUpdate; go_must (refine fq rfl _ _ _ rfl kb (bs.map bI.ref) HKd.out rfl r HRO.out rfl rfl HNI.out ?_); intro w7 hset hg7);obtain⟨W8,hW8⟩: ∃W8:World,W8=w7.drew:=⟨_,rfl⟩;have hg8:W6.grownBy W8 (some kb):=by rw[hW8]; exact az (b:=W6.drew) ⟨rfl,rfl,rfl,Nat.le_refl _,fun _ _ _=>rfl⟩ (az hg7 ⟨rfl,rfl,rfl,Nat.le_refl _,fun _ _ _=>rfl⟩)
   have HSET:=ab (show du W8 kb ((bs++[(⟨r,x⟩:bI)]).map bI.ref) by rw[hW8,List.map_append]; exact hset.same rfl);have hkw:kb<w.heap.size:=HH.out.known.map.lt;have hnkb:bb≠kb:=fun e=>HBD6.out.known.cells (e▸HBX6.out)
   have hbx8:=fM hg8 HBX6.out hnkb;have HBX8:=ab hbx8;have hf8:=fM hg8 HF6.out (by omega);have hr8:=fM hg8 HR6.out (by omega);have HF8:=ab hf8;have HR8:=ab hr8;obtain⟨zs,hzs,hbo⟩:=HBD6.out.own;have HZS:=ab hzs;have HBO8:=ab (show dP W8 base v zs from⟨hbo.row.kept hg8 (.inr (fun e=>by obtain⟨cs2,hc2⟩:=aA hbo.row e; exact HBD6.out.known.cells hc2)),fun z hz=>(hbo.dat z hz).kept hg8 (.inr (fun e=>by obtain⟨cs2,hc2⟩:=aA (hbo.dat z hz) e; exact HBD6.out.known.cells hc2))⟩)
   obtain⟨av,cv8,hv8,-,-⟩:=ak hbo.row;subst hv8;have HKP8:=ab ((cR.ofBelow HB6.out hbz).trans (cR.ofGrown (bb:=bb) (v:= .slice av zs.length cv8) hg8 (Nat.le_trans hbz HB6.out.size) hkb));have HZ8:=ab (Nat.le_trans HB6.out.size hg8.size);have HX8:=ab (show aO (fun _=>True) W8 1 (.slice a xl cap) xl (x.map an)from by
    have h1:=HX.out;rw[<-HXL.out]at h1;have h2:aF S W6 (.slice a xl cap) x:=aO.below h1 (by omega) HB6.out;have h3:=aO.same (w':=W8) (mh h2 HBD6.out.known) (fun i hi=>hg8.block i hi.2 (fun e=>hi.1 (Option.some.inj e)));have h4:=aO.weak (T:=fun _=>True) h3 (fun _ _=>trivial);rw[<-HXL.out]at h4;exact h4)
   clear hset hg7 hg8 hbx8 hf8 hr8 hzs hbo f0 f1 f2 k0 k1 k2 k3 k4 k10 k12 k13 hlk;have f0:=aa (k:=0) HF8.out;have f1:=aa (k:=1) HF8.out;have f2:=aa (k:=2) HF8.out;simp only[aW]at f0 f1 f2;have k0:=aa (k:=0) HBX8.out;have k1:=aa (k:=1) HBX8.out;have k2:=aa (k:=2) HBX8.out;have k3:=aa (k:=3) HBX8.out;have k4:=aa (k:=4) HBX8.out;have k10:=aa (k:=10) HBX8.out
   have k12:=aa (k:=12) HBX8.out;have k13:=aa (k:=13) HBX8.out;simp only[fQ,cY,dr,List.cons_append,List.nil_append,aW]at k0 k1 k2 k3 k4 k10 k12 k13;refine bS (fun w'=>w'.cell? ⟨bb,12,none⟩=some (.slice av zs.length cv8)/\w'.cell? ⟨w.heap.size+1,0,none⟩=some (.string r.name)/\w'.cell? ⟨w.heap.size+1,1,none⟩=some (.int .i64 r.gen)/\w'.cell? ⟨w.heap.size+1,2,none⟩=some (.int .i64 r.size)) (by kernel_rfl) (by kernel_rfl) ?_
   simp only[List.dropLast_cons_cons,List.dropLast_singleton,List.length_cons,List.length_nil,Nat.reduceAdd,Nat.reduceSub];rw[<-hW8];clear hW8;refine ag 0 rfl (by kernel_rfl) (by kernel_rfl) (by kernel_rfl) (fun _ _ _ h=>h) rfl ⟨k12,f0,f1,f2⟩ (by rintro w' ⟨hw1,hw2,hw3,hw4⟩; go_simp; rfl) ?_;simp only[Act.put,aB,aC,aD];refine ag 1 rfl (by kernel_rfl) (by kernel_rfl) (by kernel_rfl) (fun _ _ _ h=>h) rfl ⟨k12,f0,f1,f2⟩ (by rintro w' ⟨hw1,hw2,hw3,hw4⟩; go_simp; rfl) ?_
   simp only[Act.put,aB,aC,aD];refine ag 2 rfl (by kernel_rfl) (by kernel_rfl) (by kernel_rfl) (fun _ _ _ h=>h) rfl ⟨k12,f0,f1,f2⟩ (by rintro w' ⟨hw1,hw2,hw3,hw4⟩; go_simp; rfl) ?_;simp only[Act.put,aB,aC,aD];refine ag 3 rfl (by kernel_rfl) (by kernel_rfl) (by kernel_rfl) (fun _ _ _ h=>h) rfl ⟨k12,f0,f1,f2⟩ (by rintro w' ⟨hw1,hw2,hw3,hw4⟩; go_simp; rfl) ?_
   simp only[Act.put,aB,aC,aD];refine ag 4 rfl (by kernel_rfl) (by kernel_rfl) (by kernel_rfl) (fun _ _ _ h=>h) rfl ⟨k12,f0,f1,f2⟩ (by rintro w' ⟨hw1,hw2,hw3,hw4⟩; go_simp; rfl) ?_;simp only[Act.put,aB,aC,aD];refine ag 5 rfl (by kernel_rfl) (by kernel_rfl) (by kernel_rfl) (fun _ _ _ h=>h) rfl ⟨k12,f0,f1,f2⟩ (by rintro w' ⟨hw1,hw2,hw3,hw4⟩; go_simp; rfl) ?_
   simp only[Act.put,aB,aC,aD];refine ag 6 rfl (by kernel_rfl) (by kernel_rfl) (by kernel_rfl) (fun _ _ _ h=>h) rfl ⟨k12,f0,f1,f2⟩ (by rintro w' ⟨hw1,hw2,hw3,hw4⟩; go_simp; rfl) ?_;simp only[Act.put,aB,aC,aD];refine ar 7 rfl (by kernel_rfl) rfl (fun K hK=> ?_);have hxs:0+xl<1099511627775:=by omega
   go_wp2_with (at_builtin; go_must (refine bT Tryz.appBytes rfl _ _ rfl W8.heap.size (.slice none 0 0) 0 [] rfl (World.ownsRow_nil _ _ _ _) (.slice a xl cap) xl (x.map an) rfl HX8.out (cD x) hxs (Nat.le_refl _) ?_); intro v9 w9 hown9 hgrow9; rw[Nat.zero_add,List.nil_append]at hown9; obtain⟨a9,c9,rfl,-,-⟩:=ak hown9);have hb9:Below W8.heap.size W8 w9:=ep hgrow9
   have HB9:=ab hb9;have HO9:=ab (show w9.ownsRow base 5 1 (.slice a9 xl c9) x.length (x.map an) by rw[<-HXL.out]; exact cE hown9 (Nat.le_trans hbz HZ8.out));have HBX9:=ab ((hb9.block _ (lt_of_block HBX8.out)).trans HBX8.out);have HF9:=ab ((hb9.block _ (lt_of_block HF8.out)).trans HF8.out);clear hown9 hgrow9 hb9 hxs k0 k1 k2 k3 k4 k10 k12 k13 f0 f1 f2;have f0:=aa (k:=0) HF9.out
   have f1:=aa (k:=1) HF9.out;have f2:=aa (k:=2) HF9.out;simp only[aW]at f0 f1 f2;have k0:=aa (k:=0) HBX9.out;have k1:=aa (k:=1) HBX9.out;have k2:=aa (k:=2) HBX9.out;have k3:=aa (k:=3) HBX9.out;have k4:=aa (k:=4) HBX9.out;have k10:=aa (k:=10) HBX9.out;have k12:=aa (k:=12) HBX9.out;have k13:=aa (k:=13) HBX9.out;simp only[fQ,cY,dr,List.cons_append,List.nil_append,aW]at k0 k1 k2 k3 k4 k10 k12 k13
   refine⟨⟨k12,f0,f1,f2⟩, ?_⟩;refine ag 8 rfl (by kernel_rfl) (by kernel_rfl) (by kernel_rfl) (fun _ _ _ h=>h) rfl ⟨k12,f0,f1,f2⟩ (by rintro w' ⟨hw1,hw2,hw3,hw4⟩; go_simp; rfl) ?_;simp only[Act.put,aB,aC,aD];have hltb:bb<w9.heap.size:=lt_of_block HBX9.out;have hltf:w.heap.size+1<w9.heap.size:=lt_of_block HF9.out;have HAL:=ab ((Below.refl w9.heap.size w9).alloc (Nat.le_refl _) (.cells #[.string r.name, .int .i64 r.gen, .int .i64 r.size, .slice a9 xl c9] 53))
   have HS2:=ab (And.intro ((HAL.out.cell (p:=⟨bb,12,none⟩) hltb).trans k12) (And.intro ((HAL.out.cell (p:=⟨w.heap.size+1,0,none⟩) hltf).trans f0) (And.intro ((HAL.out.cell (p:=⟨w.heap.size+1,1,none⟩) hltf).trans f1) ((HAL.out.cell (p:=⟨w.heap.size+1,2,none⟩) hltf).trans f2))));refine ar 9 rfl (by kernel_rfl) rfl (fun K hK=> ?_);go_wp2_with fail
   (first | (refine⟨HS2.out, ?_⟩) | skip)
   refine ar 10 rfl (by kernel_rfl) rfl (fun K hK=> ?_);have hzl:zs.length<1000000000000:=by have h1:=hn; rw[<-HZS.out,List.length_map]at h1; exact h1
   have HR9:=ab (HBO8.out.below HB9.out);go_wp2_with (at_builtin; go_must (refine aP Tryz.appBlobs rfl _ _ rfl base (.slice av zs.length cv8) zs.length (em zs) rfl w9 [.string r.name, .int .i64 r.gen, .int .i64 r.size, .slice a9 xl c9] _ rfl rfl (qi (b:=⟨r,x⟩)) HR9.out.row (by omega) (by have:=HZ8.out; have:=HB9.out.size; omega) ?_); intro v' wc hown' hgrow' _ hpl; obtain⟨ae,ce,rfl,-,-⟩:=ak hown')
   have hne: ∀i cs t z,w9.heap[i]? =some (.cells cs t z)->t≠53->(Value.slice av zs.length cv8).ownBlock≠some i:=fun i cs t z hi ht e=>by
    obtain⟨cs2,hc2⟩:=aA HR9.out.row e;exact ht (aI hi hc2)
   have hr9:=(HB9.out.block _ (lt_of_block HR8.out)).trans HR8.out;have hbxc:=(hgrow'.block bb hltb (fun e=>hne _ _ _ _ HBX9.out (by decide) e.symm)).trans HBX9.out;have hfc:=(hgrow'.block (w.heap.size+1) hltf (fun e=>hne _ _ _ _ HF9.out (by decide) e.symm)).trans HF9.out;have hrc:=(hgrow'.block w.heap.size (lt_of_block hr9) (fun e=>hne _ _ _ _ hr9 (by decide) e.symm)).trans hr9;have HBXC:=ab hbxc
   have HFC:=ab hfc;have hpush:=dV.push (b:=⟨r,x⟩) HZS.out HBO8.out HBX8.out HSET.out HB9.out HO9.out hown' hgrow' hpl hbb (Nat.le_trans hbz HZ8.out);have HPU:=ab hpush;have hbbw:=hlt;have HF12:=ab ((Below.heap_setCell wc ⟨bb,12,none⟩ (.slice ae (zs.length+1) ce) (w.heap.size+1) (by show w.heap.size+1≠bb; omega)).trans hfc);have HR12:=ab ((Below.heap_setCell wc ⟨bb,12,none⟩ (.slice ae (zs.length+1) ce) w.heap.size (by show w.heap.size≠bb; omega)).trans hrc)
   clear hown' hgrow' hpl hpush hne hr9 hbxc hfc hrc k0 k1 k2 k3 k4 k10 k12 k13 f0 f1 f2;have f0:=aa (k:=0) HFC.out;have f1:=aa (k:=1) HFC.out;have f2:=aa (k:=2) HFC.out;simp only[aW]at f0 f1 f2;have k0:=aa (k:=0) HBXC.out;have k1:=aa (k:=1) HBXC.out;have k2:=aa (k:=2) HBXC.out;have k3:=aa (k:=3) HBXC.out;have k4:=aa (k:=4) HBXC.out
   have k10:=aa (k:=10) HBXC.out;have k12:=aa (k:=12) HBXC.out;have k13:=aa (k:=13) HBXC.out;simp only[fQ,cY,dr,List.cons_append,List.nil_append,aW]at k0 k1 k2 k3 k4 k10 k12 k13;have kz12:=ai (k:=12) HBXC.out;refine⟨⟨k12,f0,f1,f2⟩, ?_⟩;refine ag 11 rfl (by kernel_rfl) (by kernel_rfl) (by kernel_rfl) (fun _ _ _ h=>h) rfl ⟨k12,f0,f1,f2⟩ (by rintro w' ⟨hw1,hw2,hw3,hw4⟩; go_simp; rfl) ?_
   simp only[Act.put,aB,aC,aD];refine ag 12 rfl (by kernel_rfl) (by kernel_rfl) (by kernel_rfl) (fun _ _ _ h=>h) rfl ⟨k12,f0,f1,f2⟩ (by rintro w' ⟨hw1,hw2,hw3,hw4⟩; go_simp; rfl) ?_;simp only[Act.put,aB,aC,aD];refine aS (by kernel_rfl) ?_;refine bZ rfl rfl (fun K hK=> ?_)
   go_upto_region 13 with(fail)
   obtain⟨W12,hW12⟩: ∃W12:World,W12=wc.setCell ⟨bb,12,none⟩ (.slice ae (zs.length+1) ce):=⟨_,rfl⟩;rw[<-hW12]at HPU HF12 HR12 ⊢;clear hW12 k0 k1 k2 k3 k4 k10 k12 k13 f0 f1 f2 kz12;have f0:=aa (k:=0) HF12.out;have f1:=aa (k:=1) HF12.out;have f2:=aa (k:=2) HF12.out;simp only[aW]at f0 f1 f2;have z0:=aa (k:=0) HR12.out;have z1:=aa (k:=1) HR12.out
   have z2:=aa (k:=2) HR12.out;have y0:=ai (k:=0) HR12.out;have y1:=ai (k:=1) HR12.out;have y2:=ai (k:=2) HR12.out;simp only[aW]at z0 z1 z2;go_wp2_with fail;refine nh HR12.out rfl rfl rfl ?_;refine⟨by rw[<-HRE.out]; rfl, .slice ae (zs.length+1) ce,And.symm ⟨?_, ?_⟩⟩
   ·exact(((HKP8.out.trans HPU.out.2).setNew (Nat.le_refl _) hbz).setNew (Nat.le_refl _) hbz).setNew (Nat.le_refl _) hbz
   ·rw[HPB.out];exact HPU.out.1.other HR12.out (by decide) (by decide) (by decide) (fun i hi _=>bK hi)
 ·have f1:=aa (k:=1) HF2.out;have fz1:=ai (k:=1) HF2.out;simp only[aW]at f1
  go_upto_region 7 with(fail)
  obtain⟨W3,hW3⟩: ∃W3:World,W3=W2.setCell ⟨w.heap.size+1,1,none⟩ (.int .i64 g):=⟨_,rfl⟩;rw[<-hW3];have hb3:Below w.heap.size w W3:=by rw[hW3]; exact Below.setCell HB2.out (show w.heap.size<=w.heap.size+1 by omega) _
  have HB3:=ab hb3;have hf3:=dq (k:=1) HF2.out (.int .i64 g);simp only[List.setIfInBounds_toArray,List.set_cons_succ,List.set_cons_zero]at hf3;have HF3:=ab (show W3.heap[w.heap.size+1]? =some (.cells #[.string n0, .int .i64 g, .int .i64 (xl:Int)] 26 (0,0)) by rw[hW3]; exact hf3);have HR3:=ab (show W3.heap[w.heap.size]? =some (.cells #[.string ⟨#[]⟩, .int .i64 0, .int .i64 0] 26 (0,0)) by rw[hW3]; exact(Below.heap_setCell _ _ _ _ (by show w.heap.size≠w.heap.size+1; omega)).trans HR2.out)
  have HBD3:=ab (HH.out.below hb3);have HBX3:=ab HBD3.out.box;have hX3:aF S W3 (.slice a xl cap) x:=by have h1:=HX.out; rw[<-HXL.out]at h1; exact aO.below h1 (by omega) hb3
  have hnm:=lq S k g.toNat x (.slice a xl cap) W3 HK.out (by omega) hX3 (by rw[<-HXL.out]; exact hl) (HEW.out.below hb3).envh;rw[Int.toNat_of_nonneg hgb.1,<-HRN.out]at hnm;unfold iy at hnm;have HNM3:=ab hnm;have k0:=aa (k:=0) HBX3.out;have k1:=aa (k:=1) HBX3.out;have k2:=aa (k:=2) HBX3.out;have k3:=aa (k:=3) HBX3.out;have k4:=aa (k:=4) HBX3.out
  have k10:=aa (k:=10) HBX3.out;have k12:=aa (k:=12) HBX3.out;have k13:=aa (k:=13) HBX3.out;simp only[fQ,cY,dr,List.cons_append,List.nil_append,aW]at k0 k1 k2 k3 k4 k10 k12 k13;clear hW3 hb3 hf3 hnm f0 f1 fz1;go_wp2_with fail;refine HNM3.out.mono ?_;rintro e w4 ⟨rfl,hb4⟩;have hf4:=(hb4.block _ (lt_of_block HF3.out)).trans HF3.out;have hr4:=(hb4.block _ (lt_of_block HR3.out)).trans HR3.out
  have f0:=aa (k:=0) hf4;have fz0:=ai (k:=0) hf4;simp only[List.getElem?_toArray,List.getElem?_cons_zero]at f0;clear k0 k1 k2 k3 k4 k10 k12 k13;go_wp2_with fail;obtain⟨W5,hW5⟩: ∃W5:World,W5=w4.setCell ⟨w.heap.size+1,0,none⟩ (.string r.name):=⟨_,rfl⟩;rw[<-hW5];have HB5:=ab (show Below w.heap.size w W5 by rw[hW5]; exact Below.setCell (ah HB3.out hb4) (show w.heap.size<=w.heap.size+1 by omega) _)
  have hf5:=dq (k:=0) hf4 (.string r.name);simp only[List.setIfInBounds_toArray,List.set_cons_zero]at hf5;have HF5:=ab (show W5.heap[w.heap.size+1]? =some (.cells #[.string r.name, .int .i64 r.gen, .int .i64 r.size] 26 (0,0)) by rw[hW5,HRG.out,HRS.out]; exact hf5);have HR5:=ab (show W5.heap[w.heap.size]? =some (.cells #[.string ⟨#[]⟩, .int .i64 0, .int .i64 0] 26 (0,0)) by rw[hW5]; exact(Below.heap_setCell _ _ _ _ (by show w.heap.size≠w.heap.size+1; omega)).trans hr4)
  clear hW5 hf4 hr4 f0 fz0 hb4 hf5;obtain⟨W6,hW6⟩: ∃W6:World,W6=(W5).drew:=⟨_,rfl⟩;have hb6:Below (W5).heap.size (W5) W6:=by rw[hW6]; exact(Below.refl _ _).drew
  have HB6:=ab (ah HB5.out hb6);have HF6:=ab ((hb6.block _ (lt_of_block HF5.out)).trans HF5.out);have HR6:=ab ((hb6.block _ (lt_of_block HR5.out)).trans HR5.out);have HBD6:=ab (HH.out.below HB6.out);have HBX6:=ab HBD6.out.box;have k0:=aa (k:=0) HBX6.out;have k1:=aa (k:=1) HBX6.out;have k2:=aa (k:=2) HBX6.out;have k3:=aa (k:=3) HBX6.out;have k4:=aa (k:=4) HBX6.out
  have k10:=aa (k:=10) HBX6.out;have k12:=aa (k:=12) HBX6.out;have k13:=aa (k:=13) HBX6.out;simp only[fQ,cY,dr,List.cons_append,List.nil_append,aW]at k0 k1 k2 k3 k4 k10 k12 k13;have f0:=aa (k:=0) HF6.out;have f1:=aa (k:=1) HF6.out;have f2:=aa (k:=2) HF6.out;simp only[aW]at f0 f1 f2;have hlk:=HBD6.out.known.look HRO.out;unfold bJ at hlk
  by_cases hin:r∈bs.map bI.ref
  ·have e1:decide (r∈bs.map bI.ref)=true:=by simp[hin]
   rw[e1]at hlk;have HPB:=ab (show gw k gs bs x=bs by unfold gw; rw[<-HRE.out,if_pos hin]);clear hb6 hin e1;refine aw [some 7] (by kernel_rfl) (by kernel_rfl) (by kernel_rfl) ?_;simp only[bi,List.take_succ_cons,List.take_zero];rw[<-hW6];clear hW6
   repeat (first | (refine aG rfl ?_; simp only[Act.put,aB,aC,aD]) | (refine aL rfl (fun K hK=> ?_); go_simp; refine hK _ ?_; clear hK K))
   refine aK ?_;have z0:=aa (k:=0) HR6.out;have z1:=aa (k:=1) HR6.out;have z2:=aa (k:=2) HR6.out;have y0:=ai (k:=0) HR6.out;have y1:=ai (k:=1) HR6.out;have y2:=ai (k:=2) HR6.out;simp only[aW]at z0 z1 z2;go_wp2_with fail;refine nh HR6.out rfl rfl rfl ?_;refine⟨by rw[<-HRE.out]; rfl,v, ?_, ?_⟩
   ·rw[HPB.out];exact HBD6.out.other HR6.out (by decide) (by decide) (by decide) (fun i hi _=>bK hi)
   ·exact((((cR.ofBelow HB6.out hbz).setNew (Nat.le_refl _) hbz).setNew (Nat.le_refl _) hbz).setNew (Nat.le_refl _) hbz)
  ·have e1:decide (r∈bs.map bI.ref)=false:=by simp[hin]
   rw[e1]at hlk;have HPB:=ab (show gw k gs bs x=bs++[⟨r,x⟩] by unfold gw; rw[<-HRE.out,if_neg hin]);have HNI:=ab hin;clear hb6 hin e1;refine aw [some 7] (by kernel_rfl) (by kernel_rfl) (by kernel_rfl) ?_;simp only[bi,List.take_succ_cons,List.take_zero];rw[<-hW6];clear hW6
   repeat (first | (refine aG rfl ?_; simp only[Act.put,aB,aC,aD]) | (refine aL rfl (fun K hK=> ?_); go_simp; refine hK _ ?_; clear hK K))
   refine aK ?_;go_wp2_with fail;refine aw [some 5,none] (by kernel_rfl) (by kernel_rfl) (by kernel_rfl) ?_;simp only[bi,List.take_succ_cons,List.take_zero,List.drop_succ_cons,List.drop_zero]
   repeat (first | (refine aG rfl ?_; simp only[Act.put,aB,aC,aD]) | (refine aL rfl (fun K hK=> ?_); go_simp; refine hK _ ?_; clear hK K))
   refine aK ?_;refine bA rfl (fun K hK=> ?_);have HKd:=ab (HBD6.out.known.same (w':=W6.drew) rfl);go_wp2_with (at_mapUpdate; go_must (refine fq rfl _ _ _ rfl kb (bs.map bI.ref) HKd.out rfl r HRO.out rfl rfl HNI.out ?_); intro w7 hset hg7);obtain⟨W8,hW8⟩: ∃W8:World,W8=w7.drew:=⟨_,rfl⟩;have hg8:W6.grownBy W8 (some kb):=by rw[hW8]; exact az (b:=W6.drew) ⟨rfl,rfl,rfl,Nat.le_refl _,fun _ _ _=>rfl⟩ (az hg7 ⟨rfl,rfl,rfl,Nat.le_refl _,fun _ _ _=>rfl⟩)
   have HSET:=ab (show du W8 kb ((bs++[(⟨r,x⟩:bI)]).map bI.ref) by rw[hW8,List.map_append]; exact hset.same rfl);have hkw:kb<w.heap.size:=HH.out.known.map.lt;have hnkb:bb≠kb:=fun e=>HBD6.out.known.cells (e▸HBX6.out)
   have hbx8:=fM hg8 HBX6.out hnkb;have HBX8:=ab hbx8;have hf8:=fM hg8 HF6.out (by omega);have hr8:=fM hg8 HR6.out (by omega);have HF8:=ab hf8;have HR8:=ab hr8;obtain⟨zs,hzs,hbo⟩:=HBD6.out.own;have HZS:=ab hzs;have HBO8:=ab (show dP W8 base v zs from⟨hbo.row.kept hg8 (.inr (fun e=>by obtain⟨cs2,hc2⟩:=aA hbo.row e; exact HBD6.out.known.cells hc2)),fun z hz=>(hbo.dat z hz).kept hg8 (.inr (fun e=>by obtain⟨cs2,hc2⟩:=aA (hbo.dat z hz) e; exact HBD6.out.known.cells hc2))⟩)
   obtain⟨av,cv8,hv8,-,-⟩:=ak hbo.row;subst hv8;have HKP8:=ab ((cR.ofBelow HB6.out hbz).trans (cR.ofGrown (bb:=bb) (v:= .slice av zs.length cv8) hg8 (Nat.le_trans hbz HB6.out.size) hkb));have HZ8:=ab (Nat.le_trans HB6.out.size hg8.size);have HX8:=ab (show aO (fun _=>True) W8 1 (.slice a xl cap) xl (x.map an)from by
    have h1:=HX.out;rw[<-HXL.out]at h1;have h2:aF S W6 (.slice a xl cap) x:=aO.below h1 (by omega) HB6.out;have h3:=aO.same (w':=W8) (mh h2 HBD6.out.known) (fun i hi=>hg8.block i hi.2 (fun e=>hi.1 (Option.some.inj e)));have h4:=aO.weak (T:=fun _=>True) h3 (fun _ _=>trivial);rw[<-HXL.out]at h4;exact h4)
   clear hset hg7 hg8 hbx8 hf8 hr8 hzs hbo f0 f1 f2 k0 k1 k2 k3 k4 k10 k12 k13 hlk;have f0:=aa (k:=0) HF8.out;have f1:=aa (k:=1) HF8.out;have f2:=aa (k:=2) HF8.out;simp only[aW]at f0 f1 f2;have k0:=aa (k:=0) HBX8.out;have k1:=aa (k:=1) HBX8.out;have k2:=aa (k:=2) HBX8.out;have k3:=aa (k:=3) HBX8.out;have k4:=aa (k:=4) HBX8.out;have k10:=aa (k:=10) HBX8.out
   have k12:=aa (k:=12) HBX8.out;have k13:=aa (k:=13) HBX8.out;simp only[fQ,cY,dr,List.cons_append,List.nil_append,aW]at k0 k1 k2 k3 k4 k10 k12 k13;refine bS (fun w'=>w'.cell? ⟨bb,12,none⟩=some (.slice av zs.length cv8)/\w'.cell? ⟨w.heap.size+1,0,none⟩=some (.string r.name)/\w'.cell? ⟨w.heap.size+1,1,none⟩=some (.int .i64 r.gen)/\w'.cell? ⟨w.heap.size+1,2,none⟩=some (.int .i64 r.size)) (by kernel_rfl) (by kernel_rfl) ?_
   simp only[List.dropLast_cons_cons,List.dropLast_singleton,List.length_cons,List.length_nil,Nat.reduceAdd,Nat.reduceSub];rw[<-hW8];clear hW8;refine ag 0 rfl (by kernel_rfl) (by kernel_rfl) (by kernel_rfl) (fun _ _ _ h=>h) rfl ⟨k12,f0,f1,f2⟩ (by rintro w' ⟨hw1,hw2,hw3,hw4⟩; go_simp; rfl) ?_;simp only[Act.put,aB,aC,aD];refine ag 1 rfl (by kernel_rfl) (by kernel_rfl) (by kernel_rfl) (fun _ _ _ h=>h) rfl ⟨k12,f0,f1,f2⟩ (by rintro w' ⟨hw1,hw2,hw3,hw4⟩; go_simp; rfl) ?_
   simp only[Act.put,aB,aC,aD];refine ag 2 rfl (by kernel_rfl) (by kernel_rfl) (by kernel_rfl) (fun _ _ _ h=>h) rfl ⟨k12,f0,f1,f2⟩ (by rintro w' ⟨hw1,hw2,hw3,hw4⟩; go_simp; rfl) ?_;simp only[Act.put,aB,aC,aD];refine ag 3 rfl (by kernel_rfl) (by kernel_rfl) (by kernel_rfl) (fun _ _ _ h=>h) rfl ⟨k12,f0,f1,f2⟩ (by rintro w' ⟨hw1,hw2,hw3,hw4⟩; go_simp; rfl) ?_
   simp only[Act.put,aB,aC,aD];refine ag 4 rfl (by kernel_rfl) (by kernel_rfl) (by kernel_rfl) (fun _ _ _ h=>h) rfl ⟨k12,f0,f1,f2⟩ (by rintro w' ⟨hw1,hw2,hw3,hw4⟩; go_simp; rfl) ?_;simp only[Act.put,aB,aC,aD];refine ag 5 rfl (by kernel_rfl) (by kernel_rfl) (by kernel_rfl) (fun _ _ _ h=>h) rfl ⟨k12,f0,f1,f2⟩ (by rintro w' ⟨hw1,hw2,hw3,hw4⟩; go_simp; rfl) ?_
   simp only[Act.put,aB,aC,aD];refine ag 6 rfl (by kernel_rfl) (by kernel_rfl) (by kernel_rfl) (fun _ _ _ h=>h) rfl ⟨k12,f0,f1,f2⟩ (by rintro w' ⟨hw1,hw2,hw3,hw4⟩; go_simp; rfl) ?_;simp only[Act.put,aB,aC,aD];refine ar 7 rfl (by kernel_rfl) rfl (fun K hK=> ?_);have hxs:0+xl<1099511627775:=by omega
   go_wp2_with (at_builtin; go_must (refine bT Tryz.appBytes rfl _ _ rfl W8.heap.size (.slice none 0 0) 0 [] rfl (World.ownsRow_nil _ _ _ _) (.slice a xl cap) xl (x.map an) rfl HX8.out (cD x) hxs (Nat.le_refl _) ?_); intro v9 w9 hown9 hgrow9; rw[Nat.zero_add,List.nil_append]at hown9; obtain⟨a9,c9,rfl,-,-⟩:=ak hown9);have hb9:Below W8.heap.size W8 w9:=ep hgrow9
   have HB9:=ab hb9;have HO9:=ab (show w9.ownsRow base 5 1 (.slice a9 xl c9) x.length (x.map an) by rw[<-HXL.out]; exact cE hown9 (Nat.le_trans hbz HZ8.out));have HBX9:=ab ((hb9.block _ (lt_of_block HBX8.out)).trans HBX8.out);have HF9:=ab ((hb9.block _ (lt_of_block HF8.out)).trans HF8.out);clear hown9 hgrow9 hb9 hxs k0 k1 k2 k3 k4 k10 k12 k13 f0 f1 f2;have f0:=aa (k:=0) HF9.out
   have f1:=aa (k:=1) HF9.out;have f2:=aa (k:=2) HF9.out;simp only[aW]at f0 f1 f2;have k0:=aa (k:=0) HBX9.out;have k1:=aa (k:=1) HBX9.out;have k2:=aa (k:=2) HBX9.out;have k3:=aa (k:=3) HBX9.out;have k4:=aa (k:=4) HBX9.out;have k10:=aa (k:=10) HBX9.out;have k12:=aa (k:=12) HBX9.out;have k13:=aa (k:=13) HBX9.out;simp only[fQ,cY,dr,List.cons_append,List.nil_append,aW]at k0 k1 k2 k3 k4 k10 k12 k13
   refine⟨⟨k12,f0,f1,f2⟩, ?_⟩;refine ag 8 rfl (by kernel_rfl) (by kernel_rfl) (by kernel_rfl) (fun _ _ _ h=>h) rfl ⟨k12,f0,f1,f2⟩ (by rintro w' ⟨hw1,hw2,hw3,hw4⟩; go_simp; rfl) ?_;simp only[Act.put,aB,aC,aD];have hltb:bb<w9.heap.size:=lt_of_block HBX9.out;have hltf:w.heap.size+1<w9.heap.size:=lt_of_block HF9.out;have HAL:=ab ((Below.refl w9.heap.size w9).alloc (Nat.le_refl _) (.cells #[.string r.name, .int .i64 r.gen, .int .i64 r.size, .slice a9 xl c9] 53))
   have HS2:=ab (And.intro ((HAL.out.cell (p:=⟨bb,12,none⟩) hltb).trans k12) (And.intro ((HAL.out.cell (p:=⟨w.heap.size+1,0,none⟩) hltf).trans f0) (And.intro ((HAL.out.cell (p:=⟨w.heap.size+1,1,none⟩) hltf).trans f1) ((HAL.out.cell (p:=⟨w.heap.size+1,2,none⟩) hltf).trans f2))));refine ar 9 rfl (by kernel_rfl) rfl (fun K hK=> ?_);go_wp2_with fail
   (first | (refine⟨HS2.out, ?_⟩) | skip)
   refine ar 10 rfl (by kernel_rfl) rfl (fun K hK=> ?_);have hzl:zs.length<1000000000000:=by have h1:=hn; rw[<-HZS.out,List.length_map]at h1; exact h1
   have HR9:=ab (HBO8.out.below HB9.out);go_wp2_with (at_builtin; go_must (refine aP Tryz.appBlobs rfl _ _ rfl base (.slice av zs.length cv8) zs.length (em zs) rfl w9 [.string r.name, .int .i64 r.gen, .int .i64 r.size, .slice a9 xl c9] _ rfl rfl (qi (b:=⟨r,x⟩)) HR9.out.row (by omega) (by have:=HZ8.out; have:=HB9.out.size; omega) ?_); intro v' wc hown' hgrow' _ hpl; obtain⟨ae,ce,rfl,-,-⟩:=ak hown')
   have hne: ∀i cs t z,w9.heap[i]? =some (.cells cs t z)->t≠53->(Value.slice av zs.length cv8).ownBlock≠some i:=fun i cs t z hi ht e=>by
    obtain⟨cs2,hc2⟩:=aA HR9.out.row e;exact ht (aI hi hc2)
   have hr9:=(HB9.out.block _ (lt_of_block HR8.out)).trans HR8.out;have hbxc:=(hgrow'.block bb hltb (fun e=>hne _ _ _ _ HBX9.out (by decide) e.symm)).trans HBX9.out;have hfc:=(hgrow'.block (w.heap.size+1) hltf (fun e=>hne _ _ _ _ HF9.out (by decide) e.symm)).trans HF9.out;have hrc:=(hgrow'.block w.heap.size (lt_of_block hr9) (fun e=>hne _ _ _ _ hr9 (by decide) e.symm)).trans hr9;have HBXC:=ab hbxc
   have HFC:=ab hfc;have hpush:=dV.push (b:=⟨r,x⟩) HZS.out HBO8.out HBX8.out HSET.out HB9.out HO9.out hown' hgrow' hpl hbb (Nat.le_trans hbz HZ8.out);have HPU:=ab hpush;have hbbw:=hlt;have HF12:=ab ((Below.heap_setCell wc ⟨bb,12,none⟩ (.slice ae (zs.length+1) ce) (w.heap.size+1) (by show w.heap.size+1≠bb; omega)).trans hfc);have HR12:=ab ((Below.heap_setCell wc ⟨bb,12,none⟩ (.slice ae (zs.length+1) ce) w.heap.size (by show w.heap.size≠bb; omega)).trans hrc)
   clear hown' hgrow' hpl hpush hne hr9 hbxc hfc hrc k0 k1 k2 k3 k4 k10 k12 k13 f0 f1 f2;have f0:=aa (k:=0) HFC.out;have f1:=aa (k:=1) HFC.out;have f2:=aa (k:=2) HFC.out;simp only[aW]at f0 f1 f2;have k0:=aa (k:=0) HBXC.out;have k1:=aa (k:=1) HBXC.out;have k2:=aa (k:=2) HBXC.out;have k3:=aa (k:=3) HBXC.out;have k4:=aa (k:=4) HBXC.out
   have k10:=aa (k:=10) HBXC.out;have k12:=aa (k:=12) HBXC.out;have k13:=aa (k:=13) HBXC.out;simp only[fQ,cY,dr,List.cons_append,List.nil_append,aW]at k0 k1 k2 k3 k4 k10 k12 k13;have kz12:=ai (k:=12) HBXC.out;refine⟨⟨k12,f0,f1,f2⟩, ?_⟩;refine ag 11 rfl (by kernel_rfl) (by kernel_rfl) (by kernel_rfl) (fun _ _ _ h=>h) rfl ⟨k12,f0,f1,f2⟩ (by rintro w' ⟨hw1,hw2,hw3,hw4⟩; go_simp; rfl) ?_
   simp only[Act.put,aB,aC,aD];refine ag 12 rfl (by kernel_rfl) (by kernel_rfl) (by kernel_rfl) (fun _ _ _ h=>h) rfl ⟨k12,f0,f1,f2⟩ (by rintro w' ⟨hw1,hw2,hw3,hw4⟩; go_simp; rfl) ?_;simp only[Act.put,aB,aC,aD];refine aS (by kernel_rfl) ?_;refine bZ rfl rfl (fun K hK=> ?_)
   go_upto_region 13 with(fail)
   obtain⟨W12,hW12⟩: ∃W12:World,W12=wc.setCell ⟨bb,12,none⟩ (.slice ae (zs.length+1) ce):=⟨_,rfl⟩;rw[<-hW12]at HPU HF12 HR12 ⊢;clear hW12 k0 k1 k2 k3 k4 k10 k12 k13 f0 f1 f2 kz12;have f0:=aa (k:=0) HF12.out;have f1:=aa (k:=1) HF12.out;have f2:=aa (k:=2) HF12.out;simp only[aW]at f0 f1 f2;have z0:=aa (k:=0) HR12.out;have z1:=aa (k:=1) HR12.out
   have z2:=aa (k:=2) HR12.out;have y0:=ai (k:=0) HR12.out;have y1:=ai (k:=1) HR12.out;have y2:=ai (k:=2) HR12.out;simp only[aW]at z0 z1 z2;go_wp2_with fail;refine nh HR12.out rfl rfl rfl ?_;refine⟨by rw[<-HRE.out]; rfl, .slice ae (zs.length+1) ce,And.symm ⟨?_, ?_⟩⟩
   ·exact(((HKP8.out.trans HPU.out.2).setNew (Nat.le_refl _) hbz).setNew (Nat.le_refl _) hbz).setNew (Nat.le_refl _) hbz
   ·rw[HPB.out];exact HPU.out.1.other HR12.out (by decide) (by decide) (by decide) (fun i hi _=>bK hi)
end Go.Proofs.YtpffpjbkbaleiaaGreatDoor
namespace Go.Proofs.YtpffpjbkbaleiaaGreatDoor
open Go Go.RowKit Go.Maps
theorem fi {w w':World} {B B' sz sz' n n':Nat} {t t':TypeId} {u r:Value} {xs xs':List Value} (h:w.ownsRow B t sz u n xs) (ho:w.ownsRow B' t' sz' r n' xs') (hg:w.grownBy w' r.ownBlock) (ht:t≠t'):w'.ownsRow B t sz u n xs:=
 dp h (fun k hk hu=>hg.block k hk (fun e=>by
  obtain⟨cs,hc⟩:=aA h hu;obtain⟨cs2,hc2⟩:=aA ho e.symm;exact ht (aI hc hc2)))
theorem cR.row {w w':World} {base bb im kb B sz n:Nat} {k:bF} {c:dD} {gv v v' u:Value} {bs:List bI} {t:TypeId} {xs:List Value} (h:dV w base bb k c gv im kb v bs) (hk:cR base bb kb v v' w w') (hr:w.ownsRow B t sz u n xs) (h1:t≠122) (h2:t≠53):w'.ownsRow B t sz u n xs:=
 dp hr (fun i hi hu=>by
  obtain⟨cs,hc⟩:=aA hr hu;refine hk.same i hi (fun e=> ?_) (fun e=> ?_) (fun e=> ?_)
  ·subst e; exact h1 (aI hc h.box)
  ·subst e; exact h.known.cells hc
  ·obtain⟨zs,_,ho,_⟩:=h.own;obtain⟨cs2,hc2⟩:=aA ho e;exact h2 (aI hc hc2))
theorem dV.otherRow {w w':World} {base bb im kb B sz n:Nat} {k:bF} {c:dD} {gv v r:Value} {bs:List bI} {t:TypeId} {xs:List Value} (h:dV w base bb k c gv im kb v bs) (hr:w.ownsRow B t sz r n xs) (hg:w.grownBy w' r.ownBlock) (h1:t≠122) (h2:t≠53) (h3:t≠5):dV w' base bb k c gv im kb v bs:=by
 obtain⟨zs,hz,ho,hd⟩:=h.own;refine⟨(hg.block bb (lt_of_block h.box) (fun e=> ?_)).trans h.box,⟨zs,hz,fi ho hr hg (fun e=>h2 e.symm),fun z hz=>fi (hd z hz) hr hg (fun e=>h3 e.symm)⟩,h.known.same (hg.block kb h.known.map.lt (fun e=> ?_))⟩
 ·obtain⟨cs,hc⟩:=aA hr e.symm;exact h1 (aI hc h.box)
 ·obtain⟨cs,hc⟩:=aA hr e.symm;exact h.known.cells hc
theorem cR.otherRow {w0 w w':World} {base bb kb B sz n:Nat} {v v' r:Value} {t:TypeId} {xs:List Value} (h:cR base bb kb v v' w0 w) (hr:w.ownsRow B t sz r n xs) (hg:w.grownBy w' r.ownBlock) (hB:w0.heap.size<=B) (hbz:base<=w0.heap.size):cR base bb kb v v' w0 w':=
 ⟨h.below.grown hg (Nat.le_trans hbz h.below.size) (fun i hi=>Nat.le_trans (Nat.le_trans hbz hB) (hr.lt i hi).1),fun i h1 h2 h3 h4=>(hg.block i (Nat.lt_of_lt_of_le h1 h.below.size) (fun e=>by have:=(hr.lt i e.symm).1; omega)).trans (h.same i h1 h2 h3 h4),h.place⟩
theorem yw (d p:ByteArray):Lib.trimPrefix (p.extract d.size p.size).data.toList [47]=mA (bl d) (bl p):=by
 have e:(p.extract d.size p.size).data.toList=(bl p).drop (bl d).length:=by
  rw[Lib.extract_data,<-ay];exact List.take_of_length_le (by rw[List.length_drop,ay]; exact Nat.le_refl _)
 rw[e];unfold mA Lib.trimPrefix Lib.hasPrefix
 cases hd:(bl p).drop (bl d).length with
 | nil=>simp
 | cons y ys=>
  by_cases hy:y=47
  ·subst hy; simp
  ·simp[hy];intro h; exact absurd h.symm hy
theorem uc (d p:ByteArray) (w:World) (h:d.size<=p.size):Calls Tryz.prog 121 #[.string d, .string p] w fun e w'=>e= .returned (.string ⟨(mA (bl d) (bl p)).toArray⟩)/\w=w':=by
 go_enter Tryz.func121,Tryz.ntmps121
 go_wp2_with fail;refine(Tryz.strings_TrimPrefix _ _ w).mono ?_;rintro e w' ⟨rfl,rfl⟩;rw[yw d p];obtain⟨q,hq⟩: ∃q,q=mA (bl d) (bl p):=⟨_,rfl⟩;rw[<-hq];have HQ:=ab hq;clear hq;go_wp2_with fail;go_ret;obtain rfl:=HQ.out;exact⟨rfl,rfl⟩
structure zI (w : World) (base bb im kb B : Nat) (k : bF) (c : dD) (gv v pv : Value) (ys : List (Value × List UInt8)) (wr : World) (v2 rv : Value) (bs2 : List bI) (rs : List aN) : Prop where
 bd:dV wr base bb k c gv im kb v2 bs2
 kp:cR base bb kb v v2 w wr
 row:wr.ownsRow w.heap.size 26 3 rv rs.length (rs.flatMap dH)
 pcs:wr.ownsRow B 29 1 pv ys.length (ys.map Prod.fst)/\ ∀y∈ys,wr.ownsRow B 5 1 y.1 y.2.length (y.2.map an)
section
variable {w wr w' : World} {base bb im kb B : Nat} {k : bF} {c : dD} {gv v pv v2 v3 rv : Value} {ys : List (Value × List UInt8)} {bs2 bs3 : List bI} {rs : List aN}
theorem zI.step (h:zI w base bb im kb B k c gv v pv ys wr v2 rv bs2 rs) (h1:dV w' base bb k c gv im kb v3 bs3) (h2:cR base bb kb v2 v3 wr w'):zI w base bb im kb B k c gv v pv ys w' v3 rv bs3 rs:=
 ⟨h1,h.kp.trans h2,h2.row h.bd h.row (by decide) (by decide),h2.row h.bd h.pcs.1 (by decide) (by decide),fun y hy=>h2.row h.bd (h.pcs.2 y hy) (by decide) (by decide)⟩
theorem zI.below (h:zI w base bb im kb B k c gv v pv ys wr v2 rv bs2 rs) (hb:Below wr.heap.size wr w') (hbz:base<=wr.heap.size):zI w base bb im kb B k c gv v pv ys w' v2 rv bs2 rs:=
 h.step (h.bd.below hb) (cR.ofBelow hb hbz)
theorem zI.push {rv':Value} {r:aN} (h:zI w base bb im kb B k c gv v pv ys wr v2 rv bs2 rs) (hown:w'.ownsRow w.heap.size 26 3 rv' (rs.length+1) (rs.flatMap dH++dH r)) (hg:wr.grownBy w' rv.ownBlock) (hbz:base<=w.heap.size):zI w base bb im kb B k c gv v pv ys w' v2 rv' bs2 (rs++[r]):=
 ⟨h.bd.otherRow h.row hg (by decide) (by decide) (by decide),h.kp.otherRow h.row hg (Nat.le_refl _) hbz,by rw[List.length_append,List.flatMap_append]; simpa using hown,fi h.pcs.1 h.row hg (by decide),fun y hy=>fi (h.pcs.2 y hy) h.row hg (by decide)⟩
end
def DY (base bb im kb:Nat) (k:bF) (c:dD) (gs:List (ByteArray×Int)) (gv v:Value) (bs:List bI) (x:List UInt8) (w:World) (e:Ending) (w':World):Prop:=
 ∃rv v',e= .returned (.tuple #[rv, .int .i64 0])/\w'.ownsRow w.heap.size 26 3 rv ((ft c x).map (aZ k gs)).length (((ft c x).map (aZ k gs)).flatMap dH)/\dV w' base bb k c gv im kb v' (bG k gs (ft c x) bs)/\cR base bb kb v v' w w'
theorem CQ (k:bF) (gs:List (ByteArray×Int)) (bs:List bI) (x:List UInt8):(gw k gs bs x).length<=bs.length+1:=by
 unfold gw
 split
 ·omega
 ·simp
theorem qj (k:bF) (gs:List (ByteArray×Int)): ∀(cs:List (List UInt8)) (bs:List bI),(bG k gs cs bs).length<=bs.length+cs.length
 | [],bs=>Nat.le_refl _
 | x::cs,bs=>by
  have h1:=qj k gs cs (gw k gs bs x);have h2:=CQ k gs bs x
  show(bG k gs cs (gw k gs bs x)).length<=_
  rw[List.length_cons]; omega
theorem sS {k:bF} {gs:List (ByteArray×Int)} {cs:List (List UInt8)} {bs:List bI} {j:Nat} {x:List UInt8} (h:cs[j]? =some x):bG k gs (cs.take (j+1)) bs=gw k gs (bG k gs (cs.take j) bs) x:=by
 rw[br h,dg]; rfl
theorem rP {c:dD} (hc:ie c=true) (x:List UInt8): ∀y∈ft c x,1<=y.length/\y.length<=32768:=by
 have hv:=jL.1 hc;intro y hy;have:=yH (mx:=c.mx.toNat) (by omega) (qB) y hy;omega
theorem xF (S:Nat->Prop) (base bb kb im:Nat) (k:bF) (c:dD) (gs:List (ByteArray×Int)) (gv v cv:Value) (bs:List bI) (x:List UInt8) (w:World) (h:dV w base bb k c gv im kb v bs) (hk:fC k=true) (hc:ie c=true) (hsd:c.seed<18446744073709551616) (hg:gS (· <base) w gv gs) (hgs: ∀p∈gs,0<=p.2/\p.2<=1099511627776)
  (hx:aF S w cv x) (hl:x.length<=1048576) (hE:kq w) (hbb:base<=bb) (hkb:base<=kb) (hbz:base<=w.heap.size) (h7:7<=base) (hn:bs.length+(ft c x).length<1000000000000):
  Calls Tryz.prog 122 #[.pointer (some ⟨bb,0,none⟩),cv] w (DY base bb im kb k c gs gv v bs x w):=by
 have HH:=ab h;have HK:=ab hk;have HG:=ab hg;have HGS:=ab hgs;have HE:=ab hE;have HCO:=ab (rP hc x);have hsp:=nK S c x cv w hc hsd hx hl hE.deb;obtain⟨L,hL⟩: ∃L,L=ft c x:=⟨_,rfl⟩;have HL:=ab hL;rw[<-hL]at hn;unfold ft at hL;rw[<-hL]at hsp;unfold fu at hsp;have HSP:=ab hsp;have HBOX:=ab h.box;have k5:=aa (k:=5) HBOX.out;have k6:=aa (k:=6) HBOX.out
 have k7:=aa (k:=7) HBOX.out;have k8:=aa (k:=8) HBOX.out;have k9:=aa (k:=9) HBOX.out;simp only[fQ,cY,dr,List.cons_append,List.nil_append,aW]at k5 k6 k7 k8 k9;clear h hk hg hgs hx hE hL hsp
 go_enter Tryz.func122,Tryz.ntmps122
 go_wp2_with fail;refine HSP.out.mono ?_;rintro e w1 ⟨pv,rfl,⟨ys,hys,hrow,hdat⟩,hb1⟩;have HB1:=ab hb1;obtain⟨pa,pc,rfl,hpc,hpm⟩:=ak hrow;unfold maxLen at hpm;have HYS:=ab hys;have HFL:=ab (show zI w base bb im kb w.heap.size k c gv v (.slice pa ys.length pc) ys w1 v (.slice none 0 0) bs []from⟨HH.out.below hb1,cR.ofBelow hb1 hbz,World.ownsRow_nil _ _ _ _,hrow,hdat⟩)
 obtain⟨m,hm⟩: ∃m,m=ys.length:=⟨_,rfl⟩;rw[<-hm]at HFL hpc ⊢;have HM:=ab hm;have HML:=ab (show m=L.length by rw[hm,<-hys,List.length_map]);clear hb1 hrow hdat hys hm k5 k6 k7 k8 k9;go_wp2_with fail
 go_loopw [8,27] (fun rv i wr=> ∃(j:Nat) (v2:Value),j<=m/\i= .int .i64 (j:Int)/\zI w base bb im kb w.heap.size k c gv v (.slice pa m pc) ys wr v2 rv (bG k gs (L.take j) bs) ((L.take j).map (aZ k gs))) (fun _ i _=>m-(intOf i).toNat)
 case atStart=>exact⟨0,v,Nat.zero_le _,rfl,HFL.out⟩
 case round=>
  obtain⟨j,v2,hj,rfl,hin⟩:=hrel;have HIN:=ab hin;obtain⟨rs,hrs⟩: ∃rs,rs=(L.take j).map (aZ k gs):=⟨_,rfl⟩;rw[<-hrs]at hin;obtain⟨ra,rc,hrv,-,-⟩:=ak hin.row;subst hrv;have HIN:=ab hin;have HRS:=ab hrs;have hrl:rs.length<=j:=by rw[hrs,List.length_map,List.length_take]; omega
  clear hin hrs
  by_cases hlt:j<m
  ·obtain⟨⟨yv,yb⟩,hyp⟩: ∃yp,ys[j]? =some yp:=⟨ys[j]'(by rw[<-HM.out]; exact hlt),by simp⟩;have HLJ:=ab (show L[j]? =some yb by rw[<-HYS.out,List.getElem?_map,hyp]; rfl);obtain⟨_,pa',pc',hpe,_,_,hp0⟩:=ba HIN.out.pcs.1
   cases hpe
   obtain⟨pb,po,rfl,-,hpcell⟩:=hp0.resolve_left (by omega);have q0:=hpcell j yv (by rw[List.getElem?_map,hyp]; rfl);have hown:=HIN.out.pcs.2 (yv,yb) (List.mem_of_getElem? hyp);obtain⟨ya,yc,hyv,-,-⟩:=ak hown;simp only at hyv;subst hyv;have hyb:=HCO.out yb (by rw[<-HL.out]; exact List.mem_of_getElem? HLJ.out);have hbl:=qj k gs (L.take j) bs;have hlt2:(L.take j).length<=L.length:=by rw[List.length_take]; omega
   have had:=wI (fun _=>True) base bb kb im k c gs gv v2 (.slice ya yb.length yc) (bG k gs (L.take j) bs) yb wr HIN.out.bd HK.out (HG.out.keep (fun i h1 _=>HIN.out.kp.below.block i h1)) HGS.out
    (aO.weak (ba hown) (fun _ _=>trivial)) hyb.2 (HE.out.keep HIN.out.kp.below h7) hbb hkb (Nat.le_trans hbz HIN.out.kp.below.size) h7 (by omega)
   unfold uP bJ at had;rw[<-sS HLJ.out]at had;obtain⟨r,hr⟩: ∃r,r=aZ k gs yb:=⟨_,rfl⟩;rw[<-hr]at had;have HRE:=ab hr;have HAD:=ab had;obtain⟨rn,hrn⟩: ∃rn,rn=rs.length:=⟨_,rfl⟩;rw[<-hrn]at hrl ⊢;have HRNN:=ab hrn;clear hyp hp0 hpcell hown hyb hbl hlt2 had hr hrn;go_wp2_with fail;refine HAD.out.mono ?_;rintro e w3 ⟨rfl,v3,hbd3,hkp3⟩;have HIN3:=ab (HIN.out.step hbd3 hkp3)
   have HZ3:=ab (show base<=w3.heap.size from Nat.le_trans hbz (HIN3.out.kp.below.size));obtain⟨W4,hW4⟩: ∃W4,W4=w3.alloc (.cells #[.string r.name, .int .i64 r.gen, .int .i64 r.size] 26):=⟨_,rfl⟩;have HIN4:=ab (HIN3.out.below (w':=W4) (by rw[hW4]; exact(Below.refl _ _).alloc (Nat.le_refl _) _) HZ3.out);have hf4:W4.heap[w3.heap.size]? =some (.cells #[.string r.name, .int .i64 r.gen, .int .i64 r.size] 26 (0,0)):=by rw[hW4]; exact bY w3 _
   have f0:=aa (k:=0) hf4;have f1:=aa (k:=1) hf4;have f2:=aa (k:=2) hf4;simp only[aW]at f0 f1 f2;have HROW:=ab (show W4.ownsRow w.heap.size 26 3 (.slice ra rn rc) rn (rs.flatMap dH) by have h1:=HIN4.out.row; rw[<-HRNN.out]at h1; exact h1);have hz4:w.heap.size<=W4.heap.size:=HIN4.out.kp.below.size;have hrb:rn<1099511627775:=by have:=HML.out; omega
   clear hbd3 hkp3 q0 hf4
   go_upto_region 11 with(fail)
   rw[<-hW4];clear hW4;go_wp2_with (at_builtin; go_must (refine aP Tryz.appRefs rfl _ _ rfl w.heap.size (.slice ra rn rc) rn (rs.flatMap dH) rfl W4 [.string r.name, .int .i64 r.gen, .int .i64 r.size] _ rfl rfl (ll (r:=r)) HROW.out hrb hz4 ?_); intro v' wc hown' hgrow' _ _; obtain⟨ae,ce,rfl,-,-⟩:=ak hown'; have HPU:=ab (HIN4.out.push (r:=r) (by rw[<-HRNN.out]; exact hown') (by rw[<-HRNN.out]; exact hgrow') hbz); clear hown' hgrow')
   go_roundw
   case rel=>
    refine⟨j+1,v3,by omega,by go_num, ?_⟩;have h1:=HPU.out;rw[HRS.out,HRE.out]at h1;rw[br HLJ.out,List.map_append,<-br HLJ.out];exact h1
   case measure=>simp[intOf]; omega
  ·have hk2:j=m:=by omega
   subst hk2;go_wp2_with fail
   go_ret2
   have h1:=HIN.out;have h2:L.take j=L:=by rw[HML.out,List.take_length]
   have h3:rs=L.map (aZ k gs):=by rw[HRS.out,h2]
   rw[h2]at h1;refine⟨_,v2,rfl, ?_, ?_,h1.kp⟩
   ·rw[<-HL.out,<-h3]; exact h1.row
   ·rw[<-HL.out]; exact h1.bd
end Go.Proofs.YtpffpjbkbaleiaaGreatDoor
namespace Go.Proofs.YtpffpjbkbaleiaaGreatDoor
open Go Go.RowKit Go.Maps
structure sG where
 dir:ByteArray
 val:Value
 ents:List iJ
def gm (g:sG):Value×Value:=(.string g.dir,g.val)
structure jg (w : World) (base im : Nat) (G : List sG) : Prop where
 map:cK Tryz.prog 9 w im (G.map gm)
 own: ∀g∈G,w.ownsRow base 79 6 g.val g.ents.length (cV g.ents)
 dat: ∀g∈G,∀y∈g.ents,bE (· <base) w y.1 y.2.data/\gE y.2
 apart:G.Pairwise fun a b=> ∀i,a.val.ownBlock=some i->b.val.ownBlock≠some i
 key: ∀g∈G,g.dir.size<=maxLen
def ff (G:List sG) (d:ByteArray):List bw:=match G.find? (fun g=>decide (g.dir=d))with
 | none=>[]
 | some g=>g.ents.map Prod.snd
def uR (w:World) (base im:Nat) (tree:List bw):Prop:= ∃G,jg w base im G/\ ∀d,ff G d=cg tree d
theorem iN {B:Nat} {w w':World} {v:Value} {bs:List UInt8} (h:bE (· <B) w v bs) (hb:Below B w w'):bE (· <B) w' v bs:=aO.same h (fun k hk=>hb.block k hk)
theorem cK.ncells {P:Program} {k:TypeId} {w:World} {b:Nat} {m:List (Value×Value)} (h:cK P k w b m) {cs:Array Value} {t:TypeId} {z:Nat×Nat} :w.heap[b]? ≠some (.cells cs t z):=fun e=>by
 obtain⟨es,clock,hb,_⟩:=h;rw[hb]at e; cases e
theorem cR.blk {w w':World} {base bb im kb i:Nat} {k:bF} {c:dD} {gv v v':Value} {bs:List bI} {cs:Array Value} {t:TypeId} {z:Nat×Nat} (h:dV w base bb k c gv im kb v bs) (hk:cR base bb kb v v' w w') (hx:w.heap[i]? =some (.cells cs t z)) (h1:t≠122) (h2:t≠53):w'.heap[i]? =some (.cells cs t z):=by
 refine(hk.same i (lt_of_block hx) (fun e=> ?_) (fun e=> ?_) (fun e=> ?_)).trans hx
 ·subst e; exact h1 (aI hx h.box)
 ·subst e; exact h.known.cells hx
 ·obtain⟨zs,_,ho,_⟩:=h.own;obtain⟨cs2,hc2⟩:=aA ho e;exact h2 (aI hx hc2)
theorem jg.keep {w w':World} {base bb im kb:Nat} {k:bF} {c:dD} {gv v v':Value} {bs:List bI} {G:List sG} (hg:jg w base im G) (h:dV w base bb k c gv im kb v bs) (hk:cR base bb kb v v' w w') (hne:im≠kb):jg w' base im G:=by
 refine⟨hg.map.same (hk.same im hg.map.lt (fun e=> ?_) hne (fun e=> ?_)),fun g hm=>hk.row h (hg.own g hm) (by decide) (by decide),fun g hm y hy=>⟨iN (hg.dat g hm y hy).1 hk.below,(hg.dat g hm y hy).2⟩,hg.apart,hg.key⟩
 ·exact hg.map.ncells (by rw[e]; exact h.box)
 ·obtain⟨zs,_,ho,_⟩:=h.own;obtain⟨cs2,hc2⟩:=aA ho e;exact hg.map.ncells hc2
theorem uR.keep {w w':World} {base bb im kb:Nat} {k:bF} {c:dD} {gv v v':Value} {bs:List bI} {tree:List bw} (hg:uR w base im tree) (h:dV w base bb k c gv im kb v bs) (hk:cR base bb kb v v' w w') (hne:im≠kb):uR w' base im tree:=by
 obtain⟨G,h1,h2⟩:=hg;exact⟨G,h1.keep h hk hne,h2⟩
theorem As {w:World} {base im:Nat} {tree:List bw} (hg:uR w base im tree) {d:ByteArray} (hd:d.size<=maxLen):
  ∃(v:Value) (ys:List iJ),(Instr.lookup 119 (.map (some im)) (.string d) false).run Tryz.prog w= .ok v w/\ys.map Prod.snd=cg tree d/\w.ownsRow base 79 6 v ys.length (cV ys)/\ ∀y∈ys,bE (· <base) w y.1 y.2.data/\gE y.2:=by
 obtain⟨G,h1,h2⟩:=hg;have ht:Tryz.prog.underlying 119=some (.map 9 46):=Tryz.underlying119;have hz:(zeroValue 46).run Tryz.prog w= .ok (.slice none 0 0) w:=by kernel_rfl
 have h3:=h2 d;unfold ff at h3
 cases hf:G.find? (fun g=>decide (g.dir=d))with
 | none=>
  rw[hf]at h3;refine⟨.slice none 0 0,[], ?_,h3,World.ownsRow_nil _ _ _ _,by simp⟩;have:=h1.map.is.miss bO ht hz (cy hd) (fun q hq e=>by
   obtain⟨x,hx,rfl⟩:=List.mem_map.1 hq;simp only[gm,Value.string.injEq]at e;have:=List.find?_eq_none.1 hf x hx;simp[e]at this) false
  simpa using this
 | some g=>
  rw[hf]at h3;have h4:=List.mem_of_find?_eq_some hf;have h5:=List.find?_some hf;simp only[decide_eq_true_eq]at h5;refine⟨g.val,g.ents, ?_,h3,h1.own g h4,h1.dat g h4⟩;have:=h1.map.is.hit bO ht (cy hd) (val:=g.val) (List.mem_map.2 ⟨g,h4,by rw[<-h5]; rfl⟩) false
  simpa using this
abbrev qh :=Value×aE
def lH (zs:List qh):List Value:=zs.flatMap fun z=>cN z.1 z.2
theorem yh (zs:List qh) (z:qh):lH (zs++[z])=lH zs++cN z.1 z.2:=by simp[lH]
structure iH (w : World) (B : Nat) (iv : Value) (its : List aE) : Prop where
 row: ∃zs:List qh,zs.map Prod.snd=its/\w.ownsRow B 28 10 iv zs.length (lH zs)/\ ∀z∈zs,w.ownsRow B 26 3 z.1 z.2.chunks.length (z.2.chunks.flatMap dH)/\dk z.2/\ ∀r∈z.2.chunks,bz r
theorem qO {S:Nat->Prop} {w:World} : ∀ {zs:List qh},(∀z∈zs,aV S w z.1 z.2.chunks/\dk z.2)->bM (cM S w) (lH zs) (zs.map Prod.snd)
 | [],_=>rfl
 | z::zs,h=>⟨cN z.1 z.2,lH zs,by simp[lH],⟨z.1,rfl,(h z (by simp)).1,(h z (by simp)).2⟩,qO (fun y hy=>h y (by simp[hy]))⟩
theorem iH.at {w:World} {B:Nat} {iv:Value} {its:List aE} (h:iH w B iv its):aM (fun _=>True) w iv its:=by
 obtain⟨zs,rfl,h1,h2⟩:=h.row;refine⟨lH zs, ?_,qO (fun z hz=>⟨aV.same (iW (h2 z hz).1 (h2 z hz).2.2) (fun _ _ _=>⟨trivial,rfl⟩),(h2 z hz).2.1⟩)⟩;rw[List.length_map];exact aO.weak (ba h1) (fun _ _=>trivial)
theorem iH.nil (w:World) (B:Nat):iH w B (.slice none 0 0) []:=⟨[],rfl,World.ownsRow_nil _ _ _ _,by simp⟩
structure uQ (w : World) (base bb im kb : Nat) (k : bF) (c : dD) (gv v ev : Value) (ys : List iJ) (wr : World) (v2 iv : Value) (bs2 : List bI) (its : List aE) : Prop where
 bd:dV wr base bb k c gv im kb v2 bs2
 kp:cR base bb kb v v2 w wr
 its:iH wr w.heap.size iv its
 ents:wr.ownsRow base 79 6 ev ys.length (cV ys)
 res:wr.heap[w.heap.size]? =some (.cells #[.string ⟨#[]⟩, .int .i64 0, .int .i64 0] 26 (0,0))
theorem iH.keep {w w':World} {base bb im kb B:Nat} {k:bF} {c:dD} {gv v v' iv:Value} {bs:List bI} {its:List aE} (hi:iH w B iv its) (h:dV w base bb k c gv im kb v bs) (hk:cR base bb kb v v' w w'):iH w' B iv its:=by
 obtain⟨zs,h1,h2,h3⟩:=hi.row;exact⟨zs,h1,hk.row h h2 (by decide) (by decide),fun z hz=>⟨hk.row h (h3 z hz).1 (by decide) (by decide),(h3 z hz).2⟩⟩
section
variable {w wr w' : World} {base bb im kb : Nat} {k : bF} {c : dD} {gv v ev v2 v3 iv : Value} {ys : List iJ} {bs2 bs3 : List bI} {its : List aE}
theorem uQ.step (h:uQ w base bb im kb k c gv v ev ys wr v2 iv bs2 its) (h1:dV w' base bb k c gv im kb v3 bs3) (h2:cR base bb kb v2 v3 wr w'):uQ w base bb im kb k c gv v ev ys w' v3 iv bs3 its:=
 ⟨h1,h.kp.trans h2,h.its.keep h.bd h2,h2.row h.bd h.ents (by decide) (by decide),h2.blk h.bd h.res (by decide) (by decide)⟩
theorem uQ.below (h:uQ w base bb im kb k c gv v ev ys wr v2 iv bs2 its) (hb:Below wr.heap.size wr w') (hbz:base<=wr.heap.size):uQ w base bb im kb k c gv v ev ys w' v2 iv bs2 its:=
 h.step (h.bd.below hb) (cR.ofBelow hb hbz)
theorem uQ.push {iv' rv:Value} {it:aE} {zs:List qh} (h:uQ w base bb im kb k c gv v ev ys wr v2 iv bs2 its) (hz:zs.map Prod.snd=its) (hrow:wr.ownsRow w.heap.size 28 10 iv zs.length (lH zs)) (hdat: ∀z∈zs,wr.ownsRow w.heap.size 26 3 z.1 z.2.chunks.length (z.2.chunks.flatMap dH)/\dk z.2/\ ∀r∈z.2.chunks,bz r)
  (hown:w'.ownsRow w.heap.size 28 10 iv' (zs.length+1) (lH zs++cN rv it)) (hg:wr.grownBy w' iv.ownBlock) (hrv:wr.ownsRow w.heap.size 26 3 rv it.chunks.length (it.chunks.flatMap dH)) (hok:dk it) (hrs: ∀r∈it.chunks,bz r) (hbz:base<=w.heap.size):
  uQ w base bb im kb k c gv v ev ys w' v2 iv' bs2 (its++[it]):=by
 refine⟨h.bd.otherRow hrow hg (by decide) (by decide) (by decide),h.kp.otherRow hrow hg (Nat.le_refl _) hbz,⟨zs++[(rv,it)],by simp[hz],by rw[List.length_append,List.length_singleton,yh]; exact hown,fun z hm=> ?_⟩,fi h.ents hrow hg (by decide), ?_⟩
 ·rcases List.mem_append.1 hm with hm | hm
  ·exact⟨fi (hdat z hm).1 hrow hg (by decide),(hdat z hm).2⟩
  ·rw[List.mem_singleton]at hm;subst hm;exact⟨fi hrv hrow hg (by decide),hok,hrs⟩
 ·refine(hg.block _ (lt_of_block h.res) (fun e=> ?_)).trans h.res;obtain⟨cs2,hc2⟩:=aA hrow e.symm;exact absurd (aI h.res hc2) (by decide)
theorem uQ.otherSet {i q:Nat} {u:Value} {cs:Array Value} {t:TypeId} {z:Nat×Nat} (h:uQ w base bb im kb k c gv v ev ys wr v2 iv bs2 its) (hx:wr.heap[i]? =some (.cells cs t z)) (h1:t≠122) (h2:t≠53) (h3:t≠5) (h4:t≠26) (h5:t≠79) (h6:iv.ownBlock≠some i) (hi:w.heap.size<=i) (hbz:base<=w.heap.size):uQ w base bb im kb k c gv v ev ys (wr.setCell ⟨i,q,none⟩ u) v2 iv bs2 its:=by
 have hs: ∀j,j≠i->(wr.setCell ⟨i,q,none⟩ u).heap[j]? =wr.heap[j]? :=fun j hj=>Below.heap_setCell _ _ _ _ hj
 refine⟨h.bd.other hx h1 h2 h3 (fun j hj _=>hs j hj),h.kp.setNew hi hbz, ?_,dp h.ents (fun j hj hu=>hs j (fun e=> ?_)),(hs _ (fun e=> ?_)).trans h.res⟩
 ·obtain⟨zs,hz,hr,hd⟩:=h.its.row;refine⟨zs,hz,dp hr (fun j hj hu=>hs j (fun e=>h6 (e▸hu))),fun y hy=>⟨dp (hd y hy).1 (fun j hj hu=>hs j (fun e=> ?_)),(hd y hy).2⟩⟩;obtain⟨cs2,hc2⟩:=aA (hd y hy).1 hu;exact h4 (aI hx (e▸hc2))
 ·obtain⟨cs2,hc2⟩:=aA h.ents hu;exact h5 (aI hx (e▸hc2))
 ·exact h4 (aI hx (e▸h.res))
end
end Go.Proofs.YtpffpjbkbaleiaaGreatDoor
namespace Go.Proofs.YtpffpjbkbaleiaaGreatDoor
open Go Go.RowKit Go.Maps
theorem Cu {a:Act} {w:World} {b:Nat} {x0 x1 x2 e5:Value} (h:w.heap[b]? =some (.cells #[x0,x1,x2] 26 (0,0)))
  (h4:a.tmps[4]? =some (.pointer (some ⟨b,0,none⟩))) (h5:a.tmps[5]? =some e5):(results Tryz.f73 a.tmps).run Tryz.prog w= .ok (.tuple #[.agg #[x0,x1,x2],e5]) w:=by
 have m0:=aj (k:=0) h;have m1:=aj (k:=1) h;have m2:=aj (k:=2) h;simp only[aW]at m0 m1 m2;simp[results,Tryz.results73,go_sem,h4,h5,m0,m1,m2]
theorem nn {a:Act} {w:World} {b:Nat} {a0 a1 a2 x0 x1 x2 e5:Value} {Q:Ending->World->Prop} (h:w.heap[b]? =some (.cells #[a0,a1,a2] 26 (0,0)))
  (h4:a.tmps[4]? =some (.pointer (some ⟨b,0,none⟩))) (h5:a.tmps[5]? =some e5) (hd:a.defers=[])
  (hQ:Q (.returned (.tuple #[.agg #[x0,x1,x2],e5])) (((w.setCell ⟨b,0,none⟩ x0).setCell ⟨b,1,none⟩ x1).setCell ⟨b,2,none⟩ x2)):
  bodyPost Tryz.prog Tryz.f73 Q Exit.ret a (((w.setCell ⟨b,0,none⟩ x0).setCell ⟨b,1,none⟩ x1).setCell ⟨b,2,none⟩ x2):=bodyPost_ret (Cu (Bo h) h4 h5) hd hQ
structure zG (base bb kb im : Nat) (k : bF) (c : dD) (gs : List (ByteArray × Int)) (tree : List bw) (UR : List aN) : Prop where
 keys:fC k=true
 cut:ie c=true
 seed:c.seed<18446744073709551616
 gens: ∀p∈gs,0<=p.2/\p.2<=1099511627776
 bbb:base<=bb
 bkb:base<=kb
 seven:7<=base
 ikb:im≠kb
 val: ∀e∈tree,ig e=true
 len:tree.length<=4096
 usz:UR.length<=100000000000
 u1: ∀e∈tree,∀y∈ft c e.data,aZ k gs y∈UR
 u2: ∀(n:Nat) (d:ByteArray) (p:List UInt8×List (List UInt8)),n<=514->(d.size=0\/ ∃e∈tree,e.path=d)->cw k gs c tree n d= .ok p->aZ k gs p.1∈UR
def wD (UR:List aN) (bs:List bI):Prop:= ∀b∈bs,b.ref∈UR
theorem wD.put {UR:List aN} {bs:List bI} {k:bF} {gs:List (ByteArray×Int)} {x:List UInt8} (h:wD UR bs) (hx:aZ k gs x∈UR):wD UR (gw k gs bs x):=by
 unfold gw
 split
 ·exact h
 ·intro b hb
  rcases List.mem_append.1 hb with hb | hb
  ·exact h b hb
  ·rw[List.mem_singleton]at hb; subst hb; exact hx
theorem wD.puts {UR:List aN} {k:bF} {gs:List (ByteArray×Int)} : ∀ {cs:List (List UInt8)} {bs:List bI},wD UR bs->(∀x∈cs,aZ k gs x∈UR)->wD UR (bG k gs cs bs)
 | [],_,h,_=>h
 | x::cs,bs,h,hx=>wD.puts (cs:=cs) (bs:=gw k gs bs x) (h.put (hx x (by simp))) (fun y hy=>hx y (by simp[hy]))
theorem wD.len {UR:List aN} {bs:List bI} {w:World} {base bb im kb:Nat} {k:bF} {c:dD} {gv v:Value} (h:wD UR bs) (hb:dV w base bb k c gv im kb v bs):bs.length<=UR.length:=by
 have h1:=li (l:=bs.map bI.ref) (U:=UR) hb.known.nodup (fun x hx=>by
  obtain⟨b,hb2,rfl⟩:=List.mem_map.1 hx;exact h b hb2)
 rwa [List.length_map]at h1
def rz (base bb kb im:Nat) (k:bF) (c:dD) (gs:List (ByteArray×Int)) (gv v:Value) (bs:List bI) (UR:List aN) (res:Except Int (List UInt8×List (List UInt8))) (w:World) (e:Ending) (w':World):Prop:=match res with
 | .error x=>e= .returned (.tuple #[.agg #[.string ⟨#[]⟩, .int .i64 0, .int .i64 0], .int .i64 x])/\x≠0/\ ∃v' bs',dV w' base bb k c gv im kb v' bs'/\cR base bb kb v v' w w'
 | .ok p=>e= .returned (.tuple #[bJ (aZ k gs p.1), .int .i64 0])/\wD UR (bG k gs p.2 bs)/\ ∃v',dV w' base bb k c gv im kb v' (bG k gs p.2 bs)/\cR base bb kb v v' w w'
def BW (base bb kb im:Nat) (k:bF) (c:dD) (gs:List (ByteArray×Int)) (tree:List bw) (gv:Value) (UR:List aN) (n:Nat):Prop:= ∀(path:ByteArray) (v:Value) (bs:List bI) (w:World),
 514<=path.size+n->(path.size=0\/ ∃e∈tree,e.path=path)->dV w base bb k c gv im kb v bs->gS (· <base) w gv gs->uR w base im tree->wD UR bs->kq w->base<=w.heap.size->
 Calls Tryz.prog 73 #[.pointer (some ⟨bb,0,none⟩), .string path] w (rz base bb kb im k c gs gv v bs UR (cw k gs c tree n path) w)
theorem Aj {base bb kb im:Nat} {k:bF} {c:dD} {gs:List (ByteArray×Int)} {tree:List bw} {gv:Value} {UR:List aN} (hX:zG base bb kb im k c gs tree UR):BW base bb kb im k c gs tree gv UR 0:=by
 intro path v bs w hn hp
 exfalso
 rcases hp with h | ⟨e,he,rfl⟩
 ·omega
 ·have:=gh (bL (hX.val e he));rw[<-ay]at this;omega
theorem kH {l:List UInt8} (h:l≠[]):(aT l).length<l.length:=by
 by_cases hp:aT l=[]
 ·rw[hp];exact List.length_pos_iff.2 h
 ·obtain⟨t,ht⟩:=mG hp;have:=congrArg List.length ht;rw[List.length_append,List.length_cons]at this;omega
theorem rO {c:dD} (hc:ie c=true) (x:List UInt8):(ft c x).length<=x.length:=by
 have h1:(ft c x).flatten=x:=vR;have h2: ∀(l:List (List UInt8)),(∀y∈l,1<=y.length)->l.length<=l.flatten.length:=by
  intro l
  induction l with
  | nil=>simp
  | cons y l ih=>
   intro h;have:=ih (fun z hz=>h z (by simp[hz]));have:=h y (by simp);simp only[List.length_cons,List.flatten_cons,List.length_append];omega
 have h3:=h2 (ft c x) (fun y hy=>(rP hc x y hy).1)
 rwa [h1]at h3
section
variable {P : Program} {ops : Array Oper} {Q : Exit → Act → World → Prop} {S : World → Prop}
theorem Au {dst dst2:Option Tmp} {op op2:Op} {ty ty2:TypeId} {pos pos2:String} {aft aft2:Array Edge} {g g2:Option (Nat×Bool)} {fuel:Nat} {listed:Array Bool} {a:Act} {w:World} (i j:Nat) (hi:ops[i]? =some ⟨dst,op,ty,pos,aft,g⟩) (hj:ops[j]? =some ⟨dst2,op2,ty2,pos2,aft2,g2⟩) (hr:Region.ready .any ops listed=[i,j])
  (hw:Region.wanted ⟨dst,op,ty,pos,aft,g⟩ (yielded ops a.tmps)=true) (hw2:Region.wanted ⟨dst2,op2,ty2,pos2,aft2,g2⟩ (yielded ops a.tmps)=true)
  (h: ∀K:Act->World->Prop,(∀a w,S w/\lB P ops Q S fuel (listed.setIfInBounds i true) a w->K a w)->wpList P #[] (Exit.then K Q) [⟨dst,op,ty,pos, #[],none⟩] a w)
  (h2: ∀K:Act->World->Prop,(∀a w,S w/\lB P ops Q S fuel (listed.setIfInBounds j true) a w->K a w)->wpList P #[] (Exit.then K Q) [⟨dst2,op2,ty2,pos2, #[],none⟩] a w):lB P ops Q S (fuel+1) listed a w:=by
 refine lB.of (wpAnyH_all hr (by simp) fun m hm=> ?_);have hmm:m=i\/m=j:=by simpa using hm
 rcases hmm with rfl | rfl
 ·have hb:pC P ops (fun a' w'=>S w'/\wpAnyH P .any ops Q S fuel (listed.setIfInBounds m true) a' w') Q [⟨dst,op,ty,pos,aft,g⟩] a w:=
   bA hw (fun K hK=>h K (fun a w hh=>hK a w ⟨hh.1,hh.2.out⟩))
  unfold wpOp;simp only[hi];exact pC.out hb
 ·have hb:pC P ops (fun a' w'=>S w'/\wpAnyH P .any ops Q S fuel (listed.setIfInBounds m true) a' w') Q [⟨dst2,op2,ty2,pos2,aft2,g2⟩] a w:=
   bA hw2 (fun K hK=>h2 K (fun a w hh=>hK a w ⟨hh.1,hh.2.out⟩))
  unfold wpOp;simp only[hj];exact pC.out hb
end
structure uS (it : aE) : Prop where
 nm:it.name.size<=512
 lk:it.link.size<=512
 ch:it.chunks.length<=1048576
 rs: ∀r∈it.chunks,r.name.size<=32
 nd:it.node.name.size<=32
 tm:it.time<9223372036854775808
theorem qA {r:aN} (h:r.name.size<=32):(bQ r).length<=60:=by
 unfold bQ;have h1:=aX r.gen.toNat
 have h2:=aX r.size.toNat
 rw[List.length_append,List.length_append,<-ay];omega
theorem vf {it:aE} (h:uS it):(bU it).length<=70000000:=by
 have h1:=aX it.name.size;have h2:=aX it.kind.toNat
 have h3:=aX it.mode.toNat
 have h4:=aX it.time.toNat
 have h5:=aX it.chunks.length;have h6:=aX it.link.size;have h7:=fw bQ 60 it.chunks (fun r hr=>qA (h.rs r hr));have h8:=qA h.nd;have hn:=h.nm;have hl:=h.lk;have hc:=h.ch;unfold bU eD;simp only[List.length_append,<-ay]
 split
 ·simp only[List.length_append];omega
 ·split
  ·omega
  ·simp only[List.length_append,<-ay];omega
theorem AL {l:List aE} (h: ∀it∈l,uS it) (hl:l.length<=4096):(bu l).length<1000000000000:=by
 have h1:=fw bU 70000000 l (fun it hit=>vf (h it hit));have h2:=aX l.length;unfold bu;rw[List.length_append];have h3:l.length*70000000<=4096*70000000:=Nat.mul_le_mul_right _ hl;omega
theorem Az (d p:List UInt8):(mA d p).length<=p.length:=by
 unfold mA
 split
 ·rw[List.length_tail,List.length_drop]; omega
 ·rw[List.length_drop]; omega
theorem iu {e:bw} (h:ig e=true):e.path.size<=512/\e.link.size<=512/\e.data.length<=1048576:=by
 have h1:=gh (bL h);rw[<-ay]at h1;unfold ig jM at h;rw[Bool.and_eq_true]at h;refine⟨h1, ?_⟩;have h2:=h.2
 split at h2
 ·simp only[Bool.and_eq_true,decide_eq_true_eq]at h2;omega
 ·split at h2
  ·simp only[Bool.and_eq_true,decide_eq_true_eq]at h2;omega
  ·split at h2
   ·simp only[Bool.and_eq_true,decide_eq_true_eq,lU]at h2;have:=h2.2.1.2;rw[<-ay]at this;omega
   ·cases h2
theorem jG (k:bF) (gs:List (ByteArray×Int)) (x:List UInt8):(aZ k gs x).name.size=32:=kE _ _ _
theorem iP {k:bF} {gs:List (ByteArray×Int)} {c:dD} {dir:ByteArray} {e:bw} {nd:aN} (hc:ie c=true) (h:ig e=true) (hok:gE e) (hn:nd.name.size<=32):uS (dn k gs c dir e nd):=by
 obtain⟨h1,h2,h3⟩:=iu h;have h4:=Az (bl dir) (bl e.path);rw[<-ay e.path]at h4;refine⟨?_,h2, ?_, ?_, ?_, ?_⟩
 ·show ByteArray.size ⟨_⟩<=_
  simp only[ByteArray.size,List.size_toArray];omega
 ·show(if e.kind=1 then(ft c e.data).map (aZ k gs)else []).length<=_
  split
  ·rw[List.length_map];have:=rO hc e.data;omega
  ·simp
 ·show ∀r∈(if e.kind=1 then(ft c e.data).map (aZ k gs)else []),_
  intro r hr
  split at hr
  ·obtain⟨x,_,rfl⟩:=List.mem_map.1 hr;rw[jG]; omega
  ·simp at hr
 ·show(if e.kind=2 then nd else bC).name.size<=32
  split
  ·exact hn
  ·decide
 ·have:=hok.tim;simp[Lit.wf,IntKind.min,IntKind.max,IntKind.signed,IntKind.bits]at this
  show e.time<_
  omega
theorem fA {k:bF} {gs:List (ByteArray×Int)} (hgs: ∀p∈gs,0<=p.2/\p.2<=1099511627776) {x:List UInt8} (hx:x.length<=1048576):bz (aZ k gs x):=by
 have h1:=re gs hgs (ld k 0 x);refine⟨by rw[jG]; unfold maxLen; omega,WalkArith.wf_i64 ?_,WalkArith.wf_i64 ?_⟩
 ·show _<=ju gs _/\ju gs _<=_
  omega
 ·show -9223372036854775808<=(x.length:Int)/\(x.length:Int)<=_
  omega
theorem Ah {k:bF} {gs:List (ByteArray×Int)} {c:dD} {tree:List bw} : ∀ {n:Nat} {d:ByteArray} {p:List UInt8×List (List UInt8)},cw k gs c tree n d= .ok p->p.1.length<=32768
 | 0,_,_,h=>by simp[cw]at h
 | n+1,d,p,h=>by
  rw[cw]at h
  split at h
  ·cases h
  ·split at h
   ·split at h
    ·simp only[Except.ok.injEq]at h;subst h
     assumption
    ·cases h
   ·cases h
theorem qP {k:bF} {gs:List (ByteArray×Int)} {c:dD} {rec:ByteArray->Except Int (List UInt8×List (List UInt8))} {dir:ByteArray} {e:bw} {r:List bw} {its:List aE} {cs:List (List UInt8)} (h:e.kind=1):dj k gs c rec dir (e::r) its cs=dj k gs c rec dir r (its++[dn k gs c dir e bC]) (cs++ft c e.data):=by rw[dj,if_pos h]
theorem oB {k:bF} {gs:List (ByteArray×Int)} {c:dD} {rec:ByteArray->Except Int (List UInt8×List (List UInt8))} {dir:ByteArray} {e:bw} {r:List bw} {its:List aE} {cs:List (List UInt8)} (h:e.kind=2):dj k gs c rec dir (e::r) its cs=match rec e.path with
  | .error x=> .error x
  | .ok p=>dj k gs c rec dir r (its++[dn k gs c dir e (aZ k gs p.1)]) (cs++p.2):=by
 rw[dj,if_neg (by omega),if_pos h]
 cases rec e.path<;> rfl
theorem yj {k:bF} {gs:List (ByteArray×Int)} {c:dD} {rec:ByteArray->Except Int (List UInt8×List (List UInt8))} {dir:ByteArray} {e:bw} {r:List bw} {its:List aE} {cs:List (List UInt8)} (h1:e.kind≠1) (h:e.kind≠2):dj k gs c rec dir (e::r) its cs=dj k gs c rec dir r (its++[dn k gs c dir e bC]) cs:=by rw[dj,if_neg h1,if_neg h]
theorem Ai {base bb kb im:Nat} {k:bF} {c:dD} {gs:List (ByteArray×Int)} {tree:List bw} {gv:Value} {UR:List aN} (n:Nat) (hX:zG base bb kb im k c gs tree UR) (hn514:n+1<=514) (IH:BW base bb kb im k c gs tree gv UR n):BW base bb kb im k c gs tree gv UR (n+1):=by
 intro path v bs w hn hp h hg hgr hu hE hbz;have HX':=ab hX;have HIH:=ab IH;have HPA:=ab hp;have HH:=ab h;have HG:=ab hg;have HGR:=ab hgr;have HU:=ab hu;have HE:=ab hE;have hps:path.size<=512:=by
  rcases hp with h | ⟨e,he,rfl⟩
  ·omega
  ·have:=gh (bL (hX.val e he));rw[<-ay]at this;exact this
 obtain⟨W0,hW0⟩: ∃W0,W0=w.alloc (.cells #[.string ⟨#[]⟩, .int .i64 0, .int .i64 0] 26):=⟨_,rfl⟩;have hb0:Below w.heap.size w W0:=by rw[hW0]; exact(Below.refl _ _).alloc (Nat.le_refl _) _
 have hkp0:=cR.ofBelow (bb:=bb) (kb:=kb) (v:=v) hb0 hbz;obtain⟨ev,ys,hlk,hys,hrow,hdat⟩:=As (hgr.keep h hkp0 hX.ikb) (d:=path) (by unfold maxLen; omega);obtain⟨ea,ec,hev,hen,hem⟩:=ak hrow;subst hev;unfold maxLen at hem;obtain⟨m,hm⟩: ∃m,m=ys.length:=⟨_,rfl⟩;have HDR0:=ab (show uQ w base bb im kb k c gv v (.slice ea m ec) ys W0 v (.slice none 0 0) bs []from⟨h.below hb0,hkp0,iH.nil _ _,by rw[hm]; exact hrow,by rw[hW0]; exact bY w _⟩)
 rw[<-hm]at hlk hen;have HM:=ab hm;have HYS:=ab hys;have HDAT:=ab (show ∀y∈ys,bE (· <base) w y.1 y.2.data/\gE y.2 from fun y hy=>⟨aO.same (hdat y hy).1 (fun i hi=>(hb0.block i (Nat.lt_of_lt_of_le hi hbz)).symm),(hdat y hy).2⟩);have HBOX:=ab HDR0.out.bd.box;have hm4:m<=4096:=by
  rw[hm,<-List.length_map (f:=Prod.snd),hys];exact Nat.le_trans (List.length_filter_le _ _) hX.len
 have k0:=aa (k:=0) HBOX.out;have k1:=aa (k:=1) HBOX.out;have k2:=aa (k:=2) HBOX.out;have k3:=aa (k:=3) HBOX.out;have k4:=aa (k:=4) HBOX.out;have k10:=aa (k:=10) HBOX.out;have k11:=aa (k:=11) HBOX.out;have k12:=aa (k:=12) HBOX.out;have k13:=aa (k:=13) HBOX.out;simp only[fQ,cY,dr,List.cons_append,List.nil_append,aW]at k0 k1 k2 k3 k4 k10 k11 k12 k13
 clear hX IH hp h hg hgr hu hE hrow hdat hys hm hb0 hkp0
 go_enter Tryz.func73,Tryz.ntmps73
 go_upto_region 2 with(fail)
 rw[<-hW0];clear hW0;go_wp2_with fail
 go_loopw [6,20] (fun iv i wr=> ∃(j:Nat) (v2:Value) (its:List aE) (cs2:List (List UInt8)),j<=m/\i= .int .i64 (j:Int)/\its.length=j/\dj k gs c (cw k gs c tree n) path ((cg tree path).drop j) its cs2=dj k gs c (cw k gs c tree n) path (cg tree path) [] []/\wD UR (bG k gs cs2 bs)/\(∀it∈its,uS it)/\uQ w base bb im kb k c gv v (.slice ea m ec) ys wr v2 iv (bG k gs cs2 bs) its) (fun _ i _=>m-(intOf i).toNat)
 case atStart=>exact⟨0,v,[],[],Nat.zero_le _,rfl,rfl,rfl,HU.out,by simp,HDR0.out⟩
 case round=>
  obtain⟨j,v2,its,cs2,hj,rfl,hlj,hkd,hiu,hsm,hin⟩:=hrel;have HLJ:=ab hlj;have HKD:=ab hkd;have HIU:=ab hiu;have HSM:=ab hsm;have HIN:=ab hin;obtain⟨zs,hzs,hzr,hzd⟩:=hin.its.row;obtain⟨ia,ic,hiv,-,-⟩:=ak hzr;subst hiv;have hzl:zs.length=j:=by rw[<-hlj,<-hzs,List.length_map]
  have HZS:=ab hzs;have HZR:=ab hzr;have HZD:=ab hzd;rw[hzl]at HIN HZR ⊢;have HZL:=ab hzl;clear hlj hkd hiu hsm hin hzs hzr hzd hzl HDR0 HBOX
  by_cases hlt:j<m
  ·obtain⟨⟨dv,e⟩,hy⟩: ∃y,ys[j]? =some y:=⟨ys[j]'(by rw[<-HM.out]; exact hlt),by simp⟩;have hdy:=HDAT.out (dv,e) (List.mem_of_getElem? hy);obtain⟨da,dc,hdv,hdn,hdm⟩:=bE.slice hdy.1;simp only at hdv;subst hdv;obtain⟨b,rfl,hbb,hbl,-,p0,p1,p2,p3,p4,p5⟩:=CN HIN.out.ents hy;simp only at p0 p1 p2 p3 p4 p5;have hKj:(cg tree path)[j]? =some e:=by rw[<-HYS.out,List.getElem?_map,hy]; rfl
   have hmem:=List.mem_filter.1 (List.mem_of_getElem? hKj);have het:e∈tree:=hmem.1;have hpar:aT (bl e.path)=bl path:=by have:=hmem.2; simpa using this
   have hval:=HX'.out.val e het;have hep:=bL hval;have hes:e.path.size<=512:=by have:=gh hep; rw[<-ay]at this; exact this
   have hpl:path.size<e.path.size:=by
    have h1:=kH (l:=bl e.path) (fun h=>by have:=iY hep; rw[h]at this; simp at this);rw[hpar,<-ay,<-ay]at h1;exact h1
   have HET:=ab het;have HEP:=ab hep;have HVE:=ab hval;have HDY:=ab hdy;have HKJ:=ab hKj;have HDP:=ab (qx hKj);have HBZ:=ab (Nat.le_trans hbz HIN.out.kp.below.size);clear hdy hy hKj hmem het hpar hval hep
   go_upto_region 5 with(fail)
   obtain⟨W1,hW1⟩: ∃W1:World,W1=(wr.alloc (.cells #[.string e.path, .int .i64 e.kind, .int .i64 e.mode, .int .i64 e.time, .slice da e.data.length dc, .string e.link] 79)).drew:=⟨_,rfl⟩;have hb1:Below wr.heap.size wr W1:=by rw[hW1]; exact((Below.refl _ _).alloc (Nat.le_refl _) _).drew
   have HB1:=ab hb1;have HX1:=ab (show W1.heap[wr.heap.size]? =some (.cells #[.string e.path, .int .i64 e.kind, .int .i64 e.mode, .int .i64 e.time, .slice da e.data.length dc, .string e.link] 79 (0,0)) by rw[hW1]; exact bY wr _);have hz1:W1.heap.size=wr.heap.size+1:=by rw[hW1]; simp[World.drew]
   have d0:=aa (k:=0) HX1.out;have d1:=aa (k:=1) HX1.out;have d2:=aa (k:=2) HX1.out;have d3:=aa (k:=3) HX1.out;have d5:=aa (k:=5) HX1.out;simp only[aW]at d0 d1 d2 d3 d5;clear p0 p1 p2 p3 p4 p5 hb1;refine bS (fun w'=>w'.cell? ⟨wr.heap.size,0,none⟩=some (.string e.path)/\w'.cell? ⟨wr.heap.size,1,none⟩=some (.int .i64 e.kind)/\w'.cell? ⟨wr.heap.size,2,none⟩=some (.int .i64 e.mode)/\w'.cell? ⟨wr.heap.size,3,none⟩=some (.int .i64 e.time)/\w'.cell? ⟨wr.heap.size,5,none⟩=some (.string e.link)) (by kernel_rfl) (by kernel_rfl) ?_
   simp only[List.dropLast_cons_cons,List.dropLast_singleton,List.length_cons,List.length_nil,Nat.reduceAdd,Nat.reduceSub];rw[<-hW1];clear hW1;refine ag 0 rfl (by kernel_rfl) (by kernel_rfl) (by kernel_rfl) (fun _ _ _ h=>h) rfl ⟨d0,d1,d2,d3,d5⟩ (by rintro w' ⟨hw1,hw2,hw3,hw4,hw5⟩; go_simp; rfl) ?_;simp only[Act.put,aB,aC,aD];refine ag 1 rfl (by kernel_rfl) (by kernel_rfl) (by kernel_rfl) (fun _ _ _ h=>h) rfl ⟨d0,d1,d2,d3,d5⟩ (by rintro w' ⟨hw1,hw2,hw3,hw4,hw5⟩; go_simp; rfl) ?_
   simp only[Act.put,aB,aC,aD];refine ag 2 rfl (by kernel_rfl) (by kernel_rfl) (by kernel_rfl) (fun _ _ _ h=>h) rfl ⟨d0,d1,d2,d3,d5⟩ (by rintro w' ⟨hw1,hw2,hw3,hw4,hw5⟩; go_simp; rfl) ?_;simp only[Act.put,aB,aC,aD];refine ag 4 rfl (by kernel_rfl) (by kernel_rfl) (by kernel_rfl) (fun _ _ _ h=>h) rfl ⟨d0,d1,d2,d3,d5⟩ (by rintro w' ⟨hw1,hw2,hw3,hw4,hw5⟩; go_simp; rfl) ?_
   simp only[Act.put,aB,aC,aD];refine ag 5 rfl (by kernel_rfl) (by kernel_rfl) (by kernel_rfl) (fun _ _ _ h=>h) rfl ⟨d0,d1,d2,d3,d5⟩ (by rintro w' ⟨hw1,hw2,hw3,hw4,hw5⟩; go_simp; rfl) ?_;simp only[Act.put,aB,aC,aD];refine ag 6 rfl (by kernel_rfl) (by kernel_rfl) (by kernel_rfl) (fun _ _ _ h=>h) rfl ⟨d0,d1,d2,d3,d5⟩ (by rintro w' ⟨hw1,hw2,hw3,hw4,hw5⟩; go_simp; rfl) ?_
   simp only[Act.put,aB,aC,aD];refine ag 7 rfl (by kernel_rfl) (by kernel_rfl) (by kernel_rfl) (fun _ _ _ h=>h) rfl ⟨d0,d1,d2,d3,d5⟩ (by rintro w' ⟨hw1,hw2,hw3,hw4,hw5⟩; go_simp; rfl) ?_;simp only[Act.put,aB,aC,aD];refine ag 8 rfl (by kernel_rfl) (by kernel_rfl) (by kernel_rfl) (fun _ _ _ h=>h) rfl ⟨d0,d1,d2,d3,d5⟩ (by rintro w' ⟨hw1,hw2,hw3,hw4,hw5⟩; go_simp; rfl) ?_
   simp only[Act.put,aB,aC,aD];refine ag 9 rfl (by kernel_rfl) (by kernel_rfl) (by kernel_rfl) (fun _ _ _ h=>h) rfl ⟨d0,d1,d2,d3,d5⟩ (by rintro w' ⟨hw1,hw2,hw3,hw4,hw5⟩; go_simp; rfl) ?_;simp only[Act.put,aB,aC,aD];refine ag 10 rfl (by kernel_rfl) (by kernel_rfl) (by kernel_rfl) (fun _ _ _ h=>h) rfl ⟨d0,d1,d2,d3,d5⟩ (by rintro w' ⟨hw1,hw2,hw3,hw4,hw5⟩; go_simp; rfl) ?_
   simp only[Act.put,aB,aC,aD];refine ag 11 rfl (by kernel_rfl) (by kernel_rfl) (by kernel_rfl) (fun _ _ _ h=>h) rfl ⟨d0,d1,d2,d3,d5⟩ (by rintro w' ⟨hw1,hw2,hw3,hw4,hw5⟩; go_simp; rfl) ?_;simp only[Act.put,aB,aC,aD];obtain⟨W2,hW2⟩: ∃W2:World,W2=W1.alloc (.cells #[.string ⟨#[]⟩, .int .i64 0, .int .i64 0, .int .i64 0, .int .i64 0, .string ⟨#[]⟩, .slice none 0 0, .string ⟨#[]⟩, .int .i64 0, .int .i64 0] 28):=⟨_,rfl⟩
   have hb2:Below W1.heap.size W1 W2:=by rw[hW2]; exact(Below.refl _ _).alloc (Nat.le_refl _) _
   have hx2:=(hb2.block _ (lt_of_block HX1.out)).trans HX1.out;have hy2:W2.heap[wr.heap.size+1]? =some (.cells #[.string ⟨#[]⟩, .int .i64 0, .int .i64 0, .int .i64 0, .int .i64 0, .string ⟨#[]⟩, .slice none 0 0, .string ⟨#[]⟩, .int .i64 0, .int .i64 0] 28 (0,0)):=by rw[hW2,<-hz1]; exact bY W1 _
   have HX2:=ab hx2;have HY2:=ab hy2;have HB2:=ab (ah HB1.out hb2);have HW2:=ab hW2;obtain⟨nm,hnm⟩: ∃nm:ByteArray,nm=⟨(mA (bl path) (bl e.path)).toArray⟩:=⟨_,rfl⟩;have HNM:=ab hnm;have d0':=aa (k:=0) hx2;have d1':=aa (k:=1) hx2;have d2':=aa (k:=2) hx2;have d3':=aa (k:=3) hx2;have d5':=aa (k:=5) hx2;simp only[aW]at d0' d1' d2' d3' d5'
   clear hW2 hb2 hx2 hy2 hnm;refine Au 3 13 rfl rfl (by kernel_rfl) rfl rfl (fun K hK=> ?ca) (fun K hK=> ?al)
   case' ca=>
    go_wp2_with fail;refine(uc path e.path W1 (by omega)).mono ?_;rintro e' w' ⟨rfl,rfl⟩;rw[<-HNM.out];go_wp2_with fail;refine⟨⟨d0,d1,d2,d3,d5⟩, ?_⟩;refine ag 12 rfl (by kernel_rfl) (by kernel_rfl) (by kernel_rfl) (fun _ _ _ h=>h) rfl ⟨d0,d1,d2,d3,d5⟩ (by rintro w' ⟨hw1,hw2,hw3,hw4,hw5⟩; go_simp; rfl) ?_;simp only[Act.put,aB,aC,aD];refine ar 13 rfl (by kernel_rfl) rfl (fun K hK=> ?_)
    go_wp2_with fail;rw[<-HW2.out]
    (first | (refine⟨⟨d0',d1',d2',d3',d5'⟩, ?_⟩) | skip)
   case' al=>
    go_wp2_with fail;rw[<-HW2.out]
    (first | (refine⟨⟨d0',d1',d2',d3',d5'⟩, ?_⟩) | skip)
    refine ar 3 rfl (by kernel_rfl) rfl (fun K hK=> ?_);go_wp2_with fail;refine(uc path e.path W2 (by omega)).mono ?_;rintro e' w' ⟨rfl,rfl⟩;rw[<-HNM.out];go_wp2_with fail;refine⟨⟨d0',d1',d2',d3',d5'⟩, ?_⟩;refine ag 12 rfl (by kernel_rfl) (by kernel_rfl) (by kernel_rfl) (fun _ _ _ h=>h) rfl ⟨d0',d1',d2',d3',d5'⟩ (by rintro w' ⟨hw1,hw2,hw3,hw4,hw5⟩; go_simp; rfl) ?_
    simp only[Act.put,aB,aC,aD]
   all_goals
    refine aS (by kernel_rfl) ?_;clear d0 d1 d2 d3 d5 d0' d1' d2' d3' d5' HX1;refine bZ rfl rfl (fun K hK=> ?_);have i0:=aa (k:=0) HY2.out;have i1:=aa (k:=1) HY2.out;have i2:=aa (k:=2) HY2.out;have i3:=aa (k:=3) HY2.out;have i4:=aa (k:=4) HY2.out;have i5:=aa (k:=5) HY2.out;have i6:=aa (k:=6) HY2.out;have i7:=aa (k:=7) HY2.out
    have i8:=aa (k:=8) HY2.out;have i9:=aa (k:=9) HY2.out;have g0:=ai (k:=0) HY2.out;have g1:=ai (k:=1) HY2.out;have g2:=ai (k:=2) HY2.out;have g3:=ai (k:=3) HY2.out;have g4:=ai (k:=4) HY2.out;have g5:=ai (k:=5) HY2.out;have g6:=ai (k:=6) HY2.out;have g7:=ai (k:=7) HY2.out;have g8:=ai (k:=8) HY2.out;have g9:=ai (k:=9) HY2.out
    simp only[aW]at i0 i1 i2 i3 i4 i5 i6 i7 i8 i9
    go_upto_region 6 with(fail)
    obtain⟨W3,hW3⟩: ∃W3:World,W3=((((((((((W2.setCell ⟨wr.heap.size+1,0,none⟩ (.string nm)).setCell ⟨wr.heap.size+1,1,none⟩ (.int .i64 e.kind)).setCell ⟨wr.heap.size+1,2,none⟩ (.int .i64 e.mode)).setCell ⟨wr.heap.size+1,3,none⟩ (.int .i64 e.time)).setCell ⟨wr.heap.size+1,4,none⟩ (.int .i64 0)).setCell ⟨wr.heap.size+1,5,none⟩ (.string e.link)).setCell ⟨wr.heap.size+1,6,none⟩ (.slice none 0 0)).setCell ⟨wr.heap.size+1,7,none⟩ (.string ⟨#[]⟩)).setCell ⟨wr.heap.size+1,8,none⟩ (.int .i64 0)).setCell ⟨wr.heap.size+1,9,none⟩ (.int .i64 0)):=⟨_,rfl⟩
    rw[<-hW3];have HB3:=ab (show Below wr.heap.size wr W3 by rw[hW3]; exact dw HB2.out (by show wr.heap.size<=wr.heap.size+1; omega));have HX:=ab (show W3.heap[wr.heap.size]? =some (.cells #[.string e.path, .int .i64 e.kind, .int .i64 e.mode, .int .i64 e.time, .slice da e.data.length dc, .string e.link] 79 (0,0)) by rw[hW3]; exact(kC (show wr.heap.size≠wr.heap.size+1 by omega)).trans HX2.out)
    have HY:=ab (show W3.heap[wr.heap.size+1]? =some (.cells #[.string nm, .int .i64 e.kind, .int .i64 e.mode, .int .i64 e.time, .int .i64 0, .string e.link, .slice none 0 0, .string ⟨#[]⟩, .int .i64 0, .int .i64 0] 28 (0,0)) by rw[hW3]; exact Bm HY2.out);have HIN3:=ab (HIN.out.below HB3.out HBZ.out);have hz3:wr.heap.size+1<W3.heap.size:=lt_of_block HY.out;clear hW3 i0 i1 i2 i3 i4 i5 i6 i7 i8 i9 g0 g1 g2 g3 g4 g5 g6 g7 g8 g9 hz1 HX2 HY2
    have d0:=aa (k:=0) HX.out;have d1:=aa (k:=1) HX.out;have d4:=aa (k:=4) HX.out;simp only[aW]at d0 d1 d4;have i0:=aa (k:=0) HY.out;have i1:=aa (k:=1) HY.out;have i2:=aa (k:=2) HY.out;have i3:=aa (k:=3) HY.out;have i4:=aa (k:=4) HY.out;have i5:=aa (k:=5) HY.out;have i6:=aa (k:=6) HY.out;have i7:=aa (k:=7) HY.out
    have i8:=aa (k:=8) HY.out;have i9:=aa (k:=9) HY.out;have g0:=ai (k:=0) HY.out;have g1:=ai (k:=1) HY.out;have g2:=ai (k:=2) HY.out;have g3:=ai (k:=3) HY.out;have g4:=ai (k:=4) HY.out;have g5:=ai (k:=5) HY.out;have g6:=ai (k:=6) HY.out;have g7:=ai (k:=7) HY.out;have g8:=ai (k:=8) HY.out;have g9:=ai (k:=9) HY.out
    simp only[aW]at i0 i1 i2 i3 i4 i5 i6 i7 i8 i9
    by_cases hk1:e.kind=1
    ·have e1:(e.kind == 1)=true:=by simp[hk1]
     have HK1:=ab hk1;clear hk1
     go_upto_region 10 with(fail)
     obtain⟨W4,hW4⟩: ∃W4:World,W4=W3.setCell ⟨wr.heap.size+1,4,none⟩ (.int .i64 (e.data.length:Int)):=⟨_,rfl⟩;rw[<-hW4];have hb4:Below wr.heap.size wr W4:=by rw[hW4]; exact Below.setCell HB3.out (by show wr.heap.size<=wr.heap.size+1; omega) _
     have HX4:=ab (show W4.heap[wr.heap.size]? =some (.cells #[.string e.path, .int .i64 e.kind, .int .i64 e.mode, .int .i64 e.time, .slice da e.data.length dc, .string e.link] 79 (0,0)) by rw[hW4]; exact(Below.heap_setCell _ _ _ _ (by show wr.heap.size≠wr.heap.size+1; omega)).trans HX.out);have hy4:=dq (k:=4) HY.out (.int .i64 (e.data.length:Int));simp only[List.setIfInBounds_toArray,List.set_cons_succ,List.set_cons_zero]at hy4
     rw[<-hW4]at hy4;have HYA:=ab hy4;have HIN4:=ab (HIN.out.below hb4 HBZ.out);have hdl:=(iu HVE.out).2.2;have hul:=HIU.out.len HIN.out.bd;have hus:=HX'.out.usz;have hcl:=rO HX'.out.cut e.data;have hfl:=xF (· <base) base bb kb im k c gs gv v2 (.slice da e.data.length dc) (bG k gs cs2 bs) e.data W4 HIN4.out.bd HX'.out.keys HX'.out.cut HX'.out.seed (HG.out.keep (fun i h1 _=>HIN4.out.kp.below.block i h1)) HX'.out.gens
      (iN HDY.out.1 HIN4.out.kp.below) hdl (HE.out.keep HIN4.out.kp.below HX'.out.seven) HX'.out.bbb HX'.out.bkb (Nat.le_trans hbz HIN4.out.kp.below.size) HX'.out.seven (by omega)
     have HFL:=ab hfl;clear hW4 hb4 hy4 hdl hul hus hcl hfl d0 d1 d4 i0 i1 i2 i3 i4 i5 i6 i7 i8 i9 g0 g1 g2 g3 g4 g5 g6 g7 g8 g9;have d0:=aa (k:=0) HX4.out;have d1:=aa (k:=1) HX4.out;have d4:=aa (k:=4) HX4.out;simp only[aW]at d0 d1 d4;go_wp2_with fail;refine HFL.out.mono ?_;rintro e' w5 ⟨rv,v5,rfl,hrv5,hbd5,hkp5⟩;obtain⟨ra,rc,rfl,-,-⟩:=ak hrv5;have HIN5:=ab (HIN4.out.step hbd5 hkp5)
     have hy5:=hkp5.blk HIN4.out.bd HYA.out (by decide) (by decide);have hx5:=hkp5.blk HIN4.out.bd HX4.out (by decide) (by decide);obtain⟨rn,hrn⟩: ∃rn,rn=((ft c e.data).map (aZ k gs)).length:=⟨_,rfl⟩;have HRN:=ab hrn;rw[<-hrn]at hrv5 ⊢;have i6:=aa (k:=6) hy5;have g6:=ai (k:=6) hy5;simp only[aW]at i6;have HRV5:=ab hrv5;have HY5:=ab hy5;clear hbd5 hkp5 hx5 hy5 hrn hrv5 d0 d1 d4
     go_upto_region 15 with(fail)
     obtain⟨W6,hW6⟩: ∃W6:World,W6=w5.setCell ⟨wr.heap.size+1,6,none⟩ (.slice ra rn rc):=⟨_,rfl⟩;rw[<-hW6];have hy6:=dq (k:=6) HY5.out (.slice ra rn rc);simp only[List.setIfInBounds_toArray,List.set_cons_succ,List.set_cons_zero]at hy6;rw[<-hW6]at hy6;have HI4:=ab (show uQ w base bb im kb k c gv v (.slice (some ⟨b,0,none⟩) m ec) ys W6 v5 (.slice ia j ic) (bG k gs (ft c e.data) (bG k gs cs2 bs)) its by
      rw[hW6];exact HIN5.out.otherSet HY5.out (by decide) (by decide) (by decide) (by decide) (by decide) (fun e'=>by have:=(HZR.out.lt _ e').2; omega) (by have:=HIN.out.kp.below.size; omega) hbz)
     have HRV5':=ab (show W6.ownsRow w.heap.size 26 3 (.slice ra rn rc) rn (((ft c e.data).map (aZ k gs)).flatMap dH) by
      rw[hW6];have hlow:=HIN4.out.kp.below.size;refine(cE HRV5.out hlow).kept (aH _ _ _ _) (.inr (fun e'=> ?_));obtain⟨cs2',hc2'⟩:=aA HRV5.out e';exact absurd (aI HY5.out hc2') (by decide))
     clear i6 g6;obtain⟨it,hit⟩: ∃it,it=dn k gs c path e bC:=⟨_,rfl⟩;have hch:it.chunks=(ft c e.data).map (aZ k gs):=by rw[hit]; unfold dn; simp only[if_pos HK1.out]
     have HY4:=ab (show W6.heap[wr.heap.size+1]? =some (.cells #[.string it.name, .int .i64 it.kind, .int .i64 it.mode, .int .i64 it.time, .int .i64 it.size, .string it.link, .slice ra rn rc, .string it.node.name, .int .i64 it.node.gen, .int .i64 it.node.size] 28 (0,0)) by
      rw[hy6,HNM.out,hit];unfold dn;simp only[if_pos HK1.out,if_neg (show ¬e.kind=2 by rw[HK1.out]; decide)]
      rfl)
     have HRV4:=ab (show W6.ownsRow w.heap.size 26 3 (.slice ra rn rc) it.chunks.length (it.chunks.flatMap dH) by rw[hch,<-HRN.out]; exact HRV5'.out);have HSI:=ab (show uS it by rw[hit]; exact iP HX'.out.cut HVE.out HDY.out.2 (by decide));have HOK4:=ab (show dk it from⟨by have:=HSI.out.nm; unfold maxLen; omega,by have:=HSI.out.lk; unfold maxLen; omega,by rw[hit]; unfold dn; simp only[if_neg (show ¬e.kind=2 by rw[HK1.out]; decide)]; exact lg⟩)
     have HRS4:=ab (show ∀r∈it.chunks,bz r by
      rw[hch];intro r hr;obtain⟨x,hx,rfl⟩:=List.mem_map.1 hr;have:=(rP HX'.out.cut e.data x hx).2;exact fA HX'.out.gens (by omega))
     have HKE:=ab (show dj k gs c (cw k gs c tree n) path (e::(cg tree path).drop (j+1)) its cs2=dj k gs c (cw k gs c tree n) path ((cg tree path).drop (j+1)) (its++[it]) (cs2++ft c e.data) by rw[hit]; exact qP HK1.out);have HIU4:=ab (show wD UR (bG k gs (cs2++ft c e.data) bs) by rw[dg]; exact HIU.out.puts (HX'.out.u1 e HET.out));rw[<-dg]at HI4
     clear hit hch HY hW6 hy6;obtain⟨zs4,hzs4,hzr4,hzd4⟩:=HI4.out.its.row;have hzl4:zs4.length=j:=by rw[<-HLJ.out,<-hzs4,List.length_map]
     have HZS4:=ab hzs4;have HZR4:=ab hzr4;have HZD4:=ab hzd4;have HZL4:=ab hzl4;have hz4:w.heap.size<=(W6).heap.size:=HI4.out.kp.below.size;have hj4:j<1099511627775:=by omega
     rw[hzl4]at hzr4;have HZRJ:=ab hzr4;clear hzs4 hzr4 hzd4 hzl4;have i0:=aa (k:=0) HY4.out;have i1:=aa (k:=1) HY4.out;have i2:=aa (k:=2) HY4.out;have i3:=aa (k:=3) HY4.out;have i4:=aa (k:=4) HY4.out;have i5:=aa (k:=5) HY4.out;have i6:=aa (k:=6) HY4.out;have i7:=aa (k:=7) HY4.out;have i8:=aa (k:=8) HY4.out;have i9:=aa (k:=9) HY4.out
     have g0:=ai (k:=0) HY4.out;have g1:=ai (k:=1) HY4.out;have g2:=ai (k:=2) HY4.out;have g3:=ai (k:=3) HY4.out;have g4:=ai (k:=4) HY4.out;have g5:=ai (k:=5) HY4.out;have g6:=ai (k:=6) HY4.out;have g7:=ai (k:=7) HY4.out;have g8:=ai (k:=8) HY4.out;have g9:=ai (k:=9) HY4.out;simp only[aW]at i0 i1 i2 i3 i4 i5 i6 i7 i8 i9
     go_wp2_with (at_builtin; go_must (refine aP Tryz.appItems rfl _ _ rfl w.heap.size (.slice ia j ic) j (lH zs4) rfl (W6) [.string it.name, .int .i64 it.kind, .int .i64 it.mode, .int .i64 it.time, .int .i64 it.size, .string it.link, .slice ra rn rc, .string it.node.name, .int .i64 it.node.gen, .int .i64 it.node.size] _ rfl rfl (fY (it:=it)) HZRJ.out hj4 hz4 ?_); intro v' wc hown' hgrow' _ _; obtain⟨ae,ce,rfl,-,-⟩:=ak hown'; have HPU:=ab (HI4.out.push (it:=it) HZS4.out HZR4.out HZD4.out (by rw[HZL4.out]; exact hown') hgrow' HRV4.out HOK4.out HRS4.out hbz); clear hown' hgrow')
     clear i0 i1 i2 i3 i4 i5 i6 i7 i8 i9 g0 g1 g2 g3 g4 g5 g6 g7 g8 g9
     go_roundw
     case rel=>exact⟨j+1,_,its++[it],(cs2++ft c e.data),by omega,by go_num,by simp[HLJ.out],by rw[<-HKD.out,HDP.out,HKE.out],HIU4.out,fun y hy=>by
      rcases List.mem_append.1 hy with hy | hy
      ·exact HSM.out y hy
      ·rw[List.mem_singleton]at hy; subst hy; exact HSI.out,HPU.out⟩
     case measure=>simp[intOf]; omega
    ·have e1:(e.kind == 1)=false:=by simp[hk1]
     have HK1:=ab hk1;clear hk1
     by_cases hk2:e.kind=2
     ·have e2:(e.kind == 2)=true:=by simp[hk2]
      have HK2:=ab hk2;have hrc:=HIH.out e.path v2 (bG k gs cs2 bs) W3 (by omega) (.inr ⟨e,HET.out,rfl⟩) HIN3.out.bd (HG.out.keep (fun i h1 _=>HIN3.out.kp.below.block i h1)) (HGR.out.keep HH.out HIN3.out.kp HX'.out.ikb) HIU.out (HE.out.keep HIN3.out.kp.below HX'.out.seven) (Nat.le_trans hbz HIN3.out.kp.below.size);unfold rz at hrc;clear hk2
      cases hdp:cw k gs c tree n e.path with
      | error x=>
       rw[hdp]at hrc;have HRC:=ab hrc;have HRESX:=ab (show dj k gs c (cw k gs c tree n) path (cg tree path) [] []= .error x by rw[<-HKD.out,HDP.out,oB HK2.out,hdp]);clear hrc hdp;go_wp2_with fail;refine HRC.out.mono ?_;rintro e' w5 ⟨rfl,hx,v5,bs5,hbd5,hkp5⟩;have HIN5:=ab (HIN3.out.step hbd5 hkp5);have e4:(x != 0)=true:=by simp[hx]
       have HXN:=ab hx;clear hx d0 d1 d4 i0 i1 i2 i3 i4 i5 i6 i7 i8 i9 g0 g1 g2 g3 g4 g5 g6 g7 g8 g9;have hy5:=hkp5.blk HIN3.out.bd HY.out (by decide) (by decide);have hnb:(Value.slice ia j ic).ownBlock≠some (wr.heap.size+1):=fun e'=>by have:=(HZR.out.lt _ e').2; omega
       have hlo:w.heap.size<=wr.heap.size+1:=by have:=HIN.out.kp.below.size; omega
       have a1:=HIN5.out.otherSet (q:=7) (u:= .string ⟨#[]⟩) hy5 (by decide) (by decide) (by decide) (by decide) (by decide) hnb hlo hbz;have y1:=dq (k:=7) hy5 (.string ⟨#[]⟩);have a2:=a1.otherSet (q:=8) (u:= .int .i64 0) y1 (by decide) (by decide) (by decide) (by decide) (by decide) hnb hlo hbz;have y2:=dq (k:=8) y1 (.int .i64 0);have a3:=a2.otherSet (q:=9) (u:= .int .i64 0) y2 (by decide) (by decide) (by decide) (by decide) (by decide) hnb hlo hbz
       have y3:=dq (k:=9) y2 (.int .i64 0);simp only[List.setIfInBounds_toArray,List.set_cons_succ,List.set_cons_zero]at y3;have i7:=aa (k:=7) hy5;have i8:=aa (k:=8) hy5;have i9:=aa (k:=9) hy5;have g7:=ai (k:=7) hy5;have g8:=ai (k:=8) hy5;have g9:=ai (k:=9) hy5;simp only[aW]at i7 i8 i9;obtain⟨W6,hW6⟩: ∃W6:World,W6=((w5.setCell ⟨wr.heap.size+1,7,none⟩ (.string ⟨#[]⟩)).setCell ⟨wr.heap.size+1,8,none⟩ (.int .i64 0)).setCell ⟨wr.heap.size+1,9,none⟩ (.int .i64 0):=⟨_,rfl⟩
       rw[<-hW6]at a3 y3;have HI4:=ab a3;have HY6:=ab y3;clear a1 y1 a2 y2 a3 y3 hy5 hnb hlo
       go_upto_region 13 with(fail)
       rw[<-hW6];clear hW6 i7 i8 i9 g7 g8 g9;have HRZ:=ab HI4.out.res;have z0:=aa (k:=0) HRZ.out;have z1:=aa (k:=1) HRZ.out;have z2:=aa (k:=2) HRZ.out;have y0:=ai (k:=0) HRZ.out;have y1:=ai (k:=1) HRZ.out;have y2:=ai (k:=2) HRZ.out;simp only[aW]at z0 z1 z2;go_wp2_with fail;refine nn HRZ.out rfl rfl rfl ?_;have HDE:=ab (show cw k gs c tree (n+1) path= .error x by rw[cw,HRESX.out])
       rw[HDE.out];exact⟨rfl,HXN.out,v5,bs5,HI4.out.bd.other HRZ.out (by decide) (by decide) (by decide) (fun i hi _=>bK hi),((HI4.out.kp.setNew (Nat.le_refl _) hbz).setNew (Nat.le_refl _) hbz).setNew (Nat.le_refl _) hbz⟩
      | ok p=>
       rw[hdp]at hrc
       dsimp only at hrc
       have HRC:=ab hrc;have HKE0:=ab (show dj k gs c (cw k gs c tree n) path (e::(cg tree path).drop (j+1)) its cs2=dj k gs c (cw k gs c tree n) path ((cg tree path).drop (j+1)) (its++[dn k gs c path e (aZ k gs p.1)]) (cs2++p.2) by rw[oB HK2.out,hdp]);have HDPL:=ab (Ah hdp);have HDU:=ab (HX'.out.u2 n e.path p (by omega) (.inr ⟨e,HET.out,rfl⟩) hdp)
       obtain⟨r,hr⟩: ∃r,r=aZ k gs p.1:=⟨_,rfl⟩;have HRE:=ab hr;have HRO:=ab (show bz r by rw[hr]; exact fA HX'.out.gens (by have:=HDPL.out; omega));have HRZN:=ab (show r.name.size=32 by rw[hr]; exact jG _ _ _);rw[<-hr]at HRC HKE0;unfold bJ at HRC;clear hrc hdp hr;go_wp2_with fail;refine HRC.out.mono ?_;rintro e' w5 ⟨rfl,hiu5,v5,hbd5,hkp5⟩;have HIU5:=ab hiu5
       have HIN5:=ab (HIN3.out.step hbd5 hkp5);clear hiu5 d0 d1 d4 i0 i1 i2 i3 i4 i5 i6 i7 i8 i9 g0 g1 g2 g3 g4 g5 g6 g7 g8 g9;have hy5:=hkp5.blk HIN3.out.bd HY.out (by decide) (by decide);have hnb:(Value.slice ia j ic).ownBlock≠some (wr.heap.size+1):=fun e'=>by have:=(HZR.out.lt _ e').2; omega
       have hlo:w.heap.size<=wr.heap.size+1:=by have:=HIN.out.kp.below.size; omega
       have a1:=HIN5.out.otherSet (q:=7) (u:= .string r.name) hy5 (by decide) (by decide) (by decide) (by decide) (by decide) hnb hlo hbz;have y1:=dq (k:=7) hy5 (.string r.name);have a2:=a1.otherSet (q:=8) (u:= .int .i64 r.gen) y1 (by decide) (by decide) (by decide) (by decide) (by decide) hnb hlo hbz;have y2:=dq (k:=8) y1 (.int .i64 r.gen);have a3:=a2.otherSet (q:=9) (u:= .int .i64 r.size) y2 (by decide) (by decide) (by decide) (by decide) (by decide) hnb hlo hbz
       have y3:=dq (k:=9) y2 (.int .i64 r.size);simp only[List.setIfInBounds_toArray,List.set_cons_succ,List.set_cons_zero]at y3;have i7:=aa (k:=7) hy5;have i8:=aa (k:=8) hy5;have i9:=aa (k:=9) hy5;have g7:=ai (k:=7) hy5;have g8:=ai (k:=8) hy5;have g9:=ai (k:=9) hy5;simp only[aW]at i7 i8 i9;obtain⟨W6,hW6⟩: ∃W6:World,W6=((w5.setCell ⟨wr.heap.size+1,7,none⟩ (.string r.name)).setCell ⟨wr.heap.size+1,8,none⟩ (.int .i64 r.gen)).setCell ⟨wr.heap.size+1,9,none⟩ (.int .i64 r.size):=⟨_,rfl⟩
       rw[<-hW6]at a3 y3;have HI4:=ab a3;have HY6:=ab y3;clear a1 y1 a2 y2 a3 y3 hy5 hnb hlo
       go_upto_region 13 with(fail)
       rw[<-hW6];clear hW6 i7 i8 i9 g7 g8 g9
       go_upto_region 15 with(fail)
       obtain⟨it,hit⟩: ∃it,it=dn k gs c path e r:=⟨_,rfl⟩;have hch:it.chunks=[]:=by rw[hit]; unfold dn; simp only[if_neg HK1.out]
       have HY4:=ab (show W6.heap[wr.heap.size+1]? =some (.cells #[.string it.name, .int .i64 it.kind, .int .i64 it.mode, .int .i64 it.time, .int .i64 it.size, .string it.link, .slice none 0 0, .string it.node.name, .int .i64 it.node.gen, .int .i64 it.node.size] 28 (0,0)) by
        rw[HY6.out,HNM.out,hit];unfold dn;simp only[if_neg HK1.out,if_pos HK2.out])
       have HRV4:=ab (show W6.ownsRow w.heap.size 26 3 (.slice none 0 0) it.chunks.length (it.chunks.flatMap dH) by rw[hch]; exact World.ownsRow_nil _ _ _ _);have HSI:=ab (show uS it by rw[hit]; exact iP HX'.out.cut HVE.out HDY.out.2 (by rw[HRZN.out]; decide));have HOK4:=ab (show dk it from⟨by have:=HSI.out.nm; unfold maxLen; omega,by have:=HSI.out.lk; unfold maxLen; omega,by rw[hit]; unfold dn; simp only[if_pos HK2.out]; exact HRO.out⟩)
       have HRS4:=ab (show ∀r∈it.chunks,bz r by rw[hch]; simp);have HKE:=ab (show dj k gs c (cw k gs c tree n) path (e::(cg tree path).drop (j+1)) its cs2=dj k gs c (cw k gs c tree n) path ((cg tree path).drop (j+1)) (its++[it]) (cs2++p.2) by rw[hit]; exact HKE0.out);have HIU4:=ab (show wD UR (bG k gs (cs2++p.2) bs) by rw[dg]; exact HIU5.out)
       rw[<-dg]at HI4;clear hit hch;obtain⟨zs4,hzs4,hzr4,hzd4⟩:=HI4.out.its.row;have hzl4:zs4.length=j:=by rw[<-HLJ.out,<-hzs4,List.length_map]
       have HZS4:=ab hzs4;have HZR4:=ab hzr4;have HZD4:=ab hzd4;have HZL4:=ab hzl4;have hz4:w.heap.size<=(W6).heap.size:=HI4.out.kp.below.size;have hj4:j<1099511627775:=by omega
       rw[hzl4]at hzr4;have HZRJ:=ab hzr4;clear hzs4 hzr4 hzd4 hzl4;have i0:=aa (k:=0) HY4.out;have i1:=aa (k:=1) HY4.out;have i2:=aa (k:=2) HY4.out;have i3:=aa (k:=3) HY4.out;have i4:=aa (k:=4) HY4.out;have i5:=aa (k:=5) HY4.out;have i6:=aa (k:=6) HY4.out;have i7:=aa (k:=7) HY4.out;have i8:=aa (k:=8) HY4.out;have i9:=aa (k:=9) HY4.out
       have g0:=ai (k:=0) HY4.out;have g1:=ai (k:=1) HY4.out;have g2:=ai (k:=2) HY4.out;have g3:=ai (k:=3) HY4.out;have g4:=ai (k:=4) HY4.out;have g5:=ai (k:=5) HY4.out;have g6:=ai (k:=6) HY4.out;have g7:=ai (k:=7) HY4.out;have g8:=ai (k:=8) HY4.out;have g9:=ai (k:=9) HY4.out;simp only[aW]at i0 i1 i2 i3 i4 i5 i6 i7 i8 i9
       go_wp2_with (at_builtin; go_must (refine aP Tryz.appItems rfl _ _ rfl w.heap.size (.slice ia j ic) j (lH zs4) rfl (W6) [.string it.name, .int .i64 it.kind, .int .i64 it.mode, .int .i64 it.time, .int .i64 it.size, .string it.link, .slice none 0 0, .string it.node.name, .int .i64 it.node.gen, .int .i64 it.node.size] _ rfl rfl (fY (it:=it)) HZRJ.out hj4 hz4 ?_); intro v' wc hown' hgrow' _ _; obtain⟨ae,ce,rfl,-,-⟩:=ak hown'; have HPU:=ab (HI4.out.push (it:=it) HZS4.out HZR4.out HZD4.out (by rw[HZL4.out]; exact hown') hgrow' HRV4.out HOK4.out HRS4.out hbz); clear hown' hgrow')
       clear i0 i1 i2 i3 i4 i5 i6 i7 i8 i9 g0 g1 g2 g3 g4 g5 g6 g7 g8 g9
       go_roundw
       case rel=>exact⟨j+1,_,its++[it],(cs2++p.2),by omega,by go_num,by simp[HLJ.out],by rw[<-HKD.out,HDP.out,HKE.out],HIU4.out,fun y hy=>by
        rcases List.mem_append.1 hy with hy | hy
        ·exact HSM.out y hy
        ·rw[List.mem_singleton]at hy; subst hy; exact HSI.out,HPU.out⟩
       case measure=>simp[intOf]; omega
     ·have e2:(e.kind == 2)=false:=by simp[hk2]
      have HK2:=ab hk2;clear hk2
      go_upto_region 15 with(fail)
      clear i0 i1 i2 i3 i4 i5 i6 i7 i8 i9 g0 g1 g2 g3 g4 g5 g6 g7 g8 g9 d0 d1 d4;obtain⟨it,hit⟩: ∃it,it=dn k gs c path e bC:=⟨_,rfl⟩;have HI4:=HIN3;have HY4:=ab (show W3.heap[wr.heap.size+1]? =some (.cells #[.string it.name, .int .i64 it.kind, .int .i64 it.mode, .int .i64 it.time, .int .i64 it.size, .string it.link, .slice none 0 0, .string it.node.name, .int .i64 it.node.gen, .int .i64 it.node.size] 28 (0,0)) by
       rw[HY.out,HNM.out,hit];unfold dn;simp only[if_neg HK1.out,if_neg HK2.out]
       rfl)
      have hch:it.chunks=[]:=by rw[hit]; unfold dn; simp only[if_neg HK1.out]
      have HRV4:=ab (show W3.ownsRow w.heap.size 26 3 (.slice none 0 0) it.chunks.length (it.chunks.flatMap dH) by rw[hch]; exact World.ownsRow_nil _ _ _ _);have HSI:=ab (show uS it by rw[hit]; exact iP HX'.out.cut HVE.out HDY.out.2 (by decide));have HOK4:=ab (show dk it from⟨by have:=HSI.out.nm; unfold maxLen; omega,by have:=HSI.out.lk; unfold maxLen; omega,by rw[hit]; unfold dn; simp only[if_neg HK2.out]; exact lg⟩)
      have HRS4:=ab (show ∀r∈it.chunks,bz r by rw[hch]; simp);have HKE:=ab (show dj k gs c (cw k gs c tree n) path (e::(cg tree path).drop (j+1)) its cs2=dj k gs c (cw k gs c tree n) path ((cg tree path).drop (j+1)) (its++[it]) cs2 by rw[hit]; exact yj HK1.out HK2.out);have HIU4:=HIU;clear hit hch HY;obtain⟨zs4,hzs4,hzr4,hzd4⟩:=HI4.out.its.row
      have hzl4:zs4.length=j:=by rw[<-HLJ.out,<-hzs4,List.length_map]
      have HZS4:=ab hzs4;have HZR4:=ab hzr4;have HZD4:=ab hzd4;have HZL4:=ab hzl4;have hz4:w.heap.size<=(W3).heap.size:=HI4.out.kp.below.size;have hj4:j<1099511627775:=by omega
      rw[hzl4]at hzr4;have HZRJ:=ab hzr4;clear hzs4 hzr4 hzd4 hzl4;have i0:=aa (k:=0) HY4.out;have i1:=aa (k:=1) HY4.out;have i2:=aa (k:=2) HY4.out;have i3:=aa (k:=3) HY4.out;have i4:=aa (k:=4) HY4.out;have i5:=aa (k:=5) HY4.out;have i6:=aa (k:=6) HY4.out;have i7:=aa (k:=7) HY4.out;have i8:=aa (k:=8) HY4.out;have i9:=aa (k:=9) HY4.out
      have g0:=ai (k:=0) HY4.out;have g1:=ai (k:=1) HY4.out;have g2:=ai (k:=2) HY4.out;have g3:=ai (k:=3) HY4.out;have g4:=ai (k:=4) HY4.out;have g5:=ai (k:=5) HY4.out;have g6:=ai (k:=6) HY4.out;have g7:=ai (k:=7) HY4.out;have g8:=ai (k:=8) HY4.out;have g9:=ai (k:=9) HY4.out;simp only[aW]at i0 i1 i2 i3 i4 i5 i6 i7 i8 i9
      go_wp2_with (at_builtin; go_must (refine aP Tryz.appItems rfl _ _ rfl w.heap.size (.slice ia j ic) j (lH zs4) rfl (W3) [.string it.name, .int .i64 it.kind, .int .i64 it.mode, .int .i64 it.time, .int .i64 it.size, .string it.link, .slice none 0 0, .string it.node.name, .int .i64 it.node.gen, .int .i64 it.node.size] _ rfl rfl (fY (it:=it)) HZRJ.out hj4 hz4 ?_); intro v' wc hown' hgrow' _ _; obtain⟨ae,ce,rfl,-,-⟩:=ak hown'; have HPU:=ab (HI4.out.push (it:=it) HZS4.out HZR4.out HZD4.out (by rw[HZL4.out]; exact hown') hgrow' HRV4.out HOK4.out HRS4.out hbz); clear hown' hgrow')
      clear i0 i1 i2 i3 i4 i5 i6 i7 i8 i9 g0 g1 g2 g3 g4 g5 g6 g7 g8 g9
      go_roundw
      case rel=>exact⟨j+1,_,its++[it],cs2,by omega,by go_num,by simp[HLJ.out],by rw[<-HKD.out,HDP.out,HKE.out],HIU4.out,fun y hy=>by
       rcases List.mem_append.1 hy with hy | hy
       ·exact HSM.out y hy
       ·rw[List.mem_singleton]at hy; subst hy; exact HSI.out,HPU.out⟩
      case measure=>simp[intOf]; omega
  ·have hk2:j=m:=by omega
   have HKF:=ab (show dj k gs c (cw k gs c tree n) path (cg tree path) [] []= .ok (its,cs2) by
    rw[<-HKD.out,List.drop_of_length_le (by rw[<-HYS.out,List.length_map,<-HM.out]; omega)]; rfl)
   have hnd:=jz (fun _=>True) its (.slice ia j ic) wr HIN.out.its.at (HE.out.keep HIN.out.kp.below HX'.out.seven).env (AL HSM.out (by rw[HLJ.out]; omega)) (fun it hit=>(HSM.out it hit).tm);unfold nx at hnd
   by_cases hv:cb its=true
   ·simp only[if_pos hv]at hnd
    by_cases hl:(bu its).length<=32768
    ·simp only[if_pos hl]at hnd;have HDE:=ab (show cw k gs c tree (n+1) path= .ok (bu its,cs2++[bu its]) by rw[cw,HKF.out]; simp only[if_pos hv,if_pos hl]);have HND:=ab hnd;have HUN:=ab (HX'.out.u2 (n+1) path _ hn514 HPA.out HDE.out);have HLN:=ab hl;clear hnd hv hl hk2;go_wp2_with fail;refine HND.out.mono ?_;rintro e' w5 ⟨hb5,cv,rfl,hcv⟩;obtain⟨ca,cc,rfl,-,-⟩:=ak hcv
     have HIN5:=ab (HIN.out.below hb5 (Nat.le_trans hbz HIN.out.kp.below.size));have hul:=HIU.out.len HIN.out.bd;have hus:=HX'.out.usz;have had:=wI (fun _=>True) base bb kb im k c gs gv v2 _ (bG k gs cs2 bs) (bu its) w5 HIN5.out.bd HX'.out.keys (HG.out.keep (fun i h1 _=>HIN5.out.kp.below.block i h1)) HX'.out.gens
      (aO.weak (ba hcv) (fun _ _=>trivial)) HLN.out (HE.out.keep HIN5.out.kp.below HX'.out.seven) HX'.out.bbb HX'.out.bkb (Nat.le_trans hbz HIN5.out.kp.below.size) HX'.out.seven (by omega)
     unfold uP bJ at had;obtain⟨r,hr⟩: ∃r,r=aZ k gs (bu its):=⟨_,rfl⟩;rw[<-hr]at had;have HRE:=ab hr;have HAD:=ab had;obtain⟨nl,hnl⟩: ∃nl,nl=(bu its).length:=⟨_,rfl⟩;rw[<-hnl]at HAD ⊢;clear hb5 hcv hul hus had hr hnl;go_wp2_with fail;refine HAD.out.mono ?_;rintro e' w6 ⟨rfl,v6,hbd6,hkp6⟩;have HIN6:=ab (HIN5.out.step hbd6 hkp6);have HRZ:=ab HIN6.out.res
     clear hbd6 hkp6;have z0:=aa (k:=0) HRZ.out;have z1:=aa (k:=1) HRZ.out;have z2:=aa (k:=2) HRZ.out;have y0:=ai (k:=0) HRZ.out;have y1:=ai (k:=1) HRZ.out;have y2:=ai (k:=2) HRZ.out;simp only[aW]at z0 z1 z2;go_wp2_with fail;refine nn HRZ.out rfl rfl rfl ?_;rw[HDE.out];refine⟨by rw[<-HRE.out]; rfl, ?_,v6, ?_, ?_⟩
     ·rw[dg];exact HIU.out.put HUN.out
     ·rw[dg];exact HIN6.out.bd.other HRZ.out (by decide) (by decide) (by decide) (fun i hi _=>bK hi)
     ·exact((HIN6.out.kp.setNew (Nat.le_refl _) hbz).setNew (Nat.le_refl _) hbz).setNew (Nat.le_refl _) hbz
    ·simp only[if_neg hl]at hnd;have HDE:=ab (show cw k gs c tree (n+1) path= .error 2 by rw[cw,HKF.out]; simp only[if_pos hv,if_neg hl]);have HND:=ab hnd;clear hnd hv hl hk2;go_wp2_with fail;refine HND.out.mono ?_;rintro e' w5 ⟨hb5,rfl⟩;have HIN5:=ab (HIN.out.below hb5 (Nat.le_trans hbz HIN.out.kp.below.size));have HRZ:=ab HIN5.out.res;clear hb5;have z0:=aa (k:=0) HRZ.out
     have z1:=aa (k:=1) HRZ.out;have z2:=aa (k:=2) HRZ.out;have y0:=ai (k:=0) HRZ.out;have y1:=ai (k:=1) HRZ.out;have y2:=ai (k:=2) HRZ.out;simp only[aW]at z0 z1 z2;go_wp2_with fail;refine nn HRZ.out rfl rfl rfl ?_;rw[HDE.out];exact⟨rfl,by decide,v2,_,HIN5.out.bd.other HRZ.out (by decide) (by decide) (by decide) (fun i hi _=>bK hi),((HIN5.out.kp.setNew (Nat.le_refl _) hbz).setNew (Nat.le_refl _) hbz).setNew (Nat.le_refl _) hbz⟩
   ·simp only[if_neg hv]at hnd;have HDE:=ab (show cw k gs c tree (n+1) path= .error 1 by rw[cw,HKF.out]; simp only[if_neg hv]);have hl:=hv;have HND:=ab hnd;clear hnd hv hl hk2;go_wp2_with fail;refine HND.out.mono ?_;rintro e' w5 ⟨hb5,rfl⟩;have HIN5:=ab (HIN.out.below hb5 (Nat.le_trans hbz HIN.out.kp.below.size));have HRZ:=ab HIN5.out.res;clear hb5;have z0:=aa (k:=0) HRZ.out
    have z1:=aa (k:=1) HRZ.out;have z2:=aa (k:=2) HRZ.out;have y0:=ai (k:=0) HRZ.out;have y1:=ai (k:=1) HRZ.out;have y2:=ai (k:=2) HRZ.out;simp only[aW]at z0 z1 z2;go_wp2_with fail;refine nn HRZ.out rfl rfl rfl ?_;rw[HDE.out];exact⟨rfl,by decide,v2,_,HIN5.out.bd.other HRZ.out (by decide) (by decide) (by decide) (fun i hi _=>bK hi),((HIN5.out.kp.setNew (Nat.le_refl _) hbz).setNew (Nat.le_refl _) hbz).setNew (Nat.le_refl _) hbz⟩
theorem rR {base bb kb im:Nat} {k:bF} {c:dD} {gs:List (ByteArray×Int)} {tree:List bw} {gv:Value} {UR:List aN} (hX:zG base bb kb im k c gs tree UR): ∀n,n<=514->BW base bb kb im k c gs tree gv UR n
 | 0,_=>Aj hX
 | n+1,h=>Ai n hX h (rR hX n (by omega))
end Go.Proofs.YtpffpjbkbaleiaaGreatDoor
namespace Go.Proofs.YtpffpjbkbaleiaaGreatDoor
open Go Go.RowKit Go.Maps
theorem bV.hitM {S:Nat->Prop} {w:World} {cv:Value} {cs:List (ByteArray×List UInt8)} (h:bV S w cv cs) {n:ByteArray} {bs:List UInt8} (hn:n.size<=maxLen) (hf:dm cs n=some bs):
  ∃v,(Instr.lookup 55 cv (.string n) true).run Tryz.prog w= .ok (.tuple #[v, .bool true]) w/\aF S w v bs:=by
 rcases h with⟨_,rfl⟩ | ⟨b,m,rfl,_,h2,h3⟩
 ·simp[dm]at hf
 ·obtain⟨v,hv,hb⟩:=h3.hit hf;exact⟨v,h2.hit lJ (t:=55) (e:=29) (by kernel_rfl) (lI hn) hv true,hb⟩
theorem bV.missM {S:Nat->Prop} {w:World} {cv:Value} {cs:List (ByteArray×List UInt8)} (h:bV S w cv cs) {n:ByteArray} (hn:n.size<=maxLen) (hf:dm cs n=none):
  (Instr.lookup 55 cv (.string n) true).run Tryz.prog w= .ok (.tuple #[.slice none 0 0, .bool false]) w:=by
 obtain⟨l,hl⟩:=lI hn
 rcases h with⟨rfl,_⟩ | ⟨b,m,rfl,_,h2,h3⟩
 ·exact Maps.look_nil true lJ (t:=55) (e:=29) (by kernel_rfl) (by kernel_rfl) hl
 ·exact h2.miss lJ (t:=55) (e:=29) (by kernel_rfl) (by kernel_rfl) (lI hn) (h3.miss hf) true
theorem qZ (r:aN) (w:World) (hr:bz r):Calls Tryz.prog 79 #[bJ r] w fun e w'=>e= .returned (.bool (dT r))/\Below w.heap.size w w':=by
 obtain⟨n,g,s⟩:=r;obtain⟨h1,h2,h3⟩:=hr;unfold maxLen at h1;simp only[bJ,dT]at *
 go_enter Tryz.func79,Tryz.ntmps79
 go_wp2_with fail
 all_goals (go_ret; refine⟨am ?_,(Below.refl _ _).alloc (Nat.le_refl _) _⟩; rw[Bool.eq_iff_iff]; simp; omega)
theorem oV (r:aN) (b:Bool) (w:World) (hr:bz r) (h:dT r=b):Calls Tryz.prog 79 #[bJ r] w fun e w'=>e= .returned (.bool b)/\Below w.heap.size w w':=by rw[<-h]; exact qZ r w hr
end Go.Proofs.YtpffpjbkbaleiaaGreatDoor
namespace Go.Proofs.YtpffpjbkbaleiaaGreatDoor
open Go Go.RowKit Go.Maps
def eG (cs:List (ByteArray×List UInt8)) (r:aN):Except Int (List aE):=match dF cs r with
 | .error x=>if x=10 then .ok []else .error x
 | .ok l=> .ok l
def Cf (cs:List (ByteArray×List UInt8)) (r:aN) (w:World) (e:Ending) (w':World):Prop:=Below w.heap.size w w'/\match eG cs r with
 | .error x=>e= .returned (.tuple #[.slice none 0 0, .int .i64 x])/\x≠0
 | .ok l=> ∃v,e= .returned (.tuple #[v, .int .i64 0])/\aM (w.heap.size<= ·) w' v l
theorem uk (S:Nat->Prop) (cv:Value) (cs:List (ByteArray×List UInt8)) (r:aN) (w:World) (hc:bV S w cv cs) (hr:bz r) (henv:fN w):Calls Tryz.prog 95 #[cv,bJ r] w (Cf cs r w):=by
 have HB:=ab ((Below.refl w.heap.size w).alloc (Nat.le_refl _) (.cells #[.string r.name, .int .i64 r.gen, .int .i64 r.size] 26));have HC:=ab (hc.below HB.out);have HR:=ab hr;have HE:=ab (henv.below HB.out);unfold bJ;clear hc hr henv
 go_enter Tryz.func95,Tryz.ntmps95
 go_wp2_with fail;refine(lh S cv cs r _ HC.out HR.out HE.out).mono ?_;rintro e w1 ⟨hb1,hres⟩;have HB1:=ab (ah HB.out hb1);have hz:=hb1.size;simp at hz;clear hb1
 cases hnd:dF cs r with
 | error x=>
  rw[hnd]at hres;obtain⟨rfl,hx⟩:=hres
  by_cases h10:x=10
  ·subst h10;have HN:=ab (show eG cs r= .ok [] by unfold eG; rw[hnd]; rfl);clear hnd hx;go_wp2_with fail
   go_ret2
   exact⟨HB1.out,by rw[HN.out]; exact⟨_,rfl,aJ.nil⟩⟩
  ·have HN:=ab (show eG cs r= .error x by unfold eG; rw[hnd]; simp only[if_neg h10]);have e1:(x == 10)=false:=by simp[h10]
   have HX:=ab hx;clear hnd hx h10;go_wp2_with fail
   go_ret2
   exact⟨HB1.out,by rw[HN.out]; exact⟨rfl,HX.out⟩⟩
 | ok l=>
  rw[hnd]at hres;obtain⟨v,rfl,hv⟩:=hres;have HN:=ab (show eG cs r= .ok l by unfold eG; rw[hnd]);have HV:=ab hv;have HV2:=ab (show aM (w.heap.size<= ·) w1 v l from by
   obtain⟨cells,h1,h2⟩:=hv;have hwz:w.heap.size<=(w.alloc (.cells #[.string r.name, .int .i64 r.gen, .int .i64 r.size] 26)).heap.size:=by simp
   exact⟨cells,h1.weak (fun k hk=>Nat.le_trans hwz hk),h2.mono (fun c x _ hx=>hx.same (fun k _ hS=>⟨Nat.le_trans hwz hS,rfl⟩))⟩)
  obtain⟨a,cap,rfl,-,-,-⟩:=aJ.shape hv cM.len;clear hnd hv;go_wp2_with fail
  go_ret2
  exact⟨HB1.out,by rw[HN.out]; exact⟨_,rfl,HV2.out⟩⟩
end Go.Proofs.YtpffpjbkbaleiaaGreatDoor
namespace Go.Proofs.YtpffpjbkbaleiaaGreatDoor
open Go.RowKit
def rC :Prop:= ∀(S:Nat->Prop) (it:aE) (cv:Value) (w:World),aV S w cv it.chunks->dk it->Calls Tryz.prog 54 #[eZ cv it] w fun e w'=>e= .returned (.bool (cr it))/\Below w.heap.size w w'
theorem ou (HI:rC) (S:Nat->Prop) (it:aE) (cv:Value) (b:Bool) (w:World) (hcv:aV S w cv it.chunks) (hok:dk it) (h:cr it=b):Calls Tryz.prog 54 #[eZ cv it] w fun e w'=>e= .returned (.bool b)/\Below w.heap.size w w':=by
 rw[<-h]; exact HI S it cv w hcv hok
theorem Ar (HI:rC) (S:Nat->Prop) (l:List aE) (v:Value) (w:World) (hv:aM S w v l):Calls Tryz.prog 16 #[v] w fun e w'=>e= .returned (.bool (cb l))/\Below w.heap.size w w':=by
 obtain⟨a,cap,rfl,hc,hm,-⟩:=aJ.shape hv cM.len;unfold maxLen at hm;have HV:=ab hv;have HII:=ab HI;clear hv HI
 go_enter Tryz.func16,Tryz.ntmps16
 go_wp2_with fail
 go_loopw [3] (fun i wr=> ∃k:Nat,k<=l.length/\i= .int .i64 k/\cB none l=cB (fz l k) (l.drop k)/\Below w.heap.size w wr) (fun i _=>l.length-(intOf i).toNat)
 case atStart=>exact⟨0,Nat.zero_le _,rfl,rfl,Below.refl _ _⟩
 case round=>
  obtain⟨k,hk,rfl,hal,hb⟩:=hrel;have HB:=ab hb;have HA:=ab hal;clear hb hal
  by_cases hlt:k<l.length
  ·obtain⟨it,hr⟩: ∃it,l[k]? =some it:=⟨l[k],by simp[hlt]⟩;obtain⟨W,hW⟩: ∃W:World,W=wr.drew:=⟨_,rfl⟩;have HBW:=ab (show Below w.heap.size w W by rw[hW]; exact HB.out.drew);obtain⟨b,o,ca,cc,rfl,hok,hrf,hbl,-,hcl⟩:=cW HV.out HBW.out hr;have HR:=ab hr;have HO:=ab hok;have HRF:=ab hrf;have q0:=hcl 0 (by omega);have q1:=hcl 1 (by omega);have q2:=hcl 2 (by omega)
   have q3:=hcl 3 (by omega);have q4:=hcl 4 (by omega);have q5:=hcl 5 (by omega);have q6:=hcl 6 (by omega);have q7:=hcl 7 (by omega);have q8:=hcl 8 (by omega);have q9:=hcl 9 (by omega);simp only[cN,vr,Nat.add_zero]at q0 q1 q2 q3 q4 q5 q6 q7 q8 q9;clear hr hok hrf hcl
   cases hvi:cr it
   ·have HF:=ab (show cb l=false by unfold cb; rw[HA.out,dy HR.out,hvi]; simp);have HVI:=ab hvi;clear hvi;go_wp2_with fail;refine aw [some 4,none,some 19] (by kernel_rfl) (by kernel_rfl) (by kernel_rfl) ?_;simp only[bi,List.take_succ_cons,List.take_zero,List.drop_succ_cons,List.drop_zero];rw[<-hW];clear hW
    repeat (first | (refine aG rfl ?_; simp only[Act.put,aB,aC,aD]) | (refine aL rfl (fun K hK=> ?_); go_simp; refine hK _ ?_; clear hK K))
    refine aK ?_;refine bA rfl (fun K hK=> ?_);go_wp2_with (go_at_call 54; refine(ou HII.out S it (.slice ca it.chunks.length cc) false _ HRF.out HO.out HVI.out).mono ?_; rintro e w1 ⟨rfl,hb1⟩);have HB1:=ab (ah HBW.out hb1);clear hb1
    repeat (first | (refine aG rfl ?_; simp only[Act.put,aB,aC,aD]) | (refine aL rfl (fun K hK=> ?_); go_simp; refine hK _ ?_; clear hK K))
    refine aK ?_;go_wp2_with fail;go_ret;exact⟨am (by rw[HF.out]),HB1.out⟩
   ·have HVI:=ab hvi;clear hvi
    by_cases hk0:k<=0
    ·have HF:=ab (show cB none l=cB (fz l (k+1)) (l.drop (k+1)) by
      obtain rfl:k=0:=by omega
      rw[HA.out,dy HR.out,HVI.out]; simp[fz,fT])
     have ek:decide (0<k)=false:=by simp; omega
     go_wp2_with fail;refine aw [some 4,none,some 19] (by kernel_rfl) (by kernel_rfl) (by kernel_rfl) ?_;simp only[bi,List.take_succ_cons,List.take_zero,List.drop_succ_cons,List.drop_zero];rw[<-hW];clear hW
     repeat (first | (refine aG rfl ?_; simp only[Act.put,aB,aC,aD]) | (refine aL rfl (fun K hK=> ?_); go_simp; refine hK _ ?_; clear hK K))
     refine aK ?_;refine bA rfl (fun K hK=> ?_);go_wp2_with (go_at_call 54; refine(ou HII.out S it (.slice ca it.chunks.length cc) true _ HRF.out HO.out HVI.out).mono ?_; rintro e w1 ⟨rfl,hb1⟩);have HB1:=ab (ah HBW.out hb1);clear hb1
     repeat (first | (refine aG rfl ?_; simp only[Act.put,aB,aC,aD]) | (refine aL rfl (fun K hK=> ?_); go_simp; refine hK _ ?_; clear hK K))
     refine aK ?_;go_wp2_with fail
     go_roundw
     case rel=>exact⟨k+1,by omega,by go_num,HF.out,HB1.out⟩
     case measure=>simp[intOf]; omega
    ·obtain⟨ip,hrp⟩: ∃ip,l[k-1]? =some ip:=⟨l[k-1],by simp⟩;have HRP:=ab hrp;have HPR:=ab (show fz l k=some ip.name from qY (by omega) hrp);have hs1:IntKind.i64.wrap ((k:Int)-1)=(k:Int)-1:=IntWalk.i64_in _ (by omega);have hs2:((k:Int)-1).toNat=k-1:=by omega
     have ek:decide (0<k)=true:=by simp; omega
     have hs3:(1:Int)<=(k:Int):=by omega
     have hs4:1<=k:=by omega
     have hs5:0<k:=by omega
     have hs6:(0:Int)<=(k:Int)-1:=by omega
     have hs7:(k:Int)-1<(l.length:Int):=by omega
     clear hrp;go_wp2_with fail;refine aw [some 4,none,some 19] (by kernel_rfl) (by kernel_rfl) (by kernel_rfl) ?_;simp only[bi,List.take_succ_cons,List.take_zero,List.drop_succ_cons,List.drop_zero];rw[<-hW];clear hW
     repeat (first | (refine aG rfl ?_; simp only[Act.put,aB,aC,aD]) | (refine aL rfl (fun K hK=> ?_); go_simp; refine hK _ ?_; clear hK K))
     refine aK ?_;refine bA rfl (fun K hK=> ?_);go_wp2_with (go_at_call 54; refine(ou HII.out S it (.slice ca it.chunks.length cc) true _ HRF.out HO.out HVI.out).mono ?_; rintro e w1 ⟨rfl,hb1⟩);have HB1:=ab (ah HBW.out hb1);clear hb1;obtain⟨b2,o2,ca2,cc2,e2,-,-,-,-,hcl⟩:=cW HV.out HB1.out HR.out
     cases e2
     have n0:=hcl 0 (by omega);simp only[cN,List.getElem?_cons_zero,Nat.add_zero]at n0;clear hcl;obtain⟨b3,o3,ca3,cc3,e3,-,-,-,-,hcl⟩:=cW HV.out HB1.out HRP.out
     cases e3
     have p0:=hcl 0 (by omega);simp only[cN,List.getElem?_cons_zero,Nat.add_zero]at p0;clear hcl
     cases hlt3:AG ip.name it.name
     ·have HF:=ab (show cb l=false by unfold cb; rw[HA.out,dy HR.out,HPR.out,HVI.out]; simp[fT,hlt3]);unfold AG at hlt3
      repeat (first | (refine aG rfl ?_; simp only[Act.put,aB,aC,aD]) | (refine aL rfl (fun K hK=> ?_); go_simp; refine hK _ ?_; clear hK K))
      refine aK ?_;go_wp2_with fail;go_ret;exact⟨am (by rw[HF.out]),HB1.out⟩
     ·have HF:=ab (show cB none l=cB (fz l (k+1)) (l.drop (k+1)) by rw[HA.out,dy HR.out,HPR.out,HVI.out]; simp[fT,hlt3]);unfold AG at hlt3
      repeat (first | (refine aG rfl ?_; simp only[Act.put,aB,aC,aD]) | (refine aL rfl (fun K hK=> ?_); go_simp; refine hK _ ?_; clear hK K))
      refine aK ?_;go_wp2_with fail
      go_roundw
      case rel=>exact⟨k+1,by omega,by go_num,HF.out,HB1.out⟩
      case measure=>simp[intOf]; omega
  ·obtain rfl:k=l.length:=by omega
   have HF:=ab (show cb l=decide (l.length<=4096) by unfold cb; rw[HA.out,List.drop_of_length_le (Nat.le_refl _)]; simp[cB]);go_wp2_with fail;go_ret;exact⟨am (by rw[HF.out,Bool.eq_iff_iff]; simp; omega),HB.out⟩
end Go.Proofs.YtpffpjbkbaleiaaGreatDoor
namespace Go.Proofs.YtpffpjbkbaleiaaGreatDoor
open Go.RowKit
theorem CR (l:List UInt8):(sr l).length<=4*l.length:=by
 have h1:=pW l;have: ∀rs:List Int,(rs.flatMap Lib.encodeRune).length<=4*rs.length:=by
  intro rs
  induction rs with
  | nil=>simp
  | cons r rs ih=>rw[List.flatMap_cons,List.length_append,List.length_cons]; have:=nY r; omega
 have h2:=this (lO l);unfold sr; omega
theorem tj (s:ByteArray) (pos:Nat):Lib.decodeL ((bl s).drop pos)=Utf8.decode s pos:=Lib.decodeL_drop s pos
theorem Cv {s:ByteArray} {pos:Nat} (h:pos<s.size):(bl s).drop pos≠[]:=by
 intro e; have:=List.drop_eq_nil_iff.1 e; rw[<-ay]at this; omega
theorem zx {s o:ByteArray} {pos:Nat} (hp:pos<s.size) (h:bl o++sr ((bl s).drop pos)=sr (bl s)):
  bl (o++Utf8.encode ((Utf8.decode s pos).1:Int))++sr ((bl s).drop (pos+(Utf8.decode s pos).2))=sr (bl s):=by
 rw[xI,<-h,uo _ (Cv hp),tj,List.drop_drop,<-vi,Cs,List.append_assoc]
theorem vT (s:ByteArray) (w:World) (hs:s.size<=16777216):
  Calls Tryz.prog 164 #[.string s] w fun e w'=>e= .returned (.bool (Lib.validD (bl s)))/\Below w.heap.size w w':=by
 go_enter Tryz.func164,Tryz.ntmps164
 go_wp2
 go_loopw [3] (fun v wr=> ∃(pos:Nat) (o:ByteArray),v= .string o/\wr=w.iter s pos/\o.size<=67108864/\bl o++sr ((bl s).drop pos)=sr (bl s)) (fun _ wr=>s.size-wr.iterPos w.heap.size)
 case atStart=>exact⟨0,⟨#[]⟩,rfl,rfl,by simp[ByteArray.size],by simp[bl]⟩
 case round=>
  obtain⟨pos,o,rfl,rfl,ho,hrel2⟩:=hrel;have HR:=ab hrel2;clear hrel2
  by_cases hp:pos<s.size
  ·have hnx: ∀ty,(Instr.next (.pointer (some ⟨w.heap.size,0,none⟩)) true ty).run Tryz.prog (w.iter s pos)=_:=fun ty=>run_next_any w s pos ty hp
   obtain⟨r,hr⟩: ∃r,r=(Utf8.decode s pos).1:=⟨_,rfl⟩;obtain⟨E,hE⟩: ∃E,E=Utf8.encode (r:Int):=⟨_,rfl⟩;have hcv: ∀w',(convert 21 9 (.int .i32 (r:Int))).run Tryz.prog w'= .ok (.string E) w':=fun w'=>by rw[hE]; exact run_convert_int_string w' _ _ .i32 _ (by rw[Tryz.underlying21]; rfl) Tryz.underlying9
   have hE4:E.size<=4:=by rw[hE]; exact encode_size_le _
   simp only[<-hr]at hnx;have HE:=ab hE;have HRR:=ab hr;clear hE hr
   go_wp2
   go_roundw
   case rel=>
    have hn:bl (o++E)++sr ((bl s).drop (pos+(Utf8.decode s pos).2))=sr (bl s):=by rw[HE.out,HRR.out]; exact zx hp HR.out
    refine⟨pos+(Utf8.decode s pos).2,o++E,rfl,rfl, ?_,hn⟩;have h1:=congrArg List.length hn;have h2:=CR (bl s);rw[List.length_append,<-ay]at h1;rw[<-ay]at h2;omega
   case measure=>
    rw[World.iterPos_iter,World.iterPos_iter];have:=Lib.width_pos s pos;omega
  ·have hnx: ∀ty,(Instr.next (.pointer (some ⟨w.heap.size,0,none⟩)) true ty).run Tryz.prog (w.iter s pos)=_:=fun ty=>run_next_end w s pos ty hp
   go_wp2
   go_ret;refine⟨am ?_,(Below.refl _ _).alloc (Nat.le_refl _) _⟩;have h1:bl o=sr (bl s):=by
    rw[<-HR.out,List.drop_eq_nil_of_le (by rw[<-ay]; omega),su,List.append_nil]
   rw[ci,ci,h1];exact yI (bl s)
theorem tY {s:ByteArray} {j:Nat} (hj:j<s.size) (h:(s[j].toNat:Int)<32):jX (bl s)=false:=by
 refine tZ hj ?_;rw[kA s j hj,<-eO s j hj]; omega
theorem um (s:ByteArray) (w:World) (hs:s.size<=16777216):
  Calls Tryz.prog 138 #[.string s] w fun e w'=>e= .returned (.bool (pk (bl s)))/\Below w.heap.size w w':=by
 go_enter Tryz.func138,Tryz.ntmps138
 go_wp2
 go_loop [3] (fun i=> ∃k:Nat,k<=s.size/\i= .int .i64 k/\ ∀j,j<k->j<s.size->32<=(s.get! j).toNat) (fun i=>s.size-(intOf i).toNat)
 case atStart=>exact⟨0,Nat.zero_le _,rfl,fun j hj=>by omega⟩
 case round=>
  obtain⟨k,hk,rfl,hlow⟩:=hrel;have HL:=ab hlow;clear hlow
  by_cases hp:k<s.size
  ·go_wp2
   ·have hlt:(s[k].toNat:Int)<32:=by assumption
    go_ret;exact⟨am (by simp[pk,tY hp hlt]),Below.refl _ _⟩
   ·have hge:(32:Int)<=(s[k].toNat:Int):=by assumption
    go_round
    case rel=>
     refine⟨k+1,by omega,by go_num,fun j hj hjs=> ?_⟩
     rcases Nat.lt_or_ge j k with h | h
     ·exact HL.out j h hjs
     ·obtain rfl:j=k:=by omega
      rw[kA s j hp,<-eO s j hp]; omega
    case measure=>simp[intOf]<;> omega
  ·go_wp2_with (go_at_call 164; refine(vT s _ hs).mono ?_; rintro e w' ⟨rfl,hb⟩);go_ret;refine⟨am ?_,hb⟩;simp only[pk,xe (fun j hj=>HL.out j (by omega) hj),Bool.true_and]
def zH (c:UInt8) (s:ByteArray) (w:World) (e:Ending) (w':World):Prop:=
 ∃v xs,e= .returned v/\xs.map bl=aU c (bl s)/\iI (w.heap.size<= ·) w' v xs/\Below w.heap.size w w'
theorem tq {s:ByteArray} {c:UInt8} {ys:List ByteArray} {f k:Nat} (hk:k<s.size) (hf:f<=k) (h:aU c (bl s)=ys.map bl++aU c ((bl s).drop f)) (hn: ∀j,f<=j->j<k->(s.get! j)≠c) (hc:s[k]=c):
  aU c (bl s)=(ys++[s.extract f k]).map bl++aU c ((bl s).drop (k+1)):=by
 have hk2:k<(bl s).length:=by rw[<-ay]; exact hk
 have e:(bl s).drop f=bl (s.extract f k)++c::(bl s).drop (k+1):=by
  rw[iL,<-hc,eO s k hk,List.getElem_cons_drop,List.drop_take];have h2:=List.take_append_drop (k-f) ((bl s).drop f);rw[List.drop_drop,show f+(k-f)=k by omega]at h2;exact h2.symm
 have hm:c∉bl (s.extract f k):=by
  intro hm;obtain⟨j,hj,ej⟩:=List.getElem_of_mem hm;simp only[iL]at hj ej;rw[List.length_drop,List.length_take]at hj;rw[List.getElem_drop,List.getElem_take]at ej;exact hn (f+j) (by omega) (by omega) (by rw[kA s _ (by omega)]; exact ej)
 rw[h,e,gZ _ _ _ hm]; simp
theorem tp {s:ByteArray} {c:UInt8} {ys:List ByteArray} {f:Nat} (hf:f<=s.size) (h:aU c (bl s)=ys.map bl++aU c ((bl s).drop f)) (hn: ∀j,f<=j->j<s.size->(s.get! j)≠c):
  aU c (bl s)=(ys++[s.extract f s.size]).map bl:=by
 have e:(bl s).drop f=bl (s.extract f s.size):=by rw[iL,ay,List.take_length]
 have hm:c∉(bl s).drop f:=by
  intro hm;obtain⟨j,hj,ej⟩:=List.getElem_of_mem hm;rw[List.length_drop,<-ay]at hj;rw[List.getElem_drop]at ej;exact hn (f+j) (by omega) (by omega) (by rw[kA s _ (by omega)]; exact ej)
 rw[h,dZ _ _ hm,e]; simp
theorem sq (s:ByteArray) (w:World) (hs:s.size<=16777216):Calls Tryz.prog 87 #[.string s] w (zH 47 s w):=by
 go_enter Tryz.func87,Tryz.ntmps87
 go_wp2_with fail
 go_loopw [3,4,5] (fun v fr i wr=> ∃(k f:Nat) (ys:List ByteArray),k<=s.size+1/\f<=k/\ys.length<=k/\i= .int .i64 k/\fr= .int .i64 f/\wr.ownsRow w.heap.size 9 1 v ys.length (ys.map Value.string)/\Below w.heap.size w wr/\
   (k<=s.size->aU 47 (bl s)=ys.map bl++aU 47 ((bl s).drop f)/\ ∀j,f<=j->j<k->(s.get! j)≠47)/\(k=s.size+1->aU 47 (bl s)=ys.map bl)) (fun _ _ i _=>s.size+1-(intOf i).toNat)
 case atStart=>exact⟨0,0,[],Nat.zero_le _,Nat.le_refl _,Nat.le_refl _,rfl,rfl,World.ownsRow_nil _ _ _ _,Below.refl _ _,fun _=>⟨by simp,fun j _ hj=>by omega⟩,fun h=>by omega⟩
 case round=>
  obtain⟨k,f,ys,hk,hf,hy,rfl,rfl,hown,hb,hr1,hr2⟩:=hrel;have HO:=ab hown;have HB:=ab hb;have HR1:=ab hr1;have HR2:=ab hr2;have hsz:w.heap.size<=wr.heap.size:=hb.size;clear hown hb hr1 hr2
  by_cases hle:k<=s.size
  ·by_cases hlt:k<s.size
   ·have e1:((k:Int) == (s.size:Int))=false:=by rw[beq_eq_false_iff_ne]; omega
    by_cases hc:s[k]=47
    ·have e2:((s[k].toNat:Int) == (47:UInt8).toNat)=true:=by rw[hc]; rfl
     have e2':((s[k].toNat:Int) == 47)=true:=e2;have HCC:=ab hc;clear hc e2;go_wp2_with (at_builtin; go_must (refine dz Tryz.appStrings rfl _ _ rfl w.heap.size u3 ys.length (ys.map Value.string) rfl wr [.string (s.extract f k)] _ rfl rfl (by simp; rfl) HO.out (by omega) hsz ?_); intro v' w1 hown1 hgrow1 _);have HO1:=ab hown1;have HG1:=ab hgrow1;clear hown1 hgrow1;go_wp2_with fail
     go_roundw
     case rel=>
      refine⟨k+1,k+1,ys++[s.extract f k],by omega,Nat.le_refl _,by simp; omega,by go_num,by go_num, ?_,bg HB.out HO.out HG1.out (Nat.le_refl _) hsz,fun _=>⟨tq hlt hf (HR1.out hle).1 (HR1.out hle).2 HCC.out,fun j h1 h2=>by omega⟩,fun h=>by omega⟩;have:=HO1.out; simpa using this
     case measure=>simp[intOf]<;> omega
    ·have e2':((s[k].toNat:Int) == 47)=false:=by
      rw[beq_eq_false_iff_ne]; intro e; apply hc; apply UInt8.toNat_inj.1; have:s[k].toNat=47:=by omega
      rw[this]; rfl
     have HCC:=ab hc;clear hc;go_wp2_with fail
     go_roundw
     case rel=>
      refine⟨k+1,f,ys,by omega,by omega,by omega,by go_num,rfl,HO.out,HB.out,fun _=>⟨(HR1.out hle).1,fun j h1 h2=> ?_⟩,fun h=>by omega⟩
      rcases Nat.lt_or_ge j k with h | h
      ·exact(HR1.out hle).2 j h1 h
      ·obtain rfl:j=k:=by omega
       rw[kA s j hlt,<-eO s j hlt]; exact HCC.out
     case measure=>simp[intOf]<;> omega
   ·obtain rfl:k=s.size:=by omega
    have e1:((s.size:Int) == (s.size:Int))=true:=by simp
    go_wp2_with (at_builtin; go_must (refine dz Tryz.appStrings rfl _ _ rfl w.heap.size u3 ys.length (ys.map Value.string) rfl wr [.string (s.extract f s.size)] _ rfl rfl (by simp; rfl) HO.out (by omega) hsz ?_); intro v' w1 hown1 hgrow1 _);have HO1:=ab hown1;have HG1:=ab hgrow1;clear hown1 hgrow1;go_wp2_with fail
    go_roundw
    case rel=>
     refine⟨s.size+1,s.size+1,ys++[s.extract f s.size],by omega,Nat.le_refl _,by simp; omega,by go_num,by go_num, ?_,bg HB.out HO.out HG1.out (Nat.le_refl _) hsz,fun h=>by omega,fun _=>tp hf (HR1.out hle).1 (HR1.out hle).2⟩;have:=HO1.out; simpa using this
    case measure=>simp[intOf]<;> omega
  ·obtain⟨a,cap,rfl,hn,hm⟩:=ak HO.out;go_wp2_with fail;go_ret;exact⟨_,ys,rfl,(HR2.out (by omega)).symm,(ba HO.out).weak (fun k hk=>hk.1),HB.out⟩
end Go.Proofs.YtpffpjbkbaleiaaGreatDoor
namespace Go.Proofs.YtpffpjbkbaleiaaGreatDoor
open Go.RowKit
theorem wW {xs:List ByteArray} {s:ByteArray} (hx:xs.map bl=aU 47 (bl s)):((xs.length:Int) == 1)= !(bl s).contains 47:=by
 rw[<-tf,<-hx,List.length_map,Bool.eq_iff_iff,beq_iff_eq,beq_iff_eq]; omega
theorem mT (s:ByteArray) (w:World) (hs:s.size<=16777216):
  Calls Tryz.prog 102 #[.string s] w fun e w'=>e= .returned (.bool (dx (bl s)))/\Below w.heap.size w w':=by
 go_enter Tryz.func102,Tryz.ntmps102
 go_wp2_with (first
  | (go_at_call 138; refine(um s _ hs).mono ?_; rintro e w1 ⟨rfl,hb1⟩)
  | (go_at_call 87; refine(sq s _ hs).mono ?_; rintro e w2 ⟨v2,xs2,rfl,hx2,hv2,hb2⟩; obtain⟨a2,c2,rfl,-,-,-⟩:=hv2.shape; have HX2:=ab hx2; clear hx2 hv2))
 all_goals (go_ret; refine⟨am ?_,by first | exact Below.refl _ _ | exact ah hb1 hb2 | exact hb1⟩)
 all_goals (rw[Bool.eq_iff_iff]; simp only[ci]at *)
 all_goals (first | (have hq:=wW HX2.out; simp_all [dx,ay]; done) | (simp_all [dx,ay]; done) | (simp_all [dx,ay]; omega) | (have hq:=wW HX2.out; simp_all [dx,ay]; intro _; omega))
end Go.Proofs.YtpffpjbkbaleiaaGreatDoor
namespace Go.Proofs.YtpffpjbkbaleiaaGreatDoor
open Go.RowKit
theorem pH (s:ByteArray) (w:World) (hs:64<s.size) (hm:s.size<=maxLen):Calls Tryz.prog 102 #[.string s] w fun e w'=>e= .returned (.bool (dx (bl s)))/\Below w.heap.size w w':=by
 have HF:=ab (show dx (bl s)=false by
  have h1:decide ((bl s).length<=64)=false:=by rw[<-ay]; simp; omega
  unfold dx; rw[h1]; simp)
 unfold maxLen at hm
 go_enter Tryz.func102,Tryz.ntmps102
 go_wp2_with fail
 all_goals (go_ret; exact⟨am HF.out.symm,Below.refl _ _⟩)
theorem bn (s:ByteArray) (b:Bool) (w:World) (hs:s.size<=maxLen) (h:dx (bl s)=b):Calls Tryz.prog 102 #[.string s] w fun e w'=>e= .returned (.bool b)/\Below w.heap.size w w':=by
 rw[<-h]
 by_cases h64:s.size<=64
 ·exact mT s w (by omega)
 ·exact pH s w (by omega) hs
theorem kM (it:aE):cr it=(dx (bl it.name) && (decide (0<=it.mode) && decide (it.mode<=511) && decide (0<=it.time)) && bP it):=by
 unfold cr mK; rw[nM]
theorem vy :rC:=by
 intro S it cv w hcv hok;obtain⟨a,cap,rfl,hc,hm,-⟩:=aJ.shape hcv fE.len;unfold maxLen at hm;have HV:=ab hcv;have HO:=ab hok;have hq1:=hok.nm;have hq2:=hok.lk;unfold maxLen at hq1 hq2;have heq: ∀w,(Op.equalIn 10000 26 (.agg #[.string it.node.name, .int .i64 it.node.gen, .int .i64 it.node.size]) (.agg #[.string ⟨#[]⟩, .int .i64 0, .int .i64 0])).run Tryz.prog w= .ok (decide (it.node=bC)) w:=fun w=>An it.node bC w
 have HL:=ab (show it.link.toList=[]<->it.link.size=0 by rw[ci,ay]; simp);clear hcv hok;unfold eZ
 cases hv:dx (bl it.name)
 ·have HVP:=ab hv;clear hv
  go_enter Tryz.func54,Tryz.ntmps54
  go_wp2_with fail;obtain⟨W,hW⟩: ∃W,W=w.alloc (.cells #[.string it.name, .int .i64 it.kind, .int .i64 it.mode, .int .i64 it.time, .int .i64 it.size, .string it.link, .slice a it.chunks.length cap, .string it.node.name, .int .i64 it.node.gen, .int .i64 it.node.size] 28):=⟨_,rfl⟩;rw[<-hW];have HBW:=ab (show Below w.heap.size w W by rw[hW]; exact(Below.refl _ _).alloc (Nat.le_refl _) _)
  have HBX:=ab (show W.heap[w.heap.size]? =some (.cells #[.string it.name, .int .i64 it.kind, .int .i64 it.mode, .int .i64 it.time, .int .i64 it.size, .string it.link, .slice a it.chunks.length cap, .string it.node.name, .int .i64 it.node.gen, .int .i64 it.node.size] 28 (0,0)) by rw[hW]; exact heap_alloc_new w _);clear hW;refine(bn it.name false _ HO.out.nm HVP.out).mono ?_;rintro e w1 ⟨rfl,hb1⟩
  have HBXr:=ab ((hb1.block w.heap.size ((Array.getElem?_eq_some_iff.1 HBX.out).1)).trans HBX.out);have HB1:=ab (ah HBW.out hb1);have hlt1:w.heap.size<w1.heap.size:=(Array.getElem?_eq_some_iff.1 HBXr.out).1;have c0:=aj (k:=0) HBXr.out;have c1:=aj (k:=1) HBXr.out;have c2:=aj (k:=2) HBXr.out;have c3:=aj (k:=3) HBXr.out;have c4:=aj (k:=4) HBXr.out
  have c5:=aj (k:=5) HBXr.out;have c6:=aj (k:=6) HBXr.out;have c7:=aj (k:=7) HBXr.out;have c8:=aj (k:=8) HBXr.out;have c9:=aj (k:=9) HBXr.out;simp only[aW]at c0 c1 c2 c3 c4 c5 c6 c7 c8 c9;clear hb1 HBX;go_wp2_with fail;go_ret;exact⟨am (by rw[kM,HVP.out]; rfl),HB1.out⟩
 ·have HVP:=ab hv;clear hv
  by_cases hmt:0<=it.mode/\it.mode<=511/\0<=it.time
  ·have HH:=ab (show cr it=bP it by obtain⟨x1,x2,x3⟩:=hmt; rw[kM,HVP.out]; simp[x1,x2,x3]);obtain⟨hm1,hm2,hm3⟩:=hmt
   by_cases hk2:it.kind=2
   ·have hvb:bP it=(decide (it.link.size=0) && decide (it.size=0) && decide (it.chunks.length=0) && dT it.node):=by unfold bP; rw[if_neg (by omega),if_pos hk2]
    have e1:(it.kind == 1)=false:=by simp[hk2]
    have e5:(it.kind == 2)=true:=by simp[hk2]
    have e2:(it.kind != 1)=true:=by simp[hk2]
    have e3:(it.kind != 2)=false:=by simp[hk2]
    have e4:(it.kind != 3)=true:=by simp[hk2]
    clear hk2
    by_cases hch:it.chunks.length=0
    ·have hc0: ¬0<it.chunks.length:=by omega
     by_cases hsz:it.size=0
     ·have es:(it.size != 0)=false:=by simp[hsz]
      by_cases hl:it.link.size=0
      ·have hl2:it.link.toList=[]:=HL.out.2 hl;have HK:=ab (show bP it=dT it.node by rw[hvb,hch,hsz,hl]; simp);clear hvb hch hsz hl
       go_enter Tryz.func54,Tryz.ntmps54
       go_wp2_with fail;obtain⟨W,hW⟩: ∃W,W=w.alloc (.cells #[.string it.name, .int .i64 it.kind, .int .i64 it.mode, .int .i64 it.time, .int .i64 it.size, .string it.link, .slice a it.chunks.length cap, .string it.node.name, .int .i64 it.node.gen, .int .i64 it.node.size] 28):=⟨_,rfl⟩;rw[<-hW];have HBW:=ab (show Below w.heap.size w W by rw[hW]; exact(Below.refl _ _).alloc (Nat.le_refl _) _)
       have HBX:=ab (show W.heap[w.heap.size]? =some (.cells #[.string it.name, .int .i64 it.kind, .int .i64 it.mode, .int .i64 it.time, .int .i64 it.size, .string it.link, .slice a it.chunks.length cap, .string it.node.name, .int .i64 it.node.gen, .int .i64 it.node.size] 28 (0,0)) by rw[hW]; exact heap_alloc_new w _);clear hW;refine(bn it.name true _ HO.out.nm HVP.out).mono ?_;rintro e w1 ⟨rfl,hb1⟩
       have HBXr:=ab ((hb1.block w.heap.size ((Array.getElem?_eq_some_iff.1 HBX.out).1)).trans HBX.out);have HB1:=ab (ah HBW.out hb1);have hlt1:w.heap.size<w1.heap.size:=(Array.getElem?_eq_some_iff.1 HBXr.out).1;have c0:=aj (k:=0) HBXr.out;have c1:=aj (k:=1) HBXr.out;have c2:=aj (k:=2) HBXr.out;have c3:=aj (k:=3) HBXr.out;have c4:=aj (k:=4) HBXr.out
       have c5:=aj (k:=5) HBXr.out;have c6:=aj (k:=6) HBXr.out;have c7:=aj (k:=7) HBXr.out;have c8:=aj (k:=8) HBXr.out;have c9:=aj (k:=9) HBXr.out;simp only[aW]at c0 c1 c2 c3 c4 c5 c6 c7 c8 c9;clear hb1 HBX;go_wp2_with fail;refine(qZ it.node _ HO.out.nd).mono ?_;rintro e w2 ⟨rfl,hb2⟩;have HB2:=ab (ah HB1.out hb2);clear hb2;go_wp2_with fail;go_ret
       exact⟨am (by rw[HH.out,HK.out]),HB2.out⟩
      ·have hl2: ¬it.link.toList=[]:=fun h=>hl (HL.out.1 h)
       have hl3:it.link.toList.isEmpty=false:=by rw[List.isEmpty_eq_false_iff]; exact hl2
       have HK:=ab (show bP it=false by rw[hvb]; simp[hl]);clear hvb hch hsz hl
       go_enter Tryz.func54,Tryz.ntmps54
       go_wp2_with fail;obtain⟨W,hW⟩: ∃W,W=w.alloc (.cells #[.string it.name, .int .i64 it.kind, .int .i64 it.mode, .int .i64 it.time, .int .i64 it.size, .string it.link, .slice a it.chunks.length cap, .string it.node.name, .int .i64 it.node.gen, .int .i64 it.node.size] 28):=⟨_,rfl⟩;rw[<-hW];have HBW:=ab (show Below w.heap.size w W by rw[hW]; exact(Below.refl _ _).alloc (Nat.le_refl _) _)
       have HBX:=ab (show W.heap[w.heap.size]? =some (.cells #[.string it.name, .int .i64 it.kind, .int .i64 it.mode, .int .i64 it.time, .int .i64 it.size, .string it.link, .slice a it.chunks.length cap, .string it.node.name, .int .i64 it.node.gen, .int .i64 it.node.size] 28 (0,0)) by rw[hW]; exact heap_alloc_new w _);clear hW;refine(bn it.name true _ HO.out.nm HVP.out).mono ?_;rintro e w1 ⟨rfl,hb1⟩
       have HBXr:=ab ((hb1.block w.heap.size ((Array.getElem?_eq_some_iff.1 HBX.out).1)).trans HBX.out);have HB1:=ab (ah HBW.out hb1);have hlt1:w.heap.size<w1.heap.size:=(Array.getElem?_eq_some_iff.1 HBXr.out).1;have c0:=aj (k:=0) HBXr.out;have c1:=aj (k:=1) HBXr.out;have c2:=aj (k:=2) HBXr.out;have c3:=aj (k:=3) HBXr.out;have c4:=aj (k:=4) HBXr.out
       have c5:=aj (k:=5) HBXr.out;have c6:=aj (k:=6) HBXr.out;have c7:=aj (k:=7) HBXr.out;have c8:=aj (k:=8) HBXr.out;have c9:=aj (k:=9) HBXr.out;simp only[aW]at c0 c1 c2 c3 c4 c5 c6 c7 c8 c9;clear hb1 HBX;go_wp2_with fail
       all_goals (go_ret; exact⟨am (by rw[HH.out,HK.out]),HB1.out⟩)
     ·have es:(it.size != 0)=true:=by simp[hsz]
      have HK:=ab (show bP it=false by rw[hvb]; simp[hsz]);clear hvb hch hsz
      go_enter Tryz.func54,Tryz.ntmps54
      go_wp2_with fail;obtain⟨W,hW⟩: ∃W,W=w.alloc (.cells #[.string it.name, .int .i64 it.kind, .int .i64 it.mode, .int .i64 it.time, .int .i64 it.size, .string it.link, .slice a it.chunks.length cap, .string it.node.name, .int .i64 it.node.gen, .int .i64 it.node.size] 28):=⟨_,rfl⟩;rw[<-hW];have HBW:=ab (show Below w.heap.size w W by rw[hW]; exact(Below.refl _ _).alloc (Nat.le_refl _) _)
      have HBX:=ab (show W.heap[w.heap.size]? =some (.cells #[.string it.name, .int .i64 it.kind, .int .i64 it.mode, .int .i64 it.time, .int .i64 it.size, .string it.link, .slice a it.chunks.length cap, .string it.node.name, .int .i64 it.node.gen, .int .i64 it.node.size] 28 (0,0)) by rw[hW]; exact heap_alloc_new w _);clear hW;refine(bn it.name true _ HO.out.nm HVP.out).mono ?_;rintro e w1 ⟨rfl,hb1⟩
      have HBXr:=ab ((hb1.block w.heap.size ((Array.getElem?_eq_some_iff.1 HBX.out).1)).trans HBX.out);have HB1:=ab (ah HBW.out hb1);have hlt1:w.heap.size<w1.heap.size:=(Array.getElem?_eq_some_iff.1 HBXr.out).1;have c0:=aj (k:=0) HBXr.out;have c1:=aj (k:=1) HBXr.out;have c2:=aj (k:=2) HBXr.out;have c3:=aj (k:=3) HBXr.out;have c4:=aj (k:=4) HBXr.out
      have c5:=aj (k:=5) HBXr.out;have c6:=aj (k:=6) HBXr.out;have c7:=aj (k:=7) HBXr.out;have c8:=aj (k:=8) HBXr.out;have c9:=aj (k:=9) HBXr.out;simp only[aW]at c0 c1 c2 c3 c4 c5 c6 c7 c8 c9;clear hb1 HBX;go_wp2_with fail
      all_goals (go_ret; exact⟨am (by rw[HH.out,HK.out]),HB1.out⟩)
    ·have hc0:0<it.chunks.length:=by omega
     have HK:=ab (show bP it=false by rw[hvb]; simp[hch]);clear hvb hch
     go_enter Tryz.func54,Tryz.ntmps54
     go_wp2_with fail;obtain⟨W,hW⟩: ∃W,W=w.alloc (.cells #[.string it.name, .int .i64 it.kind, .int .i64 it.mode, .int .i64 it.time, .int .i64 it.size, .string it.link, .slice a it.chunks.length cap, .string it.node.name, .int .i64 it.node.gen, .int .i64 it.node.size] 28):=⟨_,rfl⟩;rw[<-hW];have HBW:=ab (show Below w.heap.size w W by rw[hW]; exact(Below.refl _ _).alloc (Nat.le_refl _) _)
     have HBX:=ab (show W.heap[w.heap.size]? =some (.cells #[.string it.name, .int .i64 it.kind, .int .i64 it.mode, .int .i64 it.time, .int .i64 it.size, .string it.link, .slice a it.chunks.length cap, .string it.node.name, .int .i64 it.node.gen, .int .i64 it.node.size] 28 (0,0)) by rw[hW]; exact heap_alloc_new w _);clear hW;refine(bn it.name true _ HO.out.nm HVP.out).mono ?_;rintro e w1 ⟨rfl,hb1⟩
     have HBXr:=ab ((hb1.block w.heap.size ((Array.getElem?_eq_some_iff.1 HBX.out).1)).trans HBX.out);have HB1:=ab (ah HBW.out hb1);have hlt1:w.heap.size<w1.heap.size:=(Array.getElem?_eq_some_iff.1 HBXr.out).1;have c0:=aj (k:=0) HBXr.out;have c1:=aj (k:=1) HBXr.out;have c2:=aj (k:=2) HBXr.out;have c3:=aj (k:=3) HBXr.out;have c4:=aj (k:=4) HBXr.out
     have c5:=aj (k:=5) HBXr.out;have c6:=aj (k:=6) HBXr.out;have c7:=aj (k:=7) HBXr.out;have c8:=aj (k:=8) HBXr.out;have c9:=aj (k:=9) HBXr.out;simp only[aW]at c0 c1 c2 c3 c4 c5 c6 c7 c8 c9;clear hb1 HBX;go_wp2_with fail
     all_goals (go_ret; exact⟨am (by rw[HH.out,HK.out]),HB1.out⟩)
   ·by_cases hn:it.node=bC
    ·have en:decide (it.node=bC)=true:=by simp[hn]
     have HN:=ab hn;clear hn
     by_cases hk1:it.kind=1
     ·have hvb:bP it=(decide (it.link.size=0) && decide (it.node=bC) && bW it):=by unfold bP; rw[if_pos hk1]
      have e1:(it.kind == 1)=true:=by simp[hk1]
      have e2:(it.kind != 1)=false:=by simp[hk1]
      have e3:(it.kind != 2)=true:=by simp[hk1]
      have e4:(it.kind != 3)=true:=by simp[hk1]
      clear hk1 hk2
      by_cases hl:it.link.size=0
      ·have hl2:it.link.toList=[]:=HL.out.2 hl;have HK:=ab (show bP it=bW it by rw[hvb,HN.out,hl]; simp);clear hvb hl
       go_enter Tryz.func54,Tryz.ntmps54
       go_wp2_with fail;obtain⟨W,hW⟩: ∃W,W=w.alloc (.cells #[.string it.name, .int .i64 it.kind, .int .i64 it.mode, .int .i64 it.time, .int .i64 it.size, .string it.link, .slice a it.chunks.length cap, .string it.node.name, .int .i64 it.node.gen, .int .i64 it.node.size] 28):=⟨_,rfl⟩;rw[<-hW];have HBW:=ab (show Below w.heap.size w W by rw[hW]; exact(Below.refl _ _).alloc (Nat.le_refl _) _)
       have HBX:=ab (show W.heap[w.heap.size]? =some (.cells #[.string it.name, .int .i64 it.kind, .int .i64 it.mode, .int .i64 it.time, .int .i64 it.size, .string it.link, .slice a it.chunks.length cap, .string it.node.name, .int .i64 it.node.gen, .int .i64 it.node.size] 28 (0,0)) by rw[hW]; exact heap_alloc_new w _);clear hW;refine(bn it.name true _ HO.out.nm HVP.out).mono ?_;rintro e w1 ⟨rfl,hb1⟩
       have HBXr:=ab ((hb1.block w.heap.size ((Array.getElem?_eq_some_iff.1 HBX.out).1)).trans HBX.out);have HB1:=ab (ah HBW.out hb1);have hlt1:w.heap.size<w1.heap.size:=(Array.getElem?_eq_some_iff.1 HBXr.out).1;have c0:=aj (k:=0) HBXr.out;have c1:=aj (k:=1) HBXr.out;have c2:=aj (k:=2) HBXr.out;have c3:=aj (k:=3) HBXr.out;have c4:=aj (k:=4) HBXr.out
       have c5:=aj (k:=5) HBXr.out;have c6:=aj (k:=6) HBXr.out;have c7:=aj (k:=7) HBXr.out;have c8:=aj (k:=8) HBXr.out;have c9:=aj (k:=9) HBXr.out;simp only[aW]at c0 c1 c2 c3 c4 c5 c6 c7 c8 c9;clear hb1 HBX;go_wp2_with fail;clear c0 c1 c2 c3 c4 c5 c6 c7 c8 c9 e1 e2 e3 e4 en hl2
       go_loopw [3,4] (fun sm i wr=> ∃k:Nat,k<=it.chunks.length/\i= .int .i64 k/\sm= .int .i64 (fj (it.chunks.take k))/\(it.chunks.take k).all fl=true/\Below w1.heap.size w1 wr) (fun _ i _=>it.chunks.length-(intOf i).toNat)
       case atStart=>exact⟨0,Nat.zero_le _,rfl,rfl,rfl,Below.refl _ _⟩
       case round=>
        obtain⟨k,hk,rfl,rfl,hal,hb⟩:=hrel;have HB:=ab hb;have HA:=ab hal;clear hb hal;have HBXw:=ab ((HB.out.block w.heap.size hlt1).trans HBXr.out);have c4:=aj (k:=4) HBXw.out;have c6:=aj (k:=6) HBXw.out;simp only[aW]at c4 c6
        by_cases hlt:k<it.chunks.length
        ·obtain⟨r,hr⟩: ∃r,it.chunks[k]? =some r:=⟨it.chunks[k],by simp[hlt]⟩;obtain⟨b,o,rfl,hok,q0,q1,q2⟩:=eS HV.out (ah HB1.out HB.out) hr;have HR:=ab hr;have HRO:=ab hok;have HS:=ab (show fj (it.chunks.take (k+1))=wrap64 (fj (it.chunks.take k)+r.size) by rw[br hr,lR]);clear hr hok
         cases hvr:dT r
         ·have HF:=ab (show bW it=false by unfold bW; rw[rG HR.out (by simp[fl,hvr])]; rfl);have HVR:=ab hvr;clear hvr;go_wp2_with fail;refine(oV r false _ HRO.out HVR.out).mono ?_;rintro e w2 ⟨rfl,hb2⟩;have HB2:=ab (ah HB.out hb2);clear hb2;go_wp2_with fail;go_ret;exact⟨am (by rw[HH.out,HK.out,HF.out]),ah HB1.out HB2.out⟩
         ·have HVR:=ab hvr;have hrs:0<=r.size:=by
           simp only[dT,Bool.and_eq_true,decide_eq_true_eq]at hvr;exact hvr.1.2
          clear hvr
          by_cases hs:r.size=0
          ·have HF:=ab (show bW it=false by unfold bW; rw[rG HR.out (by simp[fl,HVR.out]; omega)]; rfl);have es:(r.size == 0)=true:=by simp[hs]
           clear hs;go_wp2_with fail;refine(oV r true _ HRO.out HVR.out).mono ?_;rintro e w2 ⟨rfl,hb2⟩;have HB2:=ab (ah HB.out hb2);have d2:=(hb2.cell (aR q2)).trans q2;have d6:=(hb2.cell (aR c6)).trans c6;clear hb2 q0 q1 q2;go_wp2_with fail;go_ret;exact⟨am (by rw[HH.out,HK.out,HF.out]),ah HB1.out HB2.out⟩
          ·have es:(r.size == 0)=false:=by simp[hs]
           have HP:=ab (show fl r=true by simp[fl,HVR.out]; omega);clear hs hrs;go_wp2_with fail;refine(oV r true _ HRO.out HVR.out).mono ?_;rintro e w2 ⟨rfl,hb2⟩;have HB2:=ab (ah HB.out hb2);have d2:=(hb2.cell (aR q2)).trans q2;have d6:=(hb2.cell (aR c6)).trans c6;clear hb2 q0 q1 q2;go_wp2_with fail
           go_roundw
           case rel=>exact⟨k+1,by omega,by go_num,by rw[HS.out],sP HA.out HR.out HP.out,HB2.out⟩
           case measure=>simp[intOf]; omega
        ·obtain rfl:k=it.chunks.length:=by omega
         have hall:it.chunks.all fl=true:=by
          have:=HA.out
          rwa [List.take_of_length_le (Nat.le_refl _)]at this
         have HALL:=ab hall;have HTK:=ab (show it.chunks.take it.chunks.length=it.chunks from List.take_of_length_le (Nat.le_refl _));obtain⟨tw,htw⟩: ∃tw:Int,tw=fj (it.chunks.take it.chunks.length):=⟨_,rfl⟩;rw[<-htw];have HTW:=ab htw;clear hall htw
         by_cases hsz:tw=it.size
         ·have e5:(tw == it.size)=true:=by simp[hsz]
          have HSZ:=ab hsz;clear hsz
          by_cases hmx:tw<=1048576
          ·have HVC:=ab (show bW it=true by
            unfold bW; rw[HALL.out];have h1:=HTW.out;rw[HTK.out]at h1;have h2:=HSZ.out;simp only[Bool.true_and,Bool.and_eq_true,decide_eq_true_eq]
            omega)
           go_wp2_with fail;go_ret;exact⟨am (by rw[HH.out,HK.out,HVC.out]),ah HB1.out HB.out⟩
          ·have HVC:=ab (show bW it=false by
            unfold bW; rw[HALL.out];have h1:=HTW.out;rw[HTK.out]at h1;have h2:=HSZ.out;rw[Bool.eq_false_iff];simp only[Bool.true_and,ne_eq,Bool.and_eq_true,decide_eq_true_eq]
            omega)
           go_wp2_with fail;go_ret;exact⟨am (by rw[HH.out,HK.out,HVC.out]),ah HB1.out HB.out⟩
         ·have e5:(tw == it.size)=false:=by simp[hsz]
          have HVC:=ab (show bW it=false by
           unfold bW; rw[HALL.out];have h1:=HTW.out;rw[HTK.out]at h1;rw[Bool.eq_false_iff];simp only[Bool.true_and,ne_eq,Bool.and_eq_true,decide_eq_true_eq]
           omega)
          clear hsz;go_wp2_with fail;go_ret;exact⟨am (by rw[HH.out,HK.out,HVC.out]),ah HB1.out HB.out⟩
      ·have hl2: ¬it.link.toList=[]:=fun h=>hl (HL.out.1 h)
       have hl3:it.link.toList.isEmpty=false:=by rw[List.isEmpty_eq_false_iff]; exact hl2
       have HK:=ab (show bP it=false by rw[hvb]; simp[hl]);clear hvb hl
       go_enter Tryz.func54,Tryz.ntmps54
       go_wp2_with fail;obtain⟨W,hW⟩: ∃W,W=w.alloc (.cells #[.string it.name, .int .i64 it.kind, .int .i64 it.mode, .int .i64 it.time, .int .i64 it.size, .string it.link, .slice a it.chunks.length cap, .string it.node.name, .int .i64 it.node.gen, .int .i64 it.node.size] 28):=⟨_,rfl⟩;rw[<-hW];have HBW:=ab (show Below w.heap.size w W by rw[hW]; exact(Below.refl _ _).alloc (Nat.le_refl _) _)
       have HBX:=ab (show W.heap[w.heap.size]? =some (.cells #[.string it.name, .int .i64 it.kind, .int .i64 it.mode, .int .i64 it.time, .int .i64 it.size, .string it.link, .slice a it.chunks.length cap, .string it.node.name, .int .i64 it.node.gen, .int .i64 it.node.size] 28 (0,0)) by rw[hW]; exact heap_alloc_new w _);clear hW;refine(bn it.name true _ HO.out.nm HVP.out).mono ?_;rintro e w1 ⟨rfl,hb1⟩
       have HBXr:=ab ((hb1.block w.heap.size ((Array.getElem?_eq_some_iff.1 HBX.out).1)).trans HBX.out);have HB1:=ab (ah HBW.out hb1);have hlt1:w.heap.size<w1.heap.size:=(Array.getElem?_eq_some_iff.1 HBXr.out).1;have c0:=aj (k:=0) HBXr.out;have c1:=aj (k:=1) HBXr.out;have c2:=aj (k:=2) HBXr.out;have c3:=aj (k:=3) HBXr.out;have c4:=aj (k:=4) HBXr.out
       have c5:=aj (k:=5) HBXr.out;have c6:=aj (k:=6) HBXr.out;have c7:=aj (k:=7) HBXr.out;have c8:=aj (k:=8) HBXr.out;have c9:=aj (k:=9) HBXr.out;simp only[aW]at c0 c1 c2 c3 c4 c5 c6 c7 c8 c9;clear hb1 HBX;go_wp2_with fail
       all_goals (go_ret; exact⟨am (by rw[HH.out,HK.out]),HB1.out⟩)
     ·have e1:(it.kind == 1)=false:=by simp[hk1]
      have e5:(it.kind == 2)=false:=by simp[hk2]
      have e2:(it.kind != 1)=true:=by simp[hk1]
      have e3:(it.kind != 2)=true:=by simp[hk2]
      by_cases hk3:it.kind=3
      ·have hvb:bP it=((decide (it.size=0) && decide (it.chunks.length=0) && decide (it.node=bC)) && (decide (1<=it.link.size) && decide (it.link.size<=512) && !(bl it.link).contains 0)):=by unfold bP; rw[if_neg hk1,if_neg hk2,if_pos hk3]
       have e6:(it.kind == 3)=true:=by simp[hk3]
       have e4:(it.kind != 3)=false:=by simp[hk3]
       clear hk1 hk2 hk3
       by_cases hch:it.chunks.length=0
       ·have hc0: ¬0<it.chunks.length:=by omega
        by_cases hsz:it.size=0
        ·have es:(it.size != 0)=false:=by simp[hsz]
         have HK:=ab (show bP it=(decide (1<=it.link.size) && decide (it.link.size<=512) && !(bl it.link).contains 0) by rw[hvb,HN.out,hch,hsz]; simp);clear hvb hch hsz
         go_enter Tryz.func54,Tryz.ntmps54
         go_wp2_with fail;obtain⟨W,hW⟩: ∃W,W=w.alloc (.cells #[.string it.name, .int .i64 it.kind, .int .i64 it.mode, .int .i64 it.time, .int .i64 it.size, .string it.link, .slice a it.chunks.length cap, .string it.node.name, .int .i64 it.node.gen, .int .i64 it.node.size] 28):=⟨_,rfl⟩;rw[<-hW];have HBW:=ab (show Below w.heap.size w W by rw[hW]; exact(Below.refl _ _).alloc (Nat.le_refl _) _)
         have HBX:=ab (show W.heap[w.heap.size]? =some (.cells #[.string it.name, .int .i64 it.kind, .int .i64 it.mode, .int .i64 it.time, .int .i64 it.size, .string it.link, .slice a it.chunks.length cap, .string it.node.name, .int .i64 it.node.gen, .int .i64 it.node.size] 28 (0,0)) by rw[hW]; exact heap_alloc_new w _);clear hW;refine(bn it.name true _ HO.out.nm HVP.out).mono ?_;rintro e w1 ⟨rfl,hb1⟩
         have HBXr:=ab ((hb1.block w.heap.size ((Array.getElem?_eq_some_iff.1 HBX.out).1)).trans HBX.out);have HB1:=ab (ah HBW.out hb1);have hlt1:w.heap.size<w1.heap.size:=(Array.getElem?_eq_some_iff.1 HBXr.out).1;have c0:=aj (k:=0) HBXr.out;have c1:=aj (k:=1) HBXr.out;have c2:=aj (k:=2) HBXr.out;have c3:=aj (k:=3) HBXr.out;have c4:=aj (k:=4) HBXr.out
         have c5:=aj (k:=5) HBXr.out;have c6:=aj (k:=6) HBXr.out;have c7:=aj (k:=7) HBXr.out;have c8:=aj (k:=8) HBXr.out;have c9:=aj (k:=9) HBXr.out;simp only[aW]at c0 c1 c2 c3 c4 c5 c6 c7 c8 c9;clear hb1 HBX;go_wp2_with fail;clear c0 c1 c2 c3 c4 c5 c6 c7 c8 c9 e1 e2 e3 e4 e5 e6 en es hc0
         go_loopw [5] (fun i wr=> ∃k:Nat,k<=it.link.size/\i= .int .i64 k/\((bl it.link).take k).contains 0=false/\wr=w1) (fun i _=>it.link.size-(intOf i).toNat)
         case atStart=>exact⟨0,Nat.zero_le _,rfl,rfl,rfl⟩
         case round=>
          obtain⟨k,hk,rfl,hct,rfl⟩:=hrel;have HCT:=ab hct;clear hct;have c5:=aj (k:=5) HBXr.out;simp only[aW]at c5;have hsb:it.link.size=(bl it.link).length:=ay _;have HSB:=ab hsb;clear hsb
          by_cases hlt:k<it.link.size
          ·have HGB:=ab (show(bl it.link)[k]? =some it.link[k] by rw[eO,List.getElem?_eq_getElem (by rw[<-HSB.out]; exact hlt)])
           by_cases hz:it.link[k]=0
           ·have ez:(((it.link[k]).toNat:Int) == 0)=true:=by simp[hz]
            have HC:=ab (show(bl it.link).contains 0=true by
             have h1:=HGB.out;rw[hz]at h1;rw[List.contains_iff_mem];exact List.mem_of_getElem? h1)
            clear hz;go_wp2_with fail;go_ret;exact⟨am (by rw[HH.out,HK.out,HC.out]; simp),HB1.out⟩
           ·have ez:(((it.link[k]).toNat:Int) == 0)=false:=by
             simp only[beq_eq_false_iff_ne,ne_eq];intro h;exact hz (UInt8.toNat_inj.1 (by simpa using h))
            have HC:=ab (show((bl it.link).take (k+1)).contains 0=false by
             have h2:=HCT.out;rw[br HGB.out,Bool.eq_false_iff,ne_eq,List.contains_iff_mem,List.mem_append,List.mem_singleton];rintro(h | h)
             ·rw[Bool.eq_false_iff,ne_eq,List.contains_iff_mem]at h2;exact h2 h
             ·exact hz h.symm)
            clear hz;go_wp2_with fail
            go_roundw
            case rel=>exact⟨k+1,by omega,by go_num,HC.out,by first | rfl | trivial⟩
            case measure=>simp[intOf]; omega
          ·obtain rfl:k=it.link.size:=by omega
           have HC:=ab (show(bl it.link).contains 0=false by
            have:=HCT.out
            rwa [List.take_of_length_le (by rw[HSB.out]; exact Nat.le_refl _)]at this)
           by_cases h1:1<=it.link.size
           ·by_cases h2:it.link.size<=512
            ·have HV2:=ab (show bP it=true by rw[HK.out,HC.out]; simp[h1,h2]);go_wp2_with fail;go_ret;exact⟨am (by rw[HH.out,HV2.out]<;> (first | (simp; done) | (simp; omega))),HB1.out⟩
            ·have HV2:=ab (show bP it=false by rw[HK.out,HC.out]; simp[h2]);go_wp2_with fail;go_ret;exact⟨am (by rw[HH.out,HV2.out]<;> (first | (simp; done) | (simp; omega))),HB1.out⟩
           ·have HV2:=ab (show bP it=false by rw[HK.out,HC.out]; simp[h1]);go_wp2_with fail;go_ret;exact⟨am (by rw[HH.out,HV2.out]<;> (first | (simp; done) | (simp; omega))),HB1.out⟩
        ·have es:(it.size != 0)=true:=by simp[hsz]
         have HK:=ab (show bP it=false by rw[hvb]; simp[hsz]);clear hvb hch hsz
         go_enter Tryz.func54,Tryz.ntmps54
         go_wp2_with fail;obtain⟨W,hW⟩: ∃W,W=w.alloc (.cells #[.string it.name, .int .i64 it.kind, .int .i64 it.mode, .int .i64 it.time, .int .i64 it.size, .string it.link, .slice a it.chunks.length cap, .string it.node.name, .int .i64 it.node.gen, .int .i64 it.node.size] 28):=⟨_,rfl⟩;rw[<-hW];have HBW:=ab (show Below w.heap.size w W by rw[hW]; exact(Below.refl _ _).alloc (Nat.le_refl _) _)
         have HBX:=ab (show W.heap[w.heap.size]? =some (.cells #[.string it.name, .int .i64 it.kind, .int .i64 it.mode, .int .i64 it.time, .int .i64 it.size, .string it.link, .slice a it.chunks.length cap, .string it.node.name, .int .i64 it.node.gen, .int .i64 it.node.size] 28 (0,0)) by rw[hW]; exact heap_alloc_new w _);clear hW;refine(bn it.name true _ HO.out.nm HVP.out).mono ?_;rintro e w1 ⟨rfl,hb1⟩
         have HBXr:=ab ((hb1.block w.heap.size ((Array.getElem?_eq_some_iff.1 HBX.out).1)).trans HBX.out);have HB1:=ab (ah HBW.out hb1);have hlt1:w.heap.size<w1.heap.size:=(Array.getElem?_eq_some_iff.1 HBXr.out).1;have c0:=aj (k:=0) HBXr.out;have c1:=aj (k:=1) HBXr.out;have c2:=aj (k:=2) HBXr.out;have c3:=aj (k:=3) HBXr.out;have c4:=aj (k:=4) HBXr.out
         have c5:=aj (k:=5) HBXr.out;have c6:=aj (k:=6) HBXr.out;have c7:=aj (k:=7) HBXr.out;have c8:=aj (k:=8) HBXr.out;have c9:=aj (k:=9) HBXr.out;simp only[aW]at c0 c1 c2 c3 c4 c5 c6 c7 c8 c9;clear hb1 HBX;go_wp2_with fail
         all_goals (go_ret; exact⟨am (by rw[HH.out,HK.out]),HB1.out⟩)
       ·have hc0:0<it.chunks.length:=by omega
        have HK:=ab (show bP it=false by rw[hvb]; simp[hch]);clear hvb hch
        go_enter Tryz.func54,Tryz.ntmps54
        go_wp2_with fail;obtain⟨W,hW⟩: ∃W,W=w.alloc (.cells #[.string it.name, .int .i64 it.kind, .int .i64 it.mode, .int .i64 it.time, .int .i64 it.size, .string it.link, .slice a it.chunks.length cap, .string it.node.name, .int .i64 it.node.gen, .int .i64 it.node.size] 28):=⟨_,rfl⟩;rw[<-hW];have HBW:=ab (show Below w.heap.size w W by rw[hW]; exact(Below.refl _ _).alloc (Nat.le_refl _) _)
        have HBX:=ab (show W.heap[w.heap.size]? =some (.cells #[.string it.name, .int .i64 it.kind, .int .i64 it.mode, .int .i64 it.time, .int .i64 it.size, .string it.link, .slice a it.chunks.length cap, .string it.node.name, .int .i64 it.node.gen, .int .i64 it.node.size] 28 (0,0)) by rw[hW]; exact heap_alloc_new w _);clear hW;refine(bn it.name true _ HO.out.nm HVP.out).mono ?_;rintro e w1 ⟨rfl,hb1⟩
        have HBXr:=ab ((hb1.block w.heap.size ((Array.getElem?_eq_some_iff.1 HBX.out).1)).trans HBX.out);have HB1:=ab (ah HBW.out hb1);have hlt1:w.heap.size<w1.heap.size:=(Array.getElem?_eq_some_iff.1 HBXr.out).1;have c0:=aj (k:=0) HBXr.out;have c1:=aj (k:=1) HBXr.out;have c2:=aj (k:=2) HBXr.out;have c3:=aj (k:=3) HBXr.out;have c4:=aj (k:=4) HBXr.out
        have c5:=aj (k:=5) HBXr.out;have c6:=aj (k:=6) HBXr.out;have c7:=aj (k:=7) HBXr.out;have c8:=aj (k:=8) HBXr.out;have c9:=aj (k:=9) HBXr.out;simp only[aW]at c0 c1 c2 c3 c4 c5 c6 c7 c8 c9;clear hb1 HBX;go_wp2_with fail
        all_goals (go_ret; exact⟨am (by rw[HH.out,HK.out]),HB1.out⟩)
      ·have HK:=ab (show bP it=false by unfold bP; rw[if_neg hk1,if_neg hk2,if_neg hk3]);have e6:(it.kind == 3)=false:=by simp[hk3]
       have e4:(it.kind != 3)=true:=by simp[hk3]
       clear hk1 hk2 hk3
       by_cases hch:it.chunks.length=0
       ·have hc0: ¬0<it.chunks.length:=by omega
        by_cases hsz:it.size=0
        ·have es:(it.size != 0)=false:=by simp[hsz]
         clear hch hsz
         by_cases hl:it.link.size=0
         ·have hl2:it.link.toList=[]:=HL.out.2 hl;clear hl
          go_enter Tryz.func54,Tryz.ntmps54
          go_wp2_with fail;obtain⟨W,hW⟩: ∃W,W=w.alloc (.cells #[.string it.name, .int .i64 it.kind, .int .i64 it.mode, .int .i64 it.time, .int .i64 it.size, .string it.link, .slice a it.chunks.length cap, .string it.node.name, .int .i64 it.node.gen, .int .i64 it.node.size] 28):=⟨_,rfl⟩;rw[<-hW];have HBW:=ab (show Below w.heap.size w W by rw[hW]; exact(Below.refl _ _).alloc (Nat.le_refl _) _)
          have HBX:=ab (show W.heap[w.heap.size]? =some (.cells #[.string it.name, .int .i64 it.kind, .int .i64 it.mode, .int .i64 it.time, .int .i64 it.size, .string it.link, .slice a it.chunks.length cap, .string it.node.name, .int .i64 it.node.gen, .int .i64 it.node.size] 28 (0,0)) by rw[hW]; exact heap_alloc_new w _);clear hW;refine(bn it.name true _ HO.out.nm HVP.out).mono ?_
          rintro e w1 ⟨rfl,hb1⟩;have HBXr:=ab ((hb1.block w.heap.size ((Array.getElem?_eq_some_iff.1 HBX.out).1)).trans HBX.out);have HB1:=ab (ah HBW.out hb1);have hlt1:w.heap.size<w1.heap.size:=(Array.getElem?_eq_some_iff.1 HBXr.out).1;have c0:=aj (k:=0) HBXr.out;have c1:=aj (k:=1) HBXr.out;have c2:=aj (k:=2) HBXr.out;have c3:=aj (k:=3) HBXr.out;have c4:=aj (k:=4) HBXr.out
          have c5:=aj (k:=5) HBXr.out;have c6:=aj (k:=6) HBXr.out;have c7:=aj (k:=7) HBXr.out;have c8:=aj (k:=8) HBXr.out;have c9:=aj (k:=9) HBXr.out;simp only[aW]at c0 c1 c2 c3 c4 c5 c6 c7 c8 c9;clear hb1 HBX;go_wp2_with fail
          all_goals (go_ret; exact⟨am (by rw[HH.out,HK.out]),HB1.out⟩)
         ·have hl2: ¬it.link.toList=[]:=fun h=>hl (HL.out.1 h)
          have hl3:it.link.toList.isEmpty=false:=by rw[List.isEmpty_eq_false_iff]; exact hl2
          clear hl
          go_enter Tryz.func54,Tryz.ntmps54
          go_wp2_with fail;obtain⟨W,hW⟩: ∃W,W=w.alloc (.cells #[.string it.name, .int .i64 it.kind, .int .i64 it.mode, .int .i64 it.time, .int .i64 it.size, .string it.link, .slice a it.chunks.length cap, .string it.node.name, .int .i64 it.node.gen, .int .i64 it.node.size] 28):=⟨_,rfl⟩;rw[<-hW];have HBW:=ab (show Below w.heap.size w W by rw[hW]; exact(Below.refl _ _).alloc (Nat.le_refl _) _)
          have HBX:=ab (show W.heap[w.heap.size]? =some (.cells #[.string it.name, .int .i64 it.kind, .int .i64 it.mode, .int .i64 it.time, .int .i64 it.size, .string it.link, .slice a it.chunks.length cap, .string it.node.name, .int .i64 it.node.gen, .int .i64 it.node.size] 28 (0,0)) by rw[hW]; exact heap_alloc_new w _);clear hW;refine(bn it.name true _ HO.out.nm HVP.out).mono ?_
          rintro e w1 ⟨rfl,hb1⟩;have HBXr:=ab ((hb1.block w.heap.size ((Array.getElem?_eq_some_iff.1 HBX.out).1)).trans HBX.out);have HB1:=ab (ah HBW.out hb1);have hlt1:w.heap.size<w1.heap.size:=(Array.getElem?_eq_some_iff.1 HBXr.out).1;have c0:=aj (k:=0) HBXr.out;have c1:=aj (k:=1) HBXr.out;have c2:=aj (k:=2) HBXr.out;have c3:=aj (k:=3) HBXr.out;have c4:=aj (k:=4) HBXr.out
          have c5:=aj (k:=5) HBXr.out;have c6:=aj (k:=6) HBXr.out;have c7:=aj (k:=7) HBXr.out;have c8:=aj (k:=8) HBXr.out;have c9:=aj (k:=9) HBXr.out;simp only[aW]at c0 c1 c2 c3 c4 c5 c6 c7 c8 c9;clear hb1 HBX;go_wp2_with fail
          all_goals (go_ret; exact⟨am (by rw[HH.out,HK.out]),HB1.out⟩)
        ·have es:(it.size != 0)=true:=by simp[hsz]
         clear hch hsz
         go_enter Tryz.func54,Tryz.ntmps54
         go_wp2_with fail;obtain⟨W,hW⟩: ∃W,W=w.alloc (.cells #[.string it.name, .int .i64 it.kind, .int .i64 it.mode, .int .i64 it.time, .int .i64 it.size, .string it.link, .slice a it.chunks.length cap, .string it.node.name, .int .i64 it.node.gen, .int .i64 it.node.size] 28):=⟨_,rfl⟩;rw[<-hW];have HBW:=ab (show Below w.heap.size w W by rw[hW]; exact(Below.refl _ _).alloc (Nat.le_refl _) _)
         have HBX:=ab (show W.heap[w.heap.size]? =some (.cells #[.string it.name, .int .i64 it.kind, .int .i64 it.mode, .int .i64 it.time, .int .i64 it.size, .string it.link, .slice a it.chunks.length cap, .string it.node.name, .int .i64 it.node.gen, .int .i64 it.node.size] 28 (0,0)) by rw[hW]; exact heap_alloc_new w _);clear hW;refine(bn it.name true _ HO.out.nm HVP.out).mono ?_;rintro e w1 ⟨rfl,hb1⟩
         have HBXr:=ab ((hb1.block w.heap.size ((Array.getElem?_eq_some_iff.1 HBX.out).1)).trans HBX.out);have HB1:=ab (ah HBW.out hb1);have hlt1:w.heap.size<w1.heap.size:=(Array.getElem?_eq_some_iff.1 HBXr.out).1;have c0:=aj (k:=0) HBXr.out;have c1:=aj (k:=1) HBXr.out;have c2:=aj (k:=2) HBXr.out;have c3:=aj (k:=3) HBXr.out;have c4:=aj (k:=4) HBXr.out
         have c5:=aj (k:=5) HBXr.out;have c6:=aj (k:=6) HBXr.out;have c7:=aj (k:=7) HBXr.out;have c8:=aj (k:=8) HBXr.out;have c9:=aj (k:=9) HBXr.out;simp only[aW]at c0 c1 c2 c3 c4 c5 c6 c7 c8 c9;clear hb1 HBX;go_wp2_with fail
         all_goals (go_ret; exact⟨am (by rw[HH.out,HK.out]),HB1.out⟩)
       ·have hc0:0<it.chunks.length:=by omega
        clear hch
        go_enter Tryz.func54,Tryz.ntmps54
        go_wp2_with fail;obtain⟨W,hW⟩: ∃W,W=w.alloc (.cells #[.string it.name, .int .i64 it.kind, .int .i64 it.mode, .int .i64 it.time, .int .i64 it.size, .string it.link, .slice a it.chunks.length cap, .string it.node.name, .int .i64 it.node.gen, .int .i64 it.node.size] 28):=⟨_,rfl⟩;rw[<-hW];have HBW:=ab (show Below w.heap.size w W by rw[hW]; exact(Below.refl _ _).alloc (Nat.le_refl _) _)
        have HBX:=ab (show W.heap[w.heap.size]? =some (.cells #[.string it.name, .int .i64 it.kind, .int .i64 it.mode, .int .i64 it.time, .int .i64 it.size, .string it.link, .slice a it.chunks.length cap, .string it.node.name, .int .i64 it.node.gen, .int .i64 it.node.size] 28 (0,0)) by rw[hW]; exact heap_alloc_new w _);clear hW;refine(bn it.name true _ HO.out.nm HVP.out).mono ?_;rintro e w1 ⟨rfl,hb1⟩
        have HBXr:=ab ((hb1.block w.heap.size ((Array.getElem?_eq_some_iff.1 HBX.out).1)).trans HBX.out);have HB1:=ab (ah HBW.out hb1);have hlt1:w.heap.size<w1.heap.size:=(Array.getElem?_eq_some_iff.1 HBXr.out).1;have c0:=aj (k:=0) HBXr.out;have c1:=aj (k:=1) HBXr.out;have c2:=aj (k:=2) HBXr.out;have c3:=aj (k:=3) HBXr.out;have c4:=aj (k:=4) HBXr.out
        have c5:=aj (k:=5) HBXr.out;have c6:=aj (k:=6) HBXr.out;have c7:=aj (k:=7) HBXr.out;have c8:=aj (k:=8) HBXr.out;have c9:=aj (k:=9) HBXr.out;simp only[aW]at c0 c1 c2 c3 c4 c5 c6 c7 c8 c9;clear hb1 HBX;go_wp2_with fail
        all_goals (go_ret; exact⟨am (by rw[HH.out,HK.out]),HB1.out⟩)
    ·have en:decide (it.node=bC)=false:=by simp[hn]
     have e3:(it.kind != 2)=true:=by simp[hk2]
     have HK:=ab (show bP it=false by unfold bP; rw[if_neg hk2]; simp[hn]);clear hn hk2
     go_enter Tryz.func54,Tryz.ntmps54
     go_wp2_with fail;obtain⟨W,hW⟩: ∃W,W=w.alloc (.cells #[.string it.name, .int .i64 it.kind, .int .i64 it.mode, .int .i64 it.time, .int .i64 it.size, .string it.link, .slice a it.chunks.length cap, .string it.node.name, .int .i64 it.node.gen, .int .i64 it.node.size] 28):=⟨_,rfl⟩;rw[<-hW];have HBW:=ab (show Below w.heap.size w W by rw[hW]; exact(Below.refl _ _).alloc (Nat.le_refl _) _)
     have HBX:=ab (show W.heap[w.heap.size]? =some (.cells #[.string it.name, .int .i64 it.kind, .int .i64 it.mode, .int .i64 it.time, .int .i64 it.size, .string it.link, .slice a it.chunks.length cap, .string it.node.name, .int .i64 it.node.gen, .int .i64 it.node.size] 28 (0,0)) by rw[hW]; exact heap_alloc_new w _);clear hW;refine(bn it.name true _ HO.out.nm HVP.out).mono ?_;rintro e w1 ⟨rfl,hb1⟩
     have HBXr:=ab ((hb1.block w.heap.size ((Array.getElem?_eq_some_iff.1 HBX.out).1)).trans HBX.out);have HB1:=ab (ah HBW.out hb1);have hlt1:w.heap.size<w1.heap.size:=(Array.getElem?_eq_some_iff.1 HBXr.out).1;have c0:=aj (k:=0) HBXr.out;have c1:=aj (k:=1) HBXr.out;have c2:=aj (k:=2) HBXr.out;have c3:=aj (k:=3) HBXr.out;have c4:=aj (k:=4) HBXr.out
     have c5:=aj (k:=5) HBXr.out;have c6:=aj (k:=6) HBXr.out;have c7:=aj (k:=7) HBXr.out;have c8:=aj (k:=8) HBXr.out;have c9:=aj (k:=9) HBXr.out;simp only[aW]at c0 c1 c2 c3 c4 c5 c6 c7 c8 c9;clear hb1 HBX;go_wp2_with fail
     all_goals (go_ret; exact⟨am (by rw[HH.out,HK.out]),HB1.out⟩)
  ·have HF:=ab (show cr it=false by
    have:(decide (0<=it.mode) && decide (it.mode<=511) && decide (0<=it.time))=false:=by
     rw[Bool.eq_false_iff]; simp; omega
    rw[kM,this]; simp)
   go_enter Tryz.func54,Tryz.ntmps54
   go_wp2_with fail;obtain⟨W,hW⟩: ∃W,W=w.alloc (.cells #[.string it.name, .int .i64 it.kind, .int .i64 it.mode, .int .i64 it.time, .int .i64 it.size, .string it.link, .slice a it.chunks.length cap, .string it.node.name, .int .i64 it.node.gen, .int .i64 it.node.size] 28):=⟨_,rfl⟩;rw[<-hW];have HBW:=ab (show Below w.heap.size w W by rw[hW]; exact(Below.refl _ _).alloc (Nat.le_refl _) _)
   have HBX:=ab (show W.heap[w.heap.size]? =some (.cells #[.string it.name, .int .i64 it.kind, .int .i64 it.mode, .int .i64 it.time, .int .i64 it.size, .string it.link, .slice a it.chunks.length cap, .string it.node.name, .int .i64 it.node.gen, .int .i64 it.node.size] 28 (0,0)) by rw[hW]; exact heap_alloc_new w _);clear hW;refine(bn it.name true _ HO.out.nm HVP.out).mono ?_;rintro e w1 ⟨rfl,hb1⟩
   have HBXr:=ab ((hb1.block w.heap.size ((Array.getElem?_eq_some_iff.1 HBX.out).1)).trans HBX.out);have HB1:=ab (ah HBW.out hb1);have hlt1:w.heap.size<w1.heap.size:=(Array.getElem?_eq_some_iff.1 HBXr.out).1;have c0:=aj (k:=0) HBXr.out;have c1:=aj (k:=1) HBXr.out;have c2:=aj (k:=2) HBXr.out;have c3:=aj (k:=3) HBXr.out;have c4:=aj (k:=4) HBXr.out
   have c5:=aj (k:=5) HBXr.out;have c6:=aj (k:=6) HBXr.out;have c7:=aj (k:=7) HBXr.out;have c8:=aj (k:=8) HBXr.out;have c9:=aj (k:=9) HBXr.out;simp only[aW]at c0 c1 c2 c3 c4 c5 c6 c7 c8 c9;clear hb1 HBX;have HM3:=ab hmt;clear hmt
   rcases Int.lt_or_le it.mode 0 with h1 | h1
   ·go_wp2_with fail;go_ret;exact⟨am (by rw[HF.out]),HB1.out⟩
   ·rcases Int.lt_or_le 511 it.mode with h2 | h2
    ·go_wp2_with fail;go_ret;exact⟨am (by rw[HF.out]),HB1.out⟩
    ·have h3:it.time<0:=by have:=HM3.out; omega
     go_wp2_with fail;go_ret;exact⟨am (by rw[HF.out]),HB1.out⟩
end Go.Proofs.YtpffpjbkbaleiaaGreatDoor
