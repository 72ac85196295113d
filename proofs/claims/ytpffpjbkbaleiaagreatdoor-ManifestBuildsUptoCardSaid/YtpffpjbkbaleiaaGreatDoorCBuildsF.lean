/- Texts of this proof, one after the other: BldB, BldC, BldD, BldE, RGet, Pres, RefA, RefB, PresA, PresB, MissM, MissL, Refs24, AwP, BldF. -/
import Derived.Test.YtpffpjbkbaleiaaGreatDoorCBuildsE
set_option maxRecDepth 100000
set_option maxHeartbeats 8000000
namespace Go.Proofs.YtpffpjbkbaleiaaGreatDoor
open Go Go.RowKit Go.Maps
structure my (w : World) : Prop where
 env:iV w
 envh:uM w
 deb:vQ w
theorem my.keep {B:Nat} {w w':World} (h:my w) (hb:Below B w w') (h7:7<=B):my w':=
 ⟨h.env.belowB hb (by omega) (by omega) (by omega),⟨fun j x hj=>(hb.cell (p:=⟨2,j,none⟩) (show 2<B by omega)).trans (h.envh.init j x hj),fun j x hj=>(hb.cell (p:=⟨5,j,none⟩) (show 5<B by omega)).trans (h.envh.kons j x hj),⟨(hb.cell (p:=⟨0,0,none⟩) (show 0<B by omega)).trans h.envh.pads.1,(hb.cell (p:=⟨0,1,none⟩) (show 0<B by omega)).trans h.envh.pads.2⟩,
  Nat.lt_of_lt_of_le h.envh.ilt hb.size,Nat.lt_of_lt_of_le h.envh.klt hb.size,Nat.lt_of_lt_of_le h.envh.plt hb.size⟩,h.deb.block (hb.block _ (show 6<B by omega)) hb.size⟩
theorem my.seven {w:World} (h:my w):7<=w.heap.size:=by
 have:=h.deb.lt;omega
theorem my.below {w w':World} (h:my w) (hb:Below w.heap.size w w'):my w':=h.keep hb h.seven
theorem GE {a:Act} {w:World} {b:Nat} {x0 x1 x2 e5:Value} (h:w.heap[b]? =some (.cells #[x0,x1,x2] 26 (0,0)))
  (h4:a.tmps[4]? =some (.pointer (some ⟨b,0,none⟩))) (h5:a.tmps[5]? =some e5):(results Tryz.f123 a.tmps).run Tryz.prog w= .ok (.tuple #[.agg #[x0,x1,x2],e5]) w:=by
 obtain⟨m0,m1,m2,_⟩:=aj h;simp only[Nat.zero_add,Nat.reduceAdd]at m1 m2;simp[results,Tryz.results123,go_sem,h4,h5,m0,m1,m2]
theorem pM {a:Act} {w:World} {b:Nat} {a0 a1 a2 x0 x1 x2 e5:Value} {Q:Ending->World->Prop} (h:w.heap[b]? =some (.cells #[a0,a1,a2] 26 (0,0)))
  (h4:a.tmps[4]? =some (.pointer (some ⟨b,0,none⟩))) (h5:a.tmps[5]? =some e5) (hd:a.defers=[])
  (hQ:Q (.returned (.tuple #[.agg #[x0,x1,x2],e5])) (((w.setCell ⟨b,0,none⟩ x0).setCell ⟨b,1,none⟩ x1).setCell ⟨b,2,none⟩ x2)):
  bodyPost Tryz.prog Tryz.f123 Q Exit.ret a (((w.setCell ⟨b,0,none⟩ x0).setCell ⟨b,1,none⟩ x1).setCell ⟨b,2,none⟩ x2):=bodyPost_ret (GE (pA h) h4 h5) hd hQ
theorem dE.ofGrown {base bb kb:Nat} {v:Value} {w w':World} (h:w.grownBy w' (some kb)) (hb:base<=w.heap.size) (hk:base<=kb):dE base bb kb v v w w':=
 ⟨(Below.refl base w).grown h hb (fun i e=>by cases e; exact hk),fun i h1 _ h3 _=>h.block i h1 (fun e=>h3 (Option.some.inj e)),fun _ e=> .inl e⟩
theorem dE.setNew {base bb kb b j:Nat} {v v' u:Value} {w w':World} (h:dE base bb kb v v' w w') (hb:w.heap.size<=b) (hbz:base<=w.heap.size):dE base bb kb v v' w (w'.setCell ⟨b,j,none⟩ u):=
 ⟨Below.setCell h.below (show base<=b by omega) u,fun i h1 h2 h3 h4=>(Below.heap_setCell _ _ _ _ (show i≠b by omega)).trans (h.same i h1 h2 h3 h4),h.place⟩
theorem eV.other {w w':World} {base bb im kb b:Nat} {k:bn} {c:cF} {gv v:Value} {bs:List bu} {cs:Array Value} {t:TypeId} {z:Nat×Nat} (h:eV w base bb k c gv im kb v bs) (hb:w.heap[b]? =some (.cells cs t z)) (h1:t≠122) (h2:t≠53) (h3:t≠5) (hs: ∀i,i≠b->i<w.heap.size->w'.heap[i]? =w.heap[i]?):eV w' base bb k c gv im kb v bs:=by
 obtain⟨zs,hz,hr,hd⟩:=h.own;refine⟨(hs bb (fun e=> ?_) (lt_of_block h.box)).trans h.box,⟨zs,hz,bZ hr (fun i hi hu=>hs i (fun e=> ?_) hi),fun y hy=>bZ (hd y hy) (fun i hi hu=>hs i (fun e=> ?_) hi)⟩,h.known.same (hs kb (fun e=>h.known.cells (by rw[e]; exact hb)) h.known.map.lt)⟩
 ·subst e; exact h1 (aC hb h.box)
 ·subst e;obtain⟨cs2,hc2⟩:=au hr hu;exact h2 (aC hb hc2)
 ·subst e;obtain⟨cs2,hc2⟩:=au (hd y hy) hu;exact h3 (aC hb hc2)
theorem uj (gs:List (ByteArray×Int)) (hgs: ∀p∈gs,0<=p.2/\p.2<=1099511627776) (n:ByteArray):0<=gF gs n/\gF gs n<=1099511627776:=by
 unfold gF
 cases hf:gs.find? (fun p=>decide (p.1=n))with
 | none=>exact⟨by decide,by decide⟩
 | some p=>exact hgs p (List.mem_of_find?_eq_some hf)
theorem oW {S:Nat->Prop} {w:World} {v:Value} {bs:List UInt8} {kb:Nat} {l:List aV} (h:ar S w v bs) (hk:eo w kb l):ar (fun i=>i≠kb/\i<w.heap.size) w v bs:=by
 obtain⟨h1,a,cap,rfl,h2,h3,h4⟩:=h;refine⟨h1,a,cap,rfl,h2,h3, ?_⟩
 rcases h4 with h4 | ⟨b,o,rfl,hS,hc⟩
 ·exact .inl h4
 ·cases bs with
  | nil=>exact .inl rfl
  | cons y ys=>
   have q:=hc 0 (ak y) rfl;refine .inr ⟨b,o,rfl,⟨fun e=> ?_,aP q⟩,hc⟩;subst e;obtain⟨es,clock,hb,_⟩:=hk.map;simp[World.cell?,hb]at q
def yI (base bb kb:Nat) (k:bn) (c:cF) (gs:List (ByteArray×Int)) (gv:Value) (im:Nat) (v:Value) (bs:List bu) (x:List UInt8) (w:World) (e:Ending) (w':World):Prop:=
 e= .returned (.tuple #[bU (aE k gs x), .int .i64 0])/\ ∃v',eV w' base bb k c gv im kb v' (gJ k gs bs x)/\dE base bb kb v v' w w'
theorem AR (S:Nat->Prop) (base bb kb im:Nat) (k:bn) (c:cF) (gs:List (ByteArray×Int)) (gv v cv:Value) (bs:List bu) (x:List UInt8) (w:World) (h:eV w base bb k c gv im kb v bs) (hk:dX k=true) (hg:dO (· <base) w gv gs) (hgs: ∀p∈gs,0<=p.2/\p.2<=1099511627776)
  (hx:ar S w cv x) (hl:x.length<=32768) (hE:my w) (hbb:base<=bb) (hkb:base<=kb) (hbz:base<=w.heap.size) (_h7:7<=base) (hn:bs.length<1000000000000):
  Calls Tryz.prog 123 #[.pointer (some ⟨bb,0,none⟩),cv] w (yI base bb kb k c gs gv im v bs x w):=by
 obtain⟨_,a,cap,rfl,hcap,hcm,-⟩:=id hx;have HX:=aa hx;obtain⟨xl,hxl⟩: ∃xl,xl=x.length:=⟨_,rfl⟩;rw[<-hxl]at hl hcap ⊢;have HXL:=aa hxl;obtain⟨W0,hW0⟩: ∃W0,W0=(w.alloc (.cells #[.string ⟨#[]⟩, .int .i64 0, .int .i64 0] 26)).alloc (.cells #[.string ⟨#[]⟩, .int .i64 0, .int .i64 (xl:Int)] 26):=⟨_,rfl⟩;have hb0:Below w.heap.size w W0:=by rw[hW0]; exact(bH).alloc (by simp) _
 have HB0:=aa hb0;have HR0:=aa (show W0.heap[w.heap.size]? =some (.cells #[.string ⟨#[]⟩, .int .i64 0, .int .i64 0] 26 (0,0)) by rw[hW0]; exact fD (bz w _) _);have HF0:=aa (show W0.heap[w.heap.size+1]? =some (.cells #[.string ⟨#[]⟩, .int .i64 0, .int .i64 (xl:Int)] 26 (0,0)) by rw[hW0]; exact jw w _ _);have HBD:=aa (h.below hb0);have HH:=aa h;have HK:=aa hk;have HG:=aa hg
 have HGS:=aa hgs;have HE:=aa (hE.below hb0);have HEW:=aa hE;have hlt:bb<w.heap.size:=lt_of_block h.box;have HBOX:=aa HBD.o.box;have k0:=ag (k:=0) HBOX.o;have k1:=ag (k:=1) HBOX.o;have k2:=ag (k:=2) HBOX.o;have k3:=ag (k:=3) HBOX.o;have k4:=ag (k:=4) HBOX.o;have k10:=ag (k:=10) HBOX.o;have k12:=ag (k:=12) HBOX.o;have k13:=ag (k:=13) HBOX.o
 simp only[gY,bT,cG,List.cons_append,List.nil_append,cr]at k0 k1 k2 k3 k4 k10 k12 k13;clear h hk hg hgs hx hE hb0 hxl hcm
 go_enter Tryz.func123,Tryz.ntmps123
 go_upto_region 3 with(fail)
 rw[<-hW0];clear hW0;have hX0:ar S W0 (.slice a xl cap) x:=by have h1:=HX.o; rw[<-HXL.o]at h1; exact aL.below h1 (by omega) HB0.o
 have hnm:=nQ S k 0 x (.slice a xl cap) W0 HK.o (by omega) hX0 (by rw[<-HXL.o]; exact hl) HE.o.envh;unfold dW at hnm;have HNM:=aa hnm;have f0:=ag (k:=0) HF0.o;have fz0:=ah (k:=0) HF0.o;simp only[List.getElem?_toArray,List.getElem?_cons_zero]at f0;clear hnm;go_wp2_with fail;refine HNM.o.mono ?_;rintro e w1 ⟨rfl,hb1⟩;obtain⟨n0,hn0⟩: ∃n0,n0=gh k 0 x:=⟨_,rfl⟩
 rw[<-hn0];have hz0:n0.size=32:=by rw[hn0]; exact fG _ _ _
 have hf1:=br hb1 HF0.o;have hr1:=br hb1 HR0.o;have f0':=ag (k:=0) hf1;have fz0':=ah (k:=0) hf1;simp only[List.getElem?_toArray,List.getElem?_cons_zero]at f0';have HN0:=aa hn0;clear hn0 k0 k1 k2 k3 k4 k10 k12 k13 f0 fz0;go_wp2_with fail;obtain⟨W2,hW2⟩: ∃W2:World,W2=(w1.setCell ⟨w.heap.size+1,0,none⟩ (.string n0)).drew:=⟨_,rfl⟩;have hb2:Below w.heap.size w W2:=by rw[hW2]; exact(Below.setCell (ab HB0.o hb1) (show w.heap.size<=w.heap.size+1 by omega) _).drew
 have HB2:=aa hb2;have hf2:=dD (k:=0) hf1 (.string n0);simp only[List.setIfInBounds_toArray,List.set_cons_zero]at hf2;have HF2:=aa (show W2.heap[w.heap.size+1]? =some (.cells #[.string n0, .int .i64 0, .int .i64 (xl:Int)] 26 (0,0)) by rw[hW2]; exact hf2);have HR2:=aa (show W2.heap[w.heap.size]? =some (.cells #[.string ⟨#[]⟩, .int .i64 0, .int .i64 0] 26 (0,0)) by rw[hW2]; exact(Below.heap_setCell _ _ _ _ (by show w.heap.size≠w.heap.size+1; omega)).trans hr1)
 have HBD2:=aa (HH.o.below hb2);have HBX2:=aa HBD2.o.box;have hgl:=wS (HG.o.keep (w':=W2) (fun i h1 h2=>hb2.block i h2)) (n:=n0) (by rw[hz0]; unfold maxLen; omega);have HE2:=aa (HEW.o.below hb2);obtain⟨g,hg⟩: ∃g,g=gF gs n0:=⟨_,rfl⟩;have hgb:=uj gs HGS.o n0;rw[<-hg]at hgl hgb;have HGN:=aa hg;have k0:=ag (k:=0) HBX2.o;have k1:=ag (k:=1) HBX2.o
 have k2:=ag (k:=2) HBX2.o;have k3:=ag (k:=3) HBX2.o;have k4:=ag (k:=4) HBX2.o;have k10:=ag (k:=10) HBX2.o;have k12:=ag (k:=12) HBX2.o;have k13:=ag (k:=13) HBX2.o;simp only[gY,bT,cG,List.cons_append,List.nil_append,cr]at k0 k1 k2 k3 k4 k10 k12 k13;have f0:=ag (k:=0) HF2.o;simp only[List.getElem?_toArray,List.getElem?_cons_zero]at f0
 clear hf1 hr1 f0' fz0' hb2 hf2 hg hb1;refine az [some 8] (by kernel_rfl) (by kernel_rfl) (by kernel_rfl) ?_;simp only[bC,List.take_succ_cons,List.take_zero];rw[<-hW2];clear hW2
 repeat (first | (refine aK rfl ?_; simp only[Act.put,aZ,bg,bh]) | (refine aS rfl (fun K hK=> ?_); go_simp; refine hK _ ?_; clear hK K))
 refine aR ?_;obtain⟨r,hr⟩: ∃r,r=aE k gs x:=⟨_,rfl⟩;have HRE:=aa hr;have hrs:r.size=(xl:Int):=by rw[hr,HXL.o]; rfl
 have hrg:r.gen=g:=by rw[hr,HGN.o,HN0.o]; rfl
 have hrn:r.name=gh k g.toNat x:=by rw[hr,HGN.o,HN0.o]; rfl
 have HRO:=aa (show bK r from⟨by rw[hrn,fG]; unfold maxLen; omega,by rw[hrg]; exact WalkArith.wf_i64 ⟨by omega,by omega⟩,by rw[hrs]; exact WalkArith.wf_i64 ⟨by omega,by omega⟩⟩);have HRN:=aa hrn;have HRG:=aa hrg;have HRS:=aa hrs;clear hr hrn hrg hrs k0 k1 k2 k3 k4 k10 k12 k13
 by_cases hg0:g=0
 ·go_wp2_with fail;have HF5:=aa (show W2.heap[w.heap.size+1]? =some (.cells #[.string r.name, .int .i64 r.gen, .int .i64 r.size] 26 (0,0)) by rw[HRN.o,HRG.o,HRS.o,hg0,Int.toNat_zero,<-HN0.o]; exact HF2.o);have HB5:=HB2;have HR5:=HR2;clear f0;obtain⟨W6,hW6⟩: ∃W6:World,W6=(W2).drew:=⟨_,rfl⟩;have hb6:Below (W2).heap.size (W2) W6:=by rw[hW6]; exact(Below.refl _ _).drew
  have HB6:=aa (ab HB5.o hb6);have HF6:=aa (br hb6 HF5.o);have HR6:=aa (br hb6 HR5.o);have HBD6:=aa (HH.o.below HB6.o);have HBX6:=aa HBD6.o.box;have k0:=ag (k:=0) HBX6.o;have k1:=ag (k:=1) HBX6.o;have k2:=ag (k:=2) HBX6.o;have k3:=ag (k:=3) HBX6.o;have k4:=ag (k:=4) HBX6.o;have k10:=ag (k:=10) HBX6.o;have k12:=ag (k:=12) HBX6.o
  have k13:=ag (k:=13) HBX6.o;simp only[gY,bT,cG,List.cons_append,List.nil_append,cr]at k0 k1 k2 k3 k4 k10 k12 k13;obtain⟨f0,f1,f2,_⟩:=aj HF6.o;simp only[Nat.zero_add,Nat.reduceAdd]at f1 f2;have hlk:=HBD6.o.known.look HRO.o;unfold bU at hlk
  by_cases hin:r∈bs.map bu.ref
  ·have e1:decide (r∈bs.map bu.ref)=true:=by simp[hin]
   rw[e1]at hlk;have HPB:=aa (show gJ k gs bs x=bs by unfold gJ; rw[<-HRE.o,if_pos hin]);clear hb6 hin e1;refine az [some 7] (by kernel_rfl) (by kernel_rfl) (by kernel_rfl) ?_;simp only[bC,List.take_succ_cons,List.take_zero];rw[<-hW6];clear hW6
   repeat (first | (refine aK rfl ?_; simp only[Act.put,aZ,bg,bh]) | (refine aS rfl (fun K hK=> ?_); go_simp; refine hK _ ?_; clear hK K))
   refine aR ?_;obtain⟨z0,z1,z2,_⟩:=aj HR6.o;simp only[Nat.zero_add,Nat.reduceAdd]at z1 z2;have y0:=ah (k:=0) HR6.o;have y1:=ah (k:=1) HR6.o;have y2:=ah (k:=2) HR6.o;go_wp2_with fail;refine pM HR6.o rfl rfl rfl ?_;refine⟨by rw[<-HRE.o]; rfl,v, ?_, ?_⟩
   ·rw[HPB.o];exact HBD6.o.other HR6.o (by decide) (by decide) (by decide) (fun i hi _=>aY hi)
   ·exact((((dE.ofBelow HB6.o hbz).setNew (Nat.le_refl _) hbz).setNew (Nat.le_refl _) hbz).setNew (Nat.le_refl _) hbz)
  ·have e1:decide (r∈bs.map bu.ref)=false:=by simp[hin]
   rw[e1]at hlk;have HPB:=aa (show gJ k gs bs x=bs++[⟨r,x⟩] by unfold gJ; rw[<-HRE.o,if_neg hin]);have HNI:=aa hin;clear hb6 hin e1;refine az [some 7] (by kernel_rfl) (by kernel_rfl) (by kernel_rfl) ?_;simp only[bC,List.take_succ_cons,List.take_zero];rw[<-hW6];clear hW6
   repeat (first | (refine aK rfl ?_; simp only[Act.put,aZ,bg,bh]) | (refine aS rfl (fun K hK=> ?_); go_simp; refine hK _ ?_; clear hK K))
   refine aR ?_;go_wp2_with fail;refine az [some 5,none] (by kernel_rfl) (by kernel_rfl) (by kernel_rfl) ?_;simp only[bC,List.take_succ_cons,List.take_zero,List.drop_succ_cons,List.drop_zero]
   repeat (first | (refine aK rfl ?_; simp only[Act.put,aZ,bg,bh]) | (refine aS rfl (fun K hK=> ?_); go_simp; refine hK _ ?_; clear hK K))
   refine aR ?_;refine bJ rfl (fun K hK=> ?_);have HKd:=aa (HBD6.o.known.same (w':=W6.drew) rfl);go_wp2_with (at_mapUpdate; go_must (refine gD rfl _ _ _ rfl kb (bs.map bu.ref) HKd.o rfl r HRO.o rfl rfl HNI.o ?_); intro w7 hset hg7);obtain⟨W8,hW8⟩: ∃W8:World,W8=w7.drew:=⟨_,rfl⟩;have hg8:W6.grownBy W8 (some kb):=by rw[hW8]; exact aG (b:=W6.drew) ⟨rfl,rfl,rfl,Nat.le_refl _,fun _ _ _=>rfl⟩ (aG hg7 ⟨rfl,rfl,rfl,Nat.le_refl _,fun _ _ _=>rfl⟩)
   have HSET:=aa (show eo W8 kb ((bs++[(⟨r,x⟩:bu)]).map bu.ref) by rw[hW8,List.map_append]; exact hset.same rfl);have hkw:kb<w.heap.size:=HH.o.known.map.lt;have hnkb:bb≠kb:=fun e=>HBD6.o.known.cells (e▸HBX6.o)
   have hbx8:=gU hg8 HBX6.o hnkb;have HBX8:=aa hbx8;have hf8:=gU hg8 HF6.o (by omega);have hr8:=gU hg8 HR6.o (by omega);have HF8:=aa hf8;have HR8:=aa hr8;obtain⟨zs,hzs,hbo⟩:=HBD6.o.own;have HZS:=aa hzs;have HBO8:=aa (show dt W8 base v zs from⟨hbo.row.kept hg8 (.inr (fun e=>by obtain⟨cs2,hc2⟩:=au hbo.row e; exact HBD6.o.known.cells hc2)),fun z hz=>(hbo.dat z hz).kept hg8 (.inr (fun e=>by obtain⟨cs2,hc2⟩:=au (hbo.dat z hz) e; exact HBD6.o.known.cells hc2))⟩)
   obtain⟨av,cv8,hv8,-,-⟩:=ai hbo.row;subst hv8;have HKP8:=aa ((dE.ofBelow HB6.o hbz).trans (dE.ofGrown (bb:=bb) (v:= .slice av zs.length cv8) hg8 (Nat.le_trans hbz HB6.o.size) hkb));have HZ8:=aa (Nat.le_trans HB6.o.size hg8.size);have HX8:=aa (show aL (fun _=>True) W8 1 (.slice a xl cap) xl (x.map ak)from by
    have h1:=HX.o;rw[<-HXL.o]at h1;have h2:ar S W6 (.slice a xl cap) x:=aL.below h1 (by omega) HB6.o;have h3:=aL.same (w':=W8) (oW h2 HBD6.o.known) (fun i hi=>hg8.block i hi.2 (fun e=>hi.1 (Option.some.inj e)));have h4:=aL.weak (T:=fun _=>True) h3 (fun _ _=>trivial);rw[<-HXL.o]at h4;exact h4)
   clear hset hg7 hg8 hbx8 hf8 hr8 hzs hbo f0 f1 f2 k0 k1 k2 k3 k4 k10 k12 k13 hlk;obtain⟨f0,f1,f2,_⟩:=aj HF8.o;simp only[Nat.zero_add,Nat.reduceAdd]at f1 f2;have k0:=ag (k:=0) HBX8.o;have k1:=ag (k:=1) HBX8.o;have k2:=ag (k:=2) HBX8.o;have k3:=ag (k:=3) HBX8.o;have k4:=ag (k:=4) HBX8.o;have k10:=ag (k:=10) HBX8.o;have k12:=ag (k:=12) HBX8.o
   have k13:=ag (k:=13) HBX8.o;simp only[gY,bT,cG,List.cons_append,List.nil_append,cr]at k0 k1 k2 k3 k4 k10 k12 k13;refine bN (fun w'=>w'.cell? ⟨bb,12,none⟩=some (.slice av zs.length cv8)/\w'.cell? ⟨w.heap.size+1,0,none⟩=some (.string r.name)/\w'.cell? ⟨w.heap.size+1,1,none⟩=some (.int .i64 r.gen)/\w'.cell? ⟨w.heap.size+1,2,none⟩=some (.int .i64 r.size)) (by kernel_rfl) (by kernel_rfl) ?_
   simp only[List.dropLast_cons_cons,List.dropLast_singleton,List.length_cons,List.length_nil,Nat.reduceAdd,Nat.reduceSub];rw[<-hW8];clear hW8
   iterate 7 (refine aJ rfl (by kernel_rfl) (fun _ _ _ h=>h) rfl ⟨k12,f0,f1,f2⟩ (by rintro w' ⟨hw1,hw2,hw3,hw4⟩; go_simp; rfl) ?_; simp only[Act.put,aZ,bg,bh])
   refine an 7 rfl (by kernel_rfl) rfl (fun K hK=> ?_);have hxs:0+xl<1099511627775:=by omega
   go_wp2_with (at_builtin; go_must (refine bD Tryz.appBytes rfl _ _ rfl W8.heap.size (.slice none 0 0) 0 [] rfl (World.ownsRow_nil _ _ _ _) (.slice a xl cap) xl (x.map ak) rfl HX8.o (ci x) hxs (Nat.le_refl _) ?_); intro v9 w9 hown9 hgrow9; rw[Nat.zero_add,List.nil_append]at hown9; obtain⟨a9,c9,rfl,-,-⟩:=ai hown9);have hb9:Below W8.heap.size W8 w9:=dQ hgrow9
   have HB9:=aa hb9;have HO9:=aa (show w9.ownsRow base 5 1 (.slice a9 xl c9) x.length (x.map ak) by rw[<-HXL.o]; exact cK hown9 (Nat.le_trans hbz HZ8.o));have HBX9:=aa (br hb9 HBX8.o);have HF9:=aa (br hb9 HF8.o);clear hown9 hgrow9 hb9 hxs k0 k1 k2 k3 k4 k10 k12 k13 f0 f1 f2;obtain⟨f0,f1,f2,_⟩:=aj HF9.o;simp only[Nat.zero_add,Nat.reduceAdd]at f1 f2;have k0:=ag (k:=0) HBX9.o
   have k1:=ag (k:=1) HBX9.o;have k2:=ag (k:=2) HBX9.o;have k3:=ag (k:=3) HBX9.o;have k4:=ag (k:=4) HBX9.o;have k10:=ag (k:=10) HBX9.o;have k12:=ag (k:=12) HBX9.o;have k13:=ag (k:=13) HBX9.o;simp only[gY,bT,cG,List.cons_append,List.nil_append,cr]at k0 k1 k2 k3 k4 k10 k12 k13;refine⟨⟨k12,f0,f1,f2⟩, ?_⟩;refine aJ rfl (by kernel_rfl) (fun _ _ _ h=>h) rfl ⟨k12,f0,f1,f2⟩ (by rintro w' ⟨hw1,hw2,hw3,hw4⟩; go_simp; rfl) ?_
   simp only[Act.put,aZ,bg,bh];have hltb:bb<w9.heap.size:=lt_of_block HBX9.o;have hltf:w.heap.size+1<w9.heap.size:=lt_of_block HF9.o;have HAL:=aa ((Below.refl w9.heap.size w9).alloc (Nat.le_refl _) (.cells #[.string r.name, .int .i64 r.gen, .int .i64 r.size, .slice a9 xl c9] 53));have HS2:=aa (And.intro ((HAL.o.cell (p:=⟨bb,12,none⟩) hltb).trans k12) (And.intro ((HAL.o.cell (p:=⟨w.heap.size+1,0,none⟩) hltf).trans f0) (And.intro ((HAL.o.cell (p:=⟨w.heap.size+1,1,none⟩) hltf).trans f1) ((HAL.o.cell (p:=⟨w.heap.size+1,2,none⟩) hltf).trans f2))))
   refine an 9 rfl (by kernel_rfl) rfl (fun K hK=> ?_);go_wp2_with fail
   (first | (refine⟨HS2.o, ?_⟩) | skip)
   refine an 10 rfl (by kernel_rfl) rfl (fun K hK=> ?_);have hzl:zs.length<1000000000000:=by have h1:=hn; rw[<-HZS.o,List.length_map]at h1; exact h1
   have HR9:=aa (HBO8.o.below HB9.o);go_wp2_with (at_builtin; go_must (refine aA Tryz.appBlobs rfl _ _ rfl base (.slice av zs.length cv8) zs.length (eE zs) rfl w9 [.string r.name, .int .i64 r.gen, .int .i64 r.size, .slice a9 xl c9] _ rfl rfl (ob (b:=⟨r,x⟩)) HR9.o.row (by omega) (by have:=HZ8.o; have:=HB9.o.size; omega) ?_); intro v' wc hown' hgrow' _ hpl; obtain⟨ae,ce,rfl,-,-⟩:=ai hown')
   have hne: ∀i cs t z,w9.heap[i]? =some (.cells cs t z)->t≠53->(Value.slice av zs.length cv8).ownBlock≠some i:=fun i cs t z hi ht e=>by
    obtain⟨cs2,hc2⟩:=au HR9.o.row e;exact ht (aC hi hc2)
   have hr9:=br HB9.o HR8.o;have hbxc:=(hgrow'.block bb hltb (fun e=>hne _ _ _ _ HBX9.o (by decide) e.symm)).trans HBX9.o;have hfc:=(hgrow'.block (w.heap.size+1) hltf (fun e=>hne _ _ _ _ HF9.o (by decide) e.symm)).trans HF9.o;have hrc:=(hgrow'.block w.heap.size (lt_of_block hr9) (fun e=>hne _ _ _ _ hr9 (by decide) e.symm)).trans hr9;have HBXC:=aa hbxc;have HFC:=aa hfc;have hpush:=eV.push (b:=⟨r,x⟩) HZS.o HBO8.o HBX8.o HSET.o HB9.o HO9.o hown' hgrow' hpl hbb (Nat.le_trans hbz HZ8.o)
   have HPU:=aa hpush;have hbbw:=hlt;have HF12:=aa ((Below.heap_setCell wc ⟨bb,12,none⟩ (.slice ae (zs.length+1) ce) (w.heap.size+1) (by show w.heap.size+1≠bb; omega)).trans hfc);have HR12:=aa ((Below.heap_setCell wc ⟨bb,12,none⟩ (.slice ae (zs.length+1) ce) w.heap.size (by show w.heap.size≠bb; omega)).trans hrc);clear hown' hgrow' hpl hpush hne hr9 hbxc hfc hrc k0 k1 k2 k3 k4 k10 k12 k13 f0 f1 f2
   obtain⟨f0,f1,f2,_⟩:=aj HFC.o;simp only[Nat.zero_add,Nat.reduceAdd]at f1 f2;have k0:=ag (k:=0) HBXC.o;have k1:=ag (k:=1) HBXC.o;have k2:=ag (k:=2) HBXC.o;have k3:=ag (k:=3) HBXC.o;have k4:=ag (k:=4) HBXC.o;have k10:=ag (k:=10) HBXC.o;have k12:=ag (k:=12) HBXC.o;have k13:=ag (k:=13) HBXC.o;simp only[gY,bT,cG,List.cons_append,List.nil_append,cr]at k0 k1 k2 k3 k4 k10 k12 k13
   have kz12:=ah (k:=12) HBXC.o;refine⟨⟨k12,f0,f1,f2⟩, ?_⟩
   iterate 2 (refine aJ rfl (by kernel_rfl) (fun _ _ _ h=>h) rfl ⟨k12,f0,f1,f2⟩ (by rintro w' ⟨hw1,hw2,hw3,hw4⟩; go_simp; rfl) ?_; simp only[Act.put,aZ,bg,bh])
   refine aM (by kernel_rfl) ?_;refine bX rfl rfl (fun K hK=> ?_)
   go_upto_region 13 with(fail)
   obtain⟨W12,hW12⟩: ∃W12:World,W12=wc.setCell ⟨bb,12,none⟩ (.slice ae (zs.length+1) ce):=⟨_,rfl⟩;rw[<-hW12]at HPU HF12 HR12 ⊢;clear hW12 k0 k1 k2 k3 k4 k10 k12 k13 f0 f1 f2 kz12;obtain⟨f0,f1,f2,_⟩:=aj HF12.o;simp only[Nat.zero_add,Nat.reduceAdd]at f1 f2;obtain⟨z0,z1,z2,_⟩:=aj HR12.o;simp only[Nat.zero_add,Nat.reduceAdd]at z1 z2;have y0:=ah (k:=0) HR12.o
   have y1:=ah (k:=1) HR12.o;have y2:=ah (k:=2) HR12.o;go_wp2_with fail;refine pM HR12.o rfl rfl rfl ?_;refine⟨by rw[<-HRE.o]; rfl, .slice ae (zs.length+1) ce,And.symm ⟨?_, ?_⟩⟩
   ·exact(((HKP8.o.trans HPU.o.2).setNew (Nat.le_refl _) hbz).setNew (Nat.le_refl _) hbz).setNew (Nat.le_refl _) hbz
   ·rw[HPB.o];exact HPU.o.1.other HR12.o (by decide) (by decide) (by decide) (fun i hi _=>aY hi)
 ·have f1:=ag (k:=1) HF2.o;have fz1:=ah (k:=1) HF2.o;simp only[cr]at f1
  go_upto_region 7 with(fail)
  obtain⟨W3,hW3⟩: ∃W3:World,W3=W2.setCell ⟨w.heap.size+1,1,none⟩ (.int .i64 g):=⟨_,rfl⟩;rw[<-hW3];have hb3:Below w.heap.size w W3:=by rw[hW3]; exact Below.setCell HB2.o (show w.heap.size<=w.heap.size+1 by omega) _
  have HB3:=aa hb3;have hf3:=dD (k:=1) HF2.o (.int .i64 g);simp only[List.setIfInBounds_toArray,List.set_cons_succ,List.set_cons_zero]at hf3;have HF3:=aa (show W3.heap[w.heap.size+1]? =some (.cells #[.string n0, .int .i64 g, .int .i64 (xl:Int)] 26 (0,0)) by rw[hW3]; exact hf3);have HR3:=aa (show W3.heap[w.heap.size]? =some (.cells #[.string ⟨#[]⟩, .int .i64 0, .int .i64 0] 26 (0,0)) by rw[hW3]; exact(Below.heap_setCell _ _ _ _ (by show w.heap.size≠w.heap.size+1; omega)).trans HR2.o)
  have HBD3:=aa (HH.o.below hb3);have HBX3:=aa HBD3.o.box;have hX3:ar S W3 (.slice a xl cap) x:=by have h1:=HX.o; rw[<-HXL.o]at h1; exact aL.below h1 (by omega) hb3
  have hnm:=nQ S k g.toNat x (.slice a xl cap) W3 HK.o (by omega) hX3 (by rw[<-HXL.o]; exact hl) (HEW.o.below hb3).envh;rw[Int.toNat_of_nonneg hgb.1,<-HRN.o]at hnm;unfold dW at hnm;have HNM3:=aa hnm;have k0:=ag (k:=0) HBX3.o;have k1:=ag (k:=1) HBX3.o;have k2:=ag (k:=2) HBX3.o;have k3:=ag (k:=3) HBX3.o;have k4:=ag (k:=4) HBX3.o;have k10:=ag (k:=10) HBX3.o
  have k12:=ag (k:=12) HBX3.o;have k13:=ag (k:=13) HBX3.o;simp only[gY,bT,cG,List.cons_append,List.nil_append,cr]at k0 k1 k2 k3 k4 k10 k12 k13;clear hW3 hb3 hf3 hnm f0 f1 fz1;go_wp2_with fail;refine HNM3.o.mono ?_;rintro e w4 ⟨rfl,hb4⟩;have hf4:=br hb4 HF3.o;have hr4:=br hb4 HR3.o;have f0:=ag (k:=0) hf4;have fz0:=ah (k:=0) hf4;simp only[List.getElem?_toArray,List.getElem?_cons_zero]at f0
  clear k0 k1 k2 k3 k4 k10 k12 k13;go_wp2_with fail;obtain⟨W5,hW5⟩: ∃W5:World,W5=w4.setCell ⟨w.heap.size+1,0,none⟩ (.string r.name):=⟨_,rfl⟩;rw[<-hW5];have HB5:=aa (show Below w.heap.size w W5 by rw[hW5]; exact Below.setCell (ab HB3.o hb4) (show w.heap.size<=w.heap.size+1 by omega) _);have hf5:=dD (k:=0) hf4 (.string r.name);simp only[List.setIfInBounds_toArray,List.set_cons_zero]at hf5
  have HF5:=aa (show W5.heap[w.heap.size+1]? =some (.cells #[.string r.name, .int .i64 r.gen, .int .i64 r.size] 26 (0,0)) by rw[hW5,HRG.o,HRS.o]; exact hf5);have HR5:=aa (show W5.heap[w.heap.size]? =some (.cells #[.string ⟨#[]⟩, .int .i64 0, .int .i64 0] 26 (0,0)) by rw[hW5]; exact(Below.heap_setCell _ _ _ _ (by show w.heap.size≠w.heap.size+1; omega)).trans hr4);clear hW5 hf4 hr4 f0 fz0 hb4 hf5
  obtain⟨W6,hW6⟩: ∃W6:World,W6=(W5).drew:=⟨_,rfl⟩;have hb6:Below (W5).heap.size (W5) W6:=by rw[hW6]; exact(Below.refl _ _).drew
  have HB6:=aa (ab HB5.o hb6);have HF6:=aa (br hb6 HF5.o);have HR6:=aa (br hb6 HR5.o);have HBD6:=aa (HH.o.below HB6.o);have HBX6:=aa HBD6.o.box;have k0:=ag (k:=0) HBX6.o;have k1:=ag (k:=1) HBX6.o;have k2:=ag (k:=2) HBX6.o;have k3:=ag (k:=3) HBX6.o;have k4:=ag (k:=4) HBX6.o;have k10:=ag (k:=10) HBX6.o;have k12:=ag (k:=12) HBX6.o
  have k13:=ag (k:=13) HBX6.o;simp only[gY,bT,cG,List.cons_append,List.nil_append,cr]at k0 k1 k2 k3 k4 k10 k12 k13;obtain⟨f0,f1,f2,_⟩:=aj HF6.o;simp only[Nat.zero_add,Nat.reduceAdd]at f1 f2;have hlk:=HBD6.o.known.look HRO.o;unfold bU at hlk
  by_cases hin:r∈bs.map bu.ref
  ·have e1:decide (r∈bs.map bu.ref)=true:=by simp[hin]
   rw[e1]at hlk;have HPB:=aa (show gJ k gs bs x=bs by unfold gJ; rw[<-HRE.o,if_pos hin]);clear hb6 hin e1;refine az [some 7] (by kernel_rfl) (by kernel_rfl) (by kernel_rfl) ?_;simp only[bC,List.take_succ_cons,List.take_zero];rw[<-hW6];clear hW6
   repeat (first | (refine aK rfl ?_; simp only[Act.put,aZ,bg,bh]) | (refine aS rfl (fun K hK=> ?_); go_simp; refine hK _ ?_; clear hK K))
   refine aR ?_;obtain⟨z0,z1,z2,_⟩:=aj HR6.o;simp only[Nat.zero_add,Nat.reduceAdd]at z1 z2;have y0:=ah (k:=0) HR6.o;have y1:=ah (k:=1) HR6.o;have y2:=ah (k:=2) HR6.o;go_wp2_with fail;refine pM HR6.o rfl rfl rfl ?_;refine⟨by rw[<-HRE.o]; rfl,v, ?_, ?_⟩
   ·rw[HPB.o];exact HBD6.o.other HR6.o (by decide) (by decide) (by decide) (fun i hi _=>aY hi)
   ·exact((((dE.ofBelow HB6.o hbz).setNew (Nat.le_refl _) hbz).setNew (Nat.le_refl _) hbz).setNew (Nat.le_refl _) hbz)
  ·have e1:decide (r∈bs.map bu.ref)=false:=by simp[hin]
   rw[e1]at hlk;have HPB:=aa (show gJ k gs bs x=bs++[⟨r,x⟩] by unfold gJ; rw[<-HRE.o,if_neg hin]);have HNI:=aa hin;clear hb6 hin e1;refine az [some 7] (by kernel_rfl) (by kernel_rfl) (by kernel_rfl) ?_;simp only[bC,List.take_succ_cons,List.take_zero];rw[<-hW6];clear hW6
   repeat (first | (refine aK rfl ?_; simp only[Act.put,aZ,bg,bh]) | (refine aS rfl (fun K hK=> ?_); go_simp; refine hK _ ?_; clear hK K))
   refine aR ?_;go_wp2_with fail;refine az [some 5,none] (by kernel_rfl) (by kernel_rfl) (by kernel_rfl) ?_;simp only[bC,List.take_succ_cons,List.take_zero,List.drop_succ_cons,List.drop_zero]
   repeat (first | (refine aK rfl ?_; simp only[Act.put,aZ,bg,bh]) | (refine aS rfl (fun K hK=> ?_); go_simp; refine hK _ ?_; clear hK K))
   refine aR ?_;refine bJ rfl (fun K hK=> ?_);have HKd:=aa (HBD6.o.known.same (w':=W6.drew) rfl);go_wp2_with (at_mapUpdate; go_must (refine gD rfl _ _ _ rfl kb (bs.map bu.ref) HKd.o rfl r HRO.o rfl rfl HNI.o ?_); intro w7 hset hg7);obtain⟨W8,hW8⟩: ∃W8:World,W8=w7.drew:=⟨_,rfl⟩;have hg8:W6.grownBy W8 (some kb):=by rw[hW8]; exact aG (b:=W6.drew) ⟨rfl,rfl,rfl,Nat.le_refl _,fun _ _ _=>rfl⟩ (aG hg7 ⟨rfl,rfl,rfl,Nat.le_refl _,fun _ _ _=>rfl⟩)
   have HSET:=aa (show eo W8 kb ((bs++[(⟨r,x⟩:bu)]).map bu.ref) by rw[hW8,List.map_append]; exact hset.same rfl);have hkw:kb<w.heap.size:=HH.o.known.map.lt;have hnkb:bb≠kb:=fun e=>HBD6.o.known.cells (e▸HBX6.o)
   have hbx8:=gU hg8 HBX6.o hnkb;have HBX8:=aa hbx8;have hf8:=gU hg8 HF6.o (by omega);have hr8:=gU hg8 HR6.o (by omega);have HF8:=aa hf8;have HR8:=aa hr8;obtain⟨zs,hzs,hbo⟩:=HBD6.o.own;have HZS:=aa hzs;have HBO8:=aa (show dt W8 base v zs from⟨hbo.row.kept hg8 (.inr (fun e=>by obtain⟨cs2,hc2⟩:=au hbo.row e; exact HBD6.o.known.cells hc2)),fun z hz=>(hbo.dat z hz).kept hg8 (.inr (fun e=>by obtain⟨cs2,hc2⟩:=au (hbo.dat z hz) e; exact HBD6.o.known.cells hc2))⟩)
   obtain⟨av,cv8,hv8,-,-⟩:=ai hbo.row;subst hv8;have HKP8:=aa ((dE.ofBelow HB6.o hbz).trans (dE.ofGrown (bb:=bb) (v:= .slice av zs.length cv8) hg8 (Nat.le_trans hbz HB6.o.size) hkb));have HZ8:=aa (Nat.le_trans HB6.o.size hg8.size);have HX8:=aa (show aL (fun _=>True) W8 1 (.slice a xl cap) xl (x.map ak)from by
    have h1:=HX.o;rw[<-HXL.o]at h1;have h2:ar S W6 (.slice a xl cap) x:=aL.below h1 (by omega) HB6.o;have h3:=aL.same (w':=W8) (oW h2 HBD6.o.known) (fun i hi=>hg8.block i hi.2 (fun e=>hi.1 (Option.some.inj e)));have h4:=aL.weak (T:=fun _=>True) h3 (fun _ _=>trivial);rw[<-HXL.o]at h4;exact h4)
   clear hset hg7 hg8 hbx8 hf8 hr8 hzs hbo f0 f1 f2 k0 k1 k2 k3 k4 k10 k12 k13 hlk;obtain⟨f0,f1,f2,_⟩:=aj HF8.o;simp only[Nat.zero_add,Nat.reduceAdd]at f1 f2;have k0:=ag (k:=0) HBX8.o;have k1:=ag (k:=1) HBX8.o;have k2:=ag (k:=2) HBX8.o;have k3:=ag (k:=3) HBX8.o;have k4:=ag (k:=4) HBX8.o;have k10:=ag (k:=10) HBX8.o;have k12:=ag (k:=12) HBX8.o
   have k13:=ag (k:=13) HBX8.o;simp only[gY,bT,cG,List.cons_append,List.nil_append,cr]at k0 k1 k2 k3 k4 k10 k12 k13;refine bN (fun w'=>w'.cell? ⟨bb,12,none⟩=some (.slice av zs.length cv8)/\w'.cell? ⟨w.heap.size+1,0,none⟩=some (.string r.name)/\w'.cell? ⟨w.heap.size+1,1,none⟩=some (.int .i64 r.gen)/\w'.cell? ⟨w.heap.size+1,2,none⟩=some (.int .i64 r.size)) (by kernel_rfl) (by kernel_rfl) ?_
   simp only[List.dropLast_cons_cons,List.dropLast_singleton,List.length_cons,List.length_nil,Nat.reduceAdd,Nat.reduceSub];rw[<-hW8];clear hW8
   iterate 7 (refine aJ rfl (by kernel_rfl) (fun _ _ _ h=>h) rfl ⟨k12,f0,f1,f2⟩ (by rintro w' ⟨hw1,hw2,hw3,hw4⟩; go_simp; rfl) ?_; simp only[Act.put,aZ,bg,bh])
   refine an 7 rfl (by kernel_rfl) rfl (fun K hK=> ?_);have hxs:0+xl<1099511627775:=by omega
   go_wp2_with (at_builtin; go_must (refine bD Tryz.appBytes rfl _ _ rfl W8.heap.size (.slice none 0 0) 0 [] rfl (World.ownsRow_nil _ _ _ _) (.slice a xl cap) xl (x.map ak) rfl HX8.o (ci x) hxs (Nat.le_refl _) ?_); intro v9 w9 hown9 hgrow9; rw[Nat.zero_add,List.nil_append]at hown9; obtain⟨a9,c9,rfl,-,-⟩:=ai hown9);have hb9:Below W8.heap.size W8 w9:=dQ hgrow9
   have HB9:=aa hb9;have HO9:=aa (show w9.ownsRow base 5 1 (.slice a9 xl c9) x.length (x.map ak) by rw[<-HXL.o]; exact cK hown9 (Nat.le_trans hbz HZ8.o));have HBX9:=aa (br hb9 HBX8.o);have HF9:=aa (br hb9 HF8.o);clear hown9 hgrow9 hb9 hxs k0 k1 k2 k3 k4 k10 k12 k13 f0 f1 f2;obtain⟨f0,f1,f2,_⟩:=aj HF9.o;simp only[Nat.zero_add,Nat.reduceAdd]at f1 f2;have k0:=ag (k:=0) HBX9.o
   have k1:=ag (k:=1) HBX9.o;have k2:=ag (k:=2) HBX9.o;have k3:=ag (k:=3) HBX9.o;have k4:=ag (k:=4) HBX9.o;have k10:=ag (k:=10) HBX9.o;have k12:=ag (k:=12) HBX9.o;have k13:=ag (k:=13) HBX9.o;simp only[gY,bT,cG,List.cons_append,List.nil_append,cr]at k0 k1 k2 k3 k4 k10 k12 k13;refine⟨⟨k12,f0,f1,f2⟩, ?_⟩;refine aJ rfl (by kernel_rfl) (fun _ _ _ h=>h) rfl ⟨k12,f0,f1,f2⟩ (by rintro w' ⟨hw1,hw2,hw3,hw4⟩; go_simp; rfl) ?_
   simp only[Act.put,aZ,bg,bh];have hltb:bb<w9.heap.size:=lt_of_block HBX9.o;have hltf:w.heap.size+1<w9.heap.size:=lt_of_block HF9.o;have HAL:=aa ((Below.refl w9.heap.size w9).alloc (Nat.le_refl _) (.cells #[.string r.name, .int .i64 r.gen, .int .i64 r.size, .slice a9 xl c9] 53));have HS2:=aa (And.intro ((HAL.o.cell (p:=⟨bb,12,none⟩) hltb).trans k12) (And.intro ((HAL.o.cell (p:=⟨w.heap.size+1,0,none⟩) hltf).trans f0) (And.intro ((HAL.o.cell (p:=⟨w.heap.size+1,1,none⟩) hltf).trans f1) ((HAL.o.cell (p:=⟨w.heap.size+1,2,none⟩) hltf).trans f2))))
   refine an 9 rfl (by kernel_rfl) rfl (fun K hK=> ?_);go_wp2_with fail
   (first | (refine⟨HS2.o, ?_⟩) | skip)
   refine an 10 rfl (by kernel_rfl) rfl (fun K hK=> ?_);have hzl:zs.length<1000000000000:=by have h1:=hn; rw[<-HZS.o,List.length_map]at h1; exact h1
   have HR9:=aa (HBO8.o.below HB9.o);go_wp2_with (at_builtin; go_must (refine aA Tryz.appBlobs rfl _ _ rfl base (.slice av zs.length cv8) zs.length (eE zs) rfl w9 [.string r.name, .int .i64 r.gen, .int .i64 r.size, .slice a9 xl c9] _ rfl rfl (ob (b:=⟨r,x⟩)) HR9.o.row (by omega) (by have:=HZ8.o; have:=HB9.o.size; omega) ?_); intro v' wc hown' hgrow' _ hpl; obtain⟨ae,ce,rfl,-,-⟩:=ai hown')
   have hne: ∀i cs t z,w9.heap[i]? =some (.cells cs t z)->t≠53->(Value.slice av zs.length cv8).ownBlock≠some i:=fun i cs t z hi ht e=>by
    obtain⟨cs2,hc2⟩:=au HR9.o.row e;exact ht (aC hi hc2)
   have hr9:=br HB9.o HR8.o;have hbxc:=(hgrow'.block bb hltb (fun e=>hne _ _ _ _ HBX9.o (by decide) e.symm)).trans HBX9.o;have hfc:=(hgrow'.block (w.heap.size+1) hltf (fun e=>hne _ _ _ _ HF9.o (by decide) e.symm)).trans HF9.o;have hrc:=(hgrow'.block w.heap.size (lt_of_block hr9) (fun e=>hne _ _ _ _ hr9 (by decide) e.symm)).trans hr9;have HBXC:=aa hbxc;have HFC:=aa hfc;have hpush:=eV.push (b:=⟨r,x⟩) HZS.o HBO8.o HBX8.o HSET.o HB9.o HO9.o hown' hgrow' hpl hbb (Nat.le_trans hbz HZ8.o)
   have HPU:=aa hpush;have hbbw:=hlt;have HF12:=aa ((Below.heap_setCell wc ⟨bb,12,none⟩ (.slice ae (zs.length+1) ce) (w.heap.size+1) (by show w.heap.size+1≠bb; omega)).trans hfc);have HR12:=aa ((Below.heap_setCell wc ⟨bb,12,none⟩ (.slice ae (zs.length+1) ce) w.heap.size (by show w.heap.size≠bb; omega)).trans hrc);clear hown' hgrow' hpl hpush hne hr9 hbxc hfc hrc k0 k1 k2 k3 k4 k10 k12 k13 f0 f1 f2
   obtain⟨f0,f1,f2,_⟩:=aj HFC.o;simp only[Nat.zero_add,Nat.reduceAdd]at f1 f2;have k0:=ag (k:=0) HBXC.o;have k1:=ag (k:=1) HBXC.o;have k2:=ag (k:=2) HBXC.o;have k3:=ag (k:=3) HBXC.o;have k4:=ag (k:=4) HBXC.o;have k10:=ag (k:=10) HBXC.o;have k12:=ag (k:=12) HBXC.o;have k13:=ag (k:=13) HBXC.o;simp only[gY,bT,cG,List.cons_append,List.nil_append,cr]at k0 k1 k2 k3 k4 k10 k12 k13
   have kz12:=ah (k:=12) HBXC.o;refine⟨⟨k12,f0,f1,f2⟩, ?_⟩
   iterate 2 (refine aJ rfl (by kernel_rfl) (fun _ _ _ h=>h) rfl ⟨k12,f0,f1,f2⟩ (by rintro w' ⟨hw1,hw2,hw3,hw4⟩; go_simp; rfl) ?_; simp only[Act.put,aZ,bg,bh])
   refine aM (by kernel_rfl) ?_;refine bX rfl rfl (fun K hK=> ?_)
   go_upto_region 13 with(fail)
   obtain⟨W12,hW12⟩: ∃W12:World,W12=wc.setCell ⟨bb,12,none⟩ (.slice ae (zs.length+1) ce):=⟨_,rfl⟩;rw[<-hW12]at HPU HF12 HR12 ⊢;clear hW12 k0 k1 k2 k3 k4 k10 k12 k13 f0 f1 f2 kz12;obtain⟨f0,f1,f2,_⟩:=aj HF12.o;simp only[Nat.zero_add,Nat.reduceAdd]at f1 f2;obtain⟨z0,z1,z2,_⟩:=aj HR12.o;simp only[Nat.zero_add,Nat.reduceAdd]at z1 z2;have y0:=ah (k:=0) HR12.o
   have y1:=ah (k:=1) HR12.o;have y2:=ah (k:=2) HR12.o;go_wp2_with fail;refine pM HR12.o rfl rfl rfl ?_;refine⟨by rw[<-HRE.o]; rfl, .slice ae (zs.length+1) ce,And.symm ⟨?_, ?_⟩⟩
   ·exact(((HKP8.o.trans HPU.o.2).setNew (Nat.le_refl _) hbz).setNew (Nat.le_refl _) hbz).setNew (Nat.le_refl _) hbz
   ·rw[HPB.o];exact HPU.o.1.other HR12.o (by decide) (by decide) (by decide) (fun i hi _=>aY hi)
theorem cS {w w':World} {B B' sz sz' n n':Nat} {t t':TypeId} {u r:Value} {xs xs':List Value} (h:w.ownsRow B t sz u n xs) (ho:w.ownsRow B' t' sz' r n' xs') (hg:w.grownBy w' r.ownBlock) (ht:t≠t'):w'.ownsRow B t sz u n xs:=
 bZ h (fun k hk hu=>hg.block k hk (fun e=>by
  obtain⟨cs,hc⟩:=au h hu;obtain⟨cs2,hc2⟩:=au ho e.symm;exact ht (aC hc hc2)))
theorem dE.row {w w':World} {base bb im kb B sz n:Nat} {k:bn} {c:cF} {gv v v' u:Value} {bs:List bu} {t:TypeId} {xs:List Value} (h:eV w base bb k c gv im kb v bs) (hk:dE base bb kb v v' w w') (hr:w.ownsRow B t sz u n xs) (h1:t≠122) (h2:t≠53):w'.ownsRow B t sz u n xs:=
 bZ hr (fun i hi hu=>by
  obtain⟨cs,hc⟩:=au hr hu;refine hk.same i hi (fun e=> ?_) (fun e=> ?_) (fun e=> ?_)
  ·subst e; exact h1 (aC hc h.box)
  ·subst e; exact h.known.cells hc
  ·obtain⟨zs,_,ho,_⟩:=h.own;obtain⟨cs2,hc2⟩:=au ho e;exact h2 (aC hc hc2))
theorem eV.otherRow {w w':World} {base bb im kb B sz n:Nat} {k:bn} {c:cF} {gv v r:Value} {bs:List bu} {t:TypeId} {xs:List Value} (h:eV w base bb k c gv im kb v bs) (hr:w.ownsRow B t sz r n xs) (hg:w.grownBy w' r.ownBlock) (h1:t≠122) (h2:t≠53) (h3:t≠5):eV w' base bb k c gv im kb v bs:=by
 obtain⟨zs,hz,ho,hd⟩:=h.own;refine⟨(hg.block bb (lt_of_block h.box) (fun e=> ?_)).trans h.box,⟨zs,hz,cS ho hr hg (fun e=>h2 e.symm),fun z hz=>cS (hd z hz) hr hg (fun e=>h3 e.symm)⟩,h.known.same (hg.block kb h.known.map.lt (fun e=> ?_))⟩
 ·obtain⟨cs,hc⟩:=au hr e.symm;exact h1 (aC hc h.box)
 ·obtain⟨cs,hc⟩:=au hr e.symm;exact h.known.cells hc
theorem dE.otherRow {w0 w w':World} {base bb kb B sz n:Nat} {v v' r:Value} {t:TypeId} {xs:List Value} (h:dE base bb kb v v' w0 w) (hr:w.ownsRow B t sz r n xs) (hg:w.grownBy w' r.ownBlock) (hB:w0.heap.size<=B) (hbz:base<=w0.heap.size):dE base bb kb v v' w0 w':=
 ⟨h.below.grown hg (Nat.le_trans hbz h.below.size) (fun i hi=>Nat.le_trans (Nat.le_trans hbz hB) (hr.lt i hi).1),fun i h1 h2 h3 h4=>(hg.block i (Nat.lt_of_lt_of_le h1 h.below.size) (fun e=>by have:=(hr.lt i e.symm).1; omega)).trans (h.same i h1 h2 h3 h4),h.place⟩
theorem CS (d p:ByteArray):Lib.trimPrefix (p.extract d.size p.size).data.toList [47]=gH (bl d) (bl p):=by
 have e:(p.extract d.size p.size).data.toList=(bl p).drop (bl d).length:=by
  rw[Lib.extract_data,<-am];exact List.take_of_length_le (by rw[List.length_drop,am]; exact Nat.le_refl _)
 rw[e];unfold gH Lib.trimPrefix Lib.hasPrefix
 cases hd:(bl p).drop (bl d).length with
 | nil=>simp
 | cons y ys=>
  by_cases hy:y=47
  ·subst hy; simp
  ·simp[hy];intro h; exact absurd h.symm hy
theorem xC (d p:ByteArray) (w:World) (h:d.size<=p.size):Calls Tryz.prog 121 #[.string d, .string p] w fun e w'=>e= .returned (.string ⟨(gH (bl d) (bl p)).toArray⟩)/\w=w':=by
 go_enter Tryz.func121,Tryz.ntmps121
 go_wp2_with fail;refine(Tryz.strings_TrimPrefix _ _ w).mono ?_;rintro e w' ⟨rfl,rfl⟩;rw[CS d p];obtain⟨q,hq⟩: ∃q,q=gH (bl d) (bl p):=⟨_,rfl⟩;rw[<-hq];have HQ:=aa hq;clear hq;go_wp2_with fail;go_ret;obtain rfl:=HQ.o;exact⟨rfl,rfl⟩
structure Ee (w : World) (base bb im kb B : Nat) (k : bn) (c : cF) (gv v pv : Value) (ys : List (Value × List UInt8)) (wr : World) (v2 rv : Value) (bs2 : List bu) (rs : List aV) : Prop where
 bd:eV wr base bb k c gv im kb v2 bs2
 kp:dE base bb kb v v2 w wr
 row:wr.ownsRow w.heap.size 26 3 rv rs.length (rs.flatMap dC)
 pcs:wr.ownsRow B 29 1 pv ys.length (ys.map Prod.fst)/\ ∀y∈ys,wr.ownsRow B 5 1 y.1 y.2.length (y.2.map ak)
section
variable {w wr w' : World} {base bb im kb B : Nat} {k : bn} {c : cF} {gv v pv v2 v3 rv : Value} {ys : List (Value × List UInt8)} {bs2 bs3 : List bu} {rs : List aV}
theorem Ee.step (h:Ee w base bb im kb B k c gv v pv ys wr v2 rv bs2 rs) (h1:eV w' base bb k c gv im kb v3 bs3) (h2:dE base bb kb v2 v3 wr w'):Ee w base bb im kb B k c gv v pv ys w' v3 rv bs3 rs:=
 ⟨h1,h.kp.trans h2,h2.row h.bd h.row (by decide) (by decide),h2.row h.bd h.pcs.1 (by decide) (by decide),fun y hy=>h2.row h.bd (h.pcs.2 y hy) (by decide) (by decide)⟩
theorem Ee.below (h:Ee w base bb im kb B k c gv v pv ys wr v2 rv bs2 rs) (hb:Below wr.heap.size wr w') (hbz:base<=wr.heap.size):Ee w base bb im kb B k c gv v pv ys w' v2 rv bs2 rs:=
 h.step (h.bd.below hb) (dE.ofBelow hb hbz)
theorem Ee.push {rv':Value} {r:aV} (h:Ee w base bb im kb B k c gv v pv ys wr v2 rv bs2 rs) (hown:w'.ownsRow w.heap.size 26 3 rv' (rs.length+1) (rs.flatMap dC++dC r)) (hg:wr.grownBy w' rv.ownBlock) (hbz:base<=w.heap.size):Ee w base bb im kb B k c gv v pv ys w' v2 rv' bs2 (rs++[r]):=
 ⟨h.bd.otherRow h.row hg (by decide) (by decide) (by decide),h.kp.otherRow h.row hg (Nat.le_refl _) hbz,by rw[List.length_append,List.flatMap_append]; simpa using hown,cS h.pcs.1 h.row hg (by decide),fun y hy=>cS (h.pcs.2 y hy) h.row hg (by decide)⟩
end
def Js (base bb im kb:Nat) (k:bn) (c:cF) (gs:List (ByteArray×Int)) (gv v:Value) (bs:List bu) (x:List UInt8) (w:World) (e:Ending) (w':World):Prop:=
 ∃rv v',e= .returned (.tuple #[rv, .int .i64 0])/\w'.ownsRow w.heap.size 26 3 rv ((cN c x).map (aE k gs)).length (((cN c x).map (aE k gs)).flatMap dC)/\eV w' base bb k c gv im kb v' (bP k gs (cN c x) bs)/\dE base bb kb v v' w w'
theorem Ih (k:bn) (gs:List (ByteArray×Int)) (bs:List bu) (x:List UInt8):(gJ k gs bs x).length<=bs.length+1:=by
 unfold gJ
 split
 ·omega
 ·simp
theorem od (k:bn) (gs:List (ByteArray×Int)): ∀(cs:List (List UInt8)) (bs:List bu),(bP k gs cs bs).length<=bs.length+cs.length
 | [],bs=>Nat.le_refl _
 | x::cs,bs=>by
  have h1:=od k gs cs (gJ k gs bs x);have h2:=Ih k gs bs x
  show(bP k gs cs (gJ k gs bs x)).length<=_
  rw[List.length_cons]; omega
theorem vY {k:bn} {gs:List (ByteArray×Int)} {cs:List (List UInt8)} {bs:List bu} {j:Nat} {x:List UInt8} (h:cs[j]? =some x):bP k gs (cs.take (j+1)) bs=gJ k gs (bP k gs (cs.take j) bs) x:=by
 rw[bS h,dR]; rfl
theorem vi {c:cF} (hc:dV c=true) (x:List UInt8): ∀y∈cN c x,1<=y.length/\y.length<=32768:=by
 have hv:=fX.1 hc;intro y hy;have:=ug (mx:=c.mx.toNat) (by omega) (jI) y hy;omega
theorem BZ (S:Nat->Prop) (base bb kb im:Nat) (k:bn) (c:cF) (gs:List (ByteArray×Int)) (gv v cv:Value) (bs:List bu) (x:List UInt8) (w:World) (h:eV w base bb k c gv im kb v bs) (hk:dX k=true) (hc:dV c=true) (hsd:c.seed<18446744073709551616) (hg:dO (· <base) w gv gs) (hgs: ∀p∈gs,0<=p.2/\p.2<=1099511627776)
  (hx:ar S w cv x) (hl:x.length<=1048576) (hE:my w) (hbb:base<=bb) (hkb:base<=kb) (hbz:base<=w.heap.size) (h7:7<=base) (hn:bs.length+(cN c x).length<1000000000000):
  Calls Tryz.prog 122 #[.pointer (some ⟨bb,0,none⟩),cv] w (Js base bb im kb k c gs gv v bs x w):=by
 have HH:=aa h;have HK:=aa hk;have HG:=aa hg;have HGS:=aa hgs;have HE:=aa hE;have HCO:=aa (vi hc x);have hsp:=qp S c x cv w hc hsd hx hl hE.deb;obtain⟨L,hL⟩: ∃L,L=cN c x:=⟨_,rfl⟩;have HL:=aa hL;rw[<-hL]at hn;unfold cN at hL;rw[<-hL]at hsp;unfold dB at hsp;have HSP:=aa hsp;have HBOX:=aa h.box;have k5:=ag (k:=5) HBOX.o;have k6:=ag (k:=6) HBOX.o
 have k7:=ag (k:=7) HBOX.o;have k8:=ag (k:=8) HBOX.o;have k9:=ag (k:=9) HBOX.o;simp only[gY,bT,cG,List.cons_append,List.nil_append,cr]at k5 k6 k7 k8 k9;clear h hk hg hgs hx hE hL hsp
 go_enter Tryz.func122,Tryz.ntmps122
 go_wp2_with fail;refine HSP.o.mono ?_;rintro e w1 ⟨pv,rfl,⟨ys,hys,hrow,hdat⟩,hb1⟩;have HB1:=aa hb1;obtain⟨pa,pc,rfl,hpc,hpm⟩:=ai hrow;unfold maxLen at hpm;have HYS:=aa hys;have HFL:=aa (show Ee w base bb im kb w.heap.size k c gv v (.slice pa ys.length pc) ys w1 v (.slice none 0 0) bs []from⟨HH.o.below hb1,dE.ofBelow hb1 hbz,World.ownsRow_nil _ _ _ _,hrow,hdat⟩)
 obtain⟨m,hm⟩: ∃m,m=ys.length:=⟨_,rfl⟩;rw[<-hm]at HFL hpc ⊢;have HM:=aa hm;have HML:=aa (show m=L.length by rw[hm,<-hys,List.length_map]);clear hb1 hrow hdat hys hm k5 k6 k7 k8 k9;go_wp2_with fail
 go_loopw [8,27] (fun rv i wr=> ∃(j:Nat) (v2:Value),j<=m/\i= .int .i64 (j:Int)/\Ee w base bb im kb w.heap.size k c gv v (.slice pa m pc) ys wr v2 rv (bP k gs (L.take j) bs) ((L.take j).map (aE k gs))) (fun _ i _=>m-(intOf i).toNat)
 case atStart=>exact⟨0,v,Nat.zero_le _,rfl,HFL.o⟩
 case round=>
  obtain⟨j,v2,hj,rfl,hin⟩:=hrel;have HIN:=aa hin;obtain⟨rs,hrs⟩: ∃rs,rs=(L.take j).map (aE k gs):=⟨_,rfl⟩;rw[<-hrs]at hin;obtain⟨ra,rc,hrv,-,-⟩:=ai hin.row;subst hrv;have HIN:=aa hin;have HRS:=aa hrs;have hrl:rs.length<=j:=by rw[hrs,List.length_map,List.length_take]; omega
  clear hin hrs
  by_cases hlt:j<m
  ·obtain⟨⟨yv,yb⟩,hyp⟩: ∃yp,ys[j]? =some yp:=⟨ys[j]'(by rw[<-HM.o]; exact hlt),by simp⟩;have HLJ:=aa (show L[j]? =some yb by rw[<-HYS.o,List.getElem?_map,hyp]; rfl);obtain⟨_,pa',pc',hpe,_,_,hp0⟩:=aO HIN.o.pcs.1
   cases hpe
   obtain⟨pb,po,rfl,-,hpcell⟩:=hp0.resolve_left (by omega);have q0:=hpcell j yv (by rw[List.getElem?_map,hyp]; rfl);have hown:=HIN.o.pcs.2 (yv,yb) (List.mem_of_getElem? hyp);obtain⟨ya,yc,hyv,-,-⟩:=ai hown;simp only at hyv;subst hyv;have hyb:=HCO.o yb (by rw[<-HL.o]; exact List.mem_of_getElem? HLJ.o);have hbl:=od k gs (L.take j) bs;have hlt2:(L.take j).length<=L.length:=by rw[List.length_take]; omega
   have had:=AR (fun _=>True) base bb kb im k c gs gv v2 (.slice ya yb.length yc) (bP k gs (L.take j) bs) yb wr HIN.o.bd HK.o (HG.o.keep (fun i h1 _=>HIN.o.kp.below.block i h1)) HGS.o
    (aL.weak (aO hown) (fun _ _=>trivial)) hyb.2 (HE.o.keep HIN.o.kp.below h7) hbb hkb (Nat.le_trans hbz HIN.o.kp.below.size) h7 (by omega)
   unfold yI bU at had;rw[<-vY HLJ.o]at had;obtain⟨r,hr⟩: ∃r,r=aE k gs yb:=⟨_,rfl⟩;rw[<-hr]at had;have HRE:=aa hr;have HAD:=aa had;obtain⟨rn,hrn⟩: ∃rn,rn=rs.length:=⟨_,rfl⟩;rw[<-hrn]at hrl ⊢;have HRNN:=aa hrn;clear hyp hp0 hpcell hown hyb hbl hlt2 had hr hrn;go_wp2_with fail;refine HAD.o.mono ?_;rintro e w3 ⟨rfl,v3,hbd3,hkp3⟩;have HIN3:=aa (HIN.o.step hbd3 hkp3)
   have HZ3:=aa (show base<=w3.heap.size from Nat.le_trans hbz (HIN3.o.kp.below.size));obtain⟨W4,hW4⟩: ∃W4,W4=w3.alloc (.cells #[.string r.name, .int .i64 r.gen, .int .i64 r.size] 26):=⟨_,rfl⟩;have HIN4:=aa (HIN3.o.below (w':=W4) (by rw[hW4]; exact bH) HZ3.o);have hf4:W4.heap[w3.heap.size]? =some (.cells #[.string r.name, .int .i64 r.gen, .int .i64 r.size] 26 (0,0)):=by rw[hW4]; exact bz w3 _
   obtain⟨f0,f1,f2,_⟩:=aj hf4;simp only[Nat.zero_add,Nat.reduceAdd]at f1 f2;have HROW:=aa (show W4.ownsRow w.heap.size 26 3 (.slice ra rn rc) rn (rs.flatMap dC) by have h1:=HIN4.o.row; rw[<-HRNN.o]at h1; exact h1);have hz4:w.heap.size<=W4.heap.size:=HIN4.o.kp.below.size;have hrb:rn<1099511627775:=by have:=HML.o; omega
   clear hbd3 hkp3 q0 hf4
   go_upto_region 11 with(fail)
   rw[<-hW4];clear hW4;go_wp2_with (at_builtin; go_must (refine aA Tryz.appRefs rfl _ _ rfl w.heap.size (.slice ra rn rc) rn (rs.flatMap dC) rfl W4 [.string r.name, .int .i64 r.gen, .int .i64 r.size] _ rfl rfl (lr (r:=r)) HROW.o hrb hz4 ?_); intro v' wc hown' hgrow' _ _; obtain⟨ae,ce,rfl,-,-⟩:=ai hown'; have HPU:=aa (HIN4.o.push (r:=r) (by rw[<-HRNN.o]; exact hown') (by rw[<-HRNN.o]; exact hgrow') hbz); clear hown' hgrow')
   go_roundw
   case rel=>
    refine⟨j+1,v3,by omega,by go_num, ?_⟩;have h1:=HPU.o;rw[HRS.o,HRE.o]at h1;rw[bS HLJ.o,List.map_append,<-bS HLJ.o];exact h1
   case measure=>simp[intOf]; omega
  ·have hk2:j=m:=by omega
   subst hk2;go_wp2_with fail
   go_ret2
   have h1:=HIN.o;have h2:L.take j=L:=by rw[HML.o,List.take_length]
   have h3:rs=L.map (aE k gs):=by rw[HRS.o,h2]
   rw[h2]at h1;refine⟨_,v2,rfl, ?_, ?_,h1.kp⟩
   ·rw[<-HL.o,<-h3]; exact h1.row
   ·rw[<-HL.o]; exact h1.bd
structure vL where
 dir:ByteArray
 val:Value
 ents:List jX
def iH (g:vL):Value×Value:=(.string g.dir,g.val)
structure kP (w : World) (base im : Nat) (G : List vL) : Prop where
 map:dw Tryz.prog 9 w im (G.map iH)
 own: ∀g∈G,w.ownsRow base 79 6 g.val g.ents.length (dJ g.ents)
 dat: ∀g∈G,∀y∈g.ents,bO (· <base) w y.1 y.2.data/\gR y.2
 apart:G.Pairwise fun a b=> ∀i,a.val.ownBlock=some i->b.val.ownBlock≠some i
 key: ∀g∈G,g.dir.size<=maxLen
def gu (G:List vL) (d:ByteArray):List bo:=match G.find? (fun g=>decide (g.dir=d))with
 | none=>[]
 | some g=>g.ents.map Prod.snd
def yL (w:World) (base im:Nat) (tree:List bo):Prop:= ∃G,kP w base im G/\ ∀d,gu G d=cU tree d
theorem jZ {B:Nat} {w w':World} {v:Value} {bs:List UInt8} (h:bO (· <B) w v bs) (hb:Below B w w'):bO (· <B) w' v bs:=aL.same h (fun k hk=>hb.block k hk)
theorem dw.ncells {P:Program} {k:TypeId} {w:World} {b:Nat} {m:List (Value×Value)} (h:dw P k w b m) {cs:Array Value} {t:TypeId} {z:Nat×Nat} :w.heap[b]? ≠some (.cells cs t z):=fun e=>by
 obtain⟨es,clock,hb,_⟩:=h;rw[hb]at e; cases e
theorem dE.blk {w w':World} {base bb im kb i:Nat} {k:bn} {c:cF} {gv v v':Value} {bs:List bu} {cs:Array Value} {t:TypeId} {z:Nat×Nat} (h:eV w base bb k c gv im kb v bs) (hk:dE base bb kb v v' w w') (hx:w.heap[i]? =some (.cells cs t z)) (h1:t≠122) (h2:t≠53):w'.heap[i]? =some (.cells cs t z):=by
 refine(hk.same i (lt_of_block hx) (fun e=> ?_) (fun e=> ?_) (fun e=> ?_)).trans hx
 ·subst e; exact h1 (aC hx h.box)
 ·subst e; exact h.known.cells hx
 ·obtain⟨zs,_,ho,_⟩:=h.own;obtain⟨cs2,hc2⟩:=au ho e;exact h2 (aC hx hc2)
theorem kP.keep {w w':World} {base bb im kb:Nat} {k:bn} {c:cF} {gv v v':Value} {bs:List bu} {G:List vL} (hg:kP w base im G) (h:eV w base bb k c gv im kb v bs) (hk:dE base bb kb v v' w w') (hne:im≠kb):kP w' base im G:=by
 refine⟨hg.map.same (hk.same im hg.map.lt (fun e=> ?_) hne (fun e=> ?_)),fun g hm=>hk.row h (hg.own g hm) (by decide) (by decide),fun g hm y hy=>⟨jZ (hg.dat g hm y hy).1 hk.below,(hg.dat g hm y hy).2⟩,hg.apart,hg.key⟩
 ·exact hg.map.ncells (by rw[e]; exact h.box)
 ·obtain⟨zs,_,ho,_⟩:=h.own;obtain⟨cs2,hc2⟩:=au ho e;exact hg.map.ncells hc2
theorem yL.keep {w w':World} {base bb im kb:Nat} {k:bn} {c:cF} {gv v v':Value} {bs:List bu} {tree:List bo} (hg:yL w base im tree) (h:eV w base bb k c gv im kb v bs) (hk:dE base bb kb v v' w w') (hne:im≠kb):yL w' base im tree:=by
 obtain⟨G,h1,h2⟩:=hg;exact⟨G,h1.keep h hk hne,h2⟩
theorem EX {w:World} {base im:Nat} {tree:List bo} (hg:yL w base im tree) {d:ByteArray} (hd:d.size<=maxLen):
  ∃(v:Value) (ys:List jX),(Instr.lookup 119 (.map (some im)) (.string d) false).run Tryz.prog w= .ok v w/\ys.map Prod.snd=cU tree d/\w.ownsRow base 79 6 v ys.length (dJ ys)/\ ∀y∈ys,bO (· <base) w y.1 y.2.data/\gR y.2:=by
 obtain⟨G,h1,h2⟩:=hg;have ht:Tryz.prog.underlying 119=some (.map 9 46):=Tryz.underlying119;have hz:(zeroValue 46).run Tryz.prog w= .ok (.slice none 0 0) w:=by kernel_rfl
 have h3:=h2 d;unfold gu at h3
 cases hf:G.find? (fun g=>decide (g.dir=d))with
 | none=>
  rw[hf]at h3;refine⟨.slice none 0 0,[], ?_,h3,World.ownsRow_nil _ _ _ _,by simp⟩;have:=h1.map.is.miss cD ht hz (dh hd) (fun q hq e=>by
   obtain⟨x,hx,rfl⟩:=List.mem_map.1 hq;simp only[iH,Value.string.injEq]at e;have:=List.find?_eq_none.1 hf x hx;simp[e]at this) false
  simpa using this
 | some g=>
  rw[hf]at h3;have h4:=List.mem_of_find?_eq_some hf;have h5:=List.find?_some hf;simp only[decide_eq_true_eq]at h5;refine⟨g.val,g.ents, ?_,h3,h1.own g h4,h1.dat g h4⟩;have:=h1.map.is.hit cD ht (dh hd) (val:=g.val) (List.mem_map.2 ⟨g,h4,by rw[<-h5]; rfl⟩) false
  simpa using this
abbrev oS :=Value×aI
def kg (zs:List oS):List Value:=zs.flatMap fun z=>cg z.1 z.2
theorem tN (zs:List oS) (z:oS):kg (zs++[z])=kg zs++cg z.1 z.2:=by simp[kg]
structure fN (w : World) (B : Nat) (iv : Value) (its : List aI) : Prop where
 row: ∃zs:List oS,zs.map Prod.snd=its/\w.ownsRow B 28 10 iv zs.length (kg zs)/\ ∀z∈zs,w.ownsRow B 26 3 z.1 z.2.chunks.length (z.2.chunks.flatMap dC)/\df z.2/\ ∀r∈z.2.chunks,bK r
theorem tM {S:Nat->Prop} {w:World} : ∀ {zs:List oS},(∀z∈zs,bw S w z.1 z.2.chunks/\df z.2)->bR (fH S w) (kg zs) (zs.map Prod.snd)
 | [],_=>rfl
 | z::zs,h=>⟨cg z.1 z.2,kg zs,by simp[kg],⟨z.1,rfl,(h z (by simp)).1,(h z (by simp)).2⟩,tM (fun y hy=>h y (by simp[hy]))⟩
theorem fN.at {w:World} {B:Nat} {iv:Value} {its:List aI} (h:fN w B iv its):bI (fun _=>True) w iv its:=by
 obtain⟨zs,rfl,h1,h2⟩:=h.row;refine⟨kg zs, ?_,tM (fun z hz=>⟨bw.same (kt (h2 z hz).1 (h2 z hz).2.2) (fun _ _ _=>⟨trivial,rfl⟩),(h2 z hz).2.1⟩)⟩;rw[List.length_map];exact aL.weak (aO h1) (fun _ _=>trivial)
theorem fN.nil (w:World) (B:Nat):fN w B (.slice none 0 0) []:=⟨[],rfl,World.ownsRow_nil _ _ _ _,by simp⟩
structure yJ (w : World) (base bb im kb : Nat) (k : bn) (c : cF) (gv v ev : Value) (ys : List jX) (wr : World) (v2 iv : Value) (bs2 : List bu) (its : List aI) : Prop where
 bd:eV wr base bb k c gv im kb v2 bs2
 kp:dE base bb kb v v2 w wr
 its:fN wr w.heap.size iv its
 ents:wr.ownsRow base 79 6 ev ys.length (dJ ys)
 res:wr.heap[w.heap.size]? =some (.cells #[.string ⟨#[]⟩, .int .i64 0, .int .i64 0] 26 (0,0))
theorem fN.keep {w w':World} {base bb im kb B:Nat} {k:bn} {c:cF} {gv v v' iv:Value} {bs:List bu} {its:List aI} (hi:fN w B iv its) (h:eV w base bb k c gv im kb v bs) (hk:dE base bb kb v v' w w'):fN w' B iv its:=by
 obtain⟨zs,h1,h2,h3⟩:=hi.row;exact⟨zs,h1,hk.row h h2 (by decide) (by decide),fun z hz=>⟨hk.row h (h3 z hz).1 (by decide) (by decide),(h3 z hz).2⟩⟩
section
variable {w wr w' : World} {base bb im kb : Nat} {k : bn} {c : cF} {gv v ev v2 v3 iv : Value} {ys : List jX} {bs2 bs3 : List bu} {its : List aI}
theorem yJ.step (h:yJ w base bb im kb k c gv v ev ys wr v2 iv bs2 its) (h1:eV w' base bb k c gv im kb v3 bs3) (h2:dE base bb kb v2 v3 wr w'):yJ w base bb im kb k c gv v ev ys w' v3 iv bs3 its:=
 ⟨h1,h.kp.trans h2,h.its.keep h.bd h2,h2.row h.bd h.ents (by decide) (by decide),h2.blk h.bd h.res (by decide) (by decide)⟩
theorem yJ.below (h:yJ w base bb im kb k c gv v ev ys wr v2 iv bs2 its) (hb:Below wr.heap.size wr w') (hbz:base<=wr.heap.size):yJ w base bb im kb k c gv v ev ys w' v2 iv bs2 its:=
 h.step (h.bd.below hb) (dE.ofBelow hb hbz)
theorem yJ.push {iv' rv:Value} {it:aI} {zs:List oS} (h:yJ w base bb im kb k c gv v ev ys wr v2 iv bs2 its) (hz:zs.map Prod.snd=its) (hrow:wr.ownsRow w.heap.size 28 10 iv zs.length (kg zs)) (hdat: ∀z∈zs,wr.ownsRow w.heap.size 26 3 z.1 z.2.chunks.length (z.2.chunks.flatMap dC)/\df z.2/\ ∀r∈z.2.chunks,bK r)
  (hown:w'.ownsRow w.heap.size 28 10 iv' (zs.length+1) (kg zs++cg rv it)) (hg:wr.grownBy w' iv.ownBlock) (hrv:wr.ownsRow w.heap.size 26 3 rv it.chunks.length (it.chunks.flatMap dC)) (hok:df it) (hrs: ∀r∈it.chunks,bK r) (hbz:base<=w.heap.size):
  yJ w base bb im kb k c gv v ev ys w' v2 iv' bs2 (its++[it]):=by
 refine⟨h.bd.otherRow hrow hg (by decide) (by decide) (by decide),h.kp.otherRow hrow hg (Nat.le_refl _) hbz,⟨zs++[(rv,it)],by simp[hz],by rw[List.length_append,List.length_singleton,tN]; exact hown,fun z hm=> ?_⟩,cS h.ents hrow hg (by decide), ?_⟩
 ·rcases List.mem_append.1 hm with hm | hm
  ·exact⟨cS (hdat z hm).1 hrow hg (by decide),(hdat z hm).2⟩
  ·rw[List.mem_singleton]at hm;subst hm;exact⟨cS hrv hrow hg (by decide),hok,hrs⟩
 ·refine(hg.block _ (lt_of_block h.res) (fun e=> ?_)).trans h.res;obtain⟨cs2,hc2⟩:=au hrow e.symm;exact absurd (aC h.res hc2) (by decide)
theorem yJ.otherSet {i q:Nat} {u:Value} {cs:Array Value} {t:TypeId} {z:Nat×Nat} (h:yJ w base bb im kb k c gv v ev ys wr v2 iv bs2 its) (hx:wr.heap[i]? =some (.cells cs t z)) (h1:t≠122) (h2:t≠53) (h3:t≠5) (h4:t≠26) (h5:t≠79) (h6:iv.ownBlock≠some i) (hi:w.heap.size<=i) (hbz:base<=w.heap.size):yJ w base bb im kb k c gv v ev ys (wr.setCell ⟨i,q,none⟩ u) v2 iv bs2 its:=by
 have hs: ∀j,j≠i->(wr.setCell ⟨i,q,none⟩ u).heap[j]? =wr.heap[j]? :=fun j hj=>Below.heap_setCell _ _ _ _ hj
 refine⟨h.bd.other hx h1 h2 h3 (fun j hj _=>hs j hj),h.kp.setNew hi hbz, ?_,bZ h.ents (fun j hj hu=>hs j (fun e=> ?_)),(hs _ (fun e=> ?_)).trans h.res⟩
 ·obtain⟨zs,hz,hr,hd⟩:=h.its.row;refine⟨zs,hz,bZ hr (fun j hj hu=>hs j (fun e=>h6 (e▸hu))),fun y hy=>⟨bZ (hd y hy).1 (fun j hj hu=>hs j (fun e=> ?_)),(hd y hy).2⟩⟩;obtain⟨cs2,hc2⟩:=au (hd y hy).1 hu;exact h4 (aC hx (e▸hc2))
 ·obtain⟨cs2,hc2⟩:=au h.ents hu;exact h5 (aC hx (e▸hc2))
 ·exact h4 (aC hx (e▸h.res))
end
theorem GQ {a:Act} {w:World} {b:Nat} {x0 x1 x2 e5:Value} (h:w.heap[b]? =some (.cells #[x0,x1,x2] 26 (0,0)))
  (h4:a.tmps[4]? =some (.pointer (some ⟨b,0,none⟩))) (h5:a.tmps[5]? =some e5):(results Tryz.f73 a.tmps).run Tryz.prog w= .ok (.tuple #[.agg #[x0,x1,x2],e5]) w:=by
 obtain⟨m0,m1,m2,_⟩:=aj h;simp only[Nat.zero_add,Nat.reduceAdd]at m1 m2;simp[results,Tryz.results73,go_sem,h4,h5,m0,m1,m2]
theorem pT {a:Act} {w:World} {b:Nat} {a0 a1 a2 x0 x1 x2 e5:Value} {Q:Ending->World->Prop} (h:w.heap[b]? =some (.cells #[a0,a1,a2] 26 (0,0)))
  (h4:a.tmps[4]? =some (.pointer (some ⟨b,0,none⟩))) (h5:a.tmps[5]? =some e5) (hd:a.defers=[])
  (hQ:Q (.returned (.tuple #[.agg #[x0,x1,x2],e5])) (((w.setCell ⟨b,0,none⟩ x0).setCell ⟨b,1,none⟩ x1).setCell ⟨b,2,none⟩ x2)):
  bodyPost Tryz.prog Tryz.f73 Q Exit.ret a (((w.setCell ⟨b,0,none⟩ x0).setCell ⟨b,1,none⟩ x1).setCell ⟨b,2,none⟩ x2):=bodyPost_ret (GQ (pA h) h4 h5) hd hQ
structure Ec (base bb kb im : Nat) (k : bn) (c : cF) (gs : List (ByteArray × Int)) (tree : List bo) (UR : List aV) : Prop where
 keys:dX k=true
 cut:dV c=true
 seed:c.seed<18446744073709551616
 gens: ∀p∈gs,0<=p.2/\p.2<=1099511627776
 bbb:base<=bb
 bkb:base<=kb
 seven:7<=base
 ikb:im≠kb
 val: ∀e∈tree,dd e=true
 len:tree.length<=4096
 usz:UR.length<=100000000000
 u1: ∀e∈tree,∀y∈cN c e.data,aE k gs y∈UR
 u2: ∀(n:Nat) (d:ByteArray) (p:List UInt8×List (List UInt8)),n<=514->(d.size=0\/ ∃e∈tree,e.path=d)->cO k gs c tree n d= .ok p->aE k gs p.1∈UR
def AK (UR:List aV) (bs:List bu):Prop:= ∀b∈bs,b.ref∈UR
theorem AK.put {UR:List aV} {bs:List bu} {k:bn} {gs:List (ByteArray×Int)} {x:List UInt8} (h:AK UR bs) (hx:aE k gs x∈UR):AK UR (gJ k gs bs x):=by
 unfold gJ
 split
 ·exact h
 ·intro b hb
  rcases List.mem_append.1 hb with hb | hb
  ·exact h b hb
  ·rw[List.mem_singleton]at hb; subst hb; exact hx
theorem AK.puts {UR:List aV} {k:bn} {gs:List (ByteArray×Int)} : ∀ {cs:List (List UInt8)} {bs:List bu},AK UR bs->(∀x∈cs,aE k gs x∈UR)->AK UR (bP k gs cs bs)
 | [],_,h,_=>h
 | x::cs,bs,h,hx=>AK.puts (cs:=cs) (bs:=gJ k gs bs x) (h.put (hx x (by simp))) (fun y hy=>hx y (by simp[hy]))
theorem AK.len {UR:List aV} {bs:List bu} {w:World} {base bb im kb:Nat} {k:bn} {c:cF} {gv v:Value} (h:AK UR bs) (hb:eV w base bb k c gv im kb v bs):bs.length<=UR.length:=by
 have h1:=nI (l:=bs.map bu.ref) (U:=UR) hb.known.nodup (fun x hx=>by
  obtain⟨b,hb2,rfl⟩:=List.mem_map.1 hx;exact h b hb2)
 rwa [List.length_map]at h1
def uL (base bb kb im:Nat) (k:bn) (c:cF) (gs:List (ByteArray×Int)) (gv v:Value) (bs:List bu) (UR:List aV) (res:Except Int (List UInt8×List (List UInt8))) (w:World) (e:Ending) (w':World):Prop:=match res with
 | .error x=>e= .returned (.tuple #[.agg #[.string ⟨#[]⟩, .int .i64 0, .int .i64 0], .int .i64 x])/\x≠0/\ ∃v' bs',eV w' base bb k c gv im kb v' bs'/\dE base bb kb v v' w w'
 | .ok p=>e= .returned (.tuple #[bU (aE k gs p.1), .int .i64 0])/\AK UR (bP k gs p.2 bs)/\ ∃v',eV w' base bb k c gv im kb v' (bP k gs p.2 bs)/\dE base bb kb v v' w w'
def Gr (base bb kb im:Nat) (k:bn) (c:cF) (gs:List (ByteArray×Int)) (tree:List bo) (gv:Value) (UR:List aV) (n:Nat):Prop:= ∀(path:ByteArray) (v:Value) (bs:List bu) (w:World),
 514<=path.size+n->(path.size=0\/ ∃e∈tree,e.path=path)->eV w base bb k c gv im kb v bs->dO (· <base) w gv gs->yL w base im tree->AK UR bs->my w->base<=w.heap.size->
 Calls Tryz.prog 73 #[.pointer (some ⟨bb,0,none⟩), .string path] w (uL base bb kb im k c gs gv v bs UR (cO k gs c tree n path) w)
theorem EN {base bb kb im:Nat} {k:bn} {c:cF} {gs:List (ByteArray×Int)} {tree:List bo} {gv:Value} {UR:List aV} (hX:Ec base bb kb im k c gs tree UR):Gr base bb kb im k c gs tree gv UR 0:=by
 intro path v bs w hn hp
 exfalso
 rcases hp with h | ⟨e,he,rfl⟩
 ·omega
 ·have:=iy (bi (hX.val e he));rw[<-am]at this;omega
theorem kq {l:List UInt8} (h:l≠[]):(aH l).length<l.length:=by
 by_cases hp:aH l=[]
 ·rw[hp];exact List.length_pos_iff.2 h
 ·obtain⟨t,ht⟩:=lm hp;have:=congrArg List.length ht;rw[List.length_append,List.length_cons]at this;omega
theorem vh {c:cF} (hc:dV c=true) (x:List UInt8):(cN c x).length<=x.length:=by
 have h1:(cN c x).flatten=x:=rx;have h2: ∀(l:List (List UInt8)),(∀y∈l,1<=y.length)->l.length<=l.flatten.length:=by
  intro l
  induction l with
  | nil=>simp
  | cons y l ih=>
   intro h;have:=ih (fun z hz=>h z (by simp[hz]));have:=h y (by simp);simp only[List.length_cons,List.flatten_cons,List.length_append];omega
 have h3:=h2 (cN c x) (fun y hy=>(vi hc x y hy).1)
 rwa [h1]at h3
section
variable {P : Program} {ops : Array Oper} {Q : Exit → Act → World → Prop} {S : World → Prop}
theorem qP {dst dst2:Option Tmp} {op op2:Op} {ty ty2:TypeId} {pos pos2:String} {aft aft2:Array Edge} {g g2:Option (Nat×Bool)} {fuel:Nat} {listed:Array Bool} {a:Act} {w:World} (i j:Nat) (hi:ops[i]? =some ⟨dst,op,ty,pos,aft,g⟩) (hj:ops[j]? =some ⟨dst2,op2,ty2,pos2,aft2,g2⟩) (hr:Region.ready .any ops listed=[i,j])
  (hw:Region.wanted ⟨dst,op,ty,pos,aft,g⟩ (yielded ops a.tmps)=true) (hw2:Region.wanted ⟨dst2,op2,ty2,pos2,aft2,g2⟩ (yielded ops a.tmps)=true)
  (h: ∀K:Act->World->Prop,(∀a w,S w/\lI P ops Q S fuel (listed.setIfInBounds i true) a w->K a w)->wpList P #[] (Exit.then K Q) [⟨dst,op,ty,pos, #[],none⟩] a w)
  (h2: ∀K:Act->World->Prop,(∀a w,S w/\lI P ops Q S fuel (listed.setIfInBounds j true) a w->K a w)->wpList P #[] (Exit.then K Q) [⟨dst2,op2,ty2,pos2, #[],none⟩] a w):lI P ops Q S (fuel+1) listed a w:=by
 refine lI.of (wpAnyH_all hr (by simp) fun m hm=> ?_);have hmm:m=i\/m=j:=by simpa using hm
 rcases hmm with rfl | rfl
 ·have hb:sq P ops (fun a' w'=>S w'/\wpAnyH P .any ops Q S fuel (listed.setIfInBounds m true) a' w') Q [⟨dst,op,ty,pos,aft,g⟩] a w:=
   bJ hw (fun K hK=>h K (fun a w hh=>hK a w ⟨hh.1,hh.2.out⟩))
  unfold wpOp;simp only[hi];exact sq.out hb
 ·have hb:sq P ops (fun a' w'=>S w'/\wpAnyH P .any ops Q S fuel (listed.setIfInBounds m true) a' w') Q [⟨dst2,op2,ty2,pos2,aft2,g2⟩] a w:=
   bJ hw2 (fun K hK=>h2 K (fun a w hh=>hK a w ⟨hh.1,hh.2.out⟩))
  unfold wpOp;simp only[hj];exact sq.out hb
end
structure yM (it : aI) : Prop where
 nm:it.name.size<=512
 lk:it.link.size<=512
 ch:it.chunks.length<=1048576
 rs: ∀r∈it.chunks,r.name.size<=32
 nd:it.node.name.size<=32
 tm:it.time<9223372036854775808
theorem tu {r:aV} (h:r.name.size<=32):(cT r).length<=60:=by
 unfold cT;have h1:=bm r.gen.toNat
 have h2:=bm r.size.toNat
 rw[List.length_append,List.length_append,<-am];omega
theorem zb {it:aI} (h:yM it):(cY it).length<=70000000:=by
 have h1:=bm it.name.size;have h2:=bm it.kind.toNat
 have h3:=bm it.mode.toNat
 have h4:=bm it.time.toNat
 have h5:=bm it.chunks.length;have h6:=bm it.link.size;have h7:=gE cT 60 it.chunks (fun r hr=>tu (h.rs r hr));have h8:=tu h.nd;have hn:=h.nm;have hl:=h.lk;have hc:=h.ch;unfold cY ii;simp only[List.length_append,<-am]
 split
 ·simp only[List.length_append];omega
 ·split
  ·omega
  ·simp only[List.length_append,<-am];omega
theorem Fo {l:List aI} (h: ∀it∈l,yM it) (hl:l.length<=4096):(cQ l).length<1000000000000:=by
 have h1:=gE cY 70000000 l (fun it hit=>zb (h it hit));have h2:=bm l.length;unfold cQ;rw[List.length_append];have h3:l.length*70000000<=4096*70000000:=Nat.mul_le_mul_right _ hl;omega
theorem xq (d p:List UInt8):(gH d p).length<=p.length:=by
 unfold gH
 split
 ·rw[List.length_tail,List.length_drop]; omega
 ·rw[List.length_drop]; omega
theorem gt {e:bo} (h:dd e=true):e.path.size<=512/\e.link.size<=512/\e.data.length<=1048576:=by
 have h1:=iy (bi h);rw[<-am]at h1;unfold dd fx at h;rw[Bool.and_eq_true]at h;refine⟨h1, ?_⟩;have h2:=h.2
 split at h2
 ·simp only[Bool.and_eq_true,decide_eq_true_eq]at h2;omega
 ·split at h2
  ·simp only[Bool.and_eq_true,decide_eq_true_eq]at h2;omega
  ·split at h2
   ·simp only[Bool.and_eq_true,decide_eq_true_eq,jB]at h2;have:=h2.2.1.2;rw[<-am]at this;omega
   ·cases h2
theorem lw (k:bn) (gs:List (ByteArray×Int)) (x:List UInt8):(aE k gs x).name.size=32:=fG _ _ _
theorem kf {k:bn} {gs:List (ByteArray×Int)} {c:cF} {dir:ByteArray} {e:bo} {nd:aV} (hc:dV c=true) (h:dd e=true) (hok:gR e) (hn:nd.name.size<=32):yM (aT k gs c dir e nd):=by
 obtain⟨h1,h2,h3⟩:=gt h;have h4:=xq (bl dir) (bl e.path);rw[<-am e.path]at h4;refine⟨?_,h2, ?_, ?_, ?_, ?_⟩
 ·show ByteArray.size ⟨_⟩<=_
  simp only[ByteArray.size,List.size_toArray];omega
 ·show(if e.kind=1 then(cN c e.data).map (aE k gs)else []).length<=_
  split
  ·rw[List.length_map];have:=vh hc e.data;omega
  ·simp
 ·show ∀r∈(if e.kind=1 then(cN c e.data).map (aE k gs)else []),_
  intro r hr
  split at hr
  ·obtain⟨x,_,rfl⟩:=List.mem_map.1 hr;rw[lw]; omega
  ·simp at hr
 ·show(if e.kind=2 then nd else bG).name.size<=32
  split
  ·exact hn
  ·decide
 ·have:=hok.tim;simp[Lit.wf,IntKind.min,IntKind.max,IntKind.signed,IntKind.bits]at this
  show e.time<_
  omega
theorem eT {k:bn} {gs:List (ByteArray×Int)} (hgs: ∀p∈gs,0<=p.2/\p.2<=1099511627776) {x:List UInt8} (hx:x.length<=1048576):bK (aE k gs x):=by
 have h1:=uj gs hgs (gh k 0 x);refine⟨by rw[lw]; unfold maxLen; omega,WalkArith.wf_i64 ?_,WalkArith.wf_i64 ?_⟩
 ·show _<=gF gs _/\gF gs _<=_
  omega
 ·show -9223372036854775808<=(x.length:Int)/\(x.length:Int)<=_
  omega
theorem EL {k:bn} {gs:List (ByteArray×Int)} {c:cF} {tree:List bo} : ∀ {n:Nat} {d:ByteArray} {p:List UInt8×List (List UInt8)},cO k gs c tree n d= .ok p->p.1.length<=32768
 | 0,_,_,h=>by simp[cO]at h
 | n+1,d,p,h=>by
  rw[cO]at h
  split at h
  ·cases h
  ·split at h
   ·split at h
    ·simp only[Except.ok.injEq]at h;subst h
     assumption
    ·cases h
   ·cases h
theorem tP {k:bn} {gs:List (ByteArray×Int)} {c:cF} {rec:ByteArray->Except Int (List UInt8×List (List UInt8))} {dir:ByteArray} {e:bo} {r:List bo} {its:List aI} {cs:List (List UInt8)} (h:e.kind=1):cV k gs c rec dir (e::r) its cs=cV k gs c rec dir r (its++[aT k gs c dir e bG]) (cs++cN c e.data):=by rw[cV,if_pos h]
theorem qV {k:bn} {gs:List (ByteArray×Int)} {c:cF} {rec:ByteArray->Except Int (List UInt8×List (List UInt8))} {dir:ByteArray} {e:bo} {r:List bo} {its:List aI} {cs:List (List UInt8)} (h:e.kind=2):cV k gs c rec dir (e::r) its cs=match rec e.path with
  | .error x=> .error x
  | .ok p=>cV k gs c rec dir r (its++[aT k gs c dir e (aE k gs p.1)]) (cs++p.2):=by
 rw[cV,if_neg (by omega),if_pos h]
 cases rec e.path<;> rfl
theorem CF {k:bn} {gs:List (ByteArray×Int)} {c:cF} {rec:ByteArray->Except Int (List UInt8×List (List UInt8))} {dir:ByteArray} {e:bo} {r:List bo} {its:List aI} {cs:List (List UInt8)} (h1:e.kind≠1) (h:e.kind≠2):cV k gs c rec dir (e::r) its cs=cV k gs c rec dir r (its++[aT k gs c dir e bG]) cs:=by rw[cV,if_neg h1,if_neg h]
theorem EM {base bb kb im:Nat} {k:bn} {c:cF} {gs:List (ByteArray×Int)} {tree:List bo} {gv:Value} {UR:List aV} (n:Nat) (hX:Ec base bb kb im k c gs tree UR) (hn514:n+1<=514) (IH:Gr base bb kb im k c gs tree gv UR n):Gr base bb kb im k c gs tree gv UR (n+1):=by
 intro path v bs w hn hp h hg hgr hu hE hbz;have HX':=aa hX;have HIH:=aa IH;have HPA:=aa hp;have HH:=aa h;have HG:=aa hg;have HGR:=aa hgr;have HU:=aa hu;have HE:=aa hE;have hps:path.size<=512:=by
  rcases hp with h | ⟨e,he,rfl⟩
  ·omega
  ·have:=iy (bi (hX.val e he));rw[<-am]at this;exact this
 obtain⟨W0,hW0⟩: ∃W0,W0=w.alloc (.cells #[.string ⟨#[]⟩, .int .i64 0, .int .i64 0] 26):=⟨_,rfl⟩;have hb0:Below w.heap.size w W0:=by rw[hW0]; exact bH
 have hkp0:=dE.ofBelow (bb:=bb) (kb:=kb) (v:=v) hb0 hbz;obtain⟨ev,ys,hlk,hys,hrow,hdat⟩:=EX (hgr.keep h hkp0 hX.ikb) (d:=path) (by unfold maxLen; omega);obtain⟨ea,ec,hev,hen,hem⟩:=ai hrow;subst hev;unfold maxLen at hem;obtain⟨m,hm⟩: ∃m,m=ys.length:=⟨_,rfl⟩;have HDR0:=aa (show yJ w base bb im kb k c gv v (.slice ea m ec) ys W0 v (.slice none 0 0) bs []from⟨h.below hb0,hkp0,fN.nil _ _,by rw[hm]; exact hrow,by rw[hW0]; exact bz w _⟩)
 rw[<-hm]at hlk hen;have HM:=aa hm;have HYS:=aa hys;have HDAT:=aa (show ∀y∈ys,bO (· <base) w y.1 y.2.data/\gR y.2 from fun y hy=>⟨aL.same (hdat y hy).1 (fun i hi=>(hb0.block i (Nat.lt_of_lt_of_le hi hbz)).symm),(hdat y hy).2⟩);have HBOX:=aa HDR0.o.bd.box;have hm4:m<=4096:=by
  rw[hm,<-List.length_map (f:=Prod.snd),hys];exact Nat.le_trans (List.length_filter_le _ _) hX.len
 have k0:=ag (k:=0) HBOX.o;have k1:=ag (k:=1) HBOX.o;have k2:=ag (k:=2) HBOX.o;have k3:=ag (k:=3) HBOX.o;have k4:=ag (k:=4) HBOX.o;have k10:=ag (k:=10) HBOX.o;have k11:=ag (k:=11) HBOX.o;have k12:=ag (k:=12) HBOX.o;have k13:=ag (k:=13) HBOX.o;simp only[gY,bT,cG,List.cons_append,List.nil_append,cr]at k0 k1 k2 k3 k4 k10 k11 k12 k13
 clear hX IH hp h hg hgr hu hE hrow hdat hys hm hb0 hkp0
 go_enter Tryz.func73,Tryz.ntmps73
 go_upto_region 2 with(fail)
 rw[<-hW0];clear hW0;go_wp2_with fail
 go_loopw [6,20] (fun iv i wr=> ∃(j:Nat) (v2:Value) (its:List aI) (cs2:List (List UInt8)),j<=m/\i= .int .i64 (j:Int)/\its.length=j/\cV k gs c (cO k gs c tree n) path ((cU tree path).drop j) its cs2=cV k gs c (cO k gs c tree n) path (cU tree path) [] []/\AK UR (bP k gs cs2 bs)/\(∀it∈its,yM it)/\yJ w base bb im kb k c gv v (.slice ea m ec) ys wr v2 iv (bP k gs cs2 bs) its) (fun _ i _=>m-(intOf i).toNat)
 case atStart=>exact⟨0,v,[],[],Nat.zero_le _,rfl,rfl,rfl,HU.o,by simp,HDR0.o⟩
 case round=>
  obtain⟨j,v2,its,cs2,hj,rfl,hlj,hkd,hiu,hsm,hin⟩:=hrel;have HLJ:=aa hlj;have HKD:=aa hkd;have HIU:=aa hiu;have HSM:=aa hsm;have HIN:=aa hin;obtain⟨zs,hzs,hzr,hzd⟩:=hin.its.row;obtain⟨ia,ic,hiv,-,-⟩:=ai hzr;subst hiv;have hzl:zs.length=j:=by rw[<-hlj,<-hzs,List.length_map]
  have HZS:=aa hzs;have HZR:=aa hzr;have HZD:=aa hzd;rw[hzl]at HIN HZR ⊢;have HZL:=aa hzl;clear hlj hkd hiu hsm hin hzs hzr hzd hzl HDR0 HBOX
  by_cases hlt:j<m
  ·obtain⟨⟨dv,e⟩,hy⟩: ∃y,ys[j]? =some y:=⟨ys[j]'(by rw[<-HM.o]; exact hlt),by simp⟩;have hdy:=HDAT.o (dv,e) (List.mem_of_getElem? hy);obtain⟨da,dc,hdv,hdn,hdm⟩:=bO.slice hdy.1;simp only at hdv;subst hdv;obtain⟨b,rfl,hbb,hbl,-,p0,p1,p2,p3,p4,p5⟩:=Ic HIN.o.ents hy;simp only at p0 p1 p2 p3 p4 p5;have hKj:(cU tree path)[j]? =some e:=by rw[<-HYS.o,List.getElem?_map,hy]; rfl
   have hmem:=List.mem_filter.1 (List.mem_of_getElem? hKj);have het:e∈tree:=hmem.1;have hpar:aH (bl e.path)=bl path:=by have:=hmem.2; simpa using this
   have hval:=HX'.o.val e het;have hep:=bi hval;have hes:e.path.size<=512:=by have:=iy hep; rw[<-am]at this; exact this
   have hpl:path.size<e.path.size:=by
    have h1:=kq (l:=bl e.path) (fun h=>by have:=kB hep; rw[h]at this; simp at this);rw[hpar,<-am,<-am]at h1;exact h1
   have HET:=aa het;have HEP:=aa hep;have HVE:=aa hval;have HDY:=aa hdy;have HKJ:=aa hKj;have HDP:=aa (tq hKj);have HBZ:=aa (Nat.le_trans hbz HIN.o.kp.below.size);clear hdy hy hKj hmem het hpar hval hep
   go_upto_region 5 with(fail)
   obtain⟨W1,hW1⟩: ∃W1:World,W1=(wr.alloc (.cells #[.string e.path, .int .i64 e.kind, .int .i64 e.mode, .int .i64 e.time, .slice da e.data.length dc, .string e.link] 79)).drew:=⟨_,rfl⟩;have hb1:Below wr.heap.size wr W1:=by rw[hW1]; exact(bH).drew
   have HB1:=aa hb1;have HX1:=aa (show W1.heap[wr.heap.size]? =some (.cells #[.string e.path, .int .i64 e.kind, .int .i64 e.mode, .int .i64 e.time, .slice da e.data.length dc, .string e.link] 79 (0,0)) by rw[hW1]; exact bz wr _);have hz1:W1.heap.size=wr.heap.size+1:=by rw[hW1]; simp[World.drew]
   obtain⟨d0,d1,d2,d3,_⟩:=aj HX1.o;simp only[Nat.zero_add,Nat.reduceAdd]at d1 d2 d3;have d5:=ag (k:=5) HX1.o;simp only[cr]at d5;clear p0 p1 p2 p3 p4 p5 hb1;refine bN (fun w'=>w'.cell? ⟨wr.heap.size,0,none⟩=some (.string e.path)/\w'.cell? ⟨wr.heap.size,1,none⟩=some (.int .i64 e.kind)/\w'.cell? ⟨wr.heap.size,2,none⟩=some (.int .i64 e.mode)/\w'.cell? ⟨wr.heap.size,3,none⟩=some (.int .i64 e.time)/\w'.cell? ⟨wr.heap.size,5,none⟩=some (.string e.link)) (by kernel_rfl) (by kernel_rfl) ?_
   simp only[List.dropLast_cons_cons,List.dropLast_singleton,List.length_cons,List.length_nil,Nat.reduceAdd,Nat.reduceSub];rw[<-hW1];clear hW1
   iterate 3 (refine aJ rfl (by kernel_rfl) (fun _ _ _ h=>h) rfl ⟨d0,d1,d2,d3,d5⟩ (by rintro w' ⟨hw1,hw2,hw3,hw4,hw5⟩; go_simp; rfl) ?_; simp only[Act.put,aZ,bg,bh])
   refine ay 4 rfl (by kernel_rfl) (by kernel_rfl) (by kernel_rfl) (fun _ _ _ h=>h) rfl ⟨d0,d1,d2,d3,d5⟩ (by rintro w' ⟨hw1,hw2,hw3,hw4,hw5⟩; go_simp; rfl) ?_;simp only[Act.put,aZ,bg,bh];refine ay 5 rfl (by kernel_rfl) (by kernel_rfl) (by kernel_rfl) (fun _ _ _ h=>h) rfl ⟨d0,d1,d2,d3,d5⟩ (by rintro w' ⟨hw1,hw2,hw3,hw4,hw5⟩; go_simp; rfl) ?_;simp only[Act.put,aZ,bg,bh]
   refine ay 6 rfl (by kernel_rfl) (by kernel_rfl) (by kernel_rfl) (fun _ _ _ h=>h) rfl ⟨d0,d1,d2,d3,d5⟩ (by rintro w' ⟨hw1,hw2,hw3,hw4,hw5⟩; go_simp; rfl) ?_;simp only[Act.put,aZ,bg,bh];refine ay 7 rfl (by kernel_rfl) (by kernel_rfl) (by kernel_rfl) (fun _ _ _ h=>h) rfl ⟨d0,d1,d2,d3,d5⟩ (by rintro w' ⟨hw1,hw2,hw3,hw4,hw5⟩; go_simp; rfl) ?_;simp only[Act.put,aZ,bg,bh]
   refine ay 8 rfl (by kernel_rfl) (by kernel_rfl) (by kernel_rfl) (fun _ _ _ h=>h) rfl ⟨d0,d1,d2,d3,d5⟩ (by rintro w' ⟨hw1,hw2,hw3,hw4,hw5⟩; go_simp; rfl) ?_;simp only[Act.put,aZ,bg,bh];refine ay 9 rfl (by kernel_rfl) (by kernel_rfl) (by kernel_rfl) (fun _ _ _ h=>h) rfl ⟨d0,d1,d2,d3,d5⟩ (by rintro w' ⟨hw1,hw2,hw3,hw4,hw5⟩; go_simp; rfl) ?_;simp only[Act.put,aZ,bg,bh]
   refine ay 10 rfl (by kernel_rfl) (by kernel_rfl) (by kernel_rfl) (fun _ _ _ h=>h) rfl ⟨d0,d1,d2,d3,d5⟩ (by rintro w' ⟨hw1,hw2,hw3,hw4,hw5⟩; go_simp; rfl) ?_;simp only[Act.put,aZ,bg,bh];refine ay 11 rfl (by kernel_rfl) (by kernel_rfl) (by kernel_rfl) (fun _ _ _ h=>h) rfl ⟨d0,d1,d2,d3,d5⟩ (by rintro w' ⟨hw1,hw2,hw3,hw4,hw5⟩; go_simp; rfl) ?_;simp only[Act.put,aZ,bg,bh]
   obtain⟨W2,hW2⟩: ∃W2:World,W2=W1.alloc (.cells #[.string ⟨#[]⟩, .int .i64 0, .int .i64 0, .int .i64 0, .int .i64 0, .string ⟨#[]⟩, .slice none 0 0, .string ⟨#[]⟩, .int .i64 0, .int .i64 0] 28):=⟨_,rfl⟩;have hb2:Below W1.heap.size W1 W2:=by rw[hW2]; exact bH
   have hx2:=br hb2 HX1.o;have hy2:W2.heap[wr.heap.size+1]? =some (.cells #[.string ⟨#[]⟩, .int .i64 0, .int .i64 0, .int .i64 0, .int .i64 0, .string ⟨#[]⟩, .slice none 0 0, .string ⟨#[]⟩, .int .i64 0, .int .i64 0] 28 (0,0)):=by rw[hW2,<-hz1]; exact bz W1 _
   have HX2:=aa hx2;have HY2:=aa hy2;have HB2:=aa (ab HB1.o hb2);have HW2:=aa hW2;obtain⟨nm,hnm⟩: ∃nm:ByteArray,nm=⟨(gH (bl path) (bl e.path)).toArray⟩:=⟨_,rfl⟩;have HNM:=aa hnm;obtain⟨d0',d1',d2',d3',_⟩:=aj hx2;simp only[Nat.zero_add,Nat.reduceAdd]at d1' d2' d3';have d5':=ag (k:=5) hx2;simp only[cr]at d5';clear hW2 hb2 hx2 hy2 hnm;refine qP 3 13 rfl rfl (by kernel_rfl) rfl rfl (fun K hK=> ?ca) (fun K hK=> ?al)
   case' ca=>
    go_wp2_with fail;refine(xC path e.path W1 (by omega)).mono ?_;rintro e' w' ⟨rfl,rfl⟩;rw[<-HNM.o];go_wp2_with fail;refine⟨⟨d0,d1,d2,d3,d5⟩, ?_⟩;refine ay 12 rfl (by kernel_rfl) (by kernel_rfl) (by kernel_rfl) (fun _ _ _ h=>h) rfl ⟨d0,d1,d2,d3,d5⟩ (by rintro w' ⟨hw1,hw2,hw3,hw4,hw5⟩; go_simp; rfl) ?_;simp only[Act.put,aZ,bg,bh];refine an 13 rfl (by kernel_rfl) rfl (fun K hK=> ?_)
    go_wp2_with fail;rw[<-HW2.o]
    (first | (refine⟨⟨d0',d1',d2',d3',d5'⟩, ?_⟩) | skip)
   case' al=>
    go_wp2_with fail;rw[<-HW2.o]
    (first | (refine⟨⟨d0',d1',d2',d3',d5'⟩, ?_⟩) | skip)
    refine an 3 rfl (by kernel_rfl) rfl (fun K hK=> ?_);go_wp2_with fail;refine(xC path e.path W2 (by omega)).mono ?_;rintro e' w' ⟨rfl,rfl⟩;rw[<-HNM.o];go_wp2_with fail;refine⟨⟨d0',d1',d2',d3',d5'⟩, ?_⟩;refine ay 12 rfl (by kernel_rfl) (by kernel_rfl) (by kernel_rfl) (fun _ _ _ h=>h) rfl ⟨d0',d1',d2',d3',d5'⟩ (by rintro w' ⟨hw1,hw2,hw3,hw4,hw5⟩; go_simp; rfl) ?_
    simp only[Act.put,aZ,bg,bh]
   all_goals
    refine aM (by kernel_rfl) ?_;clear d0 d1 d2 d3 d5 d0' d1' d2' d3' d5' HX1;refine bX rfl rfl (fun K hK=> ?_);obtain⟨i0,i1,i2,i3,i4,i5,i6,i7,i8,i9,_⟩:=aj HY2.o;simp only[Nat.zero_add,Nat.reduceAdd]at i1 i2 i3 i4 i5 i6 i7 i8 i9;have g0:=ah (k:=0) HY2.o;have g1:=ah (k:=1) HY2.o;have g2:=ah (k:=2) HY2.o;have g3:=ah (k:=3) HY2.o;have g4:=ah (k:=4) HY2.o
    have g5:=ah (k:=5) HY2.o;have g6:=ah (k:=6) HY2.o;have g7:=ah (k:=7) HY2.o;have g8:=ah (k:=8) HY2.o;have g9:=ah (k:=9) HY2.o
    go_upto_region 6 with(fail)
    obtain⟨W3,hW3⟩: ∃W3:World,W3=((((((((((W2.setCell ⟨wr.heap.size+1,0,none⟩ (.string nm)).setCell ⟨wr.heap.size+1,1,none⟩ (.int .i64 e.kind)).setCell ⟨wr.heap.size+1,2,none⟩ (.int .i64 e.mode)).setCell ⟨wr.heap.size+1,3,none⟩ (.int .i64 e.time)).setCell ⟨wr.heap.size+1,4,none⟩ (.int .i64 0)).setCell ⟨wr.heap.size+1,5,none⟩ (.string e.link)).setCell ⟨wr.heap.size+1,6,none⟩ (.slice none 0 0)).setCell ⟨wr.heap.size+1,7,none⟩ (.string ⟨#[]⟩)).setCell ⟨wr.heap.size+1,8,none⟩ (.int .i64 0)).setCell ⟨wr.heap.size+1,9,none⟩ (.int .i64 0)):=⟨_,rfl⟩
    rw[<-hW3];have HB3:=aa (show Below wr.heap.size wr W3 by rw[hW3]; exact dG HB2.o (by show wr.heap.size<=wr.heap.size+1; omega));have HX:=aa (show W3.heap[wr.heap.size]? =some (.cells #[.string e.path, .int .i64 e.kind, .int .i64 e.mode, .int .i64 e.time, .slice da e.data.length dc, .string e.link] 79 (0,0)) by rw[hW3]; exact(ke (show wr.heap.size≠wr.heap.size+1 by omega)).trans HX2.o)
    have HY:=aa (show W3.heap[wr.heap.size+1]? =some (.cells #[.string nm, .int .i64 e.kind, .int .i64 e.mode, .int .i64 e.time, .int .i64 0, .string e.link, .slice none 0 0, .string ⟨#[]⟩, .int .i64 0, .int .i64 0] 28 (0,0)) by rw[hW3]; exact BO HY2.o);have HIN3:=aa (HIN.o.below HB3.o HBZ.o);have hz3:wr.heap.size+1<W3.heap.size:=lt_of_block HY.o;clear hW3 i0 i1 i2 i3 i4 i5 i6 i7 i8 i9 g0 g1 g2 g3 g4 g5 g6 g7 g8 g9 hz1 HX2 HY2
    have d0:=ag (k:=0) HX.o;have d1:=ag (k:=1) HX.o;have d4:=ag (k:=4) HX.o;simp only[cr]at d0 d1 d4;obtain⟨i0,i1,i2,i3,i4,i5,i6,i7,i8,i9,_⟩:=aj HY.o;simp only[Nat.zero_add,Nat.reduceAdd]at i1 i2 i3 i4 i5 i6 i7 i8 i9;have g0:=ah (k:=0) HY.o;have g1:=ah (k:=1) HY.o;have g2:=ah (k:=2) HY.o;have g3:=ah (k:=3) HY.o;have g4:=ah (k:=4) HY.o
    have g5:=ah (k:=5) HY.o;have g6:=ah (k:=6) HY.o;have g7:=ah (k:=7) HY.o;have g8:=ah (k:=8) HY.o;have g9:=ah (k:=9) HY.o
    by_cases hk1:e.kind=1
    ·have e1:(e.kind == 1)=true:=by simp[hk1]
     have HK1:=aa hk1;clear hk1
     go_upto_region 10 with(fail)
     obtain⟨W4,hW4⟩: ∃W4:World,W4=W3.setCell ⟨wr.heap.size+1,4,none⟩ (.int .i64 (e.data.length:Int)):=⟨_,rfl⟩;rw[<-hW4];have hb4:Below wr.heap.size wr W4:=by rw[hW4]; exact Below.setCell HB3.o (by show wr.heap.size<=wr.heap.size+1; omega) _
     have HX4:=aa (show W4.heap[wr.heap.size]? =some (.cells #[.string e.path, .int .i64 e.kind, .int .i64 e.mode, .int .i64 e.time, .slice da e.data.length dc, .string e.link] 79 (0,0)) by rw[hW4]; exact(Below.heap_setCell _ _ _ _ (by show wr.heap.size≠wr.heap.size+1; omega)).trans HX.o);have hy4:=dD (k:=4) HY.o (.int .i64 (e.data.length:Int));simp only[List.setIfInBounds_toArray,List.set_cons_succ,List.set_cons_zero]at hy4
     rw[<-hW4]at hy4;have HYA:=aa hy4;have HIN4:=aa (HIN.o.below hb4 HBZ.o);have hdl:=(gt HVE.o).2.2;have hul:=HIU.o.len HIN.o.bd;have hus:=HX'.o.usz;have hcl:=vh HX'.o.cut e.data;have hfl:=BZ (· <base) base bb kb im k c gs gv v2 (.slice da e.data.length dc) (bP k gs cs2 bs) e.data W4 HIN4.o.bd HX'.o.keys HX'.o.cut HX'.o.seed (HG.o.keep (fun i h1 _=>HIN4.o.kp.below.block i h1)) HX'.o.gens
      (jZ HDY.o.1 HIN4.o.kp.below) hdl (HE.o.keep HIN4.o.kp.below HX'.o.seven) HX'.o.bbb HX'.o.bkb (Nat.le_trans hbz HIN4.o.kp.below.size) HX'.o.seven (by omega)
     have HFL:=aa hfl;clear hW4 hb4 hy4 hdl hul hus hcl hfl d0 d1 d4 i0 i1 i2 i3 i4 i5 i6 i7 i8 i9 g0 g1 g2 g3 g4 g5 g6 g7 g8 g9;have d0:=ag (k:=0) HX4.o;have d1:=ag (k:=1) HX4.o;have d4:=ag (k:=4) HX4.o;simp only[cr]at d0 d1 d4;go_wp2_with fail;refine HFL.o.mono ?_;rintro e' w5 ⟨rv,v5,rfl,hrv5,hbd5,hkp5⟩;obtain⟨ra,rc,rfl,-,-⟩:=ai hrv5;have HIN5:=aa (HIN4.o.step hbd5 hkp5)
     have hy5:=hkp5.blk HIN4.o.bd HYA.o (by decide) (by decide);have hx5:=hkp5.blk HIN4.o.bd HX4.o (by decide) (by decide);obtain⟨rn,hrn⟩: ∃rn,rn=((cN c e.data).map (aE k gs)).length:=⟨_,rfl⟩;have HRN:=aa hrn;rw[<-hrn]at hrv5 ⊢;have i6:=ag (k:=6) hy5;have g6:=ah (k:=6) hy5;simp only[cr]at i6;have HRV5:=aa hrv5;have HY5:=aa hy5;clear hbd5 hkp5 hx5 hy5 hrn hrv5 d0 d1 d4
     go_upto_region 15 with(fail)
     obtain⟨W6,hW6⟩: ∃W6:World,W6=w5.setCell ⟨wr.heap.size+1,6,none⟩ (.slice ra rn rc):=⟨_,rfl⟩;rw[<-hW6];have hy6:=dD (k:=6) HY5.o (.slice ra rn rc);simp only[List.setIfInBounds_toArray,List.set_cons_succ,List.set_cons_zero]at hy6;rw[<-hW6]at hy6;have HI4:=aa (show yJ w base bb im kb k c gv v (.slice (some ⟨b,0,none⟩) m ec) ys W6 v5 (.slice ia j ic) (bP k gs (cN c e.data) (bP k gs cs2 bs)) its by
      rw[hW6];exact HIN5.o.otherSet HY5.o (by decide) (by decide) (by decide) (by decide) (by decide) (fun e'=>by have:=(HZR.o.lt _ e').2; omega) (by have:=HIN.o.kp.below.size; omega) hbz)
     have HRV5':=aa (show W6.ownsRow w.heap.size 26 3 (.slice ra rn rc) rn (((cN c e.data).map (aE k gs)).flatMap dC) by
      rw[hW6];have hlow:=HIN4.o.kp.below.size;refine(cK HRV5.o hlow).kept (aN _ _ _ _) (.inr (fun e'=> ?_));obtain⟨cs2',hc2'⟩:=au HRV5.o e';exact absurd (aC HY5.o hc2') (by decide))
     clear i6 g6;obtain⟨it,hit⟩: ∃it,it=aT k gs c path e bG:=⟨_,rfl⟩;have hch:it.chunks=(cN c e.data).map (aE k gs):=by rw[hit]; unfold aT; simp only[if_pos HK1.o]
     have HY4:=aa (show W6.heap[wr.heap.size+1]? =some (.cells #[.string it.name, .int .i64 it.kind, .int .i64 it.mode, .int .i64 it.time, .int .i64 it.size, .string it.link, .slice ra rn rc, .string it.node.name, .int .i64 it.node.gen, .int .i64 it.node.size] 28 (0,0)) by
      rw[hy6,HNM.o,hit];unfold aT;simp only[if_pos HK1.o,if_neg (show ¬e.kind=2 by rw[HK1.o]; decide)]
      rfl)
     have HRV4:=aa (show W6.ownsRow w.heap.size 26 3 (.slice ra rn rc) it.chunks.length (it.chunks.flatMap dC) by rw[hch,<-HRN.o]; exact HRV5'.o);have HSI:=aa (show yM it by rw[hit]; exact kf HX'.o.cut HVE.o HDY.o.2 (by decide));have HOK4:=aa (show df it from⟨by have:=HSI.o.nm; unfold maxLen; omega,by have:=HSI.o.lk; unfold maxLen; omega,by rw[hit]; unfold aT; simp only[if_neg (show ¬e.kind=2 by rw[HK1.o]; decide)]; exact iM⟩)
     have HRS4:=aa (show ∀r∈it.chunks,bK r by
      rw[hch];intro r hr;obtain⟨x,hx,rfl⟩:=List.mem_map.1 hr;have:=(vi HX'.o.cut e.data x hx).2;exact eT HX'.o.gens (by omega))
     have HKE:=aa (show cV k gs c (cO k gs c tree n) path (e::(cU tree path).drop (j+1)) its cs2=cV k gs c (cO k gs c tree n) path ((cU tree path).drop (j+1)) (its++[it]) (cs2++cN c e.data) by rw[hit]; exact tP HK1.o);have HIU4:=aa (show AK UR (bP k gs (cs2++cN c e.data) bs) by rw[dR]; exact HIU.o.puts (HX'.o.u1 e HET.o));rw[<-dR]at HI4
     clear hit hch HY hW6 hy6;obtain⟨zs4,hzs4,hzr4,hzd4⟩:=HI4.o.its.row;have hzl4:zs4.length=j:=by rw[<-HLJ.o,<-hzs4,List.length_map]
     have HZS4:=aa hzs4;have HZR4:=aa hzr4;have HZD4:=aa hzd4;have HZL4:=aa hzl4;have hz4:w.heap.size<=(W6).heap.size:=HI4.o.kp.below.size;have hj4:j<1099511627775:=by omega
     rw[hzl4]at hzr4;have HZRJ:=aa hzr4;clear hzs4 hzr4 hzd4 hzl4;obtain⟨i0,i1,i2,i3,i4,i5,i6,i7,i8,i9,_⟩:=aj HY4.o;simp only[Nat.zero_add,Nat.reduceAdd]at i1 i2 i3 i4 i5 i6 i7 i8 i9;have g0:=ah (k:=0) HY4.o;have g1:=ah (k:=1) HY4.o;have g2:=ah (k:=2) HY4.o;have g3:=ah (k:=3) HY4.o;have g4:=ah (k:=4) HY4.o;have g5:=ah (k:=5) HY4.o
     have g6:=ah (k:=6) HY4.o;have g7:=ah (k:=7) HY4.o;have g8:=ah (k:=8) HY4.o;have g9:=ah (k:=9) HY4.o;go_wp2_with (at_builtin; go_must (refine aA Tryz.appItems rfl _ _ rfl w.heap.size (.slice ia j ic) j (kg zs4) rfl (W6) [.string it.name, .int .i64 it.kind, .int .i64 it.mode, .int .i64 it.time, .int .i64 it.size, .string it.link, .slice ra rn rc, .string it.node.name, .int .i64 it.node.gen, .int .i64 it.node.size] _ rfl rfl (eZ (it:=it)) HZRJ.o hj4 hz4 ?_); intro v' wc hown' hgrow' _ _; obtain⟨ae,ce,rfl,-,-⟩:=ai hown'; have HPU:=aa (HI4.o.push (it:=it) HZS4.o HZR4.o HZD4.o (by rw[HZL4.o]; exact hown') hgrow' HRV4.o HOK4.o HRS4.o hbz); clear hown' hgrow')
     clear i0 i1 i2 i3 i4 i5 i6 i7 i8 i9 g0 g1 g2 g3 g4 g5 g6 g7 g8 g9
     go_roundw
     case rel=>exact⟨j+1,_,its++[it],(cs2++cN c e.data),by omega,by go_num,by simp[HLJ.o],by rw[<-HKD.o,HDP.o,HKE.o],HIU4.o,fun y hy=>by
      rcases List.mem_append.1 hy with hy | hy
      ·exact HSM.o y hy
      ·rw[List.mem_singleton]at hy; subst hy; exact HSI.o,HPU.o⟩
     case measure=>simp[intOf]; omega
    ·have e1:(e.kind == 1)=false:=by simp[hk1]
     have HK1:=aa hk1;clear hk1
     by_cases hk2:e.kind=2
     ·have e2:(e.kind == 2)=true:=by simp[hk2]
      have HK2:=aa hk2;have hrc:=HIH.o e.path v2 (bP k gs cs2 bs) W3 (by omega) (.inr ⟨e,HET.o,rfl⟩) HIN3.o.bd (HG.o.keep (fun i h1 _=>HIN3.o.kp.below.block i h1)) (HGR.o.keep HH.o HIN3.o.kp HX'.o.ikb) HIU.o (HE.o.keep HIN3.o.kp.below HX'.o.seven) (Nat.le_trans hbz HIN3.o.kp.below.size);unfold uL at hrc;clear hk2
      cases hdp:cO k gs c tree n e.path with
      | error x=>
       rw[hdp]at hrc;have HRC:=aa hrc;have HRESX:=aa (show cV k gs c (cO k gs c tree n) path (cU tree path) [] []= .error x by rw[<-HKD.o,HDP.o,qV HK2.o,hdp]);clear hrc hdp;go_wp2_with fail;refine HRC.o.mono ?_;rintro e' w5 ⟨rfl,hx,v5,bs5,hbd5,hkp5⟩;have HIN5:=aa (HIN3.o.step hbd5 hkp5);have e4:(x != 0)=true:=by simp[hx]
       have HXN:=aa hx;clear hx d0 d1 d4 i0 i1 i2 i3 i4 i5 i6 i7 i8 i9 g0 g1 g2 g3 g4 g5 g6 g7 g8 g9;have hy5:=hkp5.blk HIN3.o.bd HY.o (by decide) (by decide);have hnb:(Value.slice ia j ic).ownBlock≠some (wr.heap.size+1):=fun e'=>by have:=(HZR.o.lt _ e').2; omega
       have hlo:w.heap.size<=wr.heap.size+1:=by have:=HIN.o.kp.below.size; omega
       have a1:=HIN5.o.otherSet (q:=7) (u:= .string ⟨#[]⟩) hy5 (by decide) (by decide) (by decide) (by decide) (by decide) hnb hlo hbz;have y1:=dD (k:=7) hy5 (.string ⟨#[]⟩);have a2:=a1.otherSet (q:=8) (u:= .int .i64 0) y1 (by decide) (by decide) (by decide) (by decide) (by decide) hnb hlo hbz;have y2:=dD (k:=8) y1 (.int .i64 0);have a3:=a2.otherSet (q:=9) (u:= .int .i64 0) y2 (by decide) (by decide) (by decide) (by decide) (by decide) hnb hlo hbz
       have y3:=dD (k:=9) y2 (.int .i64 0);simp only[List.setIfInBounds_toArray,List.set_cons_succ,List.set_cons_zero]at y3;have i7:=ag (k:=7) hy5;have i8:=ag (k:=8) hy5;have i9:=ag (k:=9) hy5;have g7:=ah (k:=7) hy5;have g8:=ah (k:=8) hy5;have g9:=ah (k:=9) hy5;simp only[cr]at i7 i8 i9;obtain⟨W6,hW6⟩: ∃W6:World,W6=((w5.setCell ⟨wr.heap.size+1,7,none⟩ (.string ⟨#[]⟩)).setCell ⟨wr.heap.size+1,8,none⟩ (.int .i64 0)).setCell ⟨wr.heap.size+1,9,none⟩ (.int .i64 0):=⟨_,rfl⟩
       rw[<-hW6]at a3 y3;have HI4:=aa a3;have HY6:=aa y3;clear a1 y1 a2 y2 a3 y3 hy5 hnb hlo
       go_upto_region 13 with(fail)
       rw[<-hW6];clear hW6 i7 i8 i9 g7 g8 g9;have HRZ:=aa HI4.o.res;obtain⟨z0,z1,z2,_⟩:=aj HRZ.o;simp only[Nat.zero_add,Nat.reduceAdd]at z1 z2;have y0:=ah (k:=0) HRZ.o;have y1:=ah (k:=1) HRZ.o;have y2:=ah (k:=2) HRZ.o;go_wp2_with fail;refine pT HRZ.o rfl rfl rfl ?_;have HDE:=aa (show cO k gs c tree (n+1) path= .error x by rw[cO,HRESX.o])
       rw[HDE.o];exact⟨rfl,HXN.o,v5,bs5,HI4.o.bd.other HRZ.o (by decide) (by decide) (by decide) (fun i hi _=>aY hi),((HI4.o.kp.setNew (Nat.le_refl _) hbz).setNew (Nat.le_refl _) hbz).setNew (Nat.le_refl _) hbz⟩
      | ok p=>
       rw[hdp]at hrc
       dsimp only at hrc
       have HRC:=aa hrc;have HKE0:=aa (show cV k gs c (cO k gs c tree n) path (e::(cU tree path).drop (j+1)) its cs2=cV k gs c (cO k gs c tree n) path ((cU tree path).drop (j+1)) (its++[aT k gs c path e (aE k gs p.1)]) (cs2++p.2) by rw[qV HK2.o,hdp]);have HDPL:=aa (EL hdp);have HDU:=aa (HX'.o.u2 n e.path p (by omega) (.inr ⟨e,HET.o,rfl⟩) hdp)
       obtain⟨r,hr⟩: ∃r,r=aE k gs p.1:=⟨_,rfl⟩;have HRE:=aa hr;have HRO:=aa (show bK r by rw[hr]; exact eT HX'.o.gens (by have:=HDPL.o; omega));have HRZN:=aa (show r.name.size=32 by rw[hr]; exact lw _ _ _);rw[<-hr]at HRC HKE0;unfold bU at HRC;clear hrc hdp hr;go_wp2_with fail;refine HRC.o.mono ?_;rintro e' w5 ⟨rfl,hiu5,v5,hbd5,hkp5⟩;have HIU5:=aa hiu5
       have HIN5:=aa (HIN3.o.step hbd5 hkp5);clear hiu5 d0 d1 d4 i0 i1 i2 i3 i4 i5 i6 i7 i8 i9 g0 g1 g2 g3 g4 g5 g6 g7 g8 g9;have hy5:=hkp5.blk HIN3.o.bd HY.o (by decide) (by decide);have hnb:(Value.slice ia j ic).ownBlock≠some (wr.heap.size+1):=fun e'=>by have:=(HZR.o.lt _ e').2; omega
       have hlo:w.heap.size<=wr.heap.size+1:=by have:=HIN.o.kp.below.size; omega
       have a1:=HIN5.o.otherSet (q:=7) (u:= .string r.name) hy5 (by decide) (by decide) (by decide) (by decide) (by decide) hnb hlo hbz;have y1:=dD (k:=7) hy5 (.string r.name);have a2:=a1.otherSet (q:=8) (u:= .int .i64 r.gen) y1 (by decide) (by decide) (by decide) (by decide) (by decide) hnb hlo hbz;have y2:=dD (k:=8) y1 (.int .i64 r.gen);have a3:=a2.otherSet (q:=9) (u:= .int .i64 r.size) y2 (by decide) (by decide) (by decide) (by decide) (by decide) hnb hlo hbz
       have y3:=dD (k:=9) y2 (.int .i64 r.size);simp only[List.setIfInBounds_toArray,List.set_cons_succ,List.set_cons_zero]at y3;have i7:=ag (k:=7) hy5;have i8:=ag (k:=8) hy5;have i9:=ag (k:=9) hy5;have g7:=ah (k:=7) hy5;have g8:=ah (k:=8) hy5;have g9:=ah (k:=9) hy5;simp only[cr]at i7 i8 i9;obtain⟨W6,hW6⟩: ∃W6:World,W6=((w5.setCell ⟨wr.heap.size+1,7,none⟩ (.string r.name)).setCell ⟨wr.heap.size+1,8,none⟩ (.int .i64 r.gen)).setCell ⟨wr.heap.size+1,9,none⟩ (.int .i64 r.size):=⟨_,rfl⟩
       rw[<-hW6]at a3 y3;have HI4:=aa a3;have HY6:=aa y3;clear a1 y1 a2 y2 a3 y3 hy5 hnb hlo
       go_upto_region 13 with(fail)
       rw[<-hW6];clear hW6 i7 i8 i9 g7 g8 g9
       go_upto_region 15 with(fail)
       obtain⟨it,hit⟩: ∃it,it=aT k gs c path e r:=⟨_,rfl⟩;have hch:it.chunks=[]:=by rw[hit]; unfold aT; simp only[if_neg HK1.o]
       have HY4:=aa (show W6.heap[wr.heap.size+1]? =some (.cells #[.string it.name, .int .i64 it.kind, .int .i64 it.mode, .int .i64 it.time, .int .i64 it.size, .string it.link, .slice none 0 0, .string it.node.name, .int .i64 it.node.gen, .int .i64 it.node.size] 28 (0,0)) by
        rw[HY6.o,HNM.o,hit];unfold aT;simp only[if_neg HK1.o,if_pos HK2.o])
       have HRV4:=aa (show W6.ownsRow w.heap.size 26 3 (.slice none 0 0) it.chunks.length (it.chunks.flatMap dC) by rw[hch]; exact World.ownsRow_nil _ _ _ _);have HSI:=aa (show yM it by rw[hit]; exact kf HX'.o.cut HVE.o HDY.o.2 (by rw[HRZN.o]; decide));have HOK4:=aa (show df it from⟨by have:=HSI.o.nm; unfold maxLen; omega,by have:=HSI.o.lk; unfold maxLen; omega,by rw[hit]; unfold aT; simp only[if_pos HK2.o]; exact HRO.o⟩)
       have HRS4:=aa (show ∀r∈it.chunks,bK r by rw[hch]; simp);have HKE:=aa (show cV k gs c (cO k gs c tree n) path (e::(cU tree path).drop (j+1)) its cs2=cV k gs c (cO k gs c tree n) path ((cU tree path).drop (j+1)) (its++[it]) (cs2++p.2) by rw[hit]; exact HKE0.o);have HIU4:=aa (show AK UR (bP k gs (cs2++p.2) bs) by rw[dR]; exact HIU5.o)
       rw[<-dR]at HI4;clear hit hch;obtain⟨zs4,hzs4,hzr4,hzd4⟩:=HI4.o.its.row;have hzl4:zs4.length=j:=by rw[<-HLJ.o,<-hzs4,List.length_map]
       have HZS4:=aa hzs4;have HZR4:=aa hzr4;have HZD4:=aa hzd4;have HZL4:=aa hzl4;have hz4:w.heap.size<=(W6).heap.size:=HI4.o.kp.below.size;have hj4:j<1099511627775:=by omega
       rw[hzl4]at hzr4;have HZRJ:=aa hzr4;clear hzs4 hzr4 hzd4 hzl4;obtain⟨i0,i1,i2,i3,i4,i5,i6,i7,i8,i9,_⟩:=aj HY4.o;simp only[Nat.zero_add,Nat.reduceAdd]at i1 i2 i3 i4 i5 i6 i7 i8 i9;have g0:=ah (k:=0) HY4.o;have g1:=ah (k:=1) HY4.o;have g2:=ah (k:=2) HY4.o;have g3:=ah (k:=3) HY4.o;have g4:=ah (k:=4) HY4.o;have g5:=ah (k:=5) HY4.o
       have g6:=ah (k:=6) HY4.o;have g7:=ah (k:=7) HY4.o;have g8:=ah (k:=8) HY4.o;have g9:=ah (k:=9) HY4.o;go_wp2_with (at_builtin; go_must (refine aA Tryz.appItems rfl _ _ rfl w.heap.size (.slice ia j ic) j (kg zs4) rfl (W6) [.string it.name, .int .i64 it.kind, .int .i64 it.mode, .int .i64 it.time, .int .i64 it.size, .string it.link, .slice none 0 0, .string it.node.name, .int .i64 it.node.gen, .int .i64 it.node.size] _ rfl rfl (eZ (it:=it)) HZRJ.o hj4 hz4 ?_); intro v' wc hown' hgrow' _ _; obtain⟨ae,ce,rfl,-,-⟩:=ai hown'; have HPU:=aa (HI4.o.push (it:=it) HZS4.o HZR4.o HZD4.o (by rw[HZL4.o]; exact hown') hgrow' HRV4.o HOK4.o HRS4.o hbz); clear hown' hgrow')
       clear i0 i1 i2 i3 i4 i5 i6 i7 i8 i9 g0 g1 g2 g3 g4 g5 g6 g7 g8 g9
       go_roundw
       case rel=>exact⟨j+1,_,its++[it],(cs2++p.2),by omega,by go_num,by simp[HLJ.o],by rw[<-HKD.o,HDP.o,HKE.o],HIU4.o,fun y hy=>by
        rcases List.mem_append.1 hy with hy | hy
        ·exact HSM.o y hy
        ·rw[List.mem_singleton]at hy; subst hy; exact HSI.o,HPU.o⟩
       case measure=>simp[intOf]; omega
     ·have e2:(e.kind == 2)=false:=by simp[hk2]
      have HK2:=aa hk2;clear hk2
      go_upto_region 15 with(fail)
      clear i0 i1 i2 i3 i4 i5 i6 i7 i8 i9 g0 g1 g2 g3 g4 g5 g6 g7 g8 g9 d0 d1 d4;obtain⟨it,hit⟩: ∃it,it=aT k gs c path e bG:=⟨_,rfl⟩;have HI4:=HIN3;have HY4:=aa (show W3.heap[wr.heap.size+1]? =some (.cells #[.string it.name, .int .i64 it.kind, .int .i64 it.mode, .int .i64 it.time, .int .i64 it.size, .string it.link, .slice none 0 0, .string it.node.name, .int .i64 it.node.gen, .int .i64 it.node.size] 28 (0,0)) by
       rw[HY.o,HNM.o,hit];unfold aT;simp only[if_neg HK1.o,if_neg HK2.o]
       rfl)
      have hch:it.chunks=[]:=by rw[hit]; unfold aT; simp only[if_neg HK1.o]
      have HRV4:=aa (show W3.ownsRow w.heap.size 26 3 (.slice none 0 0) it.chunks.length (it.chunks.flatMap dC) by rw[hch]; exact World.ownsRow_nil _ _ _ _);have HSI:=aa (show yM it by rw[hit]; exact kf HX'.o.cut HVE.o HDY.o.2 (by decide));have HOK4:=aa (show df it from⟨by have:=HSI.o.nm; unfold maxLen; omega,by have:=HSI.o.lk; unfold maxLen; omega,by rw[hit]; unfold aT; simp only[if_neg HK2.o]; exact iM⟩)
      have HRS4:=aa (show ∀r∈it.chunks,bK r by rw[hch]; simp);have HKE:=aa (show cV k gs c (cO k gs c tree n) path (e::(cU tree path).drop (j+1)) its cs2=cV k gs c (cO k gs c tree n) path ((cU tree path).drop (j+1)) (its++[it]) cs2 by rw[hit]; exact CF HK1.o HK2.o);have HIU4:=HIU;clear hit hch HY;obtain⟨zs4,hzs4,hzr4,hzd4⟩:=HI4.o.its.row;have hzl4:zs4.length=j:=by rw[<-HLJ.o,<-hzs4,List.length_map]
      have HZS4:=aa hzs4;have HZR4:=aa hzr4;have HZD4:=aa hzd4;have HZL4:=aa hzl4;have hz4:w.heap.size<=(W3).heap.size:=HI4.o.kp.below.size;have hj4:j<1099511627775:=by omega
      rw[hzl4]at hzr4;have HZRJ:=aa hzr4;clear hzs4 hzr4 hzd4 hzl4;obtain⟨i0,i1,i2,i3,i4,i5,i6,i7,i8,i9,_⟩:=aj HY4.o;simp only[Nat.zero_add,Nat.reduceAdd]at i1 i2 i3 i4 i5 i6 i7 i8 i9;have g0:=ah (k:=0) HY4.o;have g1:=ah (k:=1) HY4.o;have g2:=ah (k:=2) HY4.o;have g3:=ah (k:=3) HY4.o;have g4:=ah (k:=4) HY4.o;have g5:=ah (k:=5) HY4.o
      have g6:=ah (k:=6) HY4.o;have g7:=ah (k:=7) HY4.o;have g8:=ah (k:=8) HY4.o;have g9:=ah (k:=9) HY4.o;go_wp2_with (at_builtin; go_must (refine aA Tryz.appItems rfl _ _ rfl w.heap.size (.slice ia j ic) j (kg zs4) rfl (W3) [.string it.name, .int .i64 it.kind, .int .i64 it.mode, .int .i64 it.time, .int .i64 it.size, .string it.link, .slice none 0 0, .string it.node.name, .int .i64 it.node.gen, .int .i64 it.node.size] _ rfl rfl (eZ (it:=it)) HZRJ.o hj4 hz4 ?_); intro v' wc hown' hgrow' _ _; obtain⟨ae,ce,rfl,-,-⟩:=ai hown'; have HPU:=aa (HI4.o.push (it:=it) HZS4.o HZR4.o HZD4.o (by rw[HZL4.o]; exact hown') hgrow' HRV4.o HOK4.o HRS4.o hbz); clear hown' hgrow')
      clear i0 i1 i2 i3 i4 i5 i6 i7 i8 i9 g0 g1 g2 g3 g4 g5 g6 g7 g8 g9
      go_roundw
      case rel=>exact⟨j+1,_,its++[it],cs2,by omega,by go_num,by simp[HLJ.o],by rw[<-HKD.o,HDP.o,HKE.o],HIU4.o,fun y hy=>by
       rcases List.mem_append.1 hy with hy | hy
       ·exact HSM.o y hy
       ·rw[List.mem_singleton]at hy; subst hy; exact HSI.o,HPU.o⟩
      case measure=>simp[intOf]; omega
  ·have hk2:j=m:=by omega
   have HKF:=aa (show cV k gs c (cO k gs c tree n) path (cU tree path) [] []= .ok (its,cs2) by
    rw[<-HKD.o,List.drop_of_length_le (by rw[<-HYS.o,List.length_map,<-HM.o]; omega)]; rfl)
   have hnd:=xA (fun _=>True) its (.slice ia j ic) wr HIN.o.its.at (HE.o.keep HIN.o.kp.below HX'.o.seven).env (Fo HSM.o (by rw[HLJ.o]; omega)) (fun it hit=>(HSM.o it hit).tm);unfold qb at hnd
   by_cases hv:eq its=true
   ·simp only[if_pos hv]at hnd
    by_cases hl:(cQ its).length<=32768
    ·simp only[if_pos hl]at hnd;have HDE:=aa (show cO k gs c tree (n+1) path= .ok (cQ its,cs2++[cQ its]) by rw[cO,HKF.o]; simp only[if_pos hv,if_pos hl]);have HND:=aa hnd;have HUN:=aa (HX'.o.u2 (n+1) path _ hn514 HPA.o HDE.o);have HLN:=aa hl;clear hnd hv hl hk2;go_wp2_with fail;refine HND.o.mono ?_;rintro e' w5 ⟨hb5,cv,rfl,hcv⟩;obtain⟨ca,cc,rfl,-,-⟩:=ai hcv
     have HIN5:=aa (HIN.o.below hb5 (Nat.le_trans hbz HIN.o.kp.below.size));have hul:=HIU.o.len HIN.o.bd;have hus:=HX'.o.usz;have had:=AR (fun _=>True) base bb kb im k c gs gv v2 _ (bP k gs cs2 bs) (cQ its) w5 HIN5.o.bd HX'.o.keys (HG.o.keep (fun i h1 _=>HIN5.o.kp.below.block i h1)) HX'.o.gens
      (aL.weak (aO hcv) (fun _ _=>trivial)) HLN.o (HE.o.keep HIN5.o.kp.below HX'.o.seven) HX'.o.bbb HX'.o.bkb (Nat.le_trans hbz HIN5.o.kp.below.size) HX'.o.seven (by omega)
     unfold yI bU at had;obtain⟨r,hr⟩: ∃r,r=aE k gs (cQ its):=⟨_,rfl⟩;rw[<-hr]at had;have HRE:=aa hr;have HAD:=aa had;obtain⟨nl,hnl⟩: ∃nl,nl=(cQ its).length:=⟨_,rfl⟩;rw[<-hnl]at HAD ⊢;clear hb5 hcv hul hus had hr hnl;go_wp2_with fail;refine HAD.o.mono ?_;rintro e' w6 ⟨rfl,v6,hbd6,hkp6⟩;have HIN6:=aa (HIN5.o.step hbd6 hkp6);have HRZ:=aa HIN6.o.res
     clear hbd6 hkp6;obtain⟨z0,z1,z2,_⟩:=aj HRZ.o;simp only[Nat.zero_add,Nat.reduceAdd]at z1 z2;have y0:=ah (k:=0) HRZ.o;have y1:=ah (k:=1) HRZ.o;have y2:=ah (k:=2) HRZ.o;go_wp2_with fail;refine pT HRZ.o rfl rfl rfl ?_;rw[HDE.o];refine⟨by rw[<-HRE.o]; rfl, ?_,v6, ?_, ?_⟩
     ·rw[dR];exact HIU.o.put HUN.o
     ·rw[dR];exact HIN6.o.bd.other HRZ.o (by decide) (by decide) (by decide) (fun i hi _=>aY hi)
     ·exact((HIN6.o.kp.setNew (Nat.le_refl _) hbz).setNew (Nat.le_refl _) hbz).setNew (Nat.le_refl _) hbz
    ·simp only[if_neg hl]at hnd;have HDE:=aa (show cO k gs c tree (n+1) path= .error 2 by rw[cO,HKF.o]; simp only[if_pos hv,if_neg hl]);have HND:=aa hnd;clear hnd hv hl hk2;go_wp2_with fail;refine HND.o.mono ?_;rintro e' w5 ⟨hb5,rfl⟩;have HIN5:=aa (HIN.o.below hb5 (Nat.le_trans hbz HIN.o.kp.below.size));have HRZ:=aa HIN5.o.res;clear hb5;obtain⟨z0,z1,z2,_⟩:=aj HRZ.o
     simp only[Nat.zero_add,Nat.reduceAdd]at z1 z2;have y0:=ah (k:=0) HRZ.o;have y1:=ah (k:=1) HRZ.o;have y2:=ah (k:=2) HRZ.o;go_wp2_with fail;refine pT HRZ.o rfl rfl rfl ?_;rw[HDE.o];exact⟨rfl,by decide,v2,_,HIN5.o.bd.other HRZ.o (by decide) (by decide) (by decide) (fun i hi _=>aY hi),((HIN5.o.kp.setNew (Nat.le_refl _) hbz).setNew (Nat.le_refl _) hbz).setNew (Nat.le_refl _) hbz⟩
   ·simp only[if_neg hv]at hnd;have HDE:=aa (show cO k gs c tree (n+1) path= .error 1 by rw[cO,HKF.o]; simp only[if_neg hv]);have hl:=hv;have HND:=aa hnd;clear hnd hv hl hk2;go_wp2_with fail;refine HND.o.mono ?_;rintro e' w5 ⟨hb5,rfl⟩;have HIN5:=aa (HIN.o.below hb5 (Nat.le_trans hbz HIN.o.kp.below.size));have HRZ:=aa HIN5.o.res;clear hb5;obtain⟨z0,z1,z2,_⟩:=aj HRZ.o
    simp only[Nat.zero_add,Nat.reduceAdd]at z1 z2;have y0:=ah (k:=0) HRZ.o;have y1:=ah (k:=1) HRZ.o;have y2:=ah (k:=2) HRZ.o;go_wp2_with fail;refine pT HRZ.o rfl rfl rfl ?_;rw[HDE.o];exact⟨rfl,by decide,v2,_,HIN5.o.bd.other HRZ.o (by decide) (by decide) (by decide) (fun i hi _=>aY hi),((HIN5.o.kp.setNew (Nat.le_refl _) hbz).setNew (Nat.le_refl _) hbz).setNew (Nat.le_refl _) hbz⟩
theorem vm {base bb kb im:Nat} {k:bn} {c:cF} {gs:List (ByteArray×Int)} {tree:List bo} {gv:Value} {UR:List aV} (hX:Ec base bb kb im k c gs tree UR): ∀n,n<=514->Gr base bb kb im k c gs tree gv UR n
 | 0,_=>EN hX
 | n+1,h=>EM n hX h (vm hX n (by omega))
theorem cM.hitM {S:Nat->Prop} {w:World} {cv:Value} {cs:List (ByteArray×List UInt8)} (h:cM S w cv cs) {n:ByteArray} {bs:List UInt8} (hn:n.size<=maxLen) (hf:ef cs n=some bs):
  ∃v,(Instr.lookup 55 cv (.string n) true).run Tryz.prog w= .ok (.tuple #[v, .bool true]) w/\ar S w v bs:=by
 rcases h with⟨_,rfl⟩ | ⟨b,m,rfl,_,h2,h3⟩
 ·simp[ef]at hf
 ·obtain⟨v,hv,hb⟩:=h3.hit hf;exact⟨v,h2.hit ox (t:=55) (e:=29) (by kernel_rfl) (ow hn) hv true,hb⟩
theorem cM.missM {S:Nat->Prop} {w:World} {cv:Value} {cs:List (ByteArray×List UInt8)} (h:cM S w cv cs) {n:ByteArray} (hn:n.size<=maxLen) (hf:ef cs n=none):
  (Instr.lookup 55 cv (.string n) true).run Tryz.prog w= .ok (.tuple #[.slice none 0 0, .bool false]) w:=by
 obtain⟨l,hl⟩:=ow hn
 rcases h with⟨rfl,_⟩ | ⟨b,m,rfl,_,h2,h3⟩
 ·exact Maps.look_nil true ox (t:=55) (e:=29) (by kernel_rfl) (by kernel_rfl) hl
 ·exact h2.miss ox (t:=55) (e:=29) (by kernel_rfl) (by kernel_rfl) (ow hn) (h3.miss hf) true
def fK (cs:List (ByteArray×List UInt8)) (r:aV):Except Int (List aI):=match ey cs r with
 | .error x=>if x=10 then .ok []else .error x
 | .ok l=> .ok l
def Gz (cs:List (ByteArray×List UInt8)) (r:aV) (w:World) (e:Ending) (w':World):Prop:=Below w.heap.size w w'/\match fK cs r with
 | .error x=>e= .returned (.tuple #[.slice none 0 0, .int .i64 x])/\x≠0
 | .ok l=> ∃v,e= .returned (.tuple #[v, .int .i64 0])/\bI (w.heap.size<= ·) w' v l
theorem xM (S:Nat->Prop) (cv:Value) (cs:List (ByteArray×List UInt8)) (r:aV) (w:World) (hc:cM S w cv cs) (hr:bK r) (henv:iV w):Calls Tryz.prog 95 #[cv,bU r] w (Gz cs r w):=by
 have HB:=aa ((Below.refl w.heap.size w).alloc (Nat.le_refl _) (.cells #[.string r.name, .int .i64 r.gen, .int .i64 r.size] 26));have HC:=aa (hc.below HB.o);have HR:=aa hr;have HE:=aa (henv.below HB.o);unfold bU;clear hc hr henv
 go_enter Tryz.func95,Tryz.ntmps95
 go_wp2_with fail;refine(nG S cv cs r _ HC.o HR.o HE.o).mono ?_;rintro e w1 ⟨hb1,hres⟩;have HB1:=aa (ab HB.o hb1);have hz:=hb1.size;simp at hz;clear hb1
 cases hnd:ey cs r with
 | error x=>
  rw[hnd]at hres;obtain⟨rfl,hx⟩:=hres
  by_cases h10:x=10
  ·subst h10;have HN:=aa (show fK cs r= .ok [] by unfold fK; rw[hnd]; rfl);clear hnd hx;go_wp2_with fail
   go_ret2
   exact⟨HB1.o,by rw[HN.o]; exact⟨_,rfl,aU.nil⟩⟩
  ·have HN:=aa (show fK cs r= .error x by unfold fK; rw[hnd]; simp only[if_neg h10]);have e1:(x == 10)=false:=by simp[h10]
   have HX:=aa hx;clear hnd hx h10;go_wp2_with fail
   go_ret2
   exact⟨HB1.o,by rw[HN.o]; exact⟨rfl,HX.o⟩⟩
 | ok l=>
  rw[hnd]at hres;obtain⟨v,rfl,hv⟩:=hres;have HN:=aa (show fK cs r= .ok l by unfold fK; rw[hnd]);have HV:=aa hv;have HV2:=aa (show bI (w.heap.size<= ·) w1 v l from by
   obtain⟨cells,h1,h2⟩:=hv;have hwz:w.heap.size<=(w.alloc (.cells #[.string r.name, .int .i64 r.gen, .int .i64 r.size] 26)).heap.size:=by simp
   exact⟨cells,h1.weak (fun k hk=>Nat.le_trans hwz hk),h2.mono (fun c x _ hx=>hx.same (fun k _ hS=>⟨Nat.le_trans hwz hS,rfl⟩))⟩)
  obtain⟨a,cap,rfl,-,-,-⟩:=aU.shape hv fH.len;clear hnd hv;go_wp2_with fail
  go_ret2
  exact⟨HB1.o,by rw[HN.o]; exact⟨_,rfl,HV2.o⟩⟩
end Go.Proofs.YtpffpjbkbaleiaaGreatDoor
namespace Go.Proofs.YtpffpjbkbaleiaaGreatDoor
open Go.RowKit
theorem Ij (l:List UInt8):(vD l).length<=4*l.length:=by
 have h1:=sO l;have: ∀rs:List Int,(rs.flatMap Lib.encodeRune).length<=4*rs.length:=by
  intro rs
  induction rs with
  | nil=>simp
  | cons r rs ih=>rw[List.flatMap_cons,List.length_append,List.length_cons]; have:=qB r; omega
 have h2:=this (oI l);unfold vD; omega
theorem wI (s:ByteArray) (pos:Nat):Lib.decodeL ((bl s).drop pos)=Utf8.decode s pos:=Lib.decodeL_drop s pos
theorem GR {s:ByteArray} {pos:Nat} (h:pos<s.size):(bl s).drop pos≠[]:=by
 intro e; have:=List.drop_eq_nil_iff.1 e; rw[<-am]at this; omega
theorem DS {s o:ByteArray} {pos:Nat} (hp:pos<s.size) (h:bl o++vD ((bl s).drop pos)=vD (bl s)):
  bl (o++Utf8.encode ((Utf8.decode s pos).1:Int))++vD ((bl s).drop (pos+(Utf8.decode s pos).2))=vD (bl s):=by
 rw[lK,<-h,xV _ (GR hp),wI,List.drop_drop,<-zg,GO,List.append_assoc]
theorem zY (s:ByteArray) (w:World) (hs:s.size<=16777216):
  Calls Tryz.prog 164 #[.string s] w fun e w'=>e= .returned (.bool (Lib.validD (bl s)))/\Below w.heap.size w w':=by
 go_enter Tryz.func164,Tryz.ntmps164
 go_wp2
 go_loopw [3] (fun v wr=> ∃(pos:Nat) (o:ByteArray),v= .string o/\wr=w.iter s pos/\o.size<=67108864/\bl o++vD ((bl s).drop pos)=vD (bl s)) (fun _ wr=>s.size-wr.iterPos w.heap.size)
 case atStart=>exact⟨0,⟨#[]⟩,rfl,rfl,by simp[ByteArray.size],by simp[bl]⟩
 case round=>
  obtain⟨pos,o,rfl,rfl,ho,hrel2⟩:=hrel;have HR:=aa hrel2;clear hrel2
  by_cases hp:pos<s.size
  ·have hnx: ∀ty,(Instr.next (.pointer (some ⟨w.heap.size,0,none⟩)) true ty).run Tryz.prog (w.iter s pos)=_:=fun ty=>run_next_any w s pos ty hp
   obtain⟨r,hr⟩: ∃r,r=(Utf8.decode s pos).1:=⟨_,rfl⟩;obtain⟨E,hE⟩: ∃E,E=Utf8.encode (r:Int):=⟨_,rfl⟩;have hcv: ∀w',(convert 21 9 (.int .i32 (r:Int))).run Tryz.prog w'= .ok (.string E) w':=fun w'=>by rw[hE]; exact run_convert_int_string w' _ _ .i32 _ (by rw[Tryz.underlying21]; rfl) Tryz.underlying9
   have hE4:E.size<=4:=by rw[hE]; exact encode_size_le _
   simp only[<-hr]at hnx;have HE:=aa hE;have HRR:=aa hr;clear hE hr
   go_wp2
   go_roundw
   case rel=>
    have hn:bl (o++E)++vD ((bl s).drop (pos+(Utf8.decode s pos).2))=vD (bl s):=by rw[HE.o,HRR.o]; exact DS hp HR.o
    refine⟨pos+(Utf8.decode s pos).2,o++E,rfl,rfl, ?_,hn⟩;have h1:=congrArg List.length hn;have h2:=Ij (bl s);rw[List.length_append,<-am]at h1;rw[<-am]at h2;omega
   case measure=>
    rw[World.iterPos_iter,World.iterPos_iter];have:=Lib.width_pos s pos;omega
  ·have hnx: ∀ty,(Instr.next (.pointer (some ⟨w.heap.size,0,none⟩)) true ty).run Tryz.prog (w.iter s pos)=_:=fun ty=>run_next_end w s pos ty hp
   go_wp2
   go_ret;refine⟨aD ?_,bH⟩;have h1:bl o=vD (bl s):=by
    rw[<-HR.o,List.drop_eq_nil_of_le (by rw[<-am]; omega),vE,List.append_nil]
   rw[cA,cA,h1];exact Dj (bl s)
theorem xw {s:ByteArray} {j:Nat} (hj:j<s.size) (h:(s[j].toNat:Int)<32):lN (bl s)=false:=by
 refine xy hj ?_;rw[mI s j hj,<-eW s j hj]; omega
theorem xS (s:ByteArray) (w:World) (hs:s.size<=16777216):
  Calls Tryz.prog 138 #[.string s] w fun e w'=>e= .returned (.bool (rR (bl s)))/\Below w.heap.size w w':=by
 go_enter Tryz.func138,Tryz.ntmps138
 go_wp2
 go_loop [3] (fun i=> ∃k:Nat,k<=s.size/\i= .int .i64 k/\ ∀j,j<k->j<s.size->32<=(s.get! j).toNat) (fun i=>s.size-(intOf i).toNat)
 case atStart=>exact⟨0,Nat.zero_le _,rfl,fun j hj=>by omega⟩
 case round=>
  obtain⟨k,hk,rfl,hlow⟩:=hrel;have HL:=aa hlow;clear hlow
  by_cases hp:k<s.size
  ·go_wp2
   ·have hlt:(s[k].toNat:Int)<32:=by assumption
    go_ret;exact⟨aD (by simp[rR,xw hp hlt]),Below.refl _ _⟩
   ·have hge:(32:Int)<=(s[k].toNat:Int):=by assumption
    go_round
    case rel=>
     refine⟨k+1,by omega,by go_num,fun j hj hjs=> ?_⟩
     rcases Nat.lt_or_ge j k with h | h
     ·exact HL.o j h hjs
     ·obtain rfl:j=k:=by omega
      rw[mI s j hp,<-eW s j hp]; omega
    case measure=>simp[intOf]<;> omega
  ·go_wp2_with (go_at_call 164; refine(zY s _ hs).mono ?_; rintro e w' ⟨rfl,hb⟩);go_ret;refine⟨aD ?_,hb⟩;simp only[rR,Br (fun j hj=>HL.o j (by omega) hj),Bool.true_and]
def Ed (c:UInt8) (s:ByteArray) (w:World) (e:Ending) (w':World):Prop:=
 ∃v xs,e= .returned v/\xs.map bl=aW c (bl s)/\fQ (w.heap.size<= ·) w' v xs/\Below w.heap.size w w'
theorem wL {s:ByteArray} {c:UInt8} {ys:List ByteArray} {f k:Nat} (hk:k<s.size) (hf:f<=k) (h:aW c (bl s)=ys.map bl++aW c ((bl s).drop f)) (hn: ∀j,f<=j->j<k->(s.get! j)≠c) (hc:s[k]=c):
  aW c (bl s)=(ys++[s.extract f k]).map bl++aW c ((bl s).drop (k+1)):=by
 have hk2:k<(bl s).length:=by rw[<-am]; exact hk
 have e:(bl s).drop f=bl (s.extract f k)++c::(bl s).drop (k+1):=by
  rw[jY,<-hc,eW s k hk,List.getElem_cons_drop,List.drop_take];have h2:=List.take_append_drop (k-f) ((bl s).drop f);rw[List.drop_drop,show f+(k-f)=k by omega]at h2;exact h2.symm
 have hm:c∉bl (s.extract f k):=by
  intro hm;obtain⟨j,hj,ej⟩:=List.getElem_of_mem hm;simp only[jY]at hj ej;rw[List.length_drop,List.length_take]at hj;rw[List.getElem_drop,List.getElem_take]at ej;exact hn (f+j) (by omega) (by omega) (by rw[mI s _ (by omega)]; exact ej)
 rw[h,e,jy _ _ _ hm]; simp
theorem wK {s:ByteArray} {c:UInt8} {ys:List ByteArray} {f:Nat} (hf:f<=s.size) (h:aW c (bl s)=ys.map bl++aW c ((bl s).drop f)) (hn: ∀j,f<=j->j<s.size->(s.get! j)≠c):
  aW c (bl s)=(ys++[s.extract f s.size]).map bl:=by
 have e:(bl s).drop f=bl (s.extract f s.size):=by rw[jY,am,List.take_length]
 have hm:c∉(bl s).drop f:=by
  intro hm;obtain⟨j,hj,ej⟩:=List.getElem_of_mem hm;rw[List.length_drop,<-am]at hj;rw[List.getElem_drop]at ej;exact hn (f+j) (by omega) (by omega) (by rw[mI s _ (by omega)]; exact ej)
 rw[h,cR _ _ hm,e]; simp
theorem il (s:ByteArray) (w:World) (hs:s.size<=16777216):Calls Tryz.prog 87 #[.string s] w (Ed 47 s w):=by
 go_enter Tryz.func87,Tryz.ntmps87
 go_wp2_with fail
 go_loopw [3,4,5] (fun v fr i wr=> ∃(k f:Nat) (ys:List ByteArray),k<=s.size+1/\f<=k/\ys.length<=k/\i= .int .i64 k/\fr= .int .i64 f/\wr.ownsRow w.heap.size 9 1 v ys.length (ys.map Value.string)/\Below w.heap.size w wr/\
   (k<=s.size->aW 47 (bl s)=ys.map bl++aW 47 ((bl s).drop f)/\ ∀j,f<=j->j<k->(s.get! j)≠47)/\(k=s.size+1->aW 47 (bl s)=ys.map bl)) (fun _ _ i _=>s.size+1-(intOf i).toNat)
 case atStart=>exact⟨0,0,[],Nat.zero_le _,Nat.le_refl _,Nat.le_refl _,rfl,rfl,World.ownsRow_nil _ _ _ _,Below.refl _ _,fun _=>⟨by simp,fun j _ hj=>by omega⟩,fun h=>by omega⟩
 case round=>
  obtain⟨k,f,ys,hk,hf,hy,rfl,rfl,hown,hb,hr1,hr2⟩:=hrel;have HO:=aa hown;have HB:=aa hb;have HR1:=aa hr1;have HR2:=aa hr2;have hsz:w.heap.size<=wr.heap.size:=hb.size;clear hown hb hr1 hr2
  by_cases hle:k<=s.size
  ·by_cases hlt:k<s.size
   ·have e1:((k:Int) == (s.size:Int))=false:=by rw[beq_eq_false_iff_ne]; omega
    by_cases hc:s[k]=47
    ·have e2:((s[k].toNat:Int) == (47:UInt8).toNat)=true:=by rw[hc]; rfl
     have e2':((s[k].toNat:Int) == 47)=true:=e2;have HCC:=aa hc;clear hc e2;go_wp2_with (at_builtin; go_must (refine dq Tryz.appStrings rfl _ _ rfl w.heap.size u3 ys.length (ys.map Value.string) rfl wr [.string (s.extract f k)] _ rfl rfl (by simp; rfl) HO.o (by omega) hsz ?_); intro v' w1 hown1 hgrow1 _);have HO1:=aa hown1;have HG1:=aa hgrow1;clear hown1 hgrow1;go_wp2_with fail
     go_roundw
     case rel=>
      refine⟨k+1,k+1,ys++[s.extract f k],by omega,Nat.le_refl _,by simp; omega,by go_num,by go_num, ?_,aF HB.o HO.o HG1.o (Nat.le_refl _) hsz,fun _=>⟨wL hlt hf (HR1.o hle).1 (HR1.o hle).2 HCC.o,fun j h1 h2=>by omega⟩,fun h=>by omega⟩;have:=HO1.o; simpa using this
     case measure=>simp[intOf]<;> omega
    ·have e2':((s[k].toNat:Int) == 47)=false:=by
      rw[beq_eq_false_iff_ne]; intro e; apply hc; apply UInt8.toNat_inj.1; have:s[k].toNat=47:=by omega
      rw[this]; rfl
     have HCC:=aa hc;clear hc;go_wp2_with fail
     go_roundw
     case rel=>
      refine⟨k+1,f,ys,by omega,by omega,by omega,by go_num,rfl,HO.o,HB.o,fun _=>⟨(HR1.o hle).1,fun j h1 h2=> ?_⟩,fun h=>by omega⟩
      rcases Nat.lt_or_ge j k with h | h
      ·exact(HR1.o hle).2 j h1 h
      ·obtain rfl:j=k:=by omega
       rw[mI s j hlt,<-eW s j hlt]; exact HCC.o
     case measure=>simp[intOf]<;> omega
   ·obtain rfl:k=s.size:=by omega
    have e1:((s.size:Int) == (s.size:Int))=true:=by simp
    go_wp2_with (at_builtin; go_must (refine dq Tryz.appStrings rfl _ _ rfl w.heap.size u3 ys.length (ys.map Value.string) rfl wr [.string (s.extract f s.size)] _ rfl rfl (by simp; rfl) HO.o (by omega) hsz ?_); intro v' w1 hown1 hgrow1 _);have HO1:=aa hown1;have HG1:=aa hgrow1;clear hown1 hgrow1;go_wp2_with fail
    go_roundw
    case rel=>
     refine⟨s.size+1,s.size+1,ys++[s.extract f s.size],by omega,Nat.le_refl _,by simp; omega,by go_num,by go_num, ?_,aF HB.o HO.o HG1.o (Nat.le_refl _) hsz,fun h=>by omega,fun _=>wK hf (HR1.o hle).1 (HR1.o hle).2⟩;have:=HO1.o; simpa using this
    case measure=>simp[intOf]<;> omega
  ·obtain⟨a,cap,rfl,hn,hm⟩:=ai HO.o;go_wp2_with fail;go_ret;exact⟨_,ys,rfl,(HR2.o (by omega)).symm,(aO HO.o).weak (fun k hk=>hk.1),HB.o⟩
theorem rQ {xs:List ByteArray} {k:Nat} {x:ByteArray} (hx:xs[k]? =some x):el ((xs.take (k+1)).map bl)=if k=0 then bl x else el ((xs.take k).map bl)++[47]++bl x:=by
 have hk:=(List.getElem?_eq_some_iff.1 hx).1;have e:(xs.take (k+1)).map bl=(xs.take k).map bl++[bl x]:=by rw[List.take_add_one,hx]; simp
 rw[e,yx]
 by_cases h:k=0
 ·subst h; simp
 ·have h2:(xs.take k).map bl≠[]:=by
   intro e; have:=congrArg List.length e; simp only[List.length_map,List.length_take,List.length_nil]at this; omega
  rw[if_neg h,if_neg h2]
theorem rU (xs:List ByteArray) (m:Nat) (h: ∀x∈xs,x.size<=m) (k:Nat):(el ((xs.take k).map bl)).length<=xs.length*(m+1):=by
 have h1:=Aw ((xs.take k).map bl) m (fun p hp=>by
  obtain⟨y,hy,rfl⟩:=List.mem_map.1 hp;have:=h y (List.mem_of_mem_take hy);rw[<-am]; exact this)
 have h2:((xs.take k).map bl).length<=xs.length:=by simp; omega
 exact Nat.le_trans h1 (Nat.mul_le_mul_right _ h2)
theorem xT (xs:List ByteArray) (S:Nat->Prop) (v:Value) (w:World) (hv:fQ S w v xs) (hn:xs.length<=65536) (hsz: ∀x∈xs,x.size<=65536):
  Calls Tryz.prog 132 #[v] w fun e w'=>e= .returned (.string ⟨(el (xs.map bl)).toArray⟩)/\w=w':=by
 obtain⟨a,cap,rfl,hc,hcm,hcell⟩:=hv.shape;have HC:=aa hcell;have HS:=aa hsz;clear hv hcell hsz;unfold maxLen at hcm
 go_enter Tryz.func132,Tryz.ntmps132
 go_wp2_with fail
 go_loop [3,8] (fun o i=> ∃(k:Nat) (t:ByteArray),k<=xs.length/\i= .int .i64 k/\o= .string t/\bl t=el ((xs.take k).map bl)) (fun _ i=>xs.length-(intOf i).toNat)
 case atStart=>exact⟨0,⟨#[]⟩,Nat.zero_le _,rfl,rfl,by simp[bl,el,Lib.join_nil]⟩
 case round=>
  obtain⟨k,t,hk,rfl,rfl,ht⟩:=hrel;have hts:t.size<=4295032832:=by
   rw[am,ht];have:=rU xs 65536 HS.o k;have h2:xs.length*(65536+1)<=65536*(65536+1):=Nat.mul_le_mul_right _ hn;omega
  have HT:=aa ht;clear ht
  by_cases hlt:k<xs.length
  ·obtain⟨x,hx⟩: ∃x,xs[k]? =some x:=⟨xs[k],by simp[hlt]⟩;obtain⟨b,o,rfl,_,hcl⟩:=HC.o k x hx;have hxs:=HS.o x (List.mem_of_getElem? hx);have HX:=aa hx;clear hx
   by_cases h0:k=0
   ·have e0:decide ((0:Int)<(k:Int))=false:=by simp[h0]
    have hle: ¬(0:Int)<(k:Int):=by omega
    have H0:=aa h0;clear h0;go_wp2_with fail
    go_round
    case rel=>
     refine⟨k+1,t++x,by omega,by go_num,rfl, ?_⟩;rw[rQ HX.o,if_pos H0.o,lK,HT.o,H0.o]; simp[el,Lib.join_nil]
    case measure=>simp[intOf]; omega
   ·have h1:(0:Int)<(k:Int):=by omega
    have h1':0<k:=by omega
    have H0:=aa h0;clear h0;go_wp2_with fail
    go_round
    case rel=>
     refine⟨k+1,(t++⟨#[47]⟩)++x,by omega,by go_num,rfl, ?_⟩;rw[rQ HX.o,if_neg H0.o,lK,lK,HT.o]; rfl
    case measure=>simp[intOf]; omega
  ·go_wp2_with fail;go_ret;refine⟨?_,rfl⟩;have:el (xs.map bl)=bl t:=by rw[HT.o,List.take_of_length_le (by omega)]
   rw[this,Bx]; rfl
theorem Bh {xs:List ByteArray} {s:ByteArray} (hx:xs.map bl=aW 47 (bl s)):((xs.length:Int) == 1)= !(bl s).contains 47:=by
 rw[<-wE,<-hx,List.length_map,Bool.eq_iff_iff,beq_iff_eq,beq_iff_eq]; omega
theorem kK (s:ByteArray) (w:World) (hs:s.size<=16777216):
  Calls Tryz.prog 102 #[.string s] w fun e w'=>e= .returned (.bool (dm (bl s)))/\Below w.heap.size w w':=by
 go_enter Tryz.func102,Tryz.ntmps102
 go_wp2_with (first
  | (go_at_call 138; refine(xS s _ hs).mono ?_; rintro e w1 ⟨rfl,hb1⟩)
  | (go_at_call 87; refine(il s _ hs).mono ?_; rintro e w2 ⟨v2,xs2,rfl,hx2,hv2,hb2⟩; obtain⟨a2,c2,rfl,-,-,-⟩:=hv2.shape; have HX2:=aa hx2; clear hx2 hv2))
 all_goals (go_ret; refine⟨aD ?_,by first | exact Below.refl _ _ | exact ab hb1 hb2 | exact hb1⟩)
 all_goals (rw[Bool.eq_iff_iff]; simp only[cA]at *)
 all_goals (first | (have hq:=Bh HX2.o; simp_all [dm,am]; done) | (simp_all [dm,am]; done) | (simp_all [dm,am]; omega) | (have hq:=Bh HX2.o; simp_all [dm,am]; intro _; omega))
theorem xU (s:ByteArray) (w:World) (hs:s.size<=16777216):
  Calls Tryz.prog 86 #[.string s] w fun e w'=>e= .returned (.bool (bq (bl s)))/\Below w.heap.size w w':=by
 go_enter Tryz.func86,Tryz.ntmps86
 go_wp2_with fail;refine(il s w hs).mono ?_;rintro e w1 ⟨v,xs,rfl,hx,hv,hb1⟩;obtain⟨a,cap,rfl,hc,hcm,hcell⟩:=hv.shape;have hxl:xs.length<=16777217:=by
  have h1:(aW 47 (bl s)).length=xs.length:=by rw[<-hx]; simp
  have h2:=jz 47 (bl s);rw[<-am]at h2;omega
 have HX:=aa hx;have HC:=aa hcell;have HB1:=aa hb1;clear hx hcell hb1 hv;unfold maxLen at hcm;go_wp2_with fail
 go_loopw [10] (fun i wr=> ∃k:Nat,k<=xs.length/\i= .int .i64 k/\Below w1.heap.size w1 wr/\ ∀(j:Nat) x,j<k->xs[j]? =some x->dm (bl x)=true) (fun i _=>xs.length-(intOf i).toNat)
 case atStart=>exact⟨0,Nat.zero_le _,rfl,Below.refl _ _,fun j x hj=>by omega⟩
 case round=>
  obtain⟨k,hk,rfl,hb,hall⟩:=hrel;have HA:=aa hall;have HB:=aa hb;clear hall hb
  by_cases hlt:k<xs.length
  ·obtain⟨x,hx⟩: ∃x,xs[k]? =some x:=⟨xs[k],by simp[hlt]⟩;obtain⟨b,o,rfl,_,hcl⟩:=HC.o k x hx;have hcell:wr.cell? ⟨b,o+k,none⟩=some (.string x):=(HB.o.cell (p:=⟨b,o+k,none⟩) (aP hcl)).trans hcl;have HK:=aa hx;have hxs:x.size<=16777216:=by have:=ue HX.o hx; omega
   clear hx hcl
   cases hc:dm (bl x)
   ·have HCc:=aa hc;clear hc;go_wp2_with (go_at_call 102; refine(kK x wr hxs).mono ?_; rintro e w' ⟨rfl,hb2⟩; rw[HCc.o]);go_ret;exact⟨aD (uy HX.o HK.o HCc.o).symm,ab (ab HB1.o HB.o) hb2⟩
   ·have HCc:=aa hc;clear hc;go_wp2_with (go_at_call 102; refine(kK x wr hxs).mono ?_; rintro e w' ⟨rfl,hb2⟩; rw[HCc.o])
    go_roundw
    case rel=>
     refine⟨k+1,by omega,by go_num,ab HB.o hb2,fun j x' hj hx'=> ?_⟩
     rcases Nat.lt_or_ge j k with h | h
     ·exact HA.o j x' h hx'
     ·obtain rfl:j=k:=by omega
      have:=HK.o.symm.trans hx'
      cases this
      exact HCc.o
    case measure=>simp[intOf]; omega
  ·go_wp2_with fail
   all_goals (go_ret; refine⟨aD ?_,ab HB1.o HB.o⟩)
   all_goals (
    have ha:(aW 47 (bl s)).all dm=true:=by
     rw[<-HX.o,List.all_map,List.all_eq_true];intro x hm;obtain⟨j,hj,rfl⟩:=List.getElem_of_mem hm;exact HA.o j _ (by omega) (by simp)
    have hl:(aW 47 (bl s)).length=xs.length:=by rw[<-HX.o]; simp
    rw[bq,ha,hl,Bool.and_true,<-am,Bool.eq_iff_iff]
    simp_all<;> omega)
theorem AD (visit:aV->Except Int (List aI)) (cv:Value) (I:World->Prop) (B n:Nat) (hI:AL I B) (hV:Eo visit 95 cv I) (IH:Ep visit 95 cv I B n):Ep visit 95 cv I B (n+1):=by
 intro r st x st' base wb eb sb v w hw hlen h hr hi hB hbase;have HI:=aa hI;have HV:=aa hV;have HIH:=aa IH;have HB:=aa hB;have HR:=aa hr;have H:=aa h;have HIW:=aa hi;have HLEN:=aa hlen;have HWP:=aa hw;have hmen:(bB r st.2).length<=st'.2.length:=by
  rw[fh]at hw
  split at hw
  ·simp only[Option.some.injEq,Prod.mk.injEq]at hw;obtain⟨_,rfl⟩:=hw;exact Nat.le_refl _
  ·split at hw
   ·simp only[Option.some.injEq,Prod.mk.injEq]at hw;obtain⟨_,rfl⟩:=hw;exact Nat.le_refl _
   ·exact iN (jU visit n) _ _ x st' hw
 have hml:=li r st.2;have HB0:=aa ((Below.refl w.heap.size w).alloc (Nat.le_refl _) (.cells #[.string r.name, .int .i64 r.gen, .int .i64 r.size] 26));have HK0:=aa (h.below HB0.o);have HBX0:=aa (heap_alloc_new w (.cells #[.string r.name, .int .i64 r.gen, .int .i64 r.size] 26));have hwb:wb<w.heap.size:=lt_of_block h.box;unfold bU;clear hw h hr hi hI hV IH hB
 go_enter Tryz.func133,Tryz.ntmps133
 go_wp2_with fail;refine(pq base wb eb sb _ v st.1 st.2 r _ HK0.o HR.o (by omega) (by simp; omega)).mono ?_;rintro e w1 ⟨rfl,v1,hk1,hg1,ho1⟩;have HK1:=aa hk1;have HBX1:=aa (show w1.heap[w.heap.size]? =some (.cells #[.string r.name, .int .i64 r.gen, .int .i64 r.size] 26 (0,0))from(hg1.block w.heap.size (by simp) (fun ho=>by
  rcases ho with e | e | e | e
  ·omega
  ·have:=H.o.exs.map.lt; omega
  ·have:=H.o.see.map.lt; omega
  ·have:=(H.o.row.lt _ e).2; omega)).trans HBX0.o)
 have hz1:=hg1.size;simp at hz1;have HG1:=aa (show cW (jD wb eb sb v) w w1 from(cW.of_below HB0.o (S:=jD wb eb sb v)).trans hg1 (fun _ _ h=>h));have HO1:=aa (show ∀k,v1.ownBlock=some k->v.ownBlock=some k\/w.heap.size<=k from fun k hk=>by
  rcases ho1 k hk with e | e
  ·exact .inl e
  ·simp at e; exact .inr (by omega))
 clear hk1 hg1 ho1 HK0 HBX0;have c1:=aB (k:=1) HK1.o.box;obtain⟨q0,q1,q2,_⟩:=aj HBX1.o;simp only[Nat.zero_add,Nat.reduceAdd]at q1 q2;simp only[cr]at c1;go_wp2_with fail;refine az [some 6] (by kernel_rfl) (by kernel_rfl) (by kernel_rfl) ?_;simp only[bC,List.take_succ_cons,List.take_zero];obtain⟨W1,hW1⟩: ∃W1:World,W1=w1.drew:=⟨_,rfl⟩;rw[<-hW1];have hbw1:Below w1.heap.size w1 W1:=by rw[hW1]; exact(Below.refl _ _).drew
 have HK2:=aa (HK1.o.below hbw1);have HBX2:=aa ((hbw1.block w.heap.size (by omega)).trans HBX1.o);have HG2:=aa (HG1.o.trans (cW.of_below hbw1 (S:=fun _=>False)) (fun _ _ h=>False.elim h));have hz2:=hbw1.size;clear hbw1 HK1 HBX1 HG1 c1 q0 q1 q2;have c1:=aB (k:=1) HK2.o.box;have q0:=aB (k:=0) HBX2.o;have q1:=aB (k:=1) HBX2.o;have q2:=aB (k:=2) HBX2.o;have hlk:=HK2.o.exs.look HR.o
 unfold bU at hlk;simp only[cr]at c1 q0 q1 q2;clear hW1
 by_cases hm:r∈st.1
 ·have e1:decide (r∈st.1)=true:=by simp[hm]
  rw[e1]at hlk;have HRES:=aa (show(x,st')=(0,(st.1,bB r st.2)) by have:=HWP.o; rw[fh,if_pos hm]at this; exact(Option.some.inj this).symm);clear e1 hm
  repeat (first | (refine aK rfl ?_; simp only[Act.put,aZ,bg,bh]) | (refine aS rfl (fun K hK=> ?_); go_simp; refine hK _ ?_; clear hK K))
  refine aR ?_;go_wp2_with fail;go_ret;obtain⟨e1,e2⟩:=Prod.mk.inj HRES.o;exact⟨bt e1.symm,v1,by rw[e2]; exact HK2.o,HG2.o,HO1.o⟩
 ·have e1:decide (r∈st.1)=false:=by simp[hm]
  rw[e1]at hlk;have HNM:=aa hm;have HWQ:=aa (show(match visit r with | .error x=>some (x,(st.1++[r],bB r st.2)) | .ok l=>gI (fh visit n) l (st.1++[r],bB r st.2))=some (x,st') by have:=HWP.o; rw[fh,if_neg hm]at this; exact this);clear e1 hm HWP
  repeat (first | (refine aK rfl ?_; simp only[Act.put,aZ,bg,bh]) | (refine aS rfl (fun K hK=> ?_); go_simp; refine hK _ ?_; clear hK K))
  refine aR ?_;go_wp2_with fail;refine az [some 5,none] (by kernel_rfl) (by kernel_rfl) (by kernel_rfl) ?_;simp only[bC,List.take_succ_cons,List.take_zero,List.drop_succ_cons,List.drop_zero]
  repeat (first | (refine aK rfl ?_; simp only[Act.put,aZ,bg,bh]) | (refine aS rfl (fun K hK=> ?_); go_simp; refine hK _ ?_; clear hK K))
  refine aR ?_;refine bJ rfl (fun K hK=> ?_);have HKd:=aa (HK2.o.below ((Below.refl _ W1).drew));go_wp2_with (at_mapUpdate; go_must (refine gD rfl _ _ _ rfl eb st.1 HKd.o.exs rfl r HR.o rfl rfl HNM.o ?_); intro w2 hset hg2);have heb:eb<w.heap.size:=H.o.exs.map.lt;have hsb:sb<w.heap.size:=H.o.see.map.lt;have hne1:=H.o.wne;have hne2:=H.o.ne;refine az [some 5,none,some 5] (by kernel_rfl) (by kernel_rfl) (by kernel_rfl) ?_
  simp only[bC,List.take_succ_cons,List.take_zero,List.drop_succ_cons,List.drop_zero];obtain⟨W2,hW2⟩: ∃W2:World,W2=w2.drew:=⟨_,rfl⟩;rw[<-hW2];have hg3:W1.grownBy W2 (some eb):=by rw[hW2]; exact aG (b:=W1.drew) ⟨rfl,rfl,rfl,Nat.le_refl _,fun _ _ _=>rfl⟩ (aG hg2 ⟨rfl,rfl,rfl,Nat.le_refl _,fun _ _ _=>rfl⟩)
  have hset3:eo W2 eb (st.1++[r]):=by rw[hW2]; exact hset.same rfl
  have HK3:=aa (show gW W2 base wb eb sb (.func (.func 95) #[cv] #[]) v1 (st.1++[r]) (bB r st.2)from⟨gU hg3 HK2.o.box hne1.1,hset3,HK2.o.see.same (hg3.block sb HK2.o.see.map.lt (by simp; exact Ne.symm hne2)),HK2.o.row.kept hg3 (.inr (fun e=>(HK2.o.own e).2.1 rfl)),hne2⟩);have HBX3:=aa (gU hg3 HBX2.o (by omega));have HG3:=aa (show cW (jD wb eb sb v) w W2 from HG2.o.trans (cW.of_grown (S:=fun k=>k=eb) hg3 (fun k hk=>by cases hk; rfl)) (fun i _ h=> .inr (.inl h)))
  have hz3:=hg3.size;have HI3:=aa (HI.o w W2 HIW.o (qL HG3.o (fun k hk=>zQ H.o HB.o hk)));clear hW2 hg3 hset3 hset hg2 HKd HK2 HBX2 HG2 c1 q0 q1 q2 hlk;have c0:=aB (k:=0) HK3.o.box;obtain⟨q0,q1,q2,_⟩:=aj HBX3.o;simp only[Nat.zero_add,Nat.reduceAdd]at q1 q2;simp only[cr]at c0
  repeat (first | (refine aK rfl ?_; simp only[Act.put,aZ,bg,bh]) | (refine aS rfl (fun K hK=> ?_); go_simp; refine hK _ ?_; clear hK K))
  refine aR ?_;refine bJ rfl (fun K hK=> ?_);go_wp2_with fail;refine(HV.o W2 r HI3.o HR.o).mono ?_;rintro e w3 ⟨hb3,hres⟩;have HK4:=aa (HK3.o.below hb3);have HG4:=aa (HG3.o.trans (cW.of_below hb3 (S:=fun _=>False)) (fun _ _ h=>False.elim h));have HB3:=aa hb3;have hz4:=hb3.size;clear hb3 c0 q0 q1 q2
  cases hvr:visit r with
  | error y=>
   rw[hvr]at hres;obtain⟨rfl,hy⟩:=hres;have HRES:=aa (show(x,st')=(y,(st.1++[r],bB r st.2)) by have:=HWQ.o; rw[hvr]at this; exact(Option.some.inj this).symm);have e1:(y != 0)=true:=by simp[hy]
   clear hvr hy;go_wp2_with fail
   repeat (first | (refine aK rfl ?_; simp only[Act.put,aZ,bg,bh]) | (refine aS rfl (fun K hK=> ?_); go_simp; refine hK _ ?_; clear hK K))
   refine aR ?_;go_wp2_with fail;go_ret;obtain⟨e1,e2⟩:=Prod.mk.inj HRES.o;exact⟨bt e1.symm,v1,by rw[e2]; exact HK4.o,HG4.o,HO1.o⟩
  | ok l=>
   rw[hvr]at hres;obtain⟨itv,rfl,hits⟩:=hres;have HOV:=aa (show gI (fh visit n) l (st.1++[r],bB r st.2)=some (x,st') by have:=HWQ.o; rw[hvr]at this; exact this);obtain⟨ia,ic,rfl,hil,him,-⟩:=aU.shape hits fH.len;unfold maxLen at him;have HIN:=aa (show qd w B W2.heap.size w3.heap.size base wb eb sb (.func (.func 95) #[cv] #[]) v (.slice ia l.length ic) l w3 v1 (st.1++[r]) (bB r st.2)from
    ⟨HK4.o,HG4.o,HO1.o,fun k hk=> .inl (HK3.o.row.lt k hk).2,⟨by omega,by omega,by omega⟩,⟨by omega,hz4,Nat.le_refl _⟩,bI.lt hits⟩)
   clear hvr hits HWQ HK3 HK4 HG3 HG4 HBX3;go_wp2_with fail
   repeat (first | (refine aK rfl ?_; simp only[Act.put,aZ,bg,bh]) | (refine aS rfl (fun K hK=> ?_); go_simp; refine hK _ ?_; clear hK K))
   refine aR ?_;go_wp2_with fail
   go_loopw [40] (fun i wr=> ∃(k:Nat) (v2:Value) (ex2 rs2:List aV),k<=l.length/\i= .int .i64 k/\gI (fh visit n) (l.drop k) (ex2,rs2)=some (x,st')/\qd w B W2.heap.size w3.heap.size base wb eb sb (.func (.func 95) #[cv] #[]) v (.slice ia l.length ic) l wr v2 ex2 rs2) (fun i _=>l.length-(intOf i).toNat)
   case atStart=>exact⟨0,v1,_,_,Nat.zero_le _,rfl,HOV.o,HIN.o⟩
   case round=>
    obtain⟨k,v2,ex2,rs2,hk,rfl,hov,hin⟩:=hrel;have HV2:=aa hov;have HN2:=aa hin;clear hov hin
    by_cases hlt:k<l.length
    ·obtain⟨it,hr2⟩: ∃it,l[k]? =some it:=⟨l[k],by simp[hlt]⟩;obtain⟨b,o,ca,cc,rfl,hok,hrf,-,-,hcl⟩:=gG HN2.o.its (Below.refl _ _) hr2;have HOV2:=aa (show gI (fh visit n) (it::l.drop (k+1)) (ex2,rs2)=some (x,st') by
      obtain⟨hk',rfl⟩:=List.getElem?_eq_some_iff.1 hr2;rw[<-List.drop_eq_getElem_cons hk']; exact HV2.o)
     have hmb:=CZ HOV2.o;have HOK:=aa hok;have q0:=hcl 0 (by omega);have q1:=hcl 1 (by omega);have q2:=hcl 2 (by omega);have q3:=hcl 3 (by omega);have q4:=hcl 4 (by omega);have q5:=hcl 5 (by omega);have q6:=hcl 6 (by omega);have q7:=hcl 7 (by omega);have q8:=hcl 8 (by omega);have q9:=hcl 9 (by omega);simp only[cg,vN,Nat.add_zero]at q0 q1 q2 q3 q4 q5 q6 q7 q8 q9
     obtain⟨wo,hwo⟩: ∃wo:World,wo=wr:=⟨_,rfl⟩;subst hwo;have HAL:=aa ((Below.refl wo.heap.size wo).alloc (Nat.le_refl _) (.cells #[.string it.name, .int .i64 it.kind, .int .i64 it.mode, .int .i64 it.time, .int .i64 it.size, .string it.link, .slice ca it.chunks.length cc, .string it.node.name, .int .i64 it.node.gen, .int .i64 it.node.size] 28));have HN3:=aa (HN2.o.below HAL.o);have HRF:=aa (show bw (fun k=>W2.heap.size<=k/\k<w3.heap.size) _ (.slice ca it.chunks.length cc) it.chunks from aU.below hrf (by omega) HAL.o (fun _ _ _ h=>h))
     obtain⟨a',cap',hv',hcl1,hcl2,-⟩:=aU.shape hrf lZ.len
     cases hv'
     unfold maxLen at hcl2;clear hr2 hok hrf hcl;have HBX5:=aa (heap_alloc_new wo (.cells #[.string it.name, .int .i64 it.kind, .int .i64 it.mode, .int .i64 it.time, .int .i64 it.size, .string it.link, .slice ca it.chunks.length cc, .string it.node.name, .int .i64 it.node.gen, .int .i64 it.node.size] 28));go_wp2_with fail;clear q0 q1 q2 q3 q4 q5 q6 q7 q8 q9
     go_loopw [47] (fun i wq=> ∃(j:Nat) (v3:Value),j<=it.chunks.length/\i= .int .i64 j/\qd w B W2.heap.size w3.heap.size base wb eb sb (.func (.func 95) #[cv] #[]) v (.slice (some ⟨b,o,none⟩) l.length ic) l wq v3 ex2 (dj (it.chunks.take j) rs2)/\bw (fun k=>W2.heap.size<=k/\k<w3.heap.size) wq (.slice ca it.chunks.length cc) it.chunks/\wq.heap[wo.heap.size]? =some (.cells #[.string it.name, .int .i64 it.kind, .int .i64 it.mode, .int .i64 it.time, .int .i64 it.size, .string it.link, .slice ca it.chunks.length cc, .string it.node.name, .int .i64 it.node.gen, .int .i64 it.node.size] 28 (0,0))) (fun i _=>it.chunks.length-(intOf i).toNat)
     case atStart=>exact⟨0,v2,Nat.zero_le _,rfl,HN3.o,HRF.o,HBX5.o⟩
     case round=>
      obtain⟨j,v3,hj,rfl,hin3,hrf3,hbx3⟩:=hrel;have HN4:=aa hin3;have HRF4:=aa hrf3;have HBX6:=aa hbx3;clear hin3 hrf3 hbx3 HN3 HRF HBX5 HAL
      by_cases hlt2:j<it.chunks.length
      ·obtain⟨c,hc⟩: ∃c,it.chunks[j]? =some c:=⟨it.chunks[j],by simp[hlt2]⟩;obtain⟨b2,o2,rfl,hcok,p0,p1,p2⟩:=jn HRF4.o (Below.refl _ _) hc;have HCO:=aa hcok;have HSN:=aa (show dj (it.chunks.take (j+1)) rs2=bB c (dj (it.chunks.take j) rs2) by rw[bS hc,xB]);have hjl:=rg it.chunks rs2 j;have HAL2:=aa ((Below.refl wr.heap.size wr).alloc (Nat.le_refl _) (.cells #[.string c.name, .int .i64 c.gen, .int .i64 c.size] 26))
       have HN5:=aa (HN4.o.below HAL2.o);have hbz:base<=(wr.alloc (.cells #[.string c.name, .int .i64 c.gen, .int .i64 c.size] 26)).heap.size:=Nat.le_trans hbase (Nat.le_trans HN4.o.gr.size HAL2.o.size);have HBZ:=aa hbz;clear hc hcok hbz;go_wp2_with fail;refine(pq base wb eb sb _ v3 ex2 _ c _ HN5.o.at' HCO.o (by omega) HBZ.o).mono ?_;rintro e w4 ⟨rfl,hres⟩;obtain⟨v4,hin4,hg4⟩:=HN5.o.step hres
       have HN6:=aa hin4;have hzz:=HAL2.o.size;have HRF6:=aa (show bw (fun k=>W2.heap.size<=k/\k<w3.heap.size) w4 (.slice (some ⟨b2,o2,none⟩) it.chunks.length cc) it.chunks from bw.same HRF4.o (fun k hk hS=>⟨hS,(hg4.block k (Nat.lt_of_lt_of_le hk hzz) (HN5.o.notown hS)).trans (HAL2.o.block k hk)⟩));have hbk:=fD HBX6.o (.cells #[.string c.name, .int .i64 c.gen, .int .i64 c.size] 26)
       have HBX7:=aa ((hg4.block wo.heap.size ((Array.getElem?_eq_some_iff.1 hbk).1) (HN5.o.at'.notown hbk (by decide) (by decide))).trans hbk);clear hres hin4 hg4 hbk p0 p1 p2;go_wp2_with fail
       go_roundw
       case rel=>exact⟨j+1,v4,by omega,by go_num,by rw[HSN.o]; exact HN6.o,HRF6.o,HBX7.o⟩
       case measure=>simp[intOf]; omega
      ·obtain rfl:j=it.chunks.length:=by omega
       rw[List.take_of_length_le (Nat.le_refl _)]at HN4;have c1:=aB (k:=1) HBX6.o;have c7:=aB (k:=7) HBX6.o;have c8:=aB (k:=8) HBX6.o;have c9:=aB (k:=9) HBX6.o;simp only[cr]at c1 c7 c8 c9
       rcases rq HOV2.o with⟨hk2,h2⟩ | ⟨hk2,y,st2,h1,h2⟩
       ·have e2:(it.kind != 2)=true:=by simp[hk2]
        have H2:=aa h2;clear hk2 h2;go_wp2_with fail
        go_roundw
        case rel=>exact⟨k+1,v3,_,_,by omega,by go_num,H2.o,HN4.o⟩
        case measure=>simp[intOf]; omega
       ·have e2:(it.kind != 2)=false:=by simp[hk2]
        have H1:=aa h1;have H2:=aa h2;have hle2:st2.2.length<=st'.2.length:=by
         rcases h2 with⟨_,h2⟩ | ⟨_,h2⟩
         ·obtain⟨_,rfl⟩:=Prod.mk.inj h2;exact Nat.le_refl _
         ·exact iN (jU visit n) _ _ x st' h2
        have HI4:=aa (HI.o w wr HIW.o (qL HN4.o.gr (fun k hk=>zQ H.o HB.o hk)));have HBZ:=aa (Nat.le_trans hbase HN4.o.gr.size);clear hk2 h1 h2;go_wp2_with fail;refine(HIH.o it.node (ex2,dj it.chunks rs2) y st2 base wb eb sb v3 wr H1.o (by omega) HN4.o.at' HOK.o.nd HI4.o HB.o HBZ.o).mono ?_;rintro e w4 ⟨rfl,hres⟩;obtain⟨v4,hin4,-⟩:=HN4.o.step hres;have HN6:=aa hin4
        clear hres hin4 c1 c7 c8 c9
        rcases H2.o with⟨hy,h2⟩ | ⟨hy,h2⟩
        ·have e3:(y != 0)=true:=by simp[hy]
         have HRES:=aa h2;clear hy h2;go_wp2_with fail;go_ret;obtain⟨e1,e2⟩:=Prod.mk.inj HRES.o;exact⟨bt e1.symm,v4,by rw[e2]; exact HN6.o.at',HN6.o.gr,HN6.o.own⟩
        ·subst hy;have H3:=aa h2;clear h2;go_wp2_with fail
         go_roundw
         case rel=>exact⟨k+1,v4,st2.1,st2.2,by omega,by go_num,H3.o,HN6.o⟩
         case measure=>simp[intOf]; omega
    ·obtain rfl:k=l.length:=by omega
     have HRES:=aa (show(x,st')=(0,(ex2,rs2)) by have:=HV2.o; rw[List.drop_of_length_le (Nat.le_refl _)]at this; exact(Option.some.inj this).symm);go_wp2_with fail;go_ret;obtain⟨e1,e2⟩:=Prod.mk.inj HRES.o;exact⟨bt e1.symm,v2,by rw[e2]; exact HN2.o.at',HN2.o.gr,HN2.o.own⟩
theorem uE (visit:aV->Except Int (List aI)) (cv:Value) (I:World->Prop) (B:Nat) (hI:AL I B) (hV:Eo visit 95 cv I): ∀n,Ep visit 95 cv I B n
 | 0=>by intro r st x st' base wb eb sb v w hw; simp[fh]at hw
 | n+1=>AD visit cv I B n hI hV (uE visit cv I B hI hV n)
open Go Go.RowKit Go.Maps
theorem zL (visit:aV->Except Int (List aI)) (cv:Value) (I:World->Prop) (n:Nat) (root:aV) (res:Except Int (List aV)) (w:World) (hI:AL I w.heap.size) (hV:Eo visit 95 cv I) (hi:I w) (hr:bK root)
  (hn:nE visit n root=some res) (hl: ∀p,fh visit n root ([],[])=some p->p.2.2.length<1099511627775):
  Calls Tryz.prog 94 #[bU root, .func (.func 95) #[cv] #[]] w (uP res w):=by
 have HI:=aa hI;have HV:=aa hV;have HIW:=aa hi;have HR:=aa hr;have HL:=aa hl;have hmm:= @run_makeMap Tryz.prog;have HB0:=aa ((Below.refl w.heap.size w).alloc (Nat.le_refl _) (.cells #[.string root.name, .int .i64 root.gen, .int .i64 root.size] 26));have HBX0:=aa (heap_alloc_new w (.cells #[.string root.name, .int .i64 root.gen, .int .i64 root.size] 26));unfold bU;clear hI hV hi hr hl
 cases hv:gL root
 ·have HRES:=aa (show res= .error 1 by rw[nE,if_neg (by rw[hv]; simp)]at hn; exact(Option.some.inj hn).symm);have HVR:=aa hv;clear hv hn
  go_enter Tryz.func94,Tryz.ntmps94
  go_wp2_with fail;refine(dN root false _ HR.o HVR.o).mono ?_;rintro e w1 ⟨rfl,hb1⟩;have HB1:=aa (ab HB0.o hb1);clear hb1;go_wp2_with fail
  go_ret2
  exact⟨HB1.o,by rw[HRES.o]; exact⟨rfl,by decide⟩⟩
 ·have HVR:=aa hv;obtain⟨⟨x,st⟩,hwp,hres⟩: ∃p,fh visit n root ([],[])=some p/\res=(if p.1=0 then .ok p.2.2 else .error p.1):=by
   rw[nE,if_pos hv,Option.map_eq_some_iff]at hn;obtain⟨p,h1,h2⟩:=hn;exact⟨p,h1,h2.symm⟩
  have HWP:=aa hwp;have HRES:=aa hres;have HLN:=aa (HL.o _ hwp);clear hv hn hwp hres
  go_enter Tryz.func94,Tryz.ntmps94
  go_wp2_with fail;refine(dN root true _ HR.o HVR.o).mono ?_;rintro e w1 ⟨rfl,hb1⟩;have HB1:=aa (ab HB0.o hb1);have hbx1:=(hb1.block w.heap.size (by simp)).trans HBX0.o;have HBX1:=aa hbx1;have hz1:=lt_of_block hbx1;clear hb1 hbx1 HBX0;obtain⟨W,hW⟩: ∃W:World,W=((w1.alloc (.map #[] 0)).alloc (.map #[] 0)).alloc (.cells #[.func (.func 95) #[cv] #[], .map (some w1.heap.size), .map (some (w1.heap.size+1)), .slice none 0 0] 191):=⟨_,rfl⟩
  have HK:=aa (show gW W w.heap.size (w1.heap.size+1+1) w1.heap.size (w1.heap.size+1) (.func (.func 95) #[cv] #[]) (.slice none 0 0) [] [] by rw[hW]; exact Gg);have hbw:Below w1.heap.size w1 W:=by rw[hW]; exact((bH).alloc (by simp) _).alloc (by simp; omega) _
  have HBW:=aa (ab HB1.o hbw);have HBX2:=aa ((hbw.block w.heap.size hz1).trans HBX1.o);obtain⟨q0,q1,q2,_⟩:=aj HBX2.o;simp only[Nat.zero_add,Nat.reduceAdd]at q1 q2;obtain⟨r0,r1,r2,_⟩:=aj HBX1.o;simp only[Nat.zero_add,Nat.reduceAdd]at r1 r2;have HI2:=aa (HI.o w W HIW.o (cW.of_below HBW.o));clear hbw
  go_upto_region 4 with(fail)
  rw[<-hW];clear hW;go_wp2_with fail;refine(uE visit cv I w.heap.size HI.o HV.o n root ([],[]) x st w.heap.size (w1.heap.size+1+1) w1.heap.size (w1.heap.size+1) (.slice none 0 0) W HWP.o HLN.o HK.o HR.o HI2.o ⟨Nat.le_refl _,by omega,by omega,by omega⟩ HBW.o.size).mono ?_;rintro e w2 ⟨rfl,v2,hk2,hg2,ho2⟩;have HK2:=aa hk2;have HB2:=aa (show Below w.heap.size w w2 from HBW.o.trans (hg2.below HBW.o.size (fun k hk=>zQ HK.o ⟨Nat.le_refl _,by omega,by omega,by omega⟩ hk)))
  obtain⟨a2,c2,rfl⟩:=hk2.shape;have d3:=aB (k:=3) hk2.box;simp only[cr]at d3;clear hk2 hg2 ho2 q0 q1 q2 r0 r1 r2
  by_cases hx:x=0
  ·subst hx;have HRS:=aa (show res= .ok st.2 by rw[HRES.o]; simp);go_wp2_with fail
   go_ret2
   exact⟨HB2.o,by rw[HRS.o]; exact⟨_,rfl,bw.same (kt HK2.o.row HK2.o.ok) (fun k _ hS=>⟨hS.1,rfl⟩)⟩⟩
  ·have e1:(x != 0)=true:=by simp[hx]
   have HRS:=aa (show res= .error x by rw[HRES.o]; simp[hx]);have HX:=aa hx;clear hx;go_wp2_with fail
   go_ret2
   exact⟨HB2.o,by rw[HRS.o]; exact⟨rfl,HX.o⟩⟩
theorem fP.pres {B:Nat} {cv:Value} {cs:List (ByteArray×List UInt8)} :Eo (fK cs) 95 cv (fP B cv cs):=fun W r hI hr=>(xM (· <B) cv cs r W hI.cont hr hI.env).mono fun _ _ h=>h
def fp (cs:List (ByteArray×List UInt8)) (rs:List aV):List aV:=rs.filter fun r=>(ef cs r.name).isNone
def IF (cs:List (ByteArray×List UInt8)) (res:Except Int (List aV)):Except Int (List aV):=match res with
 | .error x=> .error x
 | .ok rs=> .ok (fp cs rs)
theorem vK {P:Program} {ops:Array Oper} {rest:List Oper} {o:Oper} {a:Act} {Q:Exit->Act->World->Prop} {t e:TypeId} {sz bytes:Nat} (T:eH P t e sz bytes) (hgd:o.guard=none) (s x:Operand)
  (ho:o.op= .call {callee:= .builtin .append,args:= #[s,x],argTypes:= #[t,t]}) (base:Nat) (v:Value) (n:Nat) (xs:List Value) (hs:a.eval s=v) (w0:World) (news:List Value) (e2:TypeId)
  (hx:a.eval x= .slice (some ⟨w0.heap.size,0,none⟩) 1 1) (hl:news.length=sz) (h1: ∀u∈news,u.oneCell'=true) (hown:w0.ownsRow base e sz v n xs) (h63:n+1<=maxLen) (hby:(n+1)*bytes<=140737488355328) (hbase:base<=w0.heap.size)
  (h: ∀v' w',w'.ownsRow base e sz v' (n+1) (xs++news)->w0.grownBy w' v.ownBlock->v'≠ .slice none 0 0->wpList P ops Q rest (a.put o.dst v') w'):wpList P ops Q (o::rest) a (w0.alloc (.cells news.toArray e2)):=by
 obtain⟨ht,⟨i,z,h11,h12,h13,h14,h15⟩,hpos,hsm⟩:=T;have hnews: ∀(j:Nat) u,news[j]? =some u->(w0.alloc (.cells news.toArray e2)).cell? ((⟨w0.heap.size,0,none⟩:Addr).add j)=some u:=by
  intro j u hj;rw[pN,Nat.zero_add];have hh:=heap_alloc_new w0 (.cells news.toArray e2);simp only[World.cell?,hh];simp[hj]
 have hl1:news.length=1*sz:=by rw[hl,Nat.one_mul]
 obtain⟨v',w',hr,h2,hg,hv⟩:=run_append_own (P:=P) (w0.alloc (.cells news.toArray e2)) base t o.type e i z sz bytes ht h11 h12 h13 h14 h15 hpos v n xs (hown.alloc _) ⟨w0.heap.size,0,none⟩ 1 1 news hl1 hnews h1 h63 hby (by simp; omega);refine wpList_plain hgd fun K hK=> ?_
 unfold Oper.wp execOp;simp only[ho,resolve,invoke,builtin,Sem.run_bind,Sem.run_pure,Result.andThen_ok,List.map_toArray,List.map_cons,List.map_nil,hs,hx,hr];refine hK _ _ (h v' w' h2 ⟨hg.os,hg.tape,hg.output,by have:=hg.size; simp at this; omega,fun k hk hne=> ?_⟩ (fun e=>by have:=(hv.1 e).2; omega));rw[hg.block k (by simp; omega) hne];exact Below.heap_alloc _ _ _ hk
theorem zj (cs:List (ByteArray×List UInt8)) (rs:List aV) (r:aV):fp cs (rs++[r])=if(ef cs r.name).isNone=true then fp cs rs++[r]else fp cs rs:=by
 unfold fp; rw[List.filter_append]
 by_cases h:(ef cs r.name).isNone=true<;> simp[List.filter,h]
theorem EW (cs:List (ByteArray×List UInt8)) (rs:List aV):(fp cs rs).length<=rs.length:=List.length_filter_le _ _
theorem vt (S:Nat->Prop) (cv:Value) (cs:List (ByteArray×List UInt8)) (n:Nat) (root:aV) (res:Except Int (List aV)) (w:World) (hc:cM S w cv cs) (henv:iV w) (hr:bK root)
  (hn:nE (fK cs) n root=some res) (hl: ∀p,fh (fK cs) n root ([],[])=some p->p.2.2.length<1099511627775) (hle: ∀rs,res= .ok rs->rs.length<1099511627775):
  Calls Tryz.prog 37 #[bU root,cv] w (uP (IF cs res) w):=by
 have hmf: ∀(fn:Fn) (first cap:Array Value) (w:World),(Instr.makeFunc fn first cap).run Tryz.prog w= .ok (.func fn first cap) w:=fun _ _ _ _=>rfl
 have HB0:=aa ((Below.refl w.heap.size w).alloc (Nat.le_refl _) (.cells #[.string root.name, .int .i64 root.gen, .int .i64 root.size] 26));have HC:=aa hc;have HI:=aa (fP.start (hc.below HB0.o) (henv.below HB0.o));have HR:=aa hr;have HN:=aa hn;have HL:=aa hl;unfold bU;clear hc henv hr hn hl
 go_enter Tryz.func37,Tryz.ntmps37
 go_wp2_with fail;refine(zL (fK cs) cv _ n root res _ fP.keep fP.pres HI.o HR.o HN.o HL.o).mono ?_;rintro e w1 ⟨hb1,hres⟩;have HB1:=aa (ab HB0.o hb1);clear hb1
 cases res with
 | error x=>
  obtain⟨rfl,hx⟩:=hres;have HX:=aa hx;have e1:(x != 0)=true:=by simp[hx]
  clear hx;go_wp2_with fail
  go_ret2
  exact⟨HB1.o,rfl,HX.o⟩
 | ok rs=>
  obtain⟨v,rfl,hv⟩:=hres;have hrl:=hle rs rfl;obtain⟨a,cap,rfl,hcp,hm,-⟩:=aU.shape hv lZ.len;unfold maxLen at hm;have HV:=aa hv;clear hv hle;go_wp2_with fail
  go_loopw [8,25] (fun o i wr=> ∃k:Nat,k<=rs.length/\i= .int .i64 k/\wr.ownsRow w1.heap.size 26 3 o (fp cs (rs.take k)).length ((fp cs (rs.take k)).flatMap dC)/\Below w1.heap.size w1 wr/\ ∀r∈fp cs (rs.take k),bK r) (fun _ i _=>rs.length-(intOf i).toNat)
  case atStart=>exact⟨0,Nat.zero_le _,rfl,World.ownsRow_nil _ _ _ _,Below.refl _ _,by simp[fp]⟩
  case round=>
   obtain⟨k,hk,rfl,hown,hb,hok⟩:=hrel;have HO:=aa hown;have HB:=aa hb;have HOK:=aa hok;obtain⟨ao,co,rfl,hn2,hm2⟩:=ai hown;have hlk0:=EW cs (rs.take k);rw[List.length_take]at hlk0;clear hown hb hok
   by_cases hlt:k<rs.length
   ·obtain⟨r,hr⟩: ∃r,rs[k]? =some r:=⟨rs[k],by simp[hlt]⟩;obtain⟨b,o,rfl,hrok,q0,q1,q2⟩:=jn HV.o HB.o hr;have HRO:=aa hrok;have HSN:=aa (show fp cs (rs.take (k+1))=if(ef cs r.name).isNone=true then fp cs (rs.take k)++[r]else fp cs (rs.take k) by rw[bS hr,zj]);have hnm:=hrok.nm;clear hr hrok
    go_upto_region 8 with(fail)
    obtain⟨W,hW⟩: ∃W:World,W=wr.alloc (.cells #[.string r.name, .int .i64 r.gen, .int .i64 r.size] 26):=⟨_,rfl⟩;rw[<-hW];have hbw:Below wr.heap.size wr W:=by rw[hW]; exact bH
    have HBX:=aa (show W.heap[wr.heap.size]? =some (.cells #[.string r.name, .int .i64 r.gen, .int .i64 r.size] 26 (0,0)) by rw[hW]; exact heap_alloc_new wr _);have HBW:=aa (ab HB.o hbw);have HOW:=aa (dU HO.o hbw);have HCW:=aa (HC.o.below (ab HB1.o HBW.o));have hz1:=HBW.o.size;obtain⟨p0,p1,p2,_⟩:=aj HBX.o;simp only[Nat.zero_add,Nat.reduceAdd]at p1 p2
    clear hW hbw q0 q1 q2
    cases hf:ef cs r.name with
    | none=>
     have hlk:=HCW.o.missM hnm hf;have HSN2:=aa (HSN.o.trans (if_pos (by rw[hf]; rfl)));clear hf hnm;go_wp2_with (at_builtin; go_must (refine vK Tryz.appRefs rfl _ _ rfl w1.heap.size (.slice ao (fp cs (rs.take k)).length co) (fp cs (rs.take k)).length ((fp cs (rs.take k)).flatMap dC) rfl W [.string r.name, .int .i64 r.gen, .int .i64 r.size] _ rfl rfl (lr (r:=r)) HOW.o (by unfold maxLen; omega) (by omega) hz1 ?_); intro v' wc hown' hgrow' _; have HB2:=aa (aF HBW.o HOW.o hgrow' (Nat.le_refl _) hz1); have HO2:=aa (show wc.ownsRow w1.heap.size 26 3 v' (fp cs (rs.take (k+1))).length ((fp cs (rs.take (k+1))).flatMap dC) by rw[HSN2.o,List.length_append,List.flatMap_append]; simpa [dC]using hown'); obtain⟨ae,ce,rfl,-,-⟩:=ai hown'; clear hown' hgrow')
     go_roundw
     case rel=>
      refine⟨k+1,by omega,by go_num,HO2.o,HB2.o, ?_⟩;rw[HSN2.o];intro x hx
      rcases List.mem_append.1 hx with hx | hx
      ·exact HOK.o x hx
      ·simp only[List.mem_singleton]at hx; subst hx; exact HRO.o
     case measure=>simp[intOf]; omega
    | some bs=>
     obtain⟨v,hlk,-⟩:=HCW.o.hitM hnm hf;have HSN2:=aa (HSN.o.trans (if_neg (by rw[hf]; simp)));clear hf hnm;go_wp2_with fail
     go_roundw
     case rel=>exact⟨k+1,by omega,by go_num,by rw[HSN2.o]; exact HOW.o,HBW.o,by rw[HSN2.o]; exact HOK.o⟩
     case measure=>simp[intOf]; omega
   ·obtain rfl:k=rs.length:=by omega
    have HTK:=aa (show fp cs (rs.take rs.length)=fp cs rs by rw[List.take_of_length_le (Nat.le_refl _)]);have hz:=HB1.o.size;go_wp2_with fail
    go_ret2
    refine⟨ab HB1.o HB.o, ?_⟩
    show ∃v,_/\bw _ _ v (fp cs rs)
    rw[<-HTK.o];exact⟨_,rfl,bw.same (kt HO.o HOK.o) (fun k _ hS=>⟨Nat.le_trans hz hS.1,rfl⟩)⟩
end Go.Proofs.YtpffpjbkbaleiaaGreatDoor
namespace Go.Proofs.YtpffpjbkbaleiaaGreatDoor
open Go.RowKit
def Gy (cs:List (ByteArray×List UInt8)) (miss:aV->Except Int (List aV)):Prop:= ∀(S:Nat->Prop) (cv:Value) (root:aV) (w:World),cM S w cv cs->iV w->bK root->Calls Tryz.prog 37 #[bU root,cv] w (uP (miss root) w)
open Go Go.RowKit Go.Maps
theorem zT {cs:List (ByteArray×List UInt8)} {r:aV} {l:List aI} (h:fK cs r= .ok l) {it:aI} (hit:it∈l): ∀c∈ld it,c∈mD cs:=by
 unfold fK at h
 cases hn:ey cs r with
 | error x=>
  rw[hn]at h;simp only at h
  split at h
  ·simp only[Except.ok.injEq]at h; subst h; simp at hit
  ·simp at h
 | ok l'=>
  rw[hn]at h;simp only[Except.ok.injEq]at h;subst h;exact zN hn hit
theorem rY {cs:List (ByteArray×List UInt8)} {U:List aV} (hU: ∀c∈mD cs,c∈U): ∀n,IC U (fh (fK cs) n) n
 | 0=>fun r st hr hi hn=>by
  have:=nI hi.e1 hi.e2;omega
 | n+1=>fun r st hr hi hn=>by
  have hm:su U (st.1,bB r st.2):=⟨hi.e1,hi.e2,lj hi.l1,fun x hx=>by
   rcases nC.1 hx with hx | rfl
   ·exact hi.l2 x hx
   ·exact hr⟩
  rw[fh]
  split
  ·exact⟨0,_,rfl,hm,Nat.le_refl _⟩
  ·rename_i hne;have he:su U (st.1++[r],bB r st.2):=⟨List.nodup_append.2 ⟨hi.e1,by simp,fun a ha b hb e=>by simp only[List.mem_singleton]at hb; subst hb e; exact hne ha⟩,fun x hx=>by
    rcases List.mem_append.1 hx with hx | hx
    ·exact hi.e2 x hx
    ·simp only[List.mem_singleton]at hx; subst hx; exact hr,hm.l1,hm.l2⟩
   cases hv:fK cs r with
   | error x=>exact⟨x,_,rfl,he,by simp⟩
   | ok l=>
    obtain⟨x,st',h1,h2,h3⟩:=mM (rY hU n) l (st.1++[r],bB r st.2) (fun it hit c hc=>hU c (zT hv hit c hc)) he (by simp; omega);exact⟨x,st',h1,h2,by simp at h3; omega⟩
theorem rB (cs:List (ByteArray×List UInt8)) (r:aV): ∃x st',fh (fK cs) (ph cs) r ([],[])=some (x,st')/\su (r::mD cs) st':=by
 obtain⟨x,st',h1,h2,_⟩:=rY (cs:=cs) (U:=r::mD cs) (fun c hc=>by simp[hc]) (ph cs) r ([],[]) (by simp) ⟨by simp,by simp,by simp,by simp⟩ (by simp[ph]);exact⟨x,st',h1,h2⟩
def BE (cs:List (ByteArray×List UInt8)) (r:aV):Except Int (List aV):=(nE (fK cs) (ph cs) r).getD (.error 0)
def Fi (cs:List (ByteArray×List UInt8)) (r:aV):Except Int (List aV):=IF cs (BE cs r)
theorem rA {cs:List (ByteArray×List UInt8)} (h:cs.length<=80) (r:aV):nE (fK cs) (ph cs) r=some (BE cs r)/\ ∀p,fh (fK cs) (ph cs) r ([],[])=some p->p.2.2.length<=1000000000:=by
 obtain⟨x,st',h1,h2⟩:=rB cs r;refine⟨?_,fun p hp=> ?_⟩
 ·unfold BE;have: ∃y,nE (fK cs) (ph cs) r=some y:=by
   unfold nE
   split
   ·rw[h1]; exact⟨_,rfl⟩
   ·exact⟨_,rfl⟩
  obtain⟨y,hy⟩:=this;rw[hy]; rfl
 ·rw[h1]at hp;simp only[Option.some.injEq]at hp;subst hp;have h3:=nI h2.l1 h2.l2;have h4:=Co (cs:=cs);have h5:cs.length*3948544<=80*3948544:=Nat.mul_le_mul_right _ h;simp only[List.length_cons]at h3;simp only;omega
theorem Fy {cs:List (ByteArray×List UInt8)} (h:cs.length<=80) {r:aV} {l:List aV} (hl:BE cs r= .ok l):l.length<=1000000000:=by
 obtain⟨h1,h2⟩:=rA h r;obtain⟨x,st',h3,_⟩:=rB cs r;have h4:=h2 _ h3;rw[hl]at h1;unfold nE at h1
 split at h1
 ·rw[h3]at h1;simp only[Option.map_some,Option.some.injEq]at h1
  split at h1
  ·simp only[Except.ok.injEq]at h1; subst h1; exact h4
  ·simp at h1
 ·simp at h1
theorem sF {cs:List (ByteArray×List UInt8)} (h:cs.length<=80):Gy cs (Fi cs):=fun S cv root w hc he hr=>by
 obtain⟨h1,h2⟩:=rA h root;exact vt S cv cs (ph cs) root _ w hc he hr h1 (fun p hp=>by have:=h2 p hp; omega) (fun rs hrs=>by have:=Fy h hrs; omega)
end Go.Proofs.YtpffpjbkbaleiaaGreatDoor
namespace Go.Proofs.YtpffpjbkbaleiaaGreatDoor
open Go.RowKit
def qT (c:UInt8):ByteArray:=⟨#[c,49,50,51,52,53,54,55,56,57,97,98,99,100,101,102,48,49,50,51,52,53,54,55,56,57,97,98,99,100,101,102]⟩
def dL :bn:=⟨qT 110,qT 115,qT 99,qT 105,qT 116⟩
def kU :cF:=⟨2,6,1,1,0⟩
def jo :List bo:=[⟨⟨#[97]⟩,1,0,0,[],⟨#[]⟩⟩,⟨⟨#[100]⟩,2,0,0,[],⟨#[]⟩⟩,⟨⟨#[100,47,108]⟩,3,5,6,[],⟨#[97]⟩⟩]
def me :List UInt8:=[1,1,108,3,5,6,1,97]
def lu :aV:=aE dL [] me
def nw :aI:=⟨⟨#[97]⟩,1,0,0,0,⟨#[]⟩,[],bG⟩
def Ea :aI:=⟨⟨#[100]⟩,2,0,0,0,⟨#[]⟩,[],lu⟩
def itL :aI:=⟨⟨#[108]⟩,3,5,6,0,⟨#[97]⟩,[],bG⟩
def ol :List UInt8:=cQ [nw,Ea]
def gP :aV:=aE dL [] ol
def qv :List (ByteArray×List UInt8):=[(gP.name,ol)]
theorem xj :dX dL=true:=by decide+kernel
theorem Bf :dV kU=true:=by decide+kernel
theorem Ga :cB jo=0:=by decide+kernel
theorem GN :cQ [itL]=me:=by decide+kernel
theorem Jd :cU jo ⟨#[]⟩=[⟨⟨#[97]⟩,1,0,0,[],⟨#[]⟩⟩,⟨⟨#[100]⟩,2,0,0,[],⟨#[]⟩⟩]:=by decide+kernel
theorem Je :cU jo ⟨#[100]⟩=[⟨⟨#[100,47,108]⟩,3,5,6,[],⟨#[97]⟩⟩]:=by decide+kernel
theorem Jb :dT [0]=some []:=by kernel_rfl
theorem vn0 :eq []=true:=by decide+kernel
theorem vnL :eq [itL]=true:=by decide+kernel
theorem vnT :eq [nw,Ea]=true:=by decide+kernel
theorem JJ :lu≠gP:=by decide+kernel
theorem Jk :lu.name≠gP.name:=by decide+kernel
theorem JN (n:Nat):cO dL [] kU [] (n+1) ⟨#[]⟩= .ok ([0],[[0]]):=by
 rw[cO,show cV dL [] kU (cO dL [] kU [] n) ⟨#[]⟩ (cU [] ⟨#[]⟩) [] []= .ok ([],[])from rfl];simp only[if_pos vn0];rw[if_pos (show(cQ []).length<=32768 by decide)]
 rfl
theorem JS :bP dL [] [[0]] []=[⟨aE dL [] [0],[0]⟩]:=by
 show gJ dL [] [] [0]=_
 unfold gJ;rw[if_neg (by simp),List.nil_append]
theorem IU :cj dL kU [] []= .ok (aE dL [] [0],[⟨aE dL [] [0],[0]⟩]):=by
 unfold cj;rw[if_pos ⟨xj,Bf⟩,if_pos (show([]:List (ByteArray×Int)).all (fun p=>decide (0<=p.2) && decide (p.2<=1099511627776))=true from rfl),if_pos (show cB []=0 from rfl),JN 513]
 dsimp only
 rw[JS]
theorem JI :bP dL [] [me,ol] []=[⟨lu,me⟩,⟨gP,ol⟩]:=by
 unfold bP;rw[List.foldl_cons,List.foldl_cons,List.foldl_nil];have h1:gJ dL [] [] me=[⟨lu,me⟩]:=by
  unfold gJ;rw[if_neg (by simp),List.nil_append]
  rfl
 rw[h1];unfold gJ;rw[if_neg]
 ·rfl
 ·intro h;simp only[List.map_cons,List.map_nil,List.mem_singleton]at h;exact JJ h.symm
theorem JO (n:Nat):cO dL [] kU jo (n+1) ⟨#[100]⟩= .ok (me,[me]):=by
 have h:cV dL [] kU (cO dL [] kU jo n) ⟨#[100]⟩ (cU jo ⟨#[100]⟩) [] []= .ok ([itL],[]):=by
  rw[Je]; rfl
 rw[cO,h];simp only[if_pos vnL,GN]
 rfl
theorem JP (n:Nat):cO dL [] kU jo (n+2) ⟨#[]⟩= .ok (ol,[me,ol]):=by
 have h:cV dL [] kU (cO dL [] kU jo (n+1)) ⟨#[]⟩ (cU jo ⟨#[]⟩) [] []= .ok ([nw,Ea],[me]):=by
  rw[Jd];rw[tP (by rfl),qV (by rfl),show cO dL [] kU jo (n+1) ⟨#[100]⟩= .ok (me,[me])from JO n]
  rfl
 rw[cO,h];simp only[if_pos vnT];rw[if_pos (show(cQ [nw,Ea]).length<=32768 by decide+kernel)]
 rfl
theorem IV :cj dL kU jo []= .ok (gP,[⟨lu,me⟩,⟨gP,ol⟩]):=by
 unfold cj;rw[if_pos ⟨xj,Bf⟩,if_pos (by rfl),if_pos Ga,show(514:Nat)=512+2 from rfl,JP 512]
 show Except.ok (gP,bP dL [] [me,ol] [])=_
 rw[JI]
theorem Jc :dT ol=some [nw,Ea]:=by kernel_rfl
theorem JR :((ol.length:Nat):Int)=gP.size:=by kernel_rfl
theorem Fp :ey qv gP= .ok [nw,Ea]:=by
 have h:eF qv gP= .ok ol:=by
  unfold eF qv;rw[ef,if_pos rfl]
  show(if((ol.length:Nat):Int)=gP.size then Except.ok ol else .error 9)=_
  rw[if_pos JR]
 unfold ey;rw[h];simp only[Jc]
theorem IG :ey qv lu= .error 10:=by
 have h:eF qv lu= .error 10:=by
  unfold eF qv;rw[ef,if_neg (fun e=>Jk e.symm),ef]
 unfold ey;rw[h]
theorem Ge :gL gP=true:=by decide+kernel
theorem JB (n:Nat):ff qv (dM qv (n+1)) ⟨#[]⟩ [nw,Ea] []=(10,[⟨⟨#[97]⟩,1,0,0,[],⟨#[]⟩⟩,⟨⟨#[100]⟩,2,0,0,[],⟨#[]⟩⟩]):=by
 rw[mU (p:=⟨#[97]⟩) (bs:=[]) rfl (by decide+kernel) (by decide) rfl rfl,oJ (p:=⟨#[100]⟩) rfl (by decide+kernel) (by decide) rfl];have h1: ∀X,dM qv (n+1) ⟨#[100]⟩ Ea.node X=(10,X):=fun X=>by
  rw[dM,show Ea.node=lu from rfl,IG]
 rw[h1]
 rfl
theorem JC (n:Nat):dM qv (n+2) ⟨#[]⟩ gP []=(10,[⟨⟨#[97]⟩,1,0,0,[],⟨#[]⟩⟩,⟨⟨#[100]⟩,2,0,0,[],⟨#[]⟩⟩]):=by
 rw[dM,Fp];exact JB n
theorem JA :pp qv gP= .error 10:=by
 unfold pp;rw[if_pos Ge,show(514:Nat)=512+2 from rfl,JC 512]
 rfl
theorem JD :fq qv gP ⟨#[97]⟩= .ok nw:=by
 unfold fq;rw[if_pos ⟨by decide+kernel,Ge⟩,show ei (bl ⟨#[97]⟩)=[⟨#[97]⟩] by decide+kernel];rw[jK,if_pos (show(ig gP).kind=2 from rfl),show(ig gP).node=gP from rfl,Fp]
 rfl
theorem Jg :fq qv gP ⟨#[100,47,108]⟩= .error 10:=by
 unfold fq;rw[if_pos ⟨by decide+kernel,Ge⟩,show ei (bl ⟨#[100,47,108]⟩)=[⟨#[100]⟩,⟨#[108]⟩] by decide+kernel];rw[jK,if_pos (show(ig gP).kind=2 from rfl),show(ig gP).node=gP from rfl,Fp]
 show jK qv [⟨#[108]⟩] Ea=_
 rw[jK,if_pos (show Ea.kind=2 from rfl),show Ea.node=lu from rfl,IG]
theorem JE :Fi qv gP= .ok [lu]:=by kernel_rfl
open Go Go.RowKit Go.Maps
theorem jg {tree:List bo} {j:Nat} {e:bo} (h:tree[j]? =some e) (d:ByteArray):cU (tree.take (j+1)) d=cU (tree.take j) d++(if aH (bl e.path)=bl d then [e]else []):=by
 unfold cU;rw[bS h,List.filter_append]
 congr 1
 by_cases hp:aH (bl e.path)=bl d
 ·simp[hp]
 ·simp[hp]
theorem pd {G:List vL} {d:ByteArray} (h:G.find? (fun g=>decide (g.dir=d))=none):gu G d=[]:=by unfold gu; rw[h]
theorem jb {G:List vL} {d:ByteArray} {g:vL} (h:G.find? (fun g=>decide (g.dir=d))=some g):gu G d=g.ents.map Prod.snd:=by unfold gu; rw[h]
theorem pf {A B:List vL} {g g':vL} (hd:g'.dir=g.dir) (hA: ∀x∈A,x.dir≠g.dir) (d:ByteArray):gu (A++g'::B) d=if g.dir=d then g'.ents.map Prod.snd else gu (A++g::B) d:=by
 by_cases h:g.dir=d
 ·rw[if_pos h];refine jb ?_;rw[List.find?_append,List.find?_eq_none.2 (fun x hx=>by rw[decide_eq_true_eq]; intro e; exact hA x hx (e.trans h.symm))];simp[hd,h]
 ·rw[if_neg h];unfold gu;rw[List.find?_append,List.find?_append,List.find?_cons,List.find?_cons,decide_eq_false (show ¬g'.dir=d by rw[hd]; exact h),decide_eq_false h]
theorem qI {G:List vL} {g:vL} (h:G.find? (fun x=>decide (x.dir=g.dir))=none) (d:ByteArray):gu (G++[g]) d=if g.dir=d then g.ents.map Prod.snd else gu G d:=by
 by_cases hd:g.dir=d
 ·rw[if_pos hd];refine jb ?_;rw[<-hd,List.find?_append,h];simp
 ·rw[if_neg hd];unfold gu;rw[List.find?_append]
  cases G.find? (fun x=>decide (x.dir=d))with
  | none=>simp[hd]
  | some x=>simp
section
variable {w w1 w2 : World} {base im : Nat} {A B G : List vL} {g : vL} {v' : Value} {y : jX} {q : ByteArray}
theorem kP.over (h:kP w base im (A++g::B)) (hb:base<=im) (hd:bO (· <base) w y.1 y.2.data/\gR y.2) (hown:w1.ownsRow base 79 6 v' (g.ents.length+1) (dJ g.ents++qF y.1 y.2)) (hg:w.grownBy w1 g.val.ownBlock) (hpl: ∀i,v'.ownBlock=some i->g.val.ownBlock=some i\/w.heap.size<=i)
  (hm:dw Tryz.prog 9 w2 im (A.map iH++(.string g.dir,v')::B.map iH)) (hg2:w1.grownBy w2 (some im)):kP w2 base im (A++⟨g.dir,v',g.ents++[y]⟩::B):=by
 have hgo:w.ownsRow base 79 6 g.val g.ents.length (dJ g.ents):=h.own g (by simp);have him:w.heap[im]? =w1.heap[im]? ->True:=fun _=>trivial
 have hmc: ∀ {u:Value} {n:Nat} {xs:List Value} {t:TypeId} {sz:Nat},w1.ownsRow base t sz u n xs->w2.ownsRow base t sz u n xs:=fun {u n xs t sz} hr=>by
  refine hr.kept hg2 (.inr (fun e=> ?_));obtain⟨cs,hc⟩:=au hr e;have h0:=h.map.lt;have hi:w1.heap[im]? =w.heap[im]? :=hg.block im h0 (fun e2=>by
   obtain⟨cs2,hc2⟩:=au hgo e2.symm;exact h.map.ncells hc2)
  exact h.map.ncells (hi.symm.trans hc)
 have hoth: ∀x,x∈A\/x∈B-> ∀i,x.val.ownBlock=some i->g.val.ownBlock≠some i:=by
  intro x hx i hi;have hp:=List.pairwise_append.1 h.apart
  rcases hx with hx | hx
  ·exact hp.2.2 x hx g (by simp) i hi
  ·intro e;exact(List.pairwise_cons.1 hp.2.1).1 x hx i e hi
 have hdat: ∀ {u:Value} {bs:List UInt8},bO (· <base) w u bs->bO (· <base) w2 u bs:=fun {u bs} hu=>by
  refine aL.same hu (fun i hi=>(hg2.block i ?_ ?_).trans (hg.block i ?_ ?_))
  ·by_cases hlt:i<w.heap.size
   ·exact Nat.lt_of_lt_of_le hlt hg.size
   ·exact absurd h.map.lt (by omega)
  ·intro e;have:i=im:=by simpa using e
   omega
  ·have:=h.map.lt;omega
  ·intro e;have:=(hgo.lt i e.symm).1;omega
 have hmem: ∀x,x∈A++g::B->(x∈A\/x∈B)\/x=g:=by
  intro x hx;simp only[List.mem_append,List.mem_cons]at hx
  rcases hx with hx | hx | hx
  ·exact .inl (.inl hx)
  ·exact .inr hx
  ·exact .inl (.inr hx)
 refine⟨by simpa [iH]using hm,fun x hx=> ?_,fun x hx z hz=> ?_, ?_,fun x hx=> ?_⟩
 ·simp only[List.mem_append,List.mem_cons]at hx
  rcases hx with hx | hx | hx
  ·refine hmc ((h.own x (by simp[hx])).kept hg ?_)
   cases hv:x.val.ownBlock with
   | none=>exact .inl rfl
   | some i=>exact .inr (fun e=>hoth x (.inl hx) i hv e.symm)
  ·subst hx;simp only;rw[List.length_append,List.length_singleton,qH];exact hmc hown
  ·refine hmc ((h.own x (by simp[hx])).kept hg ?_)
   cases hv:x.val.ownBlock with
   | none=>exact .inl rfl
   | some i=>exact .inr (fun e=>hoth x (.inr hx) i hv e.symm)
 ·simp only[List.mem_append,List.mem_cons]at hx
  rcases hx with hx | hx | hx
  ·have:=h.dat x (by simp[hx]) z hz;exact⟨hdat this.1,this.2⟩
  ·subst hx
   rcases List.mem_append.1 hz with hz | hz
   ·have:=h.dat g (by simp) z hz;exact⟨hdat this.1,this.2⟩
   ·rw[List.mem_singleton]at hz;subst hz;exact⟨hdat hd.1,hd.2⟩
  ·have:=h.dat x (by simp[hx]) z hz;exact⟨hdat this.1,this.2⟩
 ·have hp:=List.pairwise_append.1 h.apart;have hc:=List.pairwise_cons.1 hp.2.1;have hlow: ∀x,x∈A\/x∈B-> ∀i,x.val.ownBlock=some i->i<w.heap.size:=by
   intro x hx i hi;have hx2:x∈A++g::B:=by rcases hx with hx | hx<;> simp[hx]
   exact((h.own x hx2).lt i hi).2
  refine List.pairwise_append.2 ⟨hp.1,List.pairwise_cons.2 ⟨fun x hx i hi e=> ?_,hc.2⟩,fun x hx z hz i hi e=> ?_⟩
  ·rcases hpl i hi with h2 | h2
   ·exact hc.1 x hx i h2 e
   ·have:=hlow x (.inr hx) i e;omega
  ·rcases List.mem_cons.1 hz with hz | hz
   ·subst hz
    rcases hpl i e with h2 | h2
    ·exact hoth x (.inl hx) i hi h2
    ·have:=hlow x (.inl hx) i hi;omega
   ·exact hp.2.2 x hx z (by simp[hz]) i hi e
 ·simp only[List.mem_append,List.mem_cons]at hx
  rcases hx with hx | hx | hx
  ·exact h.key x (by simp[hx])
  ·subst hx;exact h.key g (by simp)
  ·exact h.key x (by simp[hx])
theorem kP.new (h:kP w base im G) (hb:base<=im) (hq:q.size<=maxLen) (hd:bO (· <base) w y.1 y.2.data/\gR y.2) (hown:w1.ownsRow base 79 6 v' 1 (qF y.1 y.2)) (hg:w.grownBy w1 none) (hpl: ∀i,v'.ownBlock=some i->w.heap.size<=i)
  (hm:dw Tryz.prog 9 w2 im (G.map iH++[(.string q,v')])) (hg2:w1.grownBy w2 (some im)):kP w2 base im (G++[⟨q,v',[y]⟩]):=by
 have hmc: ∀ {u:Value} {n:Nat} {xs:List Value} {t:TypeId} {sz:Nat},w1.ownsRow base t sz u n xs->w2.ownsRow base t sz u n xs:=fun {u n xs t sz} hr=>by
  refine hr.kept hg2 (.inr (fun e=> ?_));obtain⟨cs,hc⟩:=au hr e;have h0:=h.map.lt;have hi:w1.heap[im]? =w.heap[im]? :=hg.block im h0 (by simp);exact h.map.ncells (hi.symm.trans hc)
 have hdat: ∀ {u:Value} {bs:List UInt8},bO (· <base) w u bs->bO (· <base) w2 u bs:=fun {u bs} hu=>by
  have h0:=h.map.lt;refine aL.same hu (fun i hi=>(hg2.block i ?_ ?_).trans (hg.block i ?_ (by simp)))
  ·have:=hg.size;omega
  ·intro e;have:i=im:=by simpa using e
   omega
  ·skip
   omega
 refine⟨by simpa [iH]using hm,fun x hx=> ?_,fun x hx z hz=> ?_,List.pairwise_append.2 ⟨h.apart,by simp,fun x hx z hz i hi e=> ?_⟩,fun x hx=> ?_⟩
 ·rcases List.mem_append.1 hx with hx | hx
  ·exact hmc ((h.own x hx).kept hg (by cases hv:x.val.ownBlock<;> simp))
  ·rw[List.mem_singleton]at hx;subst hx
   simpa [dJ]using hmc hown
 ·rcases List.mem_append.1 hx with hx | hx
  ·have:=h.dat x hx z hz;exact⟨hdat this.1,this.2⟩
  ·rw[List.mem_singleton]at hx;subst hx;simp only[List.mem_singleton]at hz;subst hz;exact⟨hdat hd.1,hd.2⟩
 ·rw[List.mem_singleton]at hz;subst hz;have h1:=hpl i e;have h2:=((h.own x hx).lt i hi).2;omega
 ·rcases List.mem_append.1 hx with hx | hx
  ·exact h.key x hx
  ·rw[List.mem_singleton]at hx;subst hx;exact hq
end
def BX (k:bn) (gs:List (ByteArray×Int)) (c:cF) (tree:List bo):List aV:=
 (tree.flatMap fun e=>(cN c e.data).map (aE k gs))++(List.range 515).flatMap fun n=>(⟨#[]⟩::tree.map bo.path).flatMap fun d=>match cO k gs c tree n d with
  | .ok p=>[aE k gs p.1]
  | .error _=>[]
theorem AU {k:bn} {gs:List (ByteArray×Int)} {c:cF} {tree:List bo} (hc:dV c=true) (hl:tree.length<=4096) (hv: ∀e∈tree,dd e=true):(BX k gs c tree).length<=100000000000:=by
 have h1:=gE (fun e:bo=>(cN c e.data).map (aE k gs)) 1048576 tree (fun e he=>by
  rw[List.length_map];have:=vh hc e.data;have:=(gt (hv e he)).2.2
  omega)
 have h2:=gE (fun n:Nat=>(⟨#[]⟩::tree.map bo.path).flatMap fun d=>match cO k gs c tree n d with
  | .ok p=>[aE k gs p.1]
  | .error _=>[]) 4097 (List.range 515) (fun n _=>by
   have h3:=gE (fun d=>match cO k gs c tree n d with
    | .ok p=>[aE k gs p.1]
    | .error _=>[]) 1 (⟨#[]⟩::tree.map bo.path) (fun d _=>by
     cases cO k gs c tree n d<;> simp)
   simp only[List.length_cons,List.length_map]at h3
   omega)
 rw[List.length_range]at h2;have h4:tree.length*1048576<=4096*1048576:=Nat.mul_le_mul_right _ hl;unfold BX;rw[List.length_append];omega
theorem AV {k:bn} {gs:List (ByteArray×Int)} {c:cF} {tree:List bo} : ∀e∈tree,∀y∈cN c e.data,aE k gs y∈BX k gs c tree:=fun e he y hy=>
 List.mem_append.2 (.inl (List.mem_flatMap.2 ⟨e,he,List.mem_map.2 ⟨y,hy,rfl⟩⟩))
theorem AW {k:bn} {gs:List (ByteArray×Int)} {c:cF} {tree:List bo} : ∀(n:Nat) (d:ByteArray) (p:List UInt8×List (List UInt8)),n<=514->(d.size=0\/ ∃e∈tree,e.path=d)->cO k gs c tree n d= .ok p->aE k gs p.1∈BX k gs c tree:=fun n d p hn hd hp=>by
 refine List.mem_append.2 (.inr (List.mem_flatMap.2 ⟨n,List.mem_range.2 (by omega),List.mem_flatMap.2 ⟨d, ?_, ?_⟩⟩))
 ·rcases hd with hd | ⟨e,he,rfl⟩
  ·have:d=⟨#[]⟩:=by
    apply fE
    exact List.eq_nil_of_length_eq_zero (by rw[<-am]; exact hd)
   simp[this]
  ·exact List.mem_cons_of_mem _ (List.mem_map.2 ⟨e,he,rfl⟩)
 ·rw[hp]; simp
end Go.Proofs.YtpffpjbkbaleiaaGreatDoor
