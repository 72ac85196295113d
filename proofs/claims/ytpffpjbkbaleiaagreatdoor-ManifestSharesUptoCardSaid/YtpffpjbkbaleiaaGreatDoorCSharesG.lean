/- Texts of this proof, one after the other: BldC, BldD, BldE, AwP, BldF, BldG, AwQ, R3D, R5, R11. -/
import Derived.Test.YtpffpjbkbaleiaaGreatDoorCSharesF
set_option maxRecDepth 100000
set_option maxHeartbeats 8000000
namespace Go.Proofs.YtpffpjbkbaleiaaGreatDoor
section
open Go Go.RowKit Go.Maps
theorem gX {w w':World} {B B' sz sz' n n':Nat} {t t':TypeId} {u r:Value} {xs xs':List Value} (h:w.ownsRow B t sz u n xs) (ho:w.ownsRow B' t' sz' r n' xs') (hg:w.grownBy w' r.ownBlock) (ht:t≠t'):w'.ownsRow B t sz u n xs:=
 fj h (fun k hk hu=>hg.block k hk (fun e=>by obtain⟨cs,hc⟩:=bK h hu;obtain⟨cs2,hc2⟩:=bK ho e.symm;exact ht (bU hc hc2)))
theorem ju.row {w w':World} {base bb im kb B sz n:Nat} {k:dq} {c:fQ} {gv v v' u:Value} {bs:List cQ} {t:TypeId} {xs:List Value} (h:kP w base bb k c gv im kb v bs) (hk:ju base bb kb v v' w w') (hr:w.ownsRow B t sz u n xs) (h1:t≠122) (h2:t≠53):w'.ownsRow B t sz u n xs:=
 fj hr (fun i hi hu=>by
  obtain⟨cs,hc⟩:=bK hr hu;refine hk.same i hi (fun e=> ?_) (fun e=> ?_) (fun e=> ?_)
  ·subst e; exact h1 (bU hc h.box)
  ·subst e; exact h.known.cells hc
  ·obtain⟨zs,_,ho,_⟩:=h.own;obtain⟨cs2,hc2⟩:=bK ho e;exact h2 (bU hc hc2))
theorem kP.otherRow {w w':World} {base bb im kb B sz n:Nat} {k:dq} {c:fQ} {gv v r:Value} {bs:List cQ} {t:TypeId} {xs:List Value} (h:kP w base bb k c gv im kb v bs) (hr:w.ownsRow B t sz r n xs) (hg:w.grownBy w' r.ownBlock) (h1:t≠122) (h2:t≠53) (h3:t≠5):kP w' base bb k c gv im kb v bs:=by
 obtain⟨zs,hz,ho,hd⟩:=h.own;refine⟨(hg.block bb (am h.box) (fun e=> ?_)).trans h.box,⟨zs,hz,gX ho hr hg (fun e=>h2 e.symm),fun z hz=>gX (hd z hz) hr hg (fun e=>h3 e.symm)⟩,h.known.same (hg.block kb h.known.map.lt (fun e=> ?_))⟩
 ·obtain⟨cs,hc⟩:=bK hr e.symm;exact h1 (bU hc h.box)
 ·obtain⟨cs,hc⟩:=bK hr e.symm;exact h.known.cells hc
theorem ju.otherRow {w0 w w':World} {base bb kb B sz n:Nat} {v v' r:Value} {t:TypeId} {xs:List Value} (h:ju base bb kb v v' w0 w) (hr:w.ownsRow B t sz r n xs) (hg:w.grownBy w' r.ownBlock) (hB:w0.heap.size<=B) (hbz:base<=w0.heap.size):ju base bb kb v v' w0 w':=
 ⟨h.below.grown hg (an hbz h.below.size) (fun i hi=>an (an hbz hB) (hr.lt i hi).1),fun i h1 h2 h3 h4=>(hg.block i (aO h1 h.below.size) (fun e=>by have:=(hr.lt i e.symm).1; omega)).trans (h.same i h1 h2 h3 h4),h.place⟩
theorem Kz (d p:ByteArray):Lib.trimPrefix (p.extract d.size p.size).data.toList [47]=mV (bl d) (bl p):=by
 have e:(p.extract d.size p.size).data.toList=(bl p).drop (bl d).length:=by rw[Lib.extract_data,<-bi];exact bo (by rw[bz,bi]; exact ah _)
 rw[e];unfold mV Lib.trimPrefix Lib.hasPrefix
 cases hd:(bl p).drop (bl d).length with
 | nil=>simp
 | cons y ys=>
  by_cases hy:y=47
  ·subst hy; simp
  ·simp[hy];intro h; exact absurd h.symm hy
theorem DQ (d p:ByteArray) (w:World) (h:d.size<=p.size):Calls Tryz.prog 121 #[.string d, .string p] w fun e w'=>e= .returned (.string ⟨(mV (bl d) (bl p)).toArray⟩)/\w=w':=by
 go_enter Tryz.func121,Tryz.ntmps121
 go_wp2_with fail;refine(Tryz.strings_TrimPrefix _ _ w).mono ?_;rintro e w' ⟨rfl,rfl⟩;rw[Kz d p];obtain⟨q,hq⟩:=bH (mV (bl d) (bl p));rw[<-hq];have HQ:=ag hq;clear hq;go_wp2_with fail;go_ret;obtain rfl:=HQ.o;exact⟨rfl,rfl⟩
structure LP (w : World) (base bb im kb B : Nat) (k : dq) (c : fQ) (gv v pv : Value) (ys : List (Value × List UInt8)) (wr : World) (v2 rv : Value) (bs2 : List cQ) (rs : List bY) : Prop where
 bd:kP wr base bb k c gv im kb v2 bs2
 kp:ju base bb kb v v2 w wr
 row:wr.ownsRow w.heap.size 26 3 rv rs.length (rs.flatMap jt)
 pcs:wr.ownsRow B 29 1 pv ys.length (ys.map Prod.fst)/\ ∀y∈ys,wr.ownsRow B 5 1 y.1 y.2.length (y.2.map aZ)
section
variable {w wr w' : World} {base bb im kb B : Nat} {k : dq} {c : fQ} {gv v pv v2 v3 rv : Value} {ys : List (Value × List UInt8)} {bs2 bs3 : List cQ} {rs : List bY}
theorem LP.step (h:LP w base bb im kb B k c gv v pv ys wr v2 rv bs2 rs) (h1:kP w' base bb k c gv im kb v3 bs3) (h2:ju base bb kb v2 v3 wr w'):LP w base bb im kb B k c gv v pv ys w' v3 rv bs3 rs:=
 ⟨h1,h.kp.trans h2,h2.row h.bd h.row (by decide) (by decide),h2.row h.bd h.pcs.1 (by decide) (by decide),fun y hy=>h2.row h.bd (h.pcs.2 y hy) (by decide) (by decide)⟩
theorem LP.below (h:LP w base bb im kb B k c gv v pv ys wr v2 rv bs2 rs) (hb:Below wr.heap.size wr w') (hbz:base<=wr.heap.size):LP w base bb im kb B k c gv v pv ys w' v2 rv bs2 rs:=
 h.step (h.bd.below hb) (ju.ofBelow hb hbz)
theorem LP.push {rv':Value} {r:bY} (h:LP w base bb im kb B k c gv v pv ys wr v2 rv bs2 rs) (hown:w'.ownsRow w.heap.size 26 3 rv' (rs.length+1) (rs.flatMap jt++jt r)) (hg:wr.grownBy w' rv.ownBlock) (hbz:base<=w.heap.size):LP w base bb im kb B k c gv v pv ys w' v2 rv' bs2 (rs++[r]):=
 ⟨h.bd.otherRow h.row hg (by decide) (by decide) (by decide),h.kp.otherRow h.row hg (ah _) hbz,by rw[ai,bV]; simpa using hown,gX h.pcs.1 h.row hg (by decide),fun y hy=>gX (h.pcs.2 y hy) h.row hg (by decide)⟩
end
def QU (base bb im kb:Nat) (k:dq) (c:fQ) (gs:List (ByteArray×Int)) (gv v:Value) (bs:List cQ) (x:List UInt8) (w:World) (e:Ending) (w':World):Prop:=
 ∃rv v',e= .returned (.tuple #[rv, .int .i64 0])/\w'.ownsRow w.heap.size 26 3 rv ((gK c x).map (bF k gs)).length (((gK c x).map (bF k gs)).flatMap jt)/\kP w' base bb k c gv im kb v' (dR k gs (gK c x) bs)/\ju base bb kb v v' w w'
theorem PH (k:dq) (gs:List (ByteArray×Int)) (bs:List cQ) (x:List UInt8):(kh k gs bs x).length<=bs.length+1:=by
 unfold kh
 split
 ·omega
 ·simp
theorem pB (k:dq) (gs:List (ByteArray×Int)): ∀(cs:List (List UInt8)) (bs:List cQ),(dR k gs cs bs).length<=bs.length+cs.length
 | [],bs=>ah _
 | x::cs,bs=>by
  have h1:=pB k gs cs (kh k gs bs x);have h2:=PH k gs bs x
  show(dR k gs cs (kh k gs bs x)).length<=_
  rw[ay]; omega
theorem CD {k:dq} {gs:List (ByteArray×Int)} {cs:List (List UInt8)} {bs:List cQ} {j:Nat} {x:List UInt8} (h:cs[j]? =some x):dR k gs (cs.take (j+1)) bs=kh k gs (dR k gs (cs.take j) bs) x:=by rw[dC h,jF]; rfl
theorem BL {c:fQ} (hc:jT c=true) (x:List UInt8): ∀y∈gK c x,1<=y.length/\y.length<=32768:=by have hv:=mf.1 hc;intro y hy;have:=AN (mx:=c.mx.toNat) (by omega) (pH) y hy;omega
theorem JA (S:Nat->Prop) (base bb kb im:Nat) (k:dq) (c:fQ) (gs:List (ByteArray×Int)) (gv v cv:Value) (bs:List cQ) (x:List UInt8) (w:World) (h:kP w base bb k c gv im kb v bs) (hk:jK k=true) (hc:jT c=true) (hsd:c.seed<18446744073709551616) (hg:ld (· <base) w gv gs) (hgs: ∀p∈gs,0<=p.2/\p.2<=1099511627776)
  (hx:bB S w cv x) (hl:x.length<=1048576) (hE:rZ w) (hbb:base<=bb) (hkb:base<=kb) (hbz:base<=w.heap.size) (h7:7<=base) (hn:bs.length+(gK c x).length<1000000000000):
  Calls Tryz.prog 122 #[.pointer (some ⟨bb,0,none⟩),cv] w (QU base bb im kb k c gs gv v bs x w):=by
 have HH:=ag h;have HK:=ag hk;have HG:=ag hg;have hX:=ag hgs;have HE:=ag hE;have hW:=ag (BL hc x);have hF:=wQ S c x cv w hc hsd hx hl hE.deb;obtain⟨L,hL⟩:=bH (gK c x);have HL:=ag hL;rw[<-hL]at hn;unfold gK at hL;rw[<-hL]at hF;unfold kB at hF;have h0:=ag hF;have ha:=ag h.box;have k5:=ar (k:=5) ha.o;have k6:=ar (k:=6) ha.o
 have k7:=ar (k:=7) ha.o;have k8:=ar (k:=8) ha.o;have k9:=ar (k:=9) ha.o;simp only[nB,eW,gx,aK,aJ,fV]at k5 k6 k7 k8 k9;clear h hk hg hgs hx hE hL hF
 go_enter Tryz.func122,Tryz.ntmps122
 go_wp2_with fail;refine h0.o.mono ?_;rintro e w1 ⟨pv,rfl,⟨ys,hM,hq,hw⟩,hC⟩;have Hj:=ag hC;obtain⟨pa,pc,rfl,Hc,He⟩:=aH hq;unfold maxLen at He;have h4:=ag hM;have hN:=ag (show LP w base bb im kb w.heap.size k c gv v (.slice pa ys.length pc) ys w1 v (.slice none 0 0) bs []from⟨HH.o.below hC,ju.ofBelow hC hbz,bN _ _ _ _,hq,hw⟩)
 obtain⟨m,hm⟩:=bH ys.length;rw[<-hm]at hN Hc ⊢;have HM:=ag hm;have hO:=ag (show m=L.length by rw[hm,<-hM,aw]);clear hC hq hw hM hm k5 k6 k7 k8 k9;go_wp2_with fail
 go_loopw [8,27] (fun rv i wr=> ∃(j:Nat) (v2:Value),j<=m/\i= .int .i64 (j:Int)/\LP w base bb im kb w.heap.size k c gv v (.slice pa m pc) ys wr v2 rv (dR k gs (L.take j) bs) ((L.take j).map (bF k gs))) (fun _ i _=>m-(intOf i).toNat)
 ·exact⟨0,v,aR _,rfl,hN.o⟩
 ·obtain⟨j,v2,hj,rfl,hy⟩:=hrel;have hf:=ag hy;obtain⟨rs,hD⟩:=bH ((L.take j).map (bF k gs));rw[<-hD]at hy;obtain⟨ra,rc,Hh,-,-⟩:=aH hy.row;subst Hh;have hf:=ag hy;have hP:=ag hD;have Hg:rs.length<=j:=by rw[hD,aw,aW]; omega
  clear hy hD
  by_cases Hb:j<m
  ·obtain⟨⟨yv,yb⟩,hG⟩: ∃yp,ys[j]? =some yp:=⟨ys[j]'(by rw[<-HM.o]; exact Hb),by simp⟩;have hA:=ag (show L[j]? =some yb by rw[<-h4.o,bm,hG]; rfl);obtain⟨_,pa',pc',Hd,_,_,hS⟩:=cK hf.o.pcs.1
   cases Hd
   obtain⟨pb,po,rfl,-,he⟩:=hS.resolve_left (by omega);have q0:=he j yv (by rw[bm,hG]; rfl);have hp:=hf.o.pcs.2 (yv,yb) (aM hG);obtain⟨ya,yc,hU,-,-⟩:=aH hp;simp only at hU;subst hU;have hT:=hW.o yb (by rw[<-HL.o]; exact aM hA.o);have h9:=pB k gs (L.take j) bs;have hI:(L.take j).length<=L.length:=by rw[aW]; omega
   have hu:=Ie (fun _=>True) base bb kb im k c gs gv v2 (.slice ya yb.length yc) (dR k gs (L.take j) bs) yb wr hf.o.bd HK.o (HG.o.keep (fun i h1 _=>hf.o.kp.below.block i h1)) hX.o
    (bX.weak (cK hp) (fun _ _=>trivial)) hT.2 (HE.o.keep hf.o.kp.below h7) hbb hkb (an hbz hf.o.kp.below.size) h7 (by omega)
   unfold EW eC at hu;rw[<-CD hA.o]at hu;obtain⟨r,hr⟩:=bH (bF k gs yb);rw[<-hr]at hu;have hZ:=ag hr;have hV:=ag hu;obtain⟨rn,hJ⟩:=bH rs.length;rw[<-hJ]at Hg ⊢;have ho:=ag hJ;clear hG hS he hp hT h9 hI hu hr hJ;go_wp2_with fail;refine hV.o.mono ?_;rintro e w3 ⟨rfl,v3,hv,hz⟩;have hs:=ag (hf.o.step hv hz);have h8:=ag (show base<=w3.heap.size from an hbz (hs.o.kp.below.size))
   obtain⟨W4,hB⟩:=bH (w3.alloc (.cells #[.string r.name, .int .i64 r.gen, .int .i64 r.size] 26));have hh:=ag (hs.o.below (w':=W4) (by rw[hB]; exact eT) h8.o);have hR:W4.heap[w3.heap.size]? =some (.cells #[.string r.name, .int .i64 r.gen, .int .i64 r.size] 26 (0,0)):=by rw[hB]; exact ez w3 _
   obtain⟨f0,f1,f2,_⟩:=aT hR;have hH:=ag (show W4.ownsRow w.heap.size 26 3 (.slice ra rn rc) rn (rs.flatMap jt) by have h1:=hh.o.row; rw[<-ho.o]at h1; exact h1);have Hi:w.heap.size<=W4.heap.size:=hh.o.kp.below.size;have Hf:rn<1099511627775:=by have:=hO.o; omega
   clear hv hz q0 hR
   go_upto_region 11 with(fail)
   rw[<-hB];clear hB;go_wp2_with (at_builtin; go_must (refine bP Tryz.appRefs rfl _ _ rfl w.heap.size (.slice ra rn rc) rn (rs.flatMap jt) rfl W4 [.string r.name, .int .i64 r.gen, .int .i64 r.size] _ rfl rfl (rm (r:=r)) hH.o Hf Hi ?_); intro v' wc hd hb _ _; obtain⟨ae,ce,rfl,-,-⟩:=aH hd; have hY:=ag (hh.o.push (r:=r) (by rw[<-ho.o]; exact hd) (by rw[<-ho.o]; exact hb) hbz); clear hd hb)
   go_roundw
   ·refine⟨j+1,v3,by omega,by go_num, ?_⟩;have h1:=hY.o;rw[hP.o,hZ.o]at h1;rw[dC hA.o,aI,<-dC hA.o];exact h1
   simp[intOf]; omega
  ·have Ha:j=m:=by omega
   subst Ha;go_wp2_with fail
   go_ret2
   have h1:=hf.o;have h2:L.take j=L:=by rw[hO.o,dw]
   have h3:rs=L.map (bF k gs):=by rw[hP.o,h2]
   rw[h2]at h1;refine⟨_,v2,rfl, ?_, ?_,h1.kp⟩
   ·rw[<-HL.o,<-h3]; exact h1.row
   ·rw[<-HL.o]; exact h1.bd
structure Cq where
 dir:ByteArray
 val:Value
 ents:List pX
def nX (g:Cq):Value×Value:=(.string g.dir,g.val)
structure qL (w : World) (base im : Nat) (G : List Cq) : Prop where
 map:iQ Tryz.prog 9 w im (G.map nX)
 own: ∀g∈G,w.ownsRow base 79 6 g.val g.ents.length (jx g.ents)
 dat: ∀g∈G,∀y∈g.ents,eD (· <base) w y.1 y.2.data/\nu y.2
 apart:G.Pairwise fun a b=> ∀i,a.val.ownBlock=some i->b.val.ownBlock≠some i
 key: ∀g∈G,g.dir.size<=maxLen
def mF (G:List Cq) (d:ByteArray):List dk:=match G.find? (fun g=>decide (g.dir=d))with
 | none=>[]
 | some g=>g.ents.map Prod.snd
def EZ (w:World) (base im:Nat) (tree:List dk):Prop:= ∃G,qL w base im G/\ ∀d,mF G d=ii tree d
theorem qc {B:Nat} {w w':World} {v:Value} {bs:List UInt8} (h:eD (· <B) w v bs) (hb:Below B w w'):eD (· <B) w' v bs:=bX.same h (fun k hk=>hb.block k hk)
theorem iQ.ncells {P:Program} {k:TypeId} {w:World} {b:Nat} {m:List (Value×Value)} (h:iQ P k w b m) {cs:Array Value} {t:TypeId} {z:Nat×Nat} :w.heap[b]? ≠some (.cells cs t z):=fun e=>by obtain⟨es,clock,hb,_⟩:=h;rw[hb]at e; cases e
theorem ju.blk {w w':World} {base bb im kb i:Nat} {k:dq} {c:fQ} {gv v v':Value} {bs:List cQ} {cs:Array Value} {t:TypeId} {z:Nat×Nat} (h:kP w base bb k c gv im kb v bs) (hk:ju base bb kb v v' w w') (hx:w.heap[i]? =some (.cells cs t z)) (h1:t≠122) (h2:t≠53):w'.heap[i]? =some (.cells cs t z):=by
 refine(hk.same i (am hx) (fun e=> ?_) (fun e=> ?_) (fun e=> ?_)).trans hx
 ·subst e; exact h1 (bU hx h.box)
 ·subst e; exact h.known.cells hx
 ·obtain⟨zs,_,ho,_⟩:=h.own;obtain⟨cs2,ha⟩:=bK ho e;exact h2 (bU hx ha)
theorem qL.keep {w w':World} {base bb im kb:Nat} {k:dq} {c:fQ} {gv v v':Value} {bs:List cQ} {G:List Cq} (hg:qL w base im G) (h:kP w base bb k c gv im kb v bs) (hk:ju base bb kb v v' w w') (hne:im≠kb):qL w' base im G:=by
 refine⟨hg.map.same (hk.same im hg.map.lt (fun e=> ?_) hne (fun e=> ?_)),fun g hm=>hk.row h (hg.own g hm) (by decide) (by decide),fun g hm y hy=>⟨qc (hg.dat g hm y hy).1 hk.below,(hg.dat g hm y hy).2⟩,hg.apart,hg.key⟩
 ·exact hg.map.ncells (by rw[e]; exact h.box)
 ·obtain⟨zs,_,ho,_⟩:=h.own;obtain⟨cs2,ha⟩:=bK ho e;exact hg.map.ncells ha
theorem EZ.keep {w w':World} {base bb im kb:Nat} {k:dq} {c:fQ} {gv v v':Value} {bs:List cQ} {tree:List dk} (hg:EZ w base im tree) (h:kP w base bb k c gv im kb v bs) (hk:ju base bb kb v v' w w') (hne:im≠kb):EZ w' base im tree:=by obtain⟨G,h1,h2⟩:=hg;exact⟨G,h1.keep h hk hne,h2⟩
theorem MM {w:World} {base im:Nat} {tree:List dk} (hg:EZ w base im tree) {d:ByteArray} (hd:d.size<=maxLen):
  ∃(v:Value) (ys:List pX),(Instr.lookup 119 (.map (some im)) (.string d) false).run Tryz.prog w= .ok v w/\ys.map Prod.snd=ii tree d/\w.ownsRow base 79 6 v ys.length (jx ys)/\ ∀y∈ys,eD (· <base) w y.1 y.2.data/\nu y.2:=by
 obtain⟨G,h1,h2⟩:=hg;have ht:Tryz.prog.underlying 119=some (.map 9 46):=Tryz.underlying119;have hz:(zeroValue 46).run Tryz.prog w= .ok (.slice none 0 0) w:=by kernel_rfl
 have h3:=h2 d;unfold mF at h3
 cases hf:G.find? (fun g=>decide (g.dir=d))with
 | none=>
  rw[hf]at h3;refine⟨.slice none 0 0,[], ?_,h3,bN _ _ _ _,by simp⟩;have:=h1.map.is.miss gB ht hz (iL hd) (fun q hq e=>by obtain⟨x,hx,rfl⟩:=aQ.1 hq;simp only[nX,eJ]at e;have:=fg.1 hf x hx;simp[e]at this) false
  simpa using this
 | some g=>
  rw[hf]at h3;have h4:=ed hf;have h5:=jB hf;simp only[aG]at h5;refine⟨g.val,g.ents, ?_,h3,h1.own g h4,h1.dat g h4⟩;have:=h1.map.is.hit gB ht (iL hd) (val:=g.val) (aQ.2 ⟨g,h4,by rw[<-h5]; rfl⟩) false
  simpa using this
abbrev vh :=Value×ci
def qi (zs:List vh):List Value:=zs.flatMap fun z=>fu z.1 z.2
theorem Ap (zs:List vh) (z:vh):qi (zs++[z])=qi zs++fu z.1 z.2:=by simp[qi]
structure lN (w : World) (B : Nat) (iv : Value) (its : List ci) : Prop where
 row: ∃zs:List vh,zs.map Prod.snd=its/\w.ownsRow B 28 10 iv zs.length (qi zs)/\ ∀z∈zs,w.ownsRow B 26 3 z.1 z.2.chunks.length (z.2.chunks.flatMap jt)/\iI z.2/\ ∀r∈z.2.chunks,dZ r
theorem Ao {S:Nat->Prop} {w:World} : ∀ {zs:List vh},(∀z∈zs,dJ S w z.1 z.2.chunks/\iI z.2)->em (lm S w) (qi zs) (zs.map Prod.snd)
 | [],_=>rfl
 | z::zs,h=>⟨fu z.1 z.2,qi zs,by simp[qi],⟨z.1,rfl,(h z (by simp)).1,(h z (by simp)).2⟩,Ao (fun y hy=>h y (by simp[hy]))⟩
theorem lN.at {w:World} {B:Nat} {iv:Value} {its:List ci} (h:lN w B iv its):eO (fun _=>True) w iv its:=by obtain⟨zs,rfl,h1,h2⟩:=h.row;refine⟨qi zs, ?_,Ao (fun z hz=>⟨dJ.same (oq (h2 z hz).1 (h2 z hz).2.2) (fun _ _ _=>⟨trivial,rfl⟩),(h2 z hz).2.1⟩)⟩;rw[aw];exact bX.weak (cK h1) (fun _ _=>trivial)
theorem lN.nil (w:World) (B:Nat):lN w B (.slice none 0 0) []:=⟨[],rfl,bN _ _ _ _,by simp⟩
structure EX (w : World) (base bb im kb : Nat) (k : dq) (c : fQ) (gv v ev : Value) (ys : List pX) (wr : World) (v2 iv : Value) (bs2 : List cQ) (its : List ci) : Prop where
 bd:kP wr base bb k c gv im kb v2 bs2
 kp:ju base bb kb v v2 w wr
 its:lN wr w.heap.size iv its
 ents:wr.ownsRow base 79 6 ev ys.length (jx ys)
 res:wr.heap[w.heap.size]? =some (.cells #[.string ⟨#[]⟩, .int .i64 0, .int .i64 0] 26 (0,0))
theorem lN.keep {w w':World} {base bb im kb B:Nat} {k:dq} {c:fQ} {gv v v' iv:Value} {bs:List cQ} {its:List ci} (hi:lN w B iv its) (h:kP w base bb k c gv im kb v bs) (hk:ju base bb kb v v' w w'):lN w' B iv its:=by obtain⟨zs,h1,h2,h3⟩:=hi.row;exact⟨zs,h1,hk.row h h2 (by decide) (by decide),fun z hz=>⟨hk.row h (h3 z hz).1 (by decide) (by decide),(h3 z hz).2⟩⟩
section
variable {w wr w' : World} {base bb im kb : Nat} {k : dq} {c : fQ} {gv v ev v2 v3 iv : Value} {ys : List pX} {bs2 bs3 : List cQ} {its : List ci}
theorem EX.step (h:EX w base bb im kb k c gv v ev ys wr v2 iv bs2 its) (h1:kP w' base bb k c gv im kb v3 bs3) (h2:ju base bb kb v2 v3 wr w'):EX w base bb im kb k c gv v ev ys w' v3 iv bs3 its:=
 ⟨h1,h.kp.trans h2,h.its.keep h.bd h2,h2.row h.bd h.ents (by decide) (by decide),h2.blk h.bd h.res (by decide) (by decide)⟩
theorem EX.below (h:EX w base bb im kb k c gv v ev ys wr v2 iv bs2 its) (hb:Below wr.heap.size wr w') (hbz:base<=wr.heap.size):EX w base bb im kb k c gv v ev ys w' v2 iv bs2 its:=
 h.step (h.bd.below hb) (ju.ofBelow hb hbz)
theorem EX.push {iv' rv:Value} {it:ci} {zs:List vh} (h:EX w base bb im kb k c gv v ev ys wr v2 iv bs2 its) (hz:zs.map Prod.snd=its) (hrow:wr.ownsRow w.heap.size 28 10 iv zs.length (qi zs)) (hdat: ∀z∈zs,wr.ownsRow w.heap.size 26 3 z.1 z.2.chunks.length (z.2.chunks.flatMap jt)/\iI z.2/\ ∀r∈z.2.chunks,dZ r)
  (hown:w'.ownsRow w.heap.size 28 10 iv' (zs.length+1) (qi zs++fu rv it)) (hg:wr.grownBy w' iv.ownBlock) (hrv:wr.ownsRow w.heap.size 26 3 rv it.chunks.length (it.chunks.flatMap jt)) (hok:iI it) (hrs: ∀r∈it.chunks,dZ r) (hbz:base<=w.heap.size):
  EX w base bb im kb k c gv v ev ys w' v2 iv' bs2 (its++[it]):=by
 refine⟨h.bd.otherRow hrow hg (by decide) (by decide) (by decide),h.kp.otherRow hrow hg (ah _) hbz,⟨zs++[(rv,it)],by simp[hz],by rw[ai,bT,Ap]; exact hown,fun z hm=> ?_⟩,gX h.ents hrow hg (by decide), ?_⟩
 ·rcases aP.1 hm with hm | hm
  ·exact⟨gX (hdat z hm).1 hrow hg (by decide),(hdat z hm).2⟩
  ·rw[aL]at hm;subst hm;exact⟨gX hrv hrow hg (by decide),hok,hrs⟩
 ·refine(hg.block _ (am h.res) (fun e=> ?_)).trans h.res;obtain⟨cs2,ha⟩:=bK hrow e.symm;exact absurd (bU h.res ha) (by decide)
theorem EX.otherSet {i q:Nat} {u:Value} {cs:Array Value} {t:TypeId} {z:Nat×Nat} (h:EX w base bb im kb k c gv v ev ys wr v2 iv bs2 its) (hx:wr.heap[i]? =some (.cells cs t z)) (h1:t≠122) (h2:t≠53) (h3:t≠5) (h4:t≠26) (h5:t≠79) (h6:iv.ownBlock≠some i) (hi:w.heap.size<=i) (hbz:base<=w.heap.size):EX w base bb im kb k c gv v ev ys (wr.setCell ⟨i,q,none⟩ u) v2 iv bs2 its:=by
 have hs: ∀j,j≠i->(wr.setCell ⟨i,q,none⟩ u).heap[j]? =wr.heap[j]? :=fun j hj=>az _ _ _ _ hj
 refine⟨h.bd.other hx h1 h2 h3 (fun j hj _=>hs j hj),h.kp.setNew hi hbz, ?_,fj h.ents (fun j hj hu=>hs j (fun e=> ?_)),(hs _ (fun e=> ?_)).trans h.res⟩
 ·obtain⟨zs,hz,hr,hd⟩:=h.its.row;refine⟨zs,hz,fj hr (fun j hj hu=>hs j (fun e=>h6 (e▸hu))),fun y hy=>⟨fj (hd y hy).1 (fun j hj hu=>hs j (fun e=> ?_)),(hd y hy).2⟩⟩;obtain⟨cs2,ha⟩:=bK (hd y hy).1 hu;exact h4 (bU hx (e▸ha))
 ·obtain⟨cs2,ha⟩:=bK h.ents hu;exact h5 (bU hx (e▸ha))
 ·exact h4 (bU hx (e▸h.res))
end
theorem Pn {a:Act} {w:World} {b:Nat} {x0 x1 x2 e5:Value} (h:w.heap[b]? =some (.cells #[x0,x1,x2] 26 (0,0)))
  (h4:a.tmps[4]? =some (.pointer (some ⟨b,0,none⟩))) (h5:a.tmps[5]? =some e5):(results Tryz.f73 a.tmps).run Tryz.prog w= .ok (.tuple #[.agg #[x0,x1,x2],e5]) w:=by
 obtain⟨m0,m1,m2,_⟩:=aT h;simp[results,Tryz.results73,go_sem,h4,h5,m0,m1,m2]
theorem wt {a:Act} {w:World} {b:Nat} {a0 a1 a2 x0 x1 x2 e5:Value} {Q:Ending->World->Prop} (h:w.heap[b]? =some (.cells #[a0,a1,a2] 26 (0,0)))
  (h4:a.tmps[4]? =some (.pointer (some ⟨b,0,none⟩))) (h5:a.tmps[5]? =some e5) (hd:a.defers=[])
  (hQ:Q (.returned (.tuple #[.agg #[x0,x1,x2],e5])) (((w.setCell ⟨b,0,none⟩ x0).setCell ⟨b,1,none⟩ x1).setCell ⟨b,2,none⟩ x2)):
  bodyPost Tryz.prog Tryz.f73 Q Exit.ret a (((w.setCell ⟨b,0,none⟩ x0).setCell ⟨b,1,none⟩ x1).setCell ⟨b,2,none⟩ x2):=cS (Pn (vK h) h4 h5) hd hQ
structure LN (base bb kb im : Nat) (k : dq) (c : fQ) (gs : List (ByteArray × Int)) (tree : List dk) (UR : List bY) : Prop where
 keys:jK k=true
 cut:jT c=true
 seed:c.seed<18446744073709551616
 gens: ∀p∈gs,0<=p.2/\p.2<=1099511627776
 bbb:base<=bb
 bkb:base<=kb
 seven:7<=base
 ikb:im≠kb
 val: ∀e∈tree,ij e=true
 len:tree.length<=4096
 usz:UR.length<=100000000000
 u1: ∀e∈tree,∀y∈gK c e.data,bF k gs y∈UR
 u2: ∀(n:Nat) (d:ByteArray) (p:List UInt8×List (List UInt8)),n<=514->(d.size=0\/ ∃e∈tree,e.path=d)->ig k gs c tree n d= .ok p->bF k gs p.1∈UR
def GW (UR:List bY) (bs:List cQ):Prop:= ∀b∈bs,b.ref∈UR
theorem GW.put {UR:List bY} {bs:List cQ} {k:dq} {gs:List (ByteArray×Int)} {x:List UInt8} (h:GW UR bs) (hx:bF k gs x∈UR):GW UR (kh k gs bs x):=by
 unfold kh
 split
 ·exact h
 ·intro b hb
  rcases aP.1 hb with hb | hb
  ·exact h b hb
  ·rw[aL]at hb; subst hb; exact hx
theorem GW.puts {UR:List bY} {k:dq} {gs:List (ByteArray×Int)} : ∀ {cs:List (List UInt8)} {bs:List cQ},GW UR bs->(∀x∈cs,bF k gs x∈UR)->GW UR (dR k gs cs bs)
 | [],_,h,_=>h
 | x::cs,bs,h,hx=>GW.puts (cs:=cs) (bs:=kh k gs bs x) (h.put (hx x (by simp))) (fun y hy=>hx y (by simp[hy]))
theorem GW.len {UR:List bY} {bs:List cQ} {w:World} {base bb im kb:Nat} {k:dq} {c:fQ} {gv v:Value} (h:GW UR bs) (hb:kP w base bb k c gv im kb v bs):bs.length<=UR.length:=by
 have h1:=mX (l:=bs.map cQ.ref) (U:=UR) hb.known.nodup (fun x hx=>by obtain⟨b,ha,rfl⟩:=aQ.1 hx;exact h b ha)
 rwa [aw]at h1
def Bu (base bb kb im:Nat) (k:dq) (c:fQ) (gs:List (ByteArray×Int)) (gv v:Value) (bs:List cQ) (UR:List bY) (res:Except Int (List UInt8×List (List UInt8))) (w:World) (e:Ending) (w':World):Prop:=match res with
 | .error x=>e= .returned (.tuple #[.agg #[.string ⟨#[]⟩, .int .i64 0, .int .i64 0], .int .i64 x])/\x≠0/\ ∃v' bs',kP w' base bb k c gv im kb v' bs'/\ju base bb kb v v' w w'
 | .ok p=>e= .returned (.tuple #[eC (bF k gs p.1), .int .i64 0])/\GW UR (dR k gs p.2 bs)/\ ∃v',kP w' base bb k c gv im kb v' (dR k gs p.2 bs)/\ju base bb kb v v' w w'
def OL (base bb kb im:Nat) (k:dq) (c:fQ) (gs:List (ByteArray×Int)) (tree:List dk) (gv:Value) (UR:List bY) (n:Nat):Prop:= ∀(path:ByteArray) (v:Value) (bs:List cQ) (w:World),
 514<=path.size+n->(path.size=0\/ ∃e∈tree,e.path=path)->kP w base bb k c gv im kb v bs->ld (· <base) w gv gs->EZ w base im tree->GW UR bs->rZ w->base<=w.heap.size->
 Calls Tryz.prog 73 #[.pointer (some ⟨bb,0,none⟩), .string path] w (Bu base bb kb im k c gs gv v bs UR (ig k gs c tree n path) w)
theorem MB {base bb kb im:Nat} {k:dq} {c:fQ} {gs:List (ByteArray×Int)} {tree:List dk} {gv:Value} {UR:List bY} (hX:LN base bb kb im k c gs tree UR):OL base bb kb im k c gs tree gv UR 0:=by
 intro path v bs w hn hp
 exfalso
 rcases hp with h | ⟨e,he,rfl⟩
 ·omega
 ·have:=mL (dm (hX.val e he));rw[<-bi]at this;omega
theorem qq {l:List UInt8} (h:l≠[]):(cu l).length<l.length:=by
 by_cases hp:cu l=[]
 ·rw[hp];exact List.length_pos_iff.2 h
 ·obtain⟨t,ht⟩:=ri hp;have:=congrArg List.length ht;rw[ai,ay]at this;omega
theorem BK {c:fQ} (hc:jT c=true) (x:List UInt8):(gK c x).length<=x.length:=by
 have h1:(gK c x).flatten=x:=xY;have h2: ∀(l:List (List UInt8)),(∀y∈l,1<=y.length)->l.length<=l.flatten.length:=by
  intro l
  induction l with
  | nil=>simp
  | cons y l ih=>
   intro h;have:=ih (fun z hz=>h z (by simp[hz]));have:=h y (by simp);simp only[ay,iO,ai];omega
 have h3:=h2 (gK c x) (fun y hy=>(BL hc x y hy).1)
 rwa [h1]at h3
section
variable {P : Program} {ops : Array Oper} {Q : Exit → Act → World → Prop} {S : World → Prop}
theorem xx {dst dst2:Option Tmp} {op op2:Op} {ty ty2:TypeId} {pos pos2:String} {aft aft2:Array Edge} {g g2:Option (Nat×Bool)} {fuel:Nat} {listed:Array Bool} {a:Act} {w:World} (i j:Nat) (hi:ops[i]? =some ⟨dst,op,ty,pos,aft,g⟩) (hj:ops[j]? =some ⟨dst2,op2,ty2,pos2,aft2,g2⟩) (hr:Region.ready .any ops listed=[i,j])
  (hw:Region.wanted ⟨dst,op,ty,pos,aft,g⟩ (yielded ops a.tmps)=true) (hw2:Region.wanted ⟨dst2,op2,ty2,pos2,aft2,g2⟩ (yielded ops a.tmps)=true)
  (h: ∀K:Act->World->Prop,(∀a w,S w/\pV P ops Q S fuel (listed.setIfInBounds i true) a w->K a w)->wpList P #[] (Exit.then K Q) [⟨dst,op,ty,pos, #[],none⟩] a w)
  (h2: ∀K:Act->World->Prop,(∀a w,S w/\pV P ops Q S fuel (listed.setIfInBounds j true) a w->K a w)->wpList P #[] (Exit.then K Q) [⟨dst2,op2,ty2,pos2, #[],none⟩] a w):pV P ops Q S (fuel+1) listed a w:=by
 refine pV.of (wpAnyH_all hr (by simp) fun m hm=> ?_);have ha:m=i\/m=j:=by simpa using hm
 rcases ha with rfl | rfl
 ·have hb:yP P ops (fun a' w'=>S w'/\wpAnyH P .any ops Q S fuel (listed.setIfInBounds m true) a' w') Q [⟨dst,op,ty,pos,aft,g⟩] a w:=
   eE hw (fun K hK=>h K (fun a w hh=>hK a w ⟨hh.1,hh.2.out⟩))
  unfold wpOp;simp only[hi];exact yP.out hb
 ·have hb:yP P ops (fun a' w'=>S w'/\wpAnyH P .any ops Q S fuel (listed.setIfInBounds m true) a' w') Q [⟨dst2,op2,ty2,pos2,aft2,g2⟩] a w:=
   eE hw2 (fun K hK=>h2 K (fun a w hh=>hK a w ⟨hh.1,hh.2.out⟩))
  unfold wpOp;simp only[hj];exact yP.out hb
end
structure Fa (it : ci) : Prop where
 nm:it.name.size<=512
 lk:it.link.size<=512
 ch:it.chunks.length<=1048576
 rs: ∀r∈it.chunks,r.name.size<=32
 nd:it.node.name.size<=32
 tm:it.time<9223372036854775808
theorem zV {r:bY} (h:r.name.size<=32):(fK r).length<=60:=by
 unfold fK;have h1:=dG r.gen.toNat
 have h2:=dG r.size.toNat
 rw[ai,ai,<-bi];omega
theorem Fq {it:ci} (h:Fa it):(gL it).length<=70000000:=by
 have h1:=dG it.name.size;have h2:=dG it.kind.toNat
 have h3:=dG it.mode.toNat
 have h4:=dG it.time.toNat
 have h5:=dG it.chunks.length;have h6:=dG it.link.size;have h7:=mS fK 60 it.chunks (fun r hr=>zV (h.rs r hr));have h8:=zV h.nd;have hn:=h.nm;have hl:=h.lk;have hc:=h.ch;unfold gL lB;simp only[ai,<-bi]
 split
 ·simp only[ai];omega
 ·split
  ·omega
  ·simp only[ai,<-bi];omega
theorem Nm {l:List ci} (h: ∀it∈l,Fa it) (hl:l.length<=4096):(gC l).length<1000000000000:=by have h1:=mS gL 70000000 l (fun it ha=>Fq (h it ha));have h2:=dG l.length;unfold gC;rw[ai];have h3:l.length*70000000<=4096*70000000:=dl _ hl;omega
theorem DG (d p:List UInt8):(mV d p).length<=p.length:=by
 unfold mV
 split
 ·rw[List.length_tail,bz]; omega
 ·rw[bz]; omega
theorem mE {e:dk} (h:ij e=true):e.path.size<=512/\e.link.size<=512/\e.data.length<=1048576:=by
 have h1:=mL (dm h);rw[<-bi]at h1;unfold ij kY at h;rw[aE]at h;refine⟨h1, ?_⟩;have h2:=h.2
 split at h2
 ·simp only[aE,aG]at h2;omega
 ·split at h2
  ·simp only[aE,aG]at h2;omega
  ·split at h2
   ·simp only[aE,aG,pw]at h2;have:=h2.2.1.2;rw[<-bi]at this;omega
   ·cases h2
theorem rp (k:dq) (gs:List (ByteArray×Int)) (x:List UInt8):(bF k gs x).name.size=32:=lG _ _ _
theorem qh {k:dq} {gs:List (ByteArray×Int)} {c:fQ} {dir:ByteArray} {e:dk} {nd:bY} (hc:jT c=true) (h:ij e=true) (hok:nu e) (hn:nd.name.size<=32):Fa (dg k gs c dir e nd):=by
 obtain⟨h1,h2,h3⟩:=mE h;have h4:=DG (bl dir) (bl e.path);rw[<-bi e.path]at h4;refine⟨?_,h2, ?_, ?_, ?_, ?_⟩
 ·show ByteArray.size ⟨_⟩<=_
  simp only[ByteArray.size,bR];omega
 ·show(if e.kind=1 then(gK c e.data).map (bF k gs)else []).length<=_
  split
  ·rw[aw];have:=BK hc e.data;omega
  ·simp
 ·show ∀r∈(if e.kind=1 then(gK c e.data).map (bF k gs)else []),_
  intro r hr
  split at hr
  ·obtain⟨x,_,rfl⟩:=aQ.1 hr;rw[rp]; omega
  ·simp at hr
 ·show(if e.kind=2 then nd else eL).name.size<=32
  split
  ·exact hn
  ·decide
 ·have:=hok.tim;simp[Lit.wf,IntKind.min,IntKind.max,IntKind.signed,IntKind.bits]at this
  show e.time<_
  omega
theorem iC {k:dq} {gs:List (ByteArray×Int)} (hgs: ∀p∈gs,0<=p.2/\p.2<=1099511627776) {x:List UInt8} (hx:x.length<=1048576):dZ (bF k gs x):=by
 have h1:=AR gs hgs (ms k 0 x);refine⟨by rw[rp]; unfold maxLen; omega,WalkArith.wf_i64 ?_,WalkArith.wf_i64 ?_⟩
 ·show _<=mU gs _/\mU gs _<=_
  omega
 ·show -9223372036854775808<=(x.length:Int)/\(x.length:Int)<=_
  omega
theorem Mz {k:dq} {gs:List (ByteArray×Int)} {c:fQ} {tree:List dk} : ∀ {n:Nat} {d:ByteArray} {p:List UInt8×List (List UInt8)},ig k gs c tree n d= .ok p->p.1.length<=32768
 | 0,_,_,h=>by simp[ig]at h
 | n+1,d,p,h=>by
  rw[ig]at h
  split at h
  ·cases h
  ·split at h
   ·split at h
    ·simp only[dj]at h;subst h
     assumption
    ·cases h
   ·cases h
theorem Aq {k:dq} {gs:List (ByteArray×Int)} {c:fQ} {rec:ByteArray->Except Int (List UInt8×List (List UInt8))} {dir:ByteArray} {e:dk} {r:List dk} {its:List ci} {cs:List (List UInt8)} (h:e.kind=1):il k gs c rec dir (e::r) its cs=il k gs c rec dir r (its++[dg k gs c dir e eL]) (cs++gK c e.data):=by rw[il,if_pos h]
theorem xG {k:dq} {gs:List (ByteArray×Int)} {c:fQ} {rec:ByteArray->Except Int (List UInt8×List (List UInt8))} {dir:ByteArray} {e:dk} {r:List dk} {its:List ci} {cs:List (List UInt8)} (h:e.kind=2):il k gs c rec dir (e::r) its cs=match rec e.path with
  | .error x=> .error x
  | .ok p=>il k gs c rec dir r (its++[dg k gs c dir e (bF k gs p.1)]) (cs++p.2):=by
 rw[il,if_neg (by omega),if_pos h]
 cases rec e.path<;> rfl
theorem Kk {k:dq} {gs:List (ByteArray×Int)} {c:fQ} {rec:ByteArray->Except Int (List UInt8×List (List UInt8))} {dir:ByteArray} {e:dk} {r:List dk} {its:List ci} {cs:List (List UInt8)} (h1:e.kind≠1) (h:e.kind≠2):il k gs c rec dir (e::r) its cs=il k gs c rec dir r (its++[dg k gs c dir e eL]) cs:=by rw[il,if_neg h1,if_neg h]
theorem MA {base bb kb im:Nat} {k:dq} {c:fQ} {gs:List (ByteArray×Int)} {tree:List dk} {gv:Value} {UR:List bY} (n:Nat) (hX:LN base bb kb im k c gs tree UR) (hn514:n+1<=514) (IH:OL base bb kb im k c gs tree gv UR n):OL base bb kb im k c gs tree gv UR (n+1):=by
 intro path v bs w hn hp h hg y7 hu hE hd;have hf:=ag hX;have YH:=ag IH;have YJ:=ag hp;have HH:=ag h;have HG:=ag hg;have YG:=ag y7;have HU:=ag hu;have HE:=ag hE;have za:path.size<=512:=by
  rcases hp with h | ⟨e,he,rfl⟩
  ·omega
  ·have:=mL (dm (hX.val e he));rw[<-bi]at this;exact this
 obtain⟨W0,HZ⟩:=bH (w.alloc (.cells #[.string ⟨#[]⟩, .int .i64 0, .int .i64 0] 26));have H2:Below w.heap.size w W0:=by rw[HZ]; exact eT
 have Hl:=ju.ofBelow (bb:=bb) (kb:=kb) (v:=v) H2 hd;obtain⟨ev,ys,YU,Ye,Hn,Hk⟩:=MM (y7.keep h Hl hX.ikb) (d:=path) (by unfold maxLen; omega);obtain⟨ea,ec,YS,YR,YQ⟩:=aH Hn;subst YS;unfold maxLen at YQ;obtain⟨m,hm⟩:=bH ys.length;have Hh:=ag (show EX w base bb im kb k c gv v (.slice ea m ec) ys W0 v (.slice none 0 0) bs []from⟨h.below H2,Hl,lN.nil _ _,by rw[hm]; exact Hn,by rw[HZ]; exact ez w _⟩)
 rw[<-hm]at YU YR;have HM:=ag hm;have Yp:=ag Ye;have H7:=ag (show ∀y∈ys,eD (· <base) w y.1 y.2.data/\nu y.2 from fun y hy=>⟨bX.same (Hk y hy).1 (fun i hi=>(H2.block i (aO hi hd)).symm),(Hk y hy).2⟩);have hw:=ag Hh.o.bd.box;have Y8:m<=4096:=by rw[hm,<-aw (f:=Prod.snd),Ye];exact an (dI _ _) hX.len
 have k0:=ar (k:=0) hw.o;have k1:=ar (k:=1) hw.o;have k2:=ar (k:=2) hw.o;have k3:=ar (k:=3) hw.o;have k4:=ar (k:=4) hw.o;have k10:=ar (k:=10) hw.o;have k11:=ar (k:=11) hw.o;have k12:=ar (k:=12) hw.o;have k13:=ar (k:=13) hw.o;simp only[nB,eW,gx,aK,aJ,fV]at k0 k1 k2 k3 k4 k10 k11 k12 k13
 clear hX IH hp h hg y7 hu hE Hn Hk Ye hm H2 Hl
 go_enter Tryz.func73,Tryz.ntmps73
 go_upto_region 2 with(fail)
 rw[<-HZ];clear HZ;go_wp2_with fail
 go_loopw [6,20] (fun iv i wr=> ∃(j:Nat) (v2:Value) (its:List ci) (cs2:List (List UInt8)),j<=m/\i= .int .i64 (j:Int)/\its.length=j/\il k gs c (ig k gs c tree n) path ((ii tree path).drop j) its cs2=il k gs c (ig k gs c tree n) path (ii tree path) [] []/\GW UR (dR k gs cs2 bs)/\(∀it∈its,Fa it)/\EX w base bb im kb k c gv v (.slice ea m ec) ys wr v2 iv (dR k gs cs2 bs) its) (fun _ i _=>m-(intOf i).toNat)
 ·exact⟨0,v,[],[],aR _,rfl,rfl,rfl,HU.o,by simp,Hh.o⟩
 ·obtain⟨j,v2,its,cs2,hj,rfl,y9,Yw,Yv,Yz,y8⟩:=hrel;have Hj:=ag y9;have Hr:=ag Yw;have Hp:=ag Yv;have HB:=ag Yz;have hD:=ag y8;obtain⟨zs,Yh,Yg,YC⟩:=y8.its.row;obtain⟨ia,ic,YT,-,-⟩:=aH Yg;subst YT;have Yf:zs.length=j:=by rw[<-y9,<-Yh,aw]
  have Y2:=ag Yh;have HV:=ag Yg;have Y0:=ag YC;rw[Yf]at hD HV ⊢;have Y1:=ag Yf;clear y9 Yw Yv Yz y8 Yh Yg YC Yf Hh hw
  by_cases YV:j<m
  ·obtain⟨⟨dv,e⟩,hy⟩: ∃y,ys[j]? =some y:=⟨ys[j]'(by rw[<-HM.o]; exact YV),by simp⟩;have y5:=H7.o (dv,e) (aM hy);obtain⟨da,dc,Yt,Y6,Y5⟩:=eD.slice y5.1;simp only at Yt;subst Yt;obtain⟨b,rfl,Y3,Y4,-,p0,p1,p2,p3,p4,p5⟩:=PE hD.o.ents hy;simp only at p0 p1 p2 p3 p4 p5;have HW:(ii tree path)[j]? =some e:=by rw[<-Yp.o,bm,hy]; rfl
   have Hm:=dQ.1 (aM HW);have y6:e∈tree:=Hm.1;have HN:cu (bl e.path)=bl path:=by have:=Hm.2; simpa using this
   have Ho:=hf.o.val e y6;have H3:=dm Ho;have Y7:e.path.size<=512:=by have:=mL H3; rw[<-bi]at this; exact this
   have Y9:path.size<e.path.size:=by have h1:=qq (l:=bl e.path) (fun h=>by have:=qy H3; rw[h]at this; simp at this);rw[HN,<-bi,<-bi]at h1;exact h1
   have H9:=ag y6;have YY:=ag H3;have HR:=ag Ho;have HQ:=ag y5;have YZ:=ag HW;have HP:=ag (zS HW);have Yk:=ag (an hd hD.o.kp.below.size);clear y5 hy HW Hm y6 HN Ho H3
   go_upto_region 5 with(fail)
   obtain⟨W1,HC⟩:=bH ((wr.alloc (.cells #[.string e.path, .int .i64 e.kind, .int .i64 e.mode, .int .i64 e.time, .slice da e.data.length dc, .string e.link] 79)).drew);have Yq:Below wr.heap.size wr W1:=by rw[HC]; exact(eT).drew
   have YD:=ag Yq;have HS:=ag (show W1.heap[wr.heap.size]? =some (.cells #[.string e.path, .int .i64 e.kind, .int .i64 e.mode, .int .i64 e.time, .slice da e.data.length dc, .string e.link] 79 (0,0)) by rw[HC]; exact ez wr _);have YB:W1.heap.size=wr.heap.size+1:=by rw[HC]; simp[World.drew]
   obtain⟨d0,d1,d2,d3,_⟩:=aT HS.o;have d5:=ar (k:=5) HS.o;simp only[fV]at d5;clear p0 p1 p2 p3 p4 p5 Yq;refine eP (fun w'=>w'.cell? ⟨wr.heap.size,0,none⟩=some (.string e.path)/\w'.cell? ⟨wr.heap.size,1,none⟩=some (.int .i64 e.kind)/\w'.cell? ⟨wr.heap.size,2,none⟩=some (.int .i64 e.mode)/\w'.cell? ⟨wr.heap.size,3,none⟩=some (.int .i64 e.time)/\w'.cell? ⟨wr.heap.size,5,none⟩=some (.string e.link)) (by kernel_rfl) (by kernel_rfl) ?_
   simp only[bu,bw,ay,bp,Nat.reduceAdd,Nat.reduceSub];rw[<-HC];clear HC
   iterate 3 (refine cF rfl ⟨d0,d1,d2,d3,d5⟩ (by rintro w' ⟨h0,h2,h3,h4,h7⟩; go_simp; rfl) ?_; simp only[bM])
   refine dx 4 rfl ⟨d0,d1,d2,d3,d5⟩ (by rintro w' ⟨h0,h2,h3,h4,h7⟩; go_simp; rfl) ?_;simp only[bM];refine dx 5 rfl ⟨d0,d1,d2,d3,d5⟩ (by rintro w' ⟨h0,h2,h3,h4,h7⟩; go_simp; rfl) ?_;simp only[bM];refine dx 6 rfl ⟨d0,d1,d2,d3,d5⟩ (by rintro w' ⟨h0,h2,h3,h4,h7⟩; go_simp; rfl) ?_;simp only[bM];refine dx 7 rfl ⟨d0,d1,d2,d3,d5⟩ (by rintro w' ⟨h0,h2,h3,h4,h7⟩; go_simp; rfl) ?_
   simp only[bM];refine dx 8 rfl ⟨d0,d1,d2,d3,d5⟩ (by rintro w' ⟨h0,h2,h3,h4,h7⟩; go_simp; rfl) ?_;simp only[bM];refine dx 9 rfl ⟨d0,d1,d2,d3,d5⟩ (by rintro w' ⟨h0,h2,h3,h4,h7⟩; go_simp; rfl) ?_;simp only[bM];refine dx 10 rfl ⟨d0,d1,d2,d3,d5⟩ (by rintro w' ⟨h0,h2,h3,h4,h7⟩; go_simp; rfl) ?_;simp only[bM];refine dx 11 rfl ⟨d0,d1,d2,d3,d5⟩ (by rintro w' ⟨h0,h2,h3,h4,h7⟩; go_simp; rfl) ?_
   simp only[bM];obtain⟨W2,H0⟩:=bH (W1.alloc (.cells #[.string ⟨#[]⟩, .int .i64 0, .int .i64 0, .int .i64 0, .int .i64 0, .string ⟨#[]⟩, .slice none 0 0, .string ⟨#[]⟩, .int .i64 0, .int .i64 0] 28));have yp:Below W1.heap.size W1 W2:=by rw[H0]; exact eT
   have H4:=eA yp HS.o;have YA:W2.heap[wr.heap.size+1]? =some (.cells #[.string ⟨#[]⟩, .int .i64 0, .int .i64 0, .int .i64 0, .int .i64 0, .string ⟨#[]⟩, .slice none 0 0, .string ⟨#[]⟩, .int .i64 0, .int .i64 0] 28 (0,0)):=by rw[H0,<-YB]; exact ez W1 _
   have Yn:=ag H4;have HT:=ag YA;have YE:=ag (aj YD.o yp);have Ym:=ag H0;obtain⟨nm,Yy⟩: ∃nm:ByteArray,nm=⟨(mV (bl path) (bl e.path)).toArray⟩:=⟨_,rfl⟩;have Hv:=ag Yy;obtain⟨d0',d1',d2',d3',_⟩:=aT H4;have d5':=ar (k:=5) H4;simp only[fV]at d5';clear H0 yp H4 YA Yy;refine xx 3 13 rfl rfl (by kernel_rfl) rfl rfl (fun K hK=> ?ca) (fun K hK=> ?al)
   case' ca=>
    go_wp2_with fail;refine(DQ path e.path W1 (by omega)).mono ?_;rintro e' w' ⟨rfl,rfl⟩;rw[<-Hv.o];go_wp2_with fail;refine⟨⟨d0,d1,d2,d3,d5⟩, ?_⟩;refine dx 12 rfl ⟨d0,d1,d2,d3,d5⟩ (by rintro w' ⟨h0,h2,h3,h4,h7⟩; go_simp; rfl) ?_;simp only[bM];refine cA 13 rfl (fun K hK=> ?_);go_wp2_with fail;rw[<-Ym.o]
    (first | (refine⟨⟨d0',d1',d2',d3',d5'⟩, ?_⟩) | skip)
   case' al=>
    go_wp2_with fail;rw[<-Ym.o]
    (first | (refine⟨⟨d0',d1',d2',d3',d5'⟩, ?_⟩) | skip)
    refine cA 3 rfl (fun K hK=> ?_);go_wp2_with fail;refine(DQ path e.path W2 (by omega)).mono ?_;rintro e' w' ⟨rfl,rfl⟩;rw[<-Hv.o];go_wp2_with fail;refine⟨⟨d0',d1',d2',d3',d5'⟩, ?_⟩;refine dx 12 rfl ⟨d0',d1',d2',d3',d5'⟩ (by rintro w' ⟨h0,h2,h3,h4,h7⟩; go_simp; rfl) ?_;simp only[bM]
   all_goals
    refine cH (by kernel_rfl) ?_;clear d0 d1 d2 d3 d5 d0' d1' d2' d3' d5' HS;refine eX rfl rfl (fun K hK=> ?_);obtain⟨i0,i1,i2,i3,i4,i5,i6,i7,i8,i9,_⟩:=aT HT.o;obtain⟨g0,g1,g2,g3,g4,g5,g6,g7,g8,g9,_⟩:=gT HT.o
    go_upto_region 6 with(fail)
    obtain⟨W3,HD⟩:=bH (((((((((((W2.setCell ⟨wr.heap.size+1,0,none⟩ (.string nm)).setCell ⟨wr.heap.size+1,1,none⟩ (.int .i64 e.kind)).setCell ⟨wr.heap.size+1,2,none⟩ (.int .i64 e.mode)).setCell ⟨wr.heap.size+1,3,none⟩ (.int .i64 e.time)).setCell ⟨wr.heap.size+1,4,none⟩ (.int .i64 0)).setCell ⟨wr.heap.size+1,5,none⟩ (.string e.link)).setCell ⟨wr.heap.size+1,6,none⟩ (.slice none 0 0)).setCell ⟨wr.heap.size+1,7,none⟩ (.string ⟨#[]⟩)).setCell ⟨wr.heap.size+1,8,none⟩ (.int .i64 0)).setCell ⟨wr.heap.size+1,9,none⟩ (.int .i64 0)))
    rw[<-HD];have Yj:=ag (show Below wr.heap.size wr W3 by rw[HD]; exact jv YE.o (by show wr.heap.size<=wr.heap.size+1; omega));have HX:=ag (show W3.heap[wr.heap.size]? =some (.cells #[.string e.path, .int .i64 e.kind, .int .i64 e.mode, .int .i64 e.time, .slice da e.data.length dc, .string e.link] 79 (0,0)) by rw[HD]; exact(qg (show wr.heap.size≠wr.heap.size+1 by omega)).trans Yn.o)
    have HY:=ag (show W3.heap[wr.heap.size+1]? =some (.cells #[.string nm, .int .i64 e.kind, .int .i64 e.mode, .int .i64 e.time, .int .i64 0, .string e.link, .slice none 0 0, .string ⟨#[]⟩, .int .i64 0, .int .i64 0] 28 (0,0)) by rw[HD]; exact Jm HT.o);have hz:=ag (hD.o.below Yj.o Yk.o);have zc:wr.heap.size+1<W3.heap.size:=am HY.o;clear HD i0 i1 i2 i3 i4 i5 i6 i7 i8 i9 g0 g1 g2 g3 g4 g5 g6 g7 g8 g9 YB Yn HT
    obtain⟨d0,d1,_⟩:=aT HX.o;have d4:=ar (k:=4) HX.o;simp only[fV]at d4;obtain⟨i0,i1,i2,i3,i4,i5,i6,i7,i8,i9,_⟩:=aT HY.o;obtain⟨g0,g1,g2,g3,g4,g5,g6,g7,g8,g9,_⟩:=gT HY.o
    by_cases Hq:e.kind=1
    ·have e1:(e.kind == 1)=true:=by simp[Hq]
     have hL:=ag Hq;clear Hq
     go_upto_region 10 with(fail)
     obtain⟨W4,HF⟩:=bH (W3.setCell ⟨wr.heap.size+1,4,none⟩ (.int .i64 (e.data.length:Int)));rw[<-HF];have Yr:Below wr.heap.size wr W4:=by rw[HF]; exact cz Yj.o (by show wr.heap.size<=wr.heap.size+1; omega) _
     have yl:=ag (show W4.heap[wr.heap.size]? =some (.cells #[.string e.path, .int .i64 e.kind, .int .i64 e.mode, .int .i64 e.time, .slice da e.data.length dc, .string e.link] 79 (0,0)) by rw[HF]; exact(az _ _ _ _ (by show wr.heap.size≠wr.heap.size+1; omega)).trans HX.o);have H5:=jb (k:=4) HY.o (.int .i64 (e.data.length:Int));simp only[aX,cG,cr]at H5
     rw[<-HF]at H5;have YO:=ag H5;have hB:=ag (hD.o.below Yr Yk.o);have Ys:=(mE HR.o).2.2;have Yc:=Hp.o.len hD.o.bd;have Yd:=hf.o.usz;have YP:=BK hf.o.cut e.data;have Yu:=JA (· <base) base bb kb im k c gs gv v2 (.slice da e.data.length dc) (dR k gs cs2 bs) e.data W4 hB.o.bd hf.o.keys hf.o.cut hf.o.seed (HG.o.keep (fun i h1 _=>hB.o.kp.below.block i h1)) hf.o.gens
      (qc HQ.o.1 hB.o.kp.below) Ys (HE.o.keep hB.o.kp.below hf.o.seven) hf.o.bbb hf.o.bkb (an hd hB.o.kp.below.size) hf.o.seven (by omega)
     have YF:=ag Yu;clear HF Yr H5 Ys Yc Yd YP Yu d0 d1 d4 i0 i1 i2 i3 i4 i5 i6 i7 i8 i9 g0 g1 g2 g3 g4 g5 g6 g7 g8 g9;obtain⟨d0,d1,_⟩:=aT yl.o;have d4:=ar (k:=4) yl.o;simp only[fV]at d4;go_wp2_with fail;refine YF.o.mono ?_;rintro e' w5 ⟨rv,v5,rfl,Ha,hI,hA⟩;obtain⟨ra,rc,rfl,-,-⟩:=aH Ha;have ha:=ag (hB.o.step hI hA);have hk:=hA.blk hB.o.bd YO.o (by decide) (by decide)
     have YW:=hA.blk hB.o.bd yl.o (by decide) (by decide);obtain⟨rn,Yb⟩:=bH (((gK c e.data).map (bF k gs)).length);have YK:=ag Yb;rw[<-Yb]at Ha ⊢;have i6:=ar (k:=6) hk;have g6:=dD (k:=6) hk;simp only[fV]at i6;have Hz:=ag Ha;have yn:=ag hk;clear hI hA YW hk Yb Ha d0 d1 d4
     go_upto_region 15 with(fail)
     obtain⟨W6,hH⟩:=bH (w5.setCell ⟨wr.heap.size+1,6,none⟩ (.slice ra rn rc));rw[<-hH];have H6:=jb (k:=6) yn.o (.slice ra rn rc);simp only[aX,cG,cr]at H6;rw[<-hH]at H6;have hF:=ag (show EX w base bb im kb k c gv v (.slice (some ⟨b,0,none⟩) m ec) ys W6 v5 (.slice ia j ic) (dR k gs (gK c e.data) (dR k gs cs2 bs)) its by rw[hH];exact ha.o.otherSet yn.o (by decide) (by decide) (by decide) (by decide) (by decide) (fun e'=>by have:=(HV.o.lt _ e').2; omega) (by have:=hD.o.kp.below.size; omega) hd)
     have HA:=ag (show W6.ownsRow w.heap.size 26 3 (.slice ra rn rc) rn (((gK c e.data).map (bF k gs)).flatMap jt) by rw[hH];have Ya:=hB.o.kp.below.size;refine(gP Hz.o Ya).kept (cJ _ _ _ _) (.inr (fun e'=> ?_));obtain⟨cs2',yv⟩:=bK Hz.o e';exact absurd (bU yn.o yv) (by decide))
     clear i6 g6;obtain⟨it,hs⟩:=bH (dg k gs c path e eL);have hW:it.chunks=(gK c e.data).map (bF k gs):=by rw[hs]; unfold dg; simp only[if_pos hL.o]
     have Hd:=ag (show W6.heap[wr.heap.size+1]? =some (.cells #[.string it.name, .int .i64 it.kind, .int .i64 it.mode, .int .i64 it.time, .int .i64 it.size, .string it.link, .slice ra rn rc, .string it.node.name, .int .i64 it.node.gen, .int .i64 it.node.size] 28 (0,0)) by
      rw[H6,Hv.o,hs];unfold dg;simp only[if_pos hL.o,if_neg (show ¬e.kind=2 by rw[hL.o]; decide)]
      rfl)
     have hO:=ag (show W6.ownsRow w.heap.size 26 3 (.slice ra rn rc) it.chunks.length (it.chunks.flatMap jt) by rw[hW,<-YK.o]; exact HA.o);have hP:=ag (show Fa it by rw[hs]; exact qh hf.o.cut HR.o HQ.o.2 (by decide));have hM:=ag (show iI it from⟨by have:=hP.o.nm; unfold maxLen; omega,by have:=hP.o.lk; unfold maxLen; omega,by rw[hs]; unfold dg; simp only[if_neg (show ¬e.kind=2 by rw[hL.o]; decide)]; exact oe⟩)
     have hN:=ag (show ∀r∈it.chunks,dZ r by rw[hW];intro r hr;obtain⟨x,hx,rfl⟩:=aQ.1 hr;have:=(BL hf.o.cut e.data x hx).2;exact iC hf.o.gens (by omega))
     have Hs:=ag (show il k gs c (ig k gs c tree n) path (e::(ii tree path).drop (j+1)) its cs2=il k gs c (ig k gs c tree n) path ((ii tree path).drop (j+1)) (its++[it]) (cs2++gK c e.data) by rw[hs]; exact Aq hL.o);have hJ:=ag (show GW UR (dR k gs (cs2++gK c e.data) bs) by rw[jF]; exact Hp.o.puts (hf.o.u1 e H9.o));rw[<-jF]at hF
     clear hs hW HY hH H6;obtain⟨zs4,hq,hh,hG⟩:=hF.o.its.row;have ho:zs4.length=j:=by rw[<-Hj.o,<-hq,aw]
     have hV:=ag hq;have hT:=ag hh;have hR:=ag hG;have hS:=ag ho;have HO:w.heap.size<=(W6).heap.size:=hF.o.kp.below.size;have HK:j<1099511627775:=by omega
     rw[ho]at hh;have hU:=ag hh;clear hq hh hG ho;obtain⟨i0,i1,i2,i3,i4,i5,i6,i7,i8,i9,_⟩:=aT Hd.o;obtain⟨g0,g1,g2,g3,g4,g5,g6,g7,g8,g9,_⟩:=gT Hd.o;go_wp2_with (at_builtin; go_must (refine bP Tryz.appItems rfl _ _ rfl w.heap.size (.slice ia j ic) j (qi zs4) rfl (W6) [.string it.name, .int .i64 it.kind, .int .i64 it.mode, .int .i64 it.time, .int .i64 it.size, .string it.link, .slice ra rn rc, .string it.node.name, .int .i64 it.node.gen, .int .i64 it.node.size] _ rfl rfl (kS (it:=it)) hU.o HK HO ?_); intro v' wc hc hb _ _; obtain⟨ae,ce,rfl,-,-⟩:=aH hc; have Hw:=ag (hF.o.push (it:=it) hV.o hT.o hR.o (by rw[hS.o]; exact hc) hb hO.o hM.o hN.o hd); clear hc hb)
     clear i0 i1 i2 i3 i4 i5 i6 i7 i8 i9 g0 g1 g2 g3 g4 g5 g6 g7 g8 g9
     go_roundw
     ·exact⟨j+1,_,its++[it],(cs2++gK c e.data),by omega,by go_num,by simp[Hj.o],by rw[<-Hr.o,HP.o,Hs.o],hJ.o,fun y hy=>by
      rcases aP.1 hy with hy | hy
      ·exact HB.o y hy
      ·rw[aL]at hy; subst hy; exact hP.o,Hw.o⟩
     simp[intOf]; omega
    ·have e1:(e.kind == 1)=false:=by simp[Hq]
     have hL:=ag Hq;clear Hq
     by_cases hZ:e.kind=2
     ·have e2:(e.kind == 2)=true:=by simp[hZ]
      have Hc:=ag hZ;have Hg:=YH.o e.path v2 (dR k gs cs2 bs) W3 (by omega) (.inr ⟨e,H9.o,rfl⟩) hz.o.bd (HG.o.keep (fun i h1 _=>hz.o.kp.below.block i h1)) (YG.o.keep HH.o hz.o.kp hf.o.ikb) Hp.o (HE.o.keep hz.o.kp.below hf.o.seven) (an hd hz.o.kp.below.size);unfold Bu at Hg;clear hZ
      cases Hf:ig k gs c tree n e.path with
      | error x=>
       rw[Hf]at Hg;have Hx:=ag Hg;have Hy:=ag (show il k gs c (ig k gs c tree n) path (ii tree path) [] []= .error x by rw[<-Hr.o,HP.o,xG Hc.o,Hf]);clear Hg Hf;go_wp2_with fail;refine Hx.o.mono ?_;rintro e' w5 ⟨rfl,hx,v5,bs5,hI,hA⟩;have ha:=ag (hz.o.step hI hA);have e4:(x != 0)=true:=by simp[hx]
       have YN:=ag hx;clear hx d0 d1 d4 i0 i1 i2 i3 i4 i5 i6 i7 i8 i9 g0 g1 g2 g3 g4 g5 g6 g7 g8 g9;have hk:=hA.blk hz.o.bd HY.o (by decide) (by decide);have h9:(Value.slice ia j ic).ownBlock≠some (wr.heap.size+1):=fun e'=>by have:=(HV.o.lt _ e').2; omega
       have h8:w.heap.size<=wr.heap.size+1:=by have:=hD.o.kp.below.size; omega
       have a1:=ha.o.otherSet (q:=7) (u:= .string ⟨#[]⟩) hk (by decide) (by decide) (by decide) (by decide) (by decide) h9 h8 hd;have y1:=jb (k:=7) hk (.string ⟨#[]⟩);have a2:=a1.otherSet (q:=8) (u:= .int .i64 0) y1 (by decide) (by decide) (by decide) (by decide) (by decide) h9 h8 hd;have y2:=jb (k:=8) y1 (.int .i64 0);have a3:=a2.otherSet (q:=9) (u:= .int .i64 0) y2 (by decide) (by decide) (by decide) (by decide) (by decide) h9 h8 hd
       have y3:=jb (k:=9) y2 (.int .i64 0);simp only[aX,cG,cr]at y3;have i7:=ar (k:=7) hk;have i8:=ar (k:=8) hk;have i9:=ar (k:=9) hk;have g7:=dD (k:=7) hk;have g8:=dD (k:=8) hk;have g9:=dD (k:=9) hk;simp only[fV]at i7 i8 i9;obtain⟨W6,hH⟩:=bH (((w5.setCell ⟨wr.heap.size+1,7,none⟩ (.string ⟨#[]⟩)).setCell ⟨wr.heap.size+1,8,none⟩ (.int .i64 0)).setCell ⟨wr.heap.size+1,9,none⟩ (.int .i64 0))
       rw[<-hH]at a3 y3;have hF:=ag a3;have Yo:=ag y3;clear a1 y1 a2 y2 a3 y3 hk h9 h8
       go_upto_region 13 with(fail)
       rw[<-hH];clear hH i7 i8 i9 g7 g8 g9;have hC:=ag hF.o.res;obtain⟨z0,z1,z2,_⟩:=aT hC.o;obtain⟨y0,y1,y2,_⟩:=gT hC.o;go_wp2_with fail;refine wt hC.o rfl rfl rfl ?_;have Hb:=ag (show ig k gs c tree (n+1) path= .error x by rw[ig,Hy.o]);rw[Hb.o];exact⟨rfl,YN.o,v5,bs5,hF.o.bd.other hC.o (by decide) (by decide) (by decide) (fun i hi _=>eB hi),((hF.o.kp.setNew (ah _) hd).setNew (ah _) hd).setNew (ah _) hd⟩
      | ok p=>
       rw[Hf]at Hg
       dsimp only at Hg
       have Hx:=ag Hg;have Ht:=ag (show il k gs c (ig k gs c tree n) path (e::(ii tree path).drop (j+1)) its cs2=il k gs c (ig k gs c tree n) path ((ii tree path).drop (j+1)) (its++[dg k gs c path e (bF k gs p.1)]) (cs2++p.2) by rw[xG Hc.o,Hf]);have H8:=ag (Mz Hf);have YX:=ag (hf.o.u2 n e.path p (by omega) (.inr ⟨e,H9.o,rfl⟩) Hf)
       obtain⟨r,hr⟩:=bH (bF k gs p.1);have Yl:=ag hr;have YL:=ag (show dZ r by rw[hr]; exact iC hf.o.gens (by have:=H8.o; omega));have yc:=ag (show r.name.size=32 by rw[hr]; exact rp _ _ _);rw[<-hr]at Hx Ht;unfold eC at Hx;clear Hg Hf hr;go_wp2_with fail;refine Hx.o.mono ?_;rintro e' w5 ⟨rfl,HJ,v5,hI,hA⟩;have ya:=ag HJ
       have ha:=ag (hz.o.step hI hA);clear HJ d0 d1 d4 i0 i1 i2 i3 i4 i5 i6 i7 i8 i9 g0 g1 g2 g3 g4 g5 g6 g7 g8 g9;have hk:=hA.blk hz.o.bd HY.o (by decide) (by decide);have h9:(Value.slice ia j ic).ownBlock≠some (wr.heap.size+1):=fun e'=>by have:=(HV.o.lt _ e').2; omega
       have h8:w.heap.size<=wr.heap.size+1:=by have:=hD.o.kp.below.size; omega
       have a1:=ha.o.otherSet (q:=7) (u:= .string r.name) hk (by decide) (by decide) (by decide) (by decide) (by decide) h9 h8 hd;have y1:=jb (k:=7) hk (.string r.name);have a2:=a1.otherSet (q:=8) (u:= .int .i64 r.gen) y1 (by decide) (by decide) (by decide) (by decide) (by decide) h9 h8 hd;have y2:=jb (k:=8) y1 (.int .i64 r.gen);have a3:=a2.otherSet (q:=9) (u:= .int .i64 r.size) y2 (by decide) (by decide) (by decide) (by decide) (by decide) h9 h8 hd
       have y3:=jb (k:=9) y2 (.int .i64 r.size);simp only[aX,cG,cr]at y3;have i7:=ar (k:=7) hk;have i8:=ar (k:=8) hk;have i9:=ar (k:=9) hk;have g7:=dD (k:=7) hk;have g8:=dD (k:=8) hk;have g9:=dD (k:=9) hk;simp only[fV]at i7 i8 i9;obtain⟨W6,hH⟩:=bH (((w5.setCell ⟨wr.heap.size+1,7,none⟩ (.string r.name)).setCell ⟨wr.heap.size+1,8,none⟩ (.int .i64 r.gen)).setCell ⟨wr.heap.size+1,9,none⟩ (.int .i64 r.size))
       rw[<-hH]at a3 y3;have hF:=ag a3;have Yo:=ag y3;clear a1 y1 a2 y2 a3 y3 hk h9 h8
       go_upto_region 13 with(fail)
       rw[<-hH];clear hH i7 i8 i9 g7 g8 g9
       go_upto_region 15 with(fail)
       obtain⟨it,hs⟩:=bH (dg k gs c path e r);have hW:it.chunks=[]:=by rw[hs]; unfold dg; simp only[if_neg hL.o]
       have Hd:=ag (show W6.heap[wr.heap.size+1]? =some (.cells #[.string it.name, .int .i64 it.kind, .int .i64 it.mode, .int .i64 it.time, .int .i64 it.size, .string it.link, .slice none 0 0, .string it.node.name, .int .i64 it.node.gen, .int .i64 it.node.size] 28 (0,0)) by rw[Yo.o,Hv.o,hs];unfold dg;simp only[if_neg hL.o,if_pos Hc.o])
       have hO:=ag (show W6.ownsRow w.heap.size 26 3 (.slice none 0 0) it.chunks.length (it.chunks.flatMap jt) by rw[hW]; exact bN _ _ _ _);have hP:=ag (show Fa it by rw[hs]; exact qh hf.o.cut HR.o HQ.o.2 (by rw[yc.o]; decide));have hM:=ag (show iI it from⟨by have:=hP.o.nm; unfold maxLen; omega,by have:=hP.o.lk; unfold maxLen; omega,by rw[hs]; unfold dg; simp only[if_pos Hc.o]; exact YL.o⟩)
       have hN:=ag (show ∀r∈it.chunks,dZ r by rw[hW]; simp);have Hs:=ag (show il k gs c (ig k gs c tree n) path (e::(ii tree path).drop (j+1)) its cs2=il k gs c (ig k gs c tree n) path ((ii tree path).drop (j+1)) (its++[it]) (cs2++p.2) by rw[hs]; exact Ht.o);have hJ:=ag (show GW UR (dR k gs (cs2++p.2) bs) by rw[jF]; exact ya.o)
       rw[<-jF]at hF;clear hs hW;obtain⟨zs4,hq,hh,hG⟩:=hF.o.its.row;have ho:zs4.length=j:=by rw[<-Hj.o,<-hq,aw]
       have hV:=ag hq;have hT:=ag hh;have hR:=ag hG;have hS:=ag ho;have HO:w.heap.size<=(W6).heap.size:=hF.o.kp.below.size;have HK:j<1099511627775:=by omega
       rw[ho]at hh;have hU:=ag hh;clear hq hh hG ho;obtain⟨i0,i1,i2,i3,i4,i5,i6,i7,i8,i9,_⟩:=aT Hd.o;obtain⟨g0,g1,g2,g3,g4,g5,g6,g7,g8,g9,_⟩:=gT Hd.o;go_wp2_with (at_builtin; go_must (refine bP Tryz.appItems rfl _ _ rfl w.heap.size (.slice ia j ic) j (qi zs4) rfl (W6) [.string it.name, .int .i64 it.kind, .int .i64 it.mode, .int .i64 it.time, .int .i64 it.size, .string it.link, .slice none 0 0, .string it.node.name, .int .i64 it.node.gen, .int .i64 it.node.size] _ rfl rfl (kS (it:=it)) hU.o HK HO ?_); intro v' wc hc hb _ _; obtain⟨ae,ce,rfl,-,-⟩:=aH hc; have Hw:=ag (hF.o.push (it:=it) hV.o hT.o hR.o (by rw[hS.o]; exact hc) hb hO.o hM.o hN.o hd); clear hc hb)
       clear i0 i1 i2 i3 i4 i5 i6 i7 i8 i9 g0 g1 g2 g3 g4 g5 g6 g7 g8 g9
       go_roundw
       ·exact⟨j+1,_,its++[it],(cs2++p.2),by omega,by go_num,by simp[Hj.o],by rw[<-Hr.o,HP.o,Hs.o],hJ.o,fun y hy=>by
        rcases aP.1 hy with hy | hy
        ·exact HB.o y hy
        ·rw[aL]at hy; subst hy; exact hP.o,Hw.o⟩
       simp[intOf]; omega
     ·have e2:(e.kind == 2)=false:=by simp[hZ]
      have Hc:=ag hZ;clear hZ
      go_upto_region 15 with(fail)
      clear i0 i1 i2 i3 i4 i5 i6 i7 i8 i9 g0 g1 g2 g3 g4 g5 g6 g7 g8 g9 d0 d1 d4;obtain⟨it,hs⟩:=bH (dg k gs c path e eL);have hF:=hz;have Hd:=ag (show W3.heap[wr.heap.size+1]? =some (.cells #[.string it.name, .int .i64 it.kind, .int .i64 it.mode, .int .i64 it.time, .int .i64 it.size, .string it.link, .slice none 0 0, .string it.node.name, .int .i64 it.node.gen, .int .i64 it.node.size] 28 (0,0)) by
       rw[HY.o,Hv.o,hs];unfold dg;simp only[if_neg hL.o,if_neg Hc.o]
       rfl)
      have hW:it.chunks=[]:=by rw[hs]; unfold dg; simp only[if_neg hL.o]
      have hO:=ag (show W3.ownsRow w.heap.size 26 3 (.slice none 0 0) it.chunks.length (it.chunks.flatMap jt) by rw[hW]; exact bN _ _ _ _);have hP:=ag (show Fa it by rw[hs]; exact qh hf.o.cut HR.o HQ.o.2 (by decide));have hM:=ag (show iI it from⟨by have:=hP.o.nm; unfold maxLen; omega,by have:=hP.o.lk; unfold maxLen; omega,by rw[hs]; unfold dg; simp only[if_neg Hc.o]; exact oe⟩)
      have hN:=ag (show ∀r∈it.chunks,dZ r by rw[hW]; simp);have Hs:=ag (show il k gs c (ig k gs c tree n) path (e::(ii tree path).drop (j+1)) its cs2=il k gs c (ig k gs c tree n) path ((ii tree path).drop (j+1)) (its++[it]) cs2 by rw[hs]; exact Kk hL.o Hc.o);have hJ:=Hp;clear hs hW HY;obtain⟨zs4,hq,hh,hG⟩:=hF.o.its.row;have ho:zs4.length=j:=by rw[<-Hj.o,<-hq,aw]
      have hV:=ag hq;have hT:=ag hh;have hR:=ag hG;have hS:=ag ho;have HO:w.heap.size<=(W3).heap.size:=hF.o.kp.below.size;have HK:j<1099511627775:=by omega
      rw[ho]at hh;have hU:=ag hh;clear hq hh hG ho;obtain⟨i0,i1,i2,i3,i4,i5,i6,i7,i8,i9,_⟩:=aT Hd.o;obtain⟨g0,g1,g2,g3,g4,g5,g6,g7,g8,g9,_⟩:=gT Hd.o;go_wp2_with (at_builtin; go_must (refine bP Tryz.appItems rfl _ _ rfl w.heap.size (.slice ia j ic) j (qi zs4) rfl (W3) [.string it.name, .int .i64 it.kind, .int .i64 it.mode, .int .i64 it.time, .int .i64 it.size, .string it.link, .slice none 0 0, .string it.node.name, .int .i64 it.node.gen, .int .i64 it.node.size] _ rfl rfl (kS (it:=it)) hU.o HK HO ?_); intro v' wc hc hb _ _; obtain⟨ae,ce,rfl,-,-⟩:=aH hc; have Hw:=ag (hF.o.push (it:=it) hV.o hT.o hR.o (by rw[hS.o]; exact hc) hb hO.o hM.o hN.o hd); clear hc hb)
      clear i0 i1 i2 i3 i4 i5 i6 i7 i8 i9 g0 g1 g2 g3 g4 g5 g6 g7 g8 g9
      go_roundw
      ·exact⟨j+1,_,its++[it],cs2,by omega,by go_num,by simp[Hj.o],by rw[<-Hr.o,HP.o,Hs.o],hJ.o,fun y hy=>by
       rcases aP.1 hy with hy | hy
       ·exact HB.o y hy
       ·rw[aL]at hy; subst hy; exact hP.o,Hw.o⟩
      simp[intOf]; omega
  ·have hZ:j=m:=by omega
   have yb:=ag (show il k gs c (ig k gs c tree n) path (ii tree path) [] []= .ok (its,cs2) by rw[<-Hr.o,fq (by rw[<-Yp.o,aw,<-HM.o]; omega)]; rfl)
   have hY:=DP (fun _=>True) its (.slice ia j ic) wr hD.o.its.at (HE.o.keep hD.o.kp.below hf.o.seven).env (Nm HB.o (by rw[Hj.o]; omega)) (fun it hs=>(HB.o it hs).tm);unfold wE at hY
   by_cases hv:jL its=true
   ·simp only[if_pos hv]at hY
    by_cases hl:(gC its).length<=32768
    ·simp only[if_pos hl]at hY;have Hb:=ag (show ig k gs c tree (n+1) path= .ok (gC its,cs2++[gC its]) by rw[ig,yb.o]; simp only[if_pos hv,if_pos hl]);have Hu:=ag hY;have YM:=ag (hf.o.u2 (n+1) path _ hn514 YJ.o Hb.o);have YI:=ag hl;clear hY hv hl hZ;go_wp2_with fail;refine Hu.o.mono ?_;rintro e' w5 ⟨He,cv,rfl,y4⟩;obtain⟨ca,cc,rfl,-,-⟩:=aH y4
     have ha:=ag (hD.o.below He (an hd hD.o.kp.below.size));have Yc:=Hp.o.len hD.o.bd;have Yd:=hf.o.usz;have H1:=Ie (fun _=>True) base bb kb im k c gs gv v2 _ (dR k gs cs2 bs) (gC its) w5 ha.o.bd hf.o.keys (HG.o.keep (fun i h1 _=>ha.o.kp.below.block i h1)) hf.o.gens
      (bX.weak (cK y4) (fun _ _=>trivial)) YI.o (HE.o.keep ha.o.kp.below hf.o.seven) hf.o.bbb hf.o.bkb (an hd ha.o.kp.below.size) hf.o.seven (by omega)
     unfold EW eC at H1;obtain⟨r,hr⟩:=bH (bF k gs (gC its));rw[<-hr]at H1;have Yl:=ag hr;have Yi:=ag H1;obtain⟨nl,Yx⟩:=bH ((gC its).length);rw[<-Yx]at Yi ⊢;clear He y4 Yc Yd H1 hr Yx;go_wp2_with fail;refine Yi.o.mono ?_;rintro e' w6 ⟨rfl,v6,HI,HL⟩;have Hi:=ag (ha.o.step HI HL);have hC:=ag Hi.o.res;clear HI HL;obtain⟨z0,z1,z2,_⟩:=aT hC.o
     obtain⟨y0,y1,y2,_⟩:=gT hC.o;go_wp2_with fail;refine wt hC.o rfl rfl rfl ?_;rw[Hb.o];refine⟨by rw[<-Yl.o]; rfl, ?_,v6, ?_, ?_⟩
     ·rw[jF];exact Hp.o.put YM.o
     ·rw[jF];exact Hi.o.bd.other hC.o (by decide) (by decide) (by decide) (fun i hi _=>eB hi)
     ·exact((Hi.o.kp.setNew (ah _) hd).setNew (ah _) hd).setNew (ah _) hd
    ·simp only[if_neg hl]at hY;have Hb:=ag (show ig k gs c tree (n+1) path= .error 2 by rw[ig,yb.o]; simp only[if_pos hv,if_neg hl]);have Hu:=ag hY;clear hY hv hl hZ;go_wp2_with fail;refine Hu.o.mono ?_;rintro e' w5 ⟨He,rfl⟩;have ha:=ag (hD.o.below He (an hd hD.o.kp.below.size));have hC:=ag ha.o.res;clear He;obtain⟨z0,z1,z2,_⟩:=aT hC.o
     obtain⟨y0,y1,y2,_⟩:=gT hC.o;go_wp2_with fail;refine wt hC.o rfl rfl rfl ?_;rw[Hb.o];exact⟨rfl,by decide,v2,_,ha.o.bd.other hC.o (by decide) (by decide) (by decide) (fun i hi _=>eB hi),((ha.o.kp.setNew (ah _) hd).setNew (ah _) hd).setNew (ah _) hd⟩
   ·simp only[if_neg hv]at hY;have Hb:=ag (show ig k gs c tree (n+1) path= .error 1 by rw[ig,yb.o]; simp only[if_neg hv]);have hl:=hv;have Hu:=ag hY;clear hY hv hl hZ;go_wp2_with fail;refine Hu.o.mono ?_;rintro e' w5 ⟨He,rfl⟩;have ha:=ag (hD.o.below He (an hd hD.o.kp.below.size));have hC:=ag ha.o.res;clear He;obtain⟨z0,z1,z2,_⟩:=aT hC.o
    obtain⟨y0,y1,y2,_⟩:=gT hC.o;go_wp2_with fail;refine wt hC.o rfl rfl rfl ?_;rw[Hb.o];exact⟨rfl,by decide,v2,_,ha.o.bd.other hC.o (by decide) (by decide) (by decide) (fun i hi _=>eB hi),((ha.o.kp.setNew (ah _) hd).setNew (ah _) hd).setNew (ah _) hd⟩
theorem BO {base bb kb im:Nat} {k:dq} {c:fQ} {gs:List (ByteArray×Int)} {tree:List dk} {gv:Value} {UR:List bY} (hX:LN base bb kb im k c gs tree UR): ∀n,n<=514->OL base bb kb im k c gs tree gv UR n
 | 0,_=>MB hX
 | n+1,h=>MA n hX h (BO hX n (by omega))
end
section
open Go.RowKit
def xE (c:UInt8):ByteArray:=⟨#[c,49,50,51,52,53,54,55,56,57,97,98,99,100,101,102,48,49,50,51,52,53,54,55,56,57,97,98,99,100,101,102]⟩
def ew :dq:=⟨xE 110,xE 115,xE 99,xE 105,xE 116⟩
def ka :fQ:=⟨2,6,1,1,0⟩
def pd :List dk:=[⟨⟨#[97]⟩,1,0,0,[],⟨#[]⟩⟩,⟨⟨#[100]⟩,2,0,0,[],⟨#[]⟩⟩,⟨⟨#[100,47,108]⟩,3,5,6,[],⟨#[97]⟩⟩]
def sk :List UInt8:=[1,1,108,3,5,6,1,97]
def ro :bY:=bF ew [] sk
def tL :ci:=⟨⟨#[97]⟩,1,0,0,0,⟨#[]⟩,[],eL⟩
def LJ :ci:=⟨⟨#[100]⟩,2,0,0,0,⟨#[]⟩,[],ro⟩
def itL :ci:=⟨⟨#[108]⟩,3,5,6,0,⟨#[97]⟩,[],eL⟩
def uw :List UInt8:=gC [tL,LJ]
def ns :bY:=bF ew [] uw
def wX :List (ByteArray×List UInt8):=[(ns.name,uw)]
theorem DB :jK ew=true:=by decide+kernel
theorem Iv :jT ka=true:=by decide+kernel
theorem Ov :iJ pd=0:=by decide+kernel
theorem Pg :gC [itL]=sk:=by decide+kernel
theorem QB :ii pd ⟨#[]⟩=[⟨⟨#[97]⟩,1,0,0,[],⟨#[]⟩⟩,⟨⟨#[100]⟩,2,0,0,[],⟨#[]⟩⟩]:=by decide+kernel
theorem QC :ii pd ⟨#[100]⟩=[⟨⟨#[100,47,108]⟩,3,5,6,[],⟨#[97]⟩⟩]:=by decide+kernel
theorem Qz :js [0]=some []:=by kernel_rfl
theorem vn0 :jL []=true:=by decide+kernel
theorem vnL :jL [itL]=true:=by decide+kernel
theorem vnT :jL [tL,LJ]=true:=by decide+kernel
theorem Rk :ro≠ns:=by decide+kernel
theorem QI :ro.name≠ns.name:=by decide+kernel
theorem Rp (n:Nat):ig ew [] ka [] (n+1) ⟨#[]⟩= .ok ([0],[[0]]):=by
 rw[ig,show il ew [] ka (ig ew [] ka [] n) ⟨#[]⟩ (ii [] ⟨#[]⟩) [] []= .ok ([],[])from rfl];simp only[if_pos vn0];rw[if_pos (show(gC []).length<=32768 by decide)]
 rfl
theorem Ru :dR ew [] [[0]] []=[⟨bF ew [] [0],[0]⟩]:=by
 show kh ew [] [] [0]=_
 unfold kh;rw[if_neg (by simp),aJ]
theorem Qt :iA ew ka [] []= .ok (bF ew [] [0],[⟨bF ew [] [0],[0]⟩]):=by
 unfold iA;rw[if_pos ⟨DB,Iv⟩,if_pos (show([]:List (ByteArray×Int)).all (fun p=>decide (0<=p.2) && decide (p.2<=1099511627776))=true from rfl),if_pos (show iJ []=0 from rfl),Rp 513]
 dsimp only
 rw[Ru]
theorem Rj :dR ew [] [sk,uw] []=[⟨ro,sk⟩,⟨ns,uw⟩]:=by
 unfold dR;rw[ei,ei,List.foldl_nil];have h1:kh ew [] [] sk=[⟨ro,sk⟩]:=by
  unfold kh;rw[if_neg (by simp),aJ]
  rfl
 rw[h1];unfold kh;rw[if_neg]
 ·rfl
 ·intro h;simp only[bS,eY,aL]at h;exact Rk h.symm
theorem Rq (n:Nat):ig ew [] ka pd (n+1) ⟨#[100]⟩= .ok (sk,[sk]):=by
 have h:il ew [] ka (ig ew [] ka pd n) ⟨#[100]⟩ (ii pd ⟨#[100]⟩) [] []= .ok ([itL],[]):=by rw[QC]; rfl
 rw[ig,h];simp only[if_pos vnL,Pg]
 rfl
theorem Rr (n:Nat):ig ew [] ka pd (n+2) ⟨#[]⟩= .ok (uw,[sk,uw]):=by
 have h:il ew [] ka (ig ew [] ka pd (n+1)) ⟨#[]⟩ (ii pd ⟨#[]⟩) [] []= .ok ([tL,LJ],[sk]):=by
  rw[QB];rw[Aq (by rfl),xG (by rfl),show ig ew [] ka pd (n+1) ⟨#[100]⟩= .ok (sk,[sk])from Rq n]
  rfl
 rw[ig,h];simp only[if_pos vnT];rw[if_pos (show(gC [tL,LJ]).length<=32768 by decide+kernel)]
 rfl
theorem Qu :iA ew ka pd []= .ok (ns,[⟨ro,sk⟩,⟨ns,uw⟩]):=by
 unfold iA;rw[if_pos ⟨DB,Iv⟩,if_pos (by rfl),if_pos Ov,show(514:Nat)=512+2 from rfl,Rr 512]
 show Except.ok (ns,dR ew [] [sk,uw] [])=_
 rw[Rj]
theorem QA :js uw=some [tL,LJ]:=by kernel_rfl
theorem Rt :((uw.length:Nat):Int)=ns.size:=by kernel_rfl
theorem Nn :gq wX ns= .ok [tL,LJ]:=by
 have h:jr wX ns= .ok uw:=by
  unfold jr wX;rw[dU,if_pos rfl]
  show(if((uw.length:Nat):Int)=ns.size then Except.ok uw else .error 9)=_
  rw[if_pos Rt]
 unfold gq;rw[h];simp only[QA]
theorem Qk :gq wX ro= .error 10:=by
 have h:jr wX ro= .error 10:=by unfold jr wX;rw[dU,if_neg (fun e=>QI e.symm),dU]
 unfold gq;rw[h]
theorem OA :lj ns=true:=by decide+kernel
theorem Rc (n:Nat):kW wX (jz wX (n+1)) ⟨#[]⟩ [tL,LJ] []=(10,[⟨⟨#[97]⟩,1,0,0,[],⟨#[]⟩⟩,⟨⟨#[100]⟩,2,0,0,[],⟨#[]⟩⟩]):=by
 rw[ti (p:=⟨#[97]⟩) (bs:=[]) rfl (by decide+kernel) (by decide) rfl rfl,uS (p:=⟨#[100]⟩) rfl (by decide+kernel) (by decide) rfl];have h1: ∀X,jz wX (n+1) ⟨#[100]⟩ LJ.node X=(10,X):=fun X=>by rw[jz,show LJ.node=ro from rfl,Qk]
 rw[h1]
 rfl
theorem Rd (n:Nat):jz wX (n+2) ⟨#[]⟩ ns []=(10,[⟨⟨#[97]⟩,1,0,0,[],⟨#[]⟩⟩,⟨⟨#[100]⟩,2,0,0,[],⟨#[]⟩⟩]):=by rw[jz,Nn];exact Rc n
theorem Rb :vD wX ns= .error 10:=by
 unfold vD;rw[if_pos OA,show(514:Nat)=512+2 from rfl,Rd 512]
 rfl
theorem Re :lq wX ns ⟨#[97]⟩= .ok tL:=by
 unfold lq;rw[if_pos ⟨by decide+kernel,OA⟩,show jR (bl ⟨#[97]⟩)=[⟨#[97]⟩] by decide+kernel];rw[pJ,if_pos (show(nE ns).kind=2 from rfl),show(nE ns).node=ns from rfl,Nn]
 rfl
theorem QE :lq wX ns ⟨#[100,47,108]⟩= .error 10:=by
 unfold lq;rw[if_pos ⟨by decide+kernel,OA⟩,show jR (bl ⟨#[100,47,108]⟩)=[⟨#[100]⟩,⟨#[108]⟩] by decide+kernel];rw[pJ,if_pos (show(nE ns).kind=2 from rfl),show(nE ns).node=ns from rfl,Nn]
 show pJ wX [⟨#[108]⟩] LJ=_
 rw[pJ,if_pos (show LJ.kind=2 from rfl),show LJ.node=ro from rfl,Qk]
theorem Rf :Nf wX ns= .ok [ro]:=by kernel_rfl
open Go Go.RowKit Go.Maps
theorem oQ {tree:List dk} {j:Nat} {e:dk} (h:tree[j]? =some e) (d:ByteArray):ii (tree.take (j+1)) d=ii (tree.take j) d++(if cu (bl e.path)=bl d then [e]else []):=by
 unfold ii;rw[dC h,fM]
 congr 1
 by_cases hp:cu (bl e.path)=bl d
 ·simp[hp]
 ·simp[hp]
theorem vt {G:List Cq} {d:ByteArray} (h:G.find? (fun g=>decide (g.dir=d))=none):mF G d=[]:=by unfold mF; rw[h]
theorem oK {G:List Cq} {d:ByteArray} {g:Cq} (h:G.find? (fun g=>decide (g.dir=d))=some g):mF G d=g.ents.map Prod.snd:=by unfold mF; rw[h]
theorem vu {A B:List Cq} {g g':Cq} (hd:g'.dir=g.dir) (hA: ∀x∈A,x.dir≠g.dir) (d:ByteArray):mF (A++g'::B) d=if g.dir=d then g'.ents.map Prod.snd else mF (A++g::B) d:=by
 by_cases h:g.dir=d
 ·rw[if_pos h];refine oK ?_;rw[iN,fg.2 (fun x hx=>by rw[aG]; intro e; exact hA x hx (e.trans h.symm))];simp[hd,h]
 ·rw[if_neg h];unfold mF;rw[iN,iN,List.find?_cons,List.find?_cons,cE (show ¬g'.dir=d by rw[hd]; exact h),cE h]
theorem xm {G:List Cq} {g:Cq} (h:G.find? (fun x=>decide (x.dir=g.dir))=none) (d:ByteArray):mF (G++[g]) d=if g.dir=d then g.ents.map Prod.snd else mF G d:=by
 by_cases hd:g.dir=d
 ·rw[if_pos hd];refine oK ?_;rw[<-hd,iN,h];simp
 ·rw[if_neg hd];unfold mF;rw[iN]
  cases G.find? (fun x=>decide (x.dir=d))with
  | none=>simp[hd]
  | some x=>simp
section
variable {w w1 w2 : World} {base im : Nat} {A B G : List Cq} {g : Cq} {v' : Value} {y : pX} {q : ByteArray}
theorem qL.over (h:qL w base im (A++g::B)) (hb:base<=im) (hd:eD (· <base) w y.1 y.2.data/\nu y.2) (hown:w1.ownsRow base 79 6 v' (g.ents.length+1) (jx g.ents++vR y.1 y.2)) (hg:w.grownBy w1 g.val.ownBlock) (hpl: ∀i,v'.ownBlock=some i->g.val.ownBlock=some i\/w.heap.size<=i)
  (hm:iQ Tryz.prog 9 w2 im (A.map nX++(.string g.dir,v')::B.map nX)) (hg2:w1.grownBy w2 (some im)):qL w2 base im (A++⟨g.dir,v',g.ents++[y]⟩::B):=by
 have hj:w.ownsRow base 79 6 g.val g.ents.length (jx g.ents):=h.own g (by simp);have hq:w.heap[im]? =w1.heap[im]? ->True:=fun _=>trivial
 have hh: ∀ {u:Value} {n:Nat} {xs:List Value} {t:TypeId} {sz:Nat},w1.ownsRow base t sz u n xs->w2.ownsRow base t sz u n xs:=fun {u n xs t sz} hr=>by
  refine hr.kept hg2 (.inr (fun e=> ?_));obtain⟨cs,hc⟩:=bK hr e;have h0:=h.map.lt;have hi:w1.heap[im]? =w.heap[im]? :=hg.block im h0 (fun e2=>by obtain⟨cs2,hk⟩:=bK hj e2.symm;exact h.map.ncells hk)
  exact h.map.ncells (hi.symm.trans hc)
 have he: ∀x,x∈A\/x∈B-> ∀i,x.val.ownBlock=some i->g.val.ownBlock≠some i:=by
  intro x hx i hi;have hp:=eH.1 h.apart
  rcases hx with hx | hx
  ·exact hp.2.2 x hx g (by simp) i hi
  ·intro e;exact(fO.1 hp.2.1).1 x hx i e hi
 have ha: ∀ {u:Value} {bs:List UInt8},eD (· <base) w u bs->eD (· <base) w2 u bs:=fun {u bs} hu=>by
  refine bX.same hu (fun i hi=>(hg2.block i ?_ ?_).trans (hg.block i ?_ ?_))
  ·by_cases hl:i<w.heap.size
   ·exact aO hl hg.size
   ·exact absurd h.map.lt (by omega)
  ·intro e;have:i=im:=by simpa using e
   omega
  ·have:=h.map.lt;omega
  ·intro e;have:=(hj.lt i e.symm).1;omega
 have hn: ∀x,x∈A++g::B->(x∈A\/x∈B)\/x=g:=by
  intro x hx;simp only[aP,aU]at hx
  rcases hx with hx | hx | hx
  ·exact .inl (.inl hx)
  ·exact .inr hx
  ·exact .inl (.inr hx)
 refine⟨by simpa [nX]using hm,fun x hx=> ?_,fun x hx z hz=> ?_, ?_,fun x hx=> ?_⟩
 ·simp only[aP,aU]at hx
  rcases hx with hx | hx | hx
  ·refine hh ((h.own x (by simp[hx])).kept hg ?_)
   cases hv:x.val.ownBlock with
   | none=>exact .inl rfl
   | some i=>exact .inr (fun e=>he x (.inl hx) i hv e.symm)
  ·subst hx;simp only;rw[ai,bT,xk];exact hh hown
  ·refine hh ((h.own x (by simp[hx])).kept hg ?_)
   cases hv:x.val.ownBlock with
   | none=>exact .inl rfl
   | some i=>exact .inr (fun e=>he x (.inr hx) i hv e.symm)
 ·simp only[aP,aU]at hx
  rcases hx with hx | hx | hx
  ·have:=h.dat x (by simp[hx]) z hz;exact⟨ha this.1,this.2⟩
  ·subst hx
   rcases aP.1 hz with hz | hz
   ·have:=h.dat g (by simp) z hz;exact⟨ha this.1,this.2⟩
   ·rw[aL]at hz;subst hz;exact⟨ha hd.1,hd.2⟩
  ·have:=h.dat x (by simp[hx]) z hz;exact⟨ha this.1,this.2⟩
 ·have hp:=eH.1 h.apart;have hc:=fO.1 hp.2.1;have hf: ∀x,x∈A\/x∈B-> ∀i,x.val.ownBlock=some i->i<w.heap.size:=by
   intro x hx i hi;have ho:x∈A++g::B:=by rcases hx with hx | hx<;> simp[hx]
   exact((h.own x ho).lt i hi).2
  refine eH.2 ⟨hp.1,fO.2 ⟨fun x hx i hi e=> ?_,hc.2⟩,fun x hx z hz i hi e=> ?_⟩
  ·rcases hpl i hi with h2 | h2
   ·exact hc.1 x hx i h2 e
   ·have:=hf x (.inr hx) i e;omega
  ·rcases aU.1 hz with hz | hz
   ·subst hz
    rcases hpl i e with h2 | h2
    ·exact he x (.inl hx) i hi h2
    ·have:=hf x (.inl hx) i hi;omega
   ·exact hp.2.2 x hx z (by simp[hz]) i hi e
 ·simp only[aP,aU]at hx
  rcases hx with hx | hx | hx
  ·exact h.key x (by simp[hx])
  ·subst hx;exact h.key g (by simp)
  ·exact h.key x (by simp[hx])
theorem qL.new (h:qL w base im G) (hb:base<=im) (hq:q.size<=maxLen) (hd:eD (· <base) w y.1 y.2.data/\nu y.2) (hown:w1.ownsRow base 79 6 v' 1 (vR y.1 y.2)) (hg:w.grownBy w1 none) (hpl: ∀i,v'.ownBlock=some i->w.heap.size<=i)
  (hm:iQ Tryz.prog 9 w2 im (G.map nX++[(.string q,v')])) (hg2:w1.grownBy w2 (some im)):qL w2 base im (G++[⟨q,v',[y]⟩]):=by
 have he: ∀ {u:Value} {n:Nat} {xs:List Value} {t:TypeId} {sz:Nat},w1.ownsRow base t sz u n xs->w2.ownsRow base t sz u n xs:=fun {u n xs t sz} hr=>by refine hr.kept hg2 (.inr (fun e=> ?_));obtain⟨cs,hc⟩:=bK hr e;have h0:=h.map.lt;have hi:w1.heap[im]? =w.heap[im]? :=hg.block im h0 (by simp);exact h.map.ncells (hi.symm.trans hc)
 have ha: ∀ {u:Value} {bs:List UInt8},eD (· <base) w u bs->eD (· <base) w2 u bs:=fun {u bs} hu=>by
  have h0:=h.map.lt;refine bX.same hu (fun i hi=>(hg2.block i ?_ ?_).trans (hg.block i ?_ (by simp)))
  ·have:=hg.size;omega
  ·intro e;have:i=im:=by simpa using e
   omega
  ·skip
   omega
 refine⟨by simpa [nX]using hm,fun x hx=> ?_,fun x hx z hz=> ?_,eH.2 ⟨h.apart,by simp,fun x hx z hz i hi e=> ?_⟩,fun x hx=> ?_⟩
 ·rcases aP.1 hx with hx | hx
  ·exact he ((h.own x hx).kept hg (by cases hv:x.val.ownBlock<;> simp))
  ·rw[aL]at hx;subst hx
   simpa [jx]using he hown
 ·rcases aP.1 hx with hx | hx
  ·have:=h.dat x hx z hz;exact⟨ha this.1,this.2⟩
  ·rw[aL]at hx;subst hx;simp only[aL]at hz;subst hz;exact⟨ha hd.1,hd.2⟩
 ·rw[aL]at hz;subst hz;have h1:=hpl i e;have h2:=((h.own x hx).lt i hi).2;omega
 ·rcases aP.1 hx with hx | hx
  ·exact h.key x hx
  ·rw[aL]at hx;subst hx;exact hq
end
def Jz (k:dq) (gs:List (ByteArray×Int)) (c:fQ) (tree:List dk):List bY:=
 (tree.flatMap fun e=>(gK c e.data).map (bF k gs))++(List.range 515).flatMap fun n=>(⟨#[]⟩::tree.map dk.path).flatMap fun d=>match ig k gs c tree n d with
  | .ok p=>[bF k gs p.1]
  | .error _=>[]
theorem Ig {k:dq} {gs:List (ByteArray×Int)} {c:fQ} {tree:List dk} (hc:jT c=true) (hl:tree.length<=4096) (hv: ∀e∈tree,ij e=true):(Jz k gs c tree).length<=100000000000:=by
 have h1:=mS (fun e:dk=>(gK c e.data).map (bF k gs)) 1048576 tree (fun e he=>by
  rw[aw];have:=BK hc e.data;have:=(mE (hv e he)).2.2
  omega)
 have h2:=mS (fun n:Nat=>(⟨#[]⟩::tree.map dk.path).flatMap fun d=>match ig k gs c tree n d with
  | .ok p=>[bF k gs p.1]
  | .error _=>[]) 4097 (List.range 515) (fun n _=>by
   have h3:=mS (fun d=>match ig k gs c tree n d with
    | .ok p=>[bF k gs p.1]
    | .error _=>[]) 1 (⟨#[]⟩::tree.map dk.path) (fun d _=>by cases ig k gs c tree n d<;> simp)
   simp only[ay,aw]at h3
   omega)
 rw[List.length_range]at h2;have h4:tree.length*1048576<=4096*1048576:=dl _ hl;unfold Jz;rw[ai];omega
theorem Ih {k:dq} {gs:List (ByteArray×Int)} {c:fQ} {tree:List dk} : ∀e∈tree,∀y∈gK c e.data,bF k gs y∈Jz k gs c tree:=fun e he y hy=>
 aP.2 (.inl (dt.2 ⟨e,he,aQ.2 ⟨y,hy,rfl⟩⟩))
theorem Ii {k:dq} {gs:List (ByteArray×Int)} {c:fQ} {tree:List dk} : ∀(n:Nat) (d:ByteArray) (p:List UInt8×List (List UInt8)),n<=514->(d.size=0\/ ∃e∈tree,e.path=d)->ig k gs c tree n d= .ok p->bF k gs p.1∈Jz k gs c tree:=fun n d p hn hd hp=>by
 refine aP.2 (.inr (dt.2 ⟨n,eh.2 (by omega),dt.2 ⟨d, ?_, ?_⟩⟩))
 ·rcases hd with hd | ⟨e,he,rfl⟩
  ·have:d=⟨#[]⟩:=by
    apply kF
    exact bq (by rw[<-bi]; exact hd)
   simp[this]
  ·exact eG _ (aQ.2 ⟨e,he,rfl⟩)
 ·rw[hp]; simp
theorem JG {a:Act} {w:World} {b:Nat} {x0 x1 x2 e9 e10:Value} (h:w.heap[b]? =some (.cells #[x0,x1,x2] 26 (0,0)))
  (h8:a.tmps[8]? =some (.pointer (some ⟨b,0,none⟩))) (h9:a.tmps[9]? =some e9) (h10:a.tmps[10]? =some e10):(results Tryz.f22 a.tmps).run Tryz.prog w= .ok (.tuple #[.agg #[x0,x1,x2],e9,e10]) w:=by
 obtain⟨m0,m1,m2,_⟩:=aT h;simp[results,Tryz.results22,go_sem,h8,h9,h10,m0,m1,m2]
theorem kj {a:Act} {w:World} {b:Nat} {a0 a1 a2 x0 x1 x2 e9 e10:Value} {Q:Ending->World->Prop} (h:w.heap[b]? =some (.cells #[a0,a1,a2] 26 (0,0)))
  (h8:a.tmps[8]? =some (.pointer (some ⟨b,0,none⟩))) (h9:a.tmps[9]? =some e9) (h10:a.tmps[10]? =some e10) (hd:a.defers=[])
  (hQ:Q (.returned (.tuple #[.agg #[x0,x1,x2],e9,e10])) (((w.setCell ⟨b,0,none⟩ x0).setCell ⟨b,1,none⟩ x1).setCell ⟨b,2,none⟩ x2)):
  bodyPost Tryz.prog Tryz.f22 Q Exit.ret a (((w.setCell ⟨b,0,none⟩ x0).setCell ⟨b,1,none⟩ x1).setCell ⟨b,2,none⟩ x2):=cS (JG (vK h) h8 h9 h10) hd hQ
def tq (res:Except Int (bY×List cQ)) (w:World) (e:Ending) (w':World):Prop:=Below w.heap.size w w'/\match res with
 | .error x=>e= .returned (.tuple #[.agg #[.string ⟨#[]⟩, .int .i64 0, .int .i64 0], .slice none 0 0, .int .i64 x])/\x≠0
 | .ok p=> ∃v zs,e= .returned (.tuple #[eC p.1,v, .int .i64 0])/\zs.map Prod.snd=p.2/\iz w' w.heap.size v zs
theorem iz.other {w w':World} {base B b:Nat} {v:Value} {zs:List mp} {cs:Array Value} {t:TypeId} {z:Nat×Nat} (h:iz w base v zs) (hb:w.heap[b]? =some (.cells cs t z)) (h1:t≠53) (h2:t≠5) (hB:B<=base) (hs: ∀i,i≠b->w'.heap[i]? =w.heap[i]?):iz w' B v zs:=by
 refine⟨gP (fj h.row (fun i hi hu=>hs i (fun e=> ?_))) hB,fun y hy=>gP (fj (h.dat y hy) (fun i hi hu=>hs i (fun e=> ?_))) hB⟩
 ·subst e;obtain⟨cs2,ha⟩:=bK h.row hu;exact h1 (bU hb ha)
 ·subst e;obtain⟨cs2,ha⟩:=bK (h.dat y hy) hu;exact h2 (bU hb ha)
theorem Is (S:Nat->Prop) (L:List dk) (v:Value) (x:Int) (w:World) (hv:eR S w v L) (henv:nJ w) (hx:iJ L=x):Calls Tryz.prog 71 #[v] w fun e w'=>e= .returned (.int .i64 x)/\Below w.heap.size w w':=by rw[<-hx]; exact JM S L v w hv henv
theorem kP.nilKeep {w w':World} {base bb im kb:Nat} {k:dq} {c:fQ} {gv:Value} (h:kP w base bb k c gv im kb (.slice none 0 0) []) (hs:w'.heap[bb]? =w.heap[bb]?) (hk:w'.heap[kb]? =w.heap[kb]?):kP w' base bb k c gv im kb (.slice none 0 0) []:=
 ⟨hs.trans h.box,⟨[],rfl,bN _ _ _ _,by simp⟩,h.known.same hk⟩
structure BgI (w4 : World) (base bb im kb : Nat) (k : dq) (c : fQ) (gv : Value) (T : List dk) (wr : World) (G : List Cq) : Prop where
 bd:kP wr base bb k c gv im kb (.slice none 0 0) []
 grp:qL wr base im G
 ents: ∀d,mF G d=ii T d
 below:Below base w4 wr
theorem ut (S T:Nat->Prop) (k:dq) (c:fQ) (tree:List dk) (gs:List (ByteArray×Int)) (tv gv:Value) (w:World) (hsd:c.seed<18446744073709551616) (ht:eR S w tv tree) (hg:ld T w gv gs) (hE:rZ w):
  Calls Tryz.prog 22 #[kJ k,kB c,tv,gv] w (tq (iA k c tree gs) w):=by
 obtain⟨ta,tc,rfl,ZQ,ZP,-⟩:=cU.shape ht mu.len;unfold maxLen at ZP;obtain⟨n,hn⟩:=bH tree.length;rw[<-hn]at ht ZQ ⊢;have HN:=ag hn;have HT:=ag ht;have HG:=ag hg;have HE:=ag hE;obtain⟨W0,Yk⟩:=bH (((w.alloc (.cells #[.string k.nm, .string k.st, .string k.ck, .string k.ix, .string k.tk] 42)).alloc (.cells #[.int .i64 c.mn, .int .i64 c.mx, .int .i64 c.win, .int .i64 c.bits, .int .u64 (c.seed:Int)] 45)).alloc (.cells #[.string ⟨#[]⟩, .int .i64 0, .int .i64 0] 26))
 have Yl:Below w.heap.size w W0:=by rw[Yk]; exact((eT).alloc (by simp) _).alloc (by simp; omega) _
 have Zk:=ag Yl;have Zp:=ag (show W0.heap[w.heap.size]? =some (.cells #[.string k.nm, .string k.st, .string k.ck, .string k.ix, .string k.tk] 42 (0,0)) by rw[Yk]; exact mz (mz (ez w _) _) _);have Zz:=ag (show W0.heap[w.heap.size+1]? =some (.cells #[.int .i64 c.mn, .int .i64 c.mx, .int .i64 c.win, .int .i64 c.bits, .int .u64 (c.seed:Int)] 45 (0,0)) by rw[Yk]; exact mz (ql w _ _) _)
 have Zr:=ag (show W0.heap[w.heap.size+2]? =some (.cells #[.string ⟨#[]⟩, .int .i64 0, .int .i64 0] 26 (0,0)) by
  rw[Yk];have:=ez ((w.alloc (.cells #[.string k.nm, .string k.st, .string k.ck, .string k.ix, .string k.tk] 42)).alloc (.cells #[.int .i64 c.mn, .int .i64 c.mx, .int .i64 c.win, .int .i64 c.bits, .int .u64 (c.seed:Int)] 45)) (.cells #[.string ⟨#[]⟩, .int .i64 0, .int .i64 0] 26);rw[show((w.alloc (.cells #[.string k.nm, .string k.st, .string k.ck, .string k.ix, .string k.tk] 42)).alloc (.cells #[.int .i64 c.mn, .int .i64 c.mx, .int .i64 c.win, .int .i64 c.bits, .int .u64 (c.seed:Int)] 45)).heap.size=w.heap.size+2 by simp]at this
  exact this)
 have Zf:=zo k W0 (hE.below Yl).envh;unfold kJ at Zf ⊢;unfold kB;have YO:=ag Zf;clear ht hg hE hn Yl Zf
 go_enter Tryz.func22,Tryz.ntmps22
 go_upto_region 1 with(fail)
 rw[<-Yk];clear Yk;obtain⟨a0,a1,a2,a3,a4,_⟩:=aT Zp.o
 cases H4:jK k with
 | false=>
  rw[H4]at YO;have HM:=ag (show iA k c tree gs= .error 1 by unfold iA; rw[if_neg (by rw[H4]; simp)]);clear H4;go_wp2_with fail;refine YO.o.mono ?_;rintro e w1 ⟨⟨sv,rfl⟩,HU⟩;have YM:=ag (aj Zk.o HU);have Yj:=ag (eA HU Zr.o);clear HU a0 a1 a2 a3 a4;obtain⟨z0,z1,z2,_⟩:=aT Yj.o;obtain⟨y0,y1,y2,_⟩:=gT Yj.o;go_wp2_with fail;refine kj Yj.o rfl rfl rfl rfl ⟨iu YM.o (by show w.heap.size<=w.heap.size+2; omega), ?_⟩
  rw[HM.o];exact⟨rfl,by decide⟩
 | true=>
  rw[H4]at YO;have Zo:=ag H4;go_wp2_with fail;refine YO.o.mono ?_;rintro e w1 ⟨⟨sv,rfl⟩,HU⟩;have YM:=ag (aj Zk.o HU);have ZT:=ag HU;have Yj:=ag (eA HU Zr.o);have ZC:=ag (eA HU Zp.o);have Zl:=ag (eA HU Zz.o);clear HU a0 a1 a2 a3 a4;obtain⟨b0,b1,b2,b3,b4,_⟩:=aT Zl.o
  cases H2:jT c with
  | false=>
   have Yn:=ag H2;have HM:=ag (show iA k c tree gs= .error 1 by unfold iA; rw[if_neg (by rw[H2]; simp)]);have Yc:=oH c false w1 H2;unfold kB at Yc;have Y9:=ag Yc;clear H4 H2 Yc;go_wp2_with fail;refine Y9.o.mono ?_;rintro e w2 ⟨rfl,HZ⟩;have Yi:=ag (aj YM.o HZ);have yv:=ag (eA HZ Yj.o);clear HZ b0 b1 b2 b3 b4;obtain⟨z0,z1,z2,_⟩:=aT yv.o
   obtain⟨y0,y1,y2,_⟩:=gT yv.o;go_wp2_with fail;refine kj yv.o rfl rfl rfl rfl ⟨iu Yi.o (by show w.heap.size<=w.heap.size+2; omega), ?_⟩;rw[HM.o];exact⟨rfl,by decide⟩
  | true=>
   have Yn:=ag H2;have Y3:=ag (show iA k c tree gs=(if(gs.all fun p=>decide (0<=p.2) && decide (p.2<=1099511627776))=true then
    (if iJ tree=0 then(match ig k gs c tree 514 ⟨#[]⟩with
     | .error x=> .error x
     | .ok p=> .ok (bF k gs p.1,dR k gs p.2 []))
    else .error (iJ tree))else .error 1) by unfold iA; rw[if_pos ⟨H4,H2⟩]; rfl)
   have Yc:=oH c true w1 H2;unfold kB at Yc;have Y9:=ag Yc;clear H4 H2 Yc;go_wp2_with fail;refine Y9.o.mono ?_;rintro e w2 ⟨rfl,HZ⟩;have Yi:=ag (aj YM.o HZ);have yv:=ag (eA HZ Yj.o);have Zn:=ag (eA HZ ZC.o);have Zm:=ag (eA HZ Zl.o);clear HZ b0 b1 b2 b3 b4
   rcases HG.o with⟨rfl,Zt⟩ | ⟨gb,rfl,ZF,YQ⟩
   ·have ZB:=ag Zt;have hr:=fun(w:World)=>run_range_nilMap (P:=Tryz.prog) w 47 9 3 Tryz.underlying47
    have Zu:=fun(w:World) (ty:TypeId) (a b:Nat) (s:Array Nat)=>run_next_nilMap (P:=Tryz.prog) w ty a b s
    clear Zt;go_wp2_with fail;obtain⟨W3,YP⟩:=bH (w2.alloc (.mapIter none 0 #[] 0));have ZL: ∀ty,(Instr.next (.pointer (some ⟨w2.heap.size,0,none⟩)) false ty).run Tryz.prog W3= .ok (.tuple #[.bool false]) W3:=by rw[YP]; exact fun ty=>Zu w2 ty _ _ _
    have Yy:Below w2.heap.size w2 W3:=by rw[YP]; exact eT
    have H7:=ag (aj Yi.o Yy);have Y6:=ag (eA Yy yv.o);have Y1:=ag (eA Yy Zn.o);have YV:=ag (eA Yy Zm.o);have Hu:=ag (show gs.all (fun p=>decide (0<=p.2) && decide (p.2<=1099511627776))=true by rw[ZB.o]; rfl);rw[<-YP];clear hr Zu Yy YP
    go_loopw [14] (fun _ wr=>wr=W3) (fun _ _=>0)
    ·rfl
    ·subst hrel
     go_upto_region 9 with(fail)
     have Yr:=ag (show iA k c tree gs=(if iJ tree=0 then(match ig k gs c tree 514 ⟨#[]⟩with
      | .error x=> .error x
      | .ok p=> .ok (bF k gs p.1,dR k gs p.2 []))
     else .error (iJ tree)) by rw[Y3.o,if_pos Hu.o])
     have YI:eR S (wr) (.slice ta n tc) tree:=eR.below HT.o H7.o;have YB:=HE.o.below H7.o;obtain⟨x,hx⟩: ∃x,iJ tree=x:=⟨_,rfl⟩;have Yz:=Is S tree (.slice ta n tc) x (wr) YI YB.env hx;have YX:=ag Yz;have hN:=ag hx;clear YI YB Yz hx;go_wp2_with fail;refine YX.o.mono ?_;rintro e w4 ⟨rfl,HC⟩;have HV:=ag (aj H7.o HC);have Hq:=ag (eA HC Y6.o)
     have Y2:=ag (eA HC Y1.o);have YW:=ag (eA HC YV.o);clear HC
     by_cases Hm:x=0
     ·have e1:(x != 0)=false:=by simp[Hm]
      have Hs:=ag (qa.1 (hN.o.trans Hm));have Ys:=ag (show iA k c tree gs=(match ig k gs c tree 514 ⟨#[]⟩with
       | .error x=> .error x
       | .ok p=> .ok (bF k gs p.1,dR k gs p.2 [])) by rw[Yr.o,if_pos (hN.o.trans Hm)])
      clear Hm;obtain⟨a0,a1,a2,a3,a4,_⟩:=aT Y2.o;obtain⟨b0,b1,b2,b3,b4,_⟩:=aT YW.o;have Zb:= @run_makeMap Tryz.prog
      go_upto_region 13 with(fail)
      obtain⟨W5,Hd⟩:=bH (((w4.alloc (.map #[] 0)).alloc (.map #[] 0)).alloc (.cells #[.string k.nm, .string k.st, .string k.ck, .string k.ix, .string k.tk, .int .i64 c.mn, .int .i64 c.mx, .int .i64 c.win, .int .i64 c.bits, .int .u64 (c.seed:Int), .map none, .map (some w4.heap.size), .slice none 0 0, .map (some (w4.heap.size+1))] 122));rw[<-Hd];obtain⟨base,hk⟩:=bH w4.heap.size;rw[<-hk]at Hd ⊢
      have Zy:=ag hk;have HD:BgI w4 base (base+1+1) base (base+1) k c (.map none) [] W5 []:=by
       have e1:(w4.alloc (.map #[] 0)).heap.size=base+1:=by simp[hk]
       have e2:((w4.alloc (.map #[] 0)).alloc (.map #[] 0)).heap.size=base+1+1:=by simp[hk]
       have h1:=iQ.made (P:=Tryz.prog) (k:=9) w4;have h2:=iU.made (w4.alloc (.map #[] 0));rw[e1]at h2;rw[<-hk]at h1;have h3:=ez ((w4.alloc (.map #[] 0)).alloc (.map #[] 0)) (.cells #[.string k.nm, .string k.st, .string k.ck, .string k.ix, .string k.tk, .int .i64 c.mn, .int .i64 c.mx, .int .i64 c.win, .int .i64 c.bits, .int .u64 (c.seed:Int), .map none, .map (some base), .slice none 0 0, .map (some (base+1))] 122)
       rw[e2]at h3;have YH:W5.heap[base]? =(w4.alloc (.map #[] 0)).heap[base]? :=by rw[Hd]; exact(cN _ _ _ (by rw[e2]; omega)).trans (cN _ _ _ (by rw[e1]; omega))
       have Ze:W5.heap[base+1]? =((w4.alloc (.map #[] 0)).alloc (.map #[] 0)).heap[base+1]? :=by rw[Hd]; exact cN _ _ _ (by rw[e2]; omega)
       refine⟨⟨by rw[Hd]; exact h3,⟨[],rfl,bN _ _ _ _,by simp⟩,h2.same Ze⟩,⟨h1.same YH,by simp,by simp,fy,by simp⟩,fun d=>rfl, ?_⟩;rw[Hd,hk];exact((eT).alloc (by simp) _).alloc (by simp; omega) _
      have Ym:=ag HD;have hS:w.heap.size+2<base:=by have:=am Hq.o; omega
      have hL:w.heap.size<=base:=by omega
      clear Hd a0 a1 a2 a3 a4 b0 b1 b2 b3 b4 Zb hk HD;go_wp2_with fail
      go_loopw [64] (fun i wr=> ∃(j:Nat) (G:List Cq),j<=n/\i= .int .i64 (j:Int)/\BgI w4 base (base+1+1) base (base+1) k c (.map none) (tree.take j) wr G) (fun i _=>n-(intOf i).toNat)
      ·exact⟨0,[],aR _,rfl,Ym.o⟩
      ·obtain⟨j,G,hj,rfl,YD⟩:=hrel;rename_i wq;have hm:=ag YD;clear YD Ym
       by_cases z9:j<n
       ·obtain⟨e,he⟩: ∃e,tree[j]? =some e:=⟨tree[j]'(by rw[<-HN.o]; exact z9),by simp⟩;have hM:Below w.heap.size w wr:=HV.o.trans (hm.o.below.mono hL);obtain⟨b,o,dv,rfl,-,-,YA,HI,-,p0,p1,p2,p3,p4,p5⟩:=jN (eR.below HT.o hM) he;obtain⟨da,dc,rfl,-,-⟩:=eD.slice YA;have Yo:=ag (show eD (· <base) wr (.slice da e.data.length dc) e.data/\nu e from by
         obtain⟨b9,o9,dv9,z5,_,_,z4,_,_,_,_,_,_,YF,_⟩:=jN HT.o he
         cases z5
         have hq:=(hM.cell (p:=⟨b,o+j*6+4,none⟩) (cR (a:=⟨b,o+j*6+4,none⟩) YF)).trans YF;rw[p4]at hq
         cases hq
         have z3:=bX.lt' z4 (by decide);exact⟨bX.same (bX.weak (T:=(· <w.heap.size)) z3 (fun _ h=>h)) (fun i hi=>hM.block i hi) |> fun h=>bX.weak h (fun i hi=>aO hi hL),HI⟩)
        have Hk:=Hs.o.val e (aM he);have y8:=dm Hk;have ZH:e.path.size<=512:=(mE Hk).1;obtain⟨q,hq⟩: ∃q:ByteArray,q=⟨(cu (bl e.path)).toArray⟩:=⟨_,rfl⟩;have HQ:=ag hq;have H1:q.size<=maxLen:=by have h1:=qq (l:=bl e.path) (fun h=>by have:=qy y8; rw[h]at this; simp at this);rw[hq,bi,jQ];rw[<-bi e.path]at h1;unfold maxLen;omega
        have Yp:=ag he;have YG:=fun W hE=>lu e.path q W hE y8 hq
        have Y5:=ag YG;have Hf:base<=wr.heap.size:=by have h1:=hm.o.grp.map.lt; omega
        have h7:7<=base:=an HE.o.seven hL;clear Hk y8 hq YA HI he YG
        go_upto_region 16 with(fail)
        obtain⟨W6,hB⟩:=bH (wr.alloc (.cells #[.string e.path, .int .i64 e.kind, .int .i64 e.mode, .int .i64 e.time, .slice da e.data.length dc, .string e.link] 79));rw[<-hB];have hC:Below wr.heap.size wr W6:=by rw[hB]; exact eT
        have Hv:=ag hC;have Yv:=ag (show W6.heap[wr.heap.size]? =some (.cells #[.string e.path, .int .i64 e.kind, .int .i64 e.mode, .int .i64 e.time, .slice da e.data.length dc, .string e.link] 79 (0,0)) by rw[hB]; exact ez wr _);have YY:=ag (HE.o.keep (HV.o.trans ((hm.o.below.mono hL).trans (hC.mono (an hL Hf)))) HE.o.seven);clear hB hC p0 p1 p2 p3 p4 p5;obtain⟨d0,d1,d2,d3,d4,d5,_⟩:=aT Yv.o
        go_wp2_with fail;refine(Y5.o W6 YY.o.env).mono ?_;rintro e' w7 ⟨rfl,y4⟩;have za:=ag (eA y4 Yv.o);have YT:=ag (aj Hv.o y4);clear y4 d0 d1 d2 d3 d4 d5;go_wp2_with fail;obtain⟨W8,HB⟩:=bH w7.drew;have y5:Below w7.heap.size w7 W8:=by rw[HB]; exact(ak _ _).drew
        have Hw:=ag (aj YT.o y5);have HY:=ag (eA y5 za.o);have HK:=ju.ofBelow (bb:=base+1+1) (kb:=base+1) (v:= .slice none 0 0) Hw.o Hf;have hs:=ag (hm.o.bd.below Hw.o);have hu:=ag (hm.o.grp.keep hm.o.bd HK (by omega));have hc:=ag hs.o.box;have hd:wr.heap.size<W8.heap.size:=am HY.o;have Hy:=ag (show eD (· <base) W8 (.slice da e.data.length dc) e.data/\nu e from⟨qc Yo.o.1 (Hw.o.mono Hf),Yo.o.2⟩)
        have ht:Tryz.prog.underlying 119=some (.map 9 46):=Tryz.underlying119;have HX:=ag ht;clear ht y5 HK;have k0:=ar (k:=0) hc.o;have k1:=ar (k:=1) hc.o;have k2:=ar (k:=2) hc.o;have k3:=ar (k:=3) hc.o;have k4:=ar (k:=4) hc.o;have k10:=ar (k:=10) hc.o;have k11:=ar (k:=11) hc.o;have k12:=ar (k:=12) hc.o;have k13:=ar (k:=13) hc.o
        simp only[nB,eW,gx,aK,aJ,fV]at k0 k1 k2 k3 k4 k10 k11 k12 k13;clear k0 k1 k2 k3 k4 k10 k12 k13;obtain⟨d0,d1,d2,d3,d4,d5,_⟩:=aT HY.o
        cases hf:G.find? (fun g=>decide (g.dir=q))with
        | none=>
         have HF:=ag hf;clear hf;have Hj: ∀p∈G.map nX,p.1≠Value.string q:=by intro p hp e9;obtain⟨g9,z6,rfl⟩:=aQ.1 hp;simp only[nX,eJ]at e9;have:=fg.1 HF.o g9 z6;simp[e9]at this
         have Hz:=ag Hj;have hZ:=ag (show ∀W:World,W.heap[base]? =W8.heap[base]? ->(Instr.lookup 119 (.map (some base)) (.string q) false).run Tryz.prog W= .ok (.slice none 0 0) W from fun W hW=>by
          have:=(hu.o.map.same hW).is.miss gB HX.o (show(zeroValue 46).run Tryz.prog W= .ok (.slice none 0 0) W by kernel_rfl) (iL H1) Hz.o false
          simpa using this)
         clear Hj;have Ha:=ag (show(Value.slice none 0 0).ownBlock≠some (base+1+1)/\(Value.slice none 0 0).ownBlock≠some wr.heap.size/\(Value.slice none 0 0).ownBlock≠some base from⟨by simp[Value.ownBlock],by simp[Value.ownBlock],by simp[Value.ownBlock]⟩);have yp:=ag (show(Value.slice none 0 0).ownBlock≠some (base+1) by simp[Value.ownBlock]);have h8:=ag (show ∀i,(Value.slice none 0 0).ownBlock=some i->base<=i from fun i hi=>by simp[Value.ownBlock]at hi)
         have h0:=ag (show(0:Nat)<1099511627775 by decide);have HL:=hZ.o W8 rfl;refine eP (fun w'=>w'.cell? ⟨base+1+1,11,none⟩=some (.map (some base))/\(Instr.lookup 119 (.map (some base)) (.string (q)) false).run Tryz.prog w'= .ok (.slice none 0 0) w'/\w'.cell? ⟨wr.heap.size,0,none⟩=some (.string e.path)/\w'.cell? ⟨wr.heap.size,1,none⟩=some (.int .i64 e.kind)/\w'.cell? ⟨wr.heap.size,2,none⟩=some (.int .i64 e.mode)/\w'.cell? ⟨wr.heap.size,3,none⟩=some (.int .i64 e.time)/\w'.cell? ⟨wr.heap.size,4,none⟩=some (.slice da e.data.length dc)/\w'.cell? ⟨wr.heap.size,5,none⟩=some (.string e.link)) (by kernel_rfl) (by kernel_rfl) ?_
         simp only[bu,bw,ay,bp,Nat.reduceAdd,Nat.reduceSub];rw[<-HB];clear HB
         iterate 12 (refine cF rfl ⟨k11,HL,d0,d1,d2,d3,d4,d5⟩ (by rintro w' ⟨Yd,Ye,Yf,Yg,YK,Zh,Zi,Zj⟩; go_simp; rfl) ?_; simp only[bM])
         have ho:=ag ((ak W8.heap.size W8).alloc (ah _) (.cells #[.string e.path, .int .i64 e.kind, .int .i64 e.mode, .int .i64 e.time, .slice da e.data.length dc, .string e.link] 79));have hz:base+1+1<W8.heap.size:=am hc.o;have hU:=aB ((ho.o.cell (p:=⟨base+1+1,11,none⟩) hz).trans k11) (aB (hZ.o _ (ho.o.block base (by omega))) (aB ((ho.o.cell (p:=⟨wr.heap.size,0,none⟩) hd).trans d0) (aB ((ho.o.cell (p:=⟨wr.heap.size,1,none⟩) hd).trans d1) (aB ((ho.o.cell (p:=⟨wr.heap.size,2,none⟩) hd).trans d2) (aB ((ho.o.cell (p:=⟨wr.heap.size,3,none⟩) hd).trans d3) (aB ((ho.o.cell (p:=⟨wr.heap.size,4,none⟩) hd).trans d4) ((ho.o.cell (p:=⟨wr.heap.size,5,none⟩) hd).trans d5)))))))
         have Hr:=ag hU;clear hU;refine cA 12 rfl (fun K hK=> ?_);go_wp2_with fail
         (first | (refine⟨Hr.o, ?_⟩) | skip)
         refine cA 13 rfl (fun K hK=> ?_);have Hn:base<=W8.heap.size:=by omega
         go_wp2_with (at_builtin; go_must (refine bP Tryz.appEnts rfl _ _ rfl base (.slice none 0 0) (0) ([]) rfl W8 [.string e.path, .int .i64 e.kind, .int .i64 e.mode, .int .i64 e.time, .slice da e.data.length dc, .string e.link] _ rfl rfl (ln (e:=e)) ((bN _ _ _ _)) h0.o Hn ?_); intro v' wc hl ha _ HP; obtain⟨ae,ce,rfl,-,-⟩:=aH hl);have hG:=(ha.block (base+1+1) hz (fun e9=>Ha.o.1 e9.symm)).trans hc.o
         have HR:=(ha.block wr.heap.size hd (fun e9=>Ha.o.2.1 e9.symm)).trans HY.o;have Hi:=ha.block base (by omega) (fun e9=>Ha.o.2.2 e9.symm);have hH:=hZ.o wc Hi;have hD:=ag hG;have y3:=ag HR;have yl:=ag Hi;have Hb:=ag hl;have hh:=ag ha;have Hc:=ag HP;clear hG HR Hi hl ha HP HL k11 d0 d1 d2 d3 d4 d5;obtain⟨d0,d1,d2,d3,d4,d5,_⟩:=aT y3.o
         have k11:=ar (k:=11) hD.o;simp only[nB,eW,gx,aK,aJ,fV]at k11;refine⟨⟨k11,hH,d0,d1,d2,d3,d4,d5⟩, ?_⟩;refine cH (by kernel_rfl) ?_;refine eX rfl rfl (fun K hK=> ?_);clear k11 hH d0 d1 d2 d3 d4 d5;have yn:=ag (hu.o.map.same yl.o);go_wp2_with (at_mapUpdate; go_must (refine kO gB rfl _ _ _ _ rfl HX.o base (G.map nX) yn.o rfl (.string q) (.slice ae (0+1) ce) rfl rfl (iL H1) Hz.o ?_); intro w10 hI hw)
         have hv:=ag hw;have hY:=ag (hu.o.new (ah _) H1 (y:=(.slice da e.data.length dc,e)) Hy.o Hb.o hh.o (fun i hi=>by
          rcases Hc.o i hi with h9 | h9
          ·simp[Value.ownBlock]at h9
          ·exact h9) hI hw)
         clear hI hw;have He:=hm.o.below.trans ((Hw.o.mono Hf).trans (((ak base W8).grown hh.o Hn (fun i hi=>h8.o i hi)).grown hv.o (an Hn hh.o.size) (fun i hi=>by cases hi; exact ah _)));have hF:=hs.o.nilKeep (w':=w10) ((hv.o.block _ (aO hz hh.o.size) (fun e9=>by have:=bt e9; omega)).trans (hD.o.trans hc.o.symm)) ((hv.o.block _ (aO hs.o.known.map.lt hh.o.size) (fun e9=>by have:=bt e9; omega)).trans (hh.o.block _ hs.o.known.map.lt (fun e9=>yp.o e9.symm)))
         go_roundw
         ·refine⟨j+1,(G++[⟨q, .slice ae (0+1) ce,[(.slice da e.data.length dc,e)]⟩]),by omega,by go_num,⟨hF,hY.o,fun d=> ?_,He⟩⟩;rw[oQ Yp.o];rw[xm (g:=⟨q, .slice ae (0+1) ce,[(.slice da e.data.length dc,e)]⟩) HF.o]
          by_cases hJ:q=d
          ·rw[if_pos hJ,if_pos (show cu (bl e.path)=bl d by rw[<-hJ,HQ.o]; exact(jQ _).symm),<-hm.o.ents d,<-hJ,vt HF.o]
           rfl
          ·rw[if_neg hJ,if_neg (fun h9=>hJ (kF (by rw[HQ.o]; exact(jQ _).trans h9))),cg];exact hm.o.ents d
         simp[intOf]; omega
        | some g=>
         obtain⟨A,B,zz,z7,hA⟩: ∃A B,G=A++g::B/\g.dir=q/\ ∀x∈A,x.dir≠q:=by have h9:=List.find?_eq_some_iff_append.1 hf;obtain⟨h1,A,B,h2,h3⟩:=h9;exact⟨A,B,h2,by simpa using h1,fun x hx=>by simpa using h3 x hx⟩
         have Hg:=oK hf;subst z7;subst zz;have ya:=ag Hg;have HA:=ag hA;have Hh:=hu.o.own g (by simp);have HJ:=hm.o.grp.own g (by simp);obtain⟨ga,gc,hV,ZJ,-⟩:=aH Hh;have H0:g.ents.length<=4096:=by have h1:=hm.o.ents g.dir;rw[Hg]at h1;have h2:=congrArg List.length h1;rw[aw]at h2;rw[h2];have h3:(ii (tree.take j) g.dir).length<=(tree.take j).length:=dI _ _;rw[aW]at h3;have h4:=Hs.o.len;omega
         obtain⟨gl,hR⟩:=bH g.ents.length;have YZ:=ag hR;rw[<-hR]at hV H0;have h0:=ag (show gl<1099511627775 by omega);have Y0:=ag (show W8.ownsRow base 79 6 (.slice ga gl gc) gl (jx g.ents) by rw[<-hV,hR]; exact Hh);have Yq:=ag hV;have Ha:=ag (show(Value.slice ga gl gc).ownBlock≠some (base+1+1)/\(Value.slice ga gl gc).ownBlock≠some wr.heap.size/\(Value.slice ga gl gc).ownBlock≠some base from by
          rw[<-hV];refine⟨fun e9=> ?_,fun e9=> ?_,fun e9=> ?_⟩
          ·obtain⟨cs2,HH⟩:=bK Hh e9;exact absurd (bU hc.o HH) (by decide)
          ·have:=(HJ.lt _ e9).2;omega
          ·obtain⟨cs2,HH⟩:=bK Hh e9;exact hu.o.map.ncells HH)
         have yp:=ag (show(Value.slice ga gl gc).ownBlock≠some (base+1)from by rw[<-hV];intro e9;obtain⟨cs2,HH⟩:=bK Hh e9;exact hs.o.known.cells HH)
         have h8:=ag (show ∀i,(Value.slice ga gl gc).ownBlock=some i->base<=i from fun i hi=>by rw[<-hV]at hi;exact(Hh.lt i hi).1)
         have hZ:=ag (show ∀W:World,W.heap[base]? =W8.heap[base]? ->(Instr.lookup 119 (.map (some base)) (.string g.dir) false).run Tryz.prog W= .ok (.slice ga gl gc) W from fun W hW=>by
          have:=(hu.o.map.same hW).is.hit gB HX.o (iL H1) (val:=g.val) (aQ.2 ⟨g,by simp,rfl⟩) false;rw[hV]at this
          simpa using this)
         clear hf Hg hA Hh HJ hV hR;have HL:=hZ.o W8 rfl;refine eP (fun w'=>w'.cell? ⟨base+1+1,11,none⟩=some (.map (some base))/\(Instr.lookup 119 (.map (some base)) (.string (g.dir)) false).run Tryz.prog w'= .ok (.slice ga gl gc) w'/\w'.cell? ⟨wr.heap.size,0,none⟩=some (.string e.path)/\w'.cell? ⟨wr.heap.size,1,none⟩=some (.int .i64 e.kind)/\w'.cell? ⟨wr.heap.size,2,none⟩=some (.int .i64 e.mode)/\w'.cell? ⟨wr.heap.size,3,none⟩=some (.int .i64 e.time)/\w'.cell? ⟨wr.heap.size,4,none⟩=some (.slice da e.data.length dc)/\w'.cell? ⟨wr.heap.size,5,none⟩=some (.string e.link)) (by kernel_rfl) (by kernel_rfl) ?_
         simp only[bu,bw,ay,bp,Nat.reduceAdd,Nat.reduceSub];rw[<-HB];clear HB
         iterate 12 (refine cF rfl ⟨k11,HL,d0,d1,d2,d3,d4,d5⟩ (by rintro w' ⟨Yd,Ye,Yf,Yg,YK,Zh,Zi,Zj⟩; go_simp; rfl) ?_; simp only[bM])
         have ho:=ag ((ak W8.heap.size W8).alloc (ah _) (.cells #[.string e.path, .int .i64 e.kind, .int .i64 e.mode, .int .i64 e.time, .slice da e.data.length dc, .string e.link] 79));have hz:base+1+1<W8.heap.size:=am hc.o;have hU:=aB ((ho.o.cell (p:=⟨base+1+1,11,none⟩) hz).trans k11) (aB (hZ.o _ (ho.o.block base (by omega))) (aB ((ho.o.cell (p:=⟨wr.heap.size,0,none⟩) hd).trans d0) (aB ((ho.o.cell (p:=⟨wr.heap.size,1,none⟩) hd).trans d1) (aB ((ho.o.cell (p:=⟨wr.heap.size,2,none⟩) hd).trans d2) (aB ((ho.o.cell (p:=⟨wr.heap.size,3,none⟩) hd).trans d3) (aB ((ho.o.cell (p:=⟨wr.heap.size,4,none⟩) hd).trans d4) ((ho.o.cell (p:=⟨wr.heap.size,5,none⟩) hd).trans d5)))))))
         have Hr:=ag hU;clear hU;refine cA 12 rfl (fun K hK=> ?_);go_wp2_with fail
         (first | (refine⟨Hr.o, ?_⟩) | skip)
         refine cA 13 rfl (fun K hK=> ?_);have Hn:base<=W8.heap.size:=by omega
         go_wp2_with (at_builtin; go_must (refine bP Tryz.appEnts rfl _ _ rfl base (.slice ga gl gc) (gl) ((jx g.ents)) rfl W8 [.string e.path, .int .i64 e.kind, .int .i64 e.mode, .int .i64 e.time, .slice da e.data.length dc, .string e.link] _ rfl rfl (ln (e:=e)) (Y0.o) h0.o Hn ?_); intro v' wc hl ha _ HP; obtain⟨ae,ce,rfl,-,-⟩:=aH hl);have hG:=(ha.block (base+1+1) hz (fun e9=>Ha.o.1 e9.symm)).trans hc.o
         have HR:=(ha.block wr.heap.size hd (fun e9=>Ha.o.2.1 e9.symm)).trans HY.o;have Hi:=ha.block base (by omega) (fun e9=>Ha.o.2.2 e9.symm);have hH:=hZ.o wc Hi;have hD:=ag hG;have y3:=ag HR;have yl:=ag Hi;have Hb:=ag hl;have hh:=ag ha;have Hc:=ag HP;clear hG HR Hi hl ha HP HL k11 d0 d1 d2 d3 d4 d5;obtain⟨d0,d1,d2,d3,d4,d5,_⟩:=aT y3.o
         have k11:=ar (k:=11) hD.o;simp only[nB,eW,gx,aK,aJ,fV]at k11;refine⟨⟨k11,hH,d0,d1,d2,d3,d4,d5⟩, ?_⟩;refine cH (by kernel_rfl) ?_;refine eX rfl rfl (fun K hK=> ?_);clear k11 hH d0 d1 d2 d3 d4 d5;have yn:=ag (show iQ Tryz.prog 9 wc base (A.map nX++(.string g.dir,g.val)::B.map nX)from by
          have:=hu.o.map.same yl.o
          simpa [nX]using this)
         go_wp2_with (at_mapUpdate; go_must (refine qA gB rfl _ _ _ _ rfl HX.o base (A.map nX) (B.map nX) (.string g.dir) (.slice ae (gl+1) ce) g.val yn.o rfl rfl rfl ?_); intro w10 hI hw);have hv:=ag hw;have hY:=ag (hu.o.over (ah _) (y:=(.slice da e.data.length dc,e)) Hy.o (by rw[<-YZ.o]; exact Hb.o) (by rw[Yq.o]; exact hh.o) (by rw[Yq.o]; exact Hc.o) hI hw)
         clear hI hw;have He:=hm.o.below.trans ((Hw.o.mono Hf).trans (((ak base W8).grown hh.o Hn (fun i hi=>h8.o i hi)).grown hv.o (an Hn hh.o.size) (fun i hi=>by cases hi; exact ah _)));have hF:=hs.o.nilKeep (w':=w10) ((hv.o.block _ (aO hz hh.o.size) (fun e9=>by have:=bt e9; omega)).trans (hD.o.trans hc.o.symm)) ((hv.o.block _ (aO hs.o.known.map.lt hh.o.size) (fun e9=>by have:=bt e9; omega)).trans (hh.o.block _ hs.o.known.map.lt (fun e9=>yp.o e9.symm)))
         go_roundw
         ·refine⟨j+1,(A++⟨g.dir, .slice ae (gl+1) ce,g.ents++[(.slice da e.data.length dc,e)]⟩::B),by omega,by go_num,⟨hF,hY.o,fun d=> ?_,He⟩⟩;rw[oQ Yp.o];rw[vu (A:=A) (B:=B) (g:=g) (g':=(⟨g.dir, .slice ae (gl+1) ce,g.ents++[((Value.slice da e.data.length dc,e):pX)]⟩:Cq)) rfl HA.o d]
          by_cases hJ:g.dir=d
          ·rw[if_pos hJ,if_pos (show cu (bl e.path)=bl d by rw[<-hJ,HQ.o]; exact(jQ _).symm),<-hm.o.ents d,<-hJ,ya.o,aI]
           rfl
          ·rw[if_neg hJ,if_neg (fun h9=>hJ (kF (by rw[HQ.o]; exact(jQ _).trans h9))),cg];exact hm.o.ents d
         simp[intOf]; omega
       ·have z8:j=n:=by omega
        have H0:EZ wr base base tree:=⟨G,hm.o.grp,fun d=>by have:=hm.o.ents d; rwa [show tree.take j=tree by rw[z8,HN.o,dw]]at this⟩;have Hf:base<=wr.heap.size:=by have h1:=hm.o.grp.map.lt; omega
        have h7:7<=base:=an HE.o.seven hL;have y9: ∀p∈gs,0<=p.2/\p.2<=1099511627776:=fun p hp=>by have:=cB.1 Hu.o p hp; simpa using this
        have hX:LN base (base+1+1) (base+1) base k c gs tree (Jz k gs c tree):=⟨Zo.o,Yn.o,hsd,y9,by omega,by omega,h7,by omega,Hs.o.val,Hs.o.len,Ig Yn.o Hs.o.len Hs.o.val,Ih,Ii⟩;have hM:Below w.heap.size w wr:=HV.o.trans (hm.o.below.mono hL);have YC:ld (· <base) wr (.map none) gs:=by
         rcases HG.o with⟨h1,h2⟩ | ⟨gb9,h1,_,h3⟩
         ·exact .inl ⟨h1,h2⟩
         ·exact .inr ⟨gb9,h1,aO h3.lt hL,h3.same (hM.block _ h3.lt)⟩
        have hP:=BO hX 514 (ah _) ⟨#[]⟩ (.slice none 0 0) [] wr (by show 514<=0+514; omega) (.inl rfl) hm.o.bd YC H0 (by intro b hb; simp at hb) (HE.o.keep hM HE.o.seven) Hf;unfold Bu at hP;clear H0 hX YC
        cases Ht:ig k gs c tree 514 ⟨#[]⟩with
        | error x9=>
         rw[Ht]at hP;have yc:=ag (show iA k c tree gs= .error x9 by rw[Ys.o,Ht]);have HW:=ag hP;clear hP Ht;go_wp2_with fail;refine HW.o.mono ?_;rintro e' w5 ⟨rfl,Yh,v5,bs5,hO,hy⟩;have HS:=ag (hM.trans (hy.below.mono hL));have Ho:=ag ((hy.below.block (w.heap.size+2) hS).trans ((hm.o.below.block (w.heap.size+2) hS).trans Hq.o));have zc:=ag Yh
         have e4:(x9 != 0)=true:=by simp[Yh]
         clear Yh hO hy hM
         go_upto_region 20 with(fail)
         obtain⟨W6,hB⟩:=bH (w5.alloc (.cells #[.string ⟨#[]⟩, .int .i64 0, .int .i64 0] 26));rw[<-hB];have hC:Below w5.heap.size w5 W6:=by rw[hB]; exact eT
         have Hv:=ag (aj HS.o hC);have hT:=ag (eA hC Ho.o);clear hC hB;obtain⟨z0,z1,z2,_⟩:=aT hT.o;obtain⟨y0,y1,y2,_⟩:=gT hT.o;go_wp2_with fail;refine kj hT.o rfl rfl rfl rfl ⟨iu Hv.o (by show w.heap.size<=w.heap.size+2; omega), ?_⟩;rw[yc.o];exact⟨rfl,zc.o⟩
        | ok p=>
         rw[Ht]at hP
         dsimp only at hP
         have yc:=ag (show iA k c tree gs= .ok (bF k gs p.1,dR k gs p.2 []) by rw[Ys.o,Ht]);obtain⟨r,hr⟩:=bH (bF k gs p.1);rw[<-hr]at hP;have Y7:=ag hr;have HW:=ag hP;unfold eC at HW;clear hP Ht hr;go_wp2_with fail;refine HW.o.mono ?_;rintro e' w5 ⟨rfl,-,v5,hO,hy⟩;have HS:=ag (hM.trans (hy.below.mono hL));have Ho:=ag ((hy.below.block (w.heap.size+2) hS).trans ((hm.o.below.block (w.heap.size+2) hS).trans Hq.o))
         have H8:=ag hO;clear hO hy hM
         go_upto_region 22 with(fail)
         obtain⟨W6,hB⟩:=bH ((w5.alloc (.cells #[.string r.name, .int .i64 r.gen, .int .i64 r.size] 26)).drew);have hC:Below w5.heap.size w5 W6:=by rw[hB]; exact(eT).drew
         have Hv:=ag (aj HS.o hC);have hT:=ag (eA hC Ho.o);have yb:=ag (show W6.heap[w5.heap.size]? =some (.cells #[.string r.name, .int .i64 r.gen, .int .i64 r.size] 26 (0,0)) by rw[hB]; exact ez w5 _);have Hx:=ag (H8.o.below hC);obtain⟨zs,YL,y6⟩:=Hx.o.own;obtain⟨va,vc,Zg,-,-⟩:=aH y6.row;subst Zg;have zl:=ag YL;have YU:=ag y6
         have H9:=ag Hx.o.box;clear hC YL y6;have k12:=ar (k:=12) H9.o;have f0:=ar (k:=0) yb.o;have f1:=ar (k:=1) yb.o;have f2:=ar (k:=2) yb.o;simp only[nB,eW,gx,aK,aJ,fV]at k12 f0 f1 f2;obtain⟨z0,z1,z2,_⟩:=aT hT.o;obtain⟨y0,y1,y2,_⟩:=gT hT.o;refine eV (fun w'=>w'.cell? ⟨base+1+1,12,none⟩=some (.slice va zs.length vc)/\w'.cell? ⟨w5.heap.size,0,none⟩=some (.string r.name)/\w'.cell? ⟨w5.heap.size,1,none⟩=some (.int .i64 r.gen)/\w'.cell? ⟨w5.heap.size,2,none⟩=some (.int .i64 r.size)) (by kernel_rfl) ?_
         rw[<-hB];clear hB
         iterate 5 (refine cF rfl ⟨k12,f0,f1,f2⟩ (by rintro w' ⟨Yd,Ye,Yf,Yg⟩; go_simp; rfl) ?_; simp only[bM])
         refine cA 5 rfl (fun K hK=> ?_);have YK:w.heap.size+1+1<w5.heap.size:=am Ho.o;have y7:base+1+1≠w.heap.size+1+1:=by omega
         have Hl:w5.heap.size≠w.heap.size+1+1:=by omega
         have hU:=fun(u0 u1 u2:Value)=>aB ((cC (a:=⟨base+1+1,12,none⟩) (eB (w:=W6) (x0:=u0) (x1:=u1) (x2:=u2) y7)).trans k12) (aB ((cC (a:=⟨w5.heap.size,0,none⟩) (eB (w:=W6) (x0:=u0) (x1:=u1) (x2:=u2) Hl)).trans f0) (aB ((cC (a:=⟨w5.heap.size,1,none⟩) (eB (w:=W6) (x0:=u0) (x1:=u1) (x2:=u2) Hl)).trans f1) ((cC (a:=⟨w5.heap.size,2,none⟩) (eB (w:=W6) (x0:=u0) (x1:=u1) (x2:=u2) Hl)).trans f2)))
         have Hr:=ag hU;clear hU k12 f0 f1 f2;go_wp2_with fail;refine⟨Hr.o _ _ _, ?_⟩
         iterate 2 (refine cF rfl (Hr.o _ _ _) (by rintro w' ⟨Yd,Ye,Yf,Yg⟩; go_simp; rfl) ?_; simp only[bM])
         refine cH (by kernel_rfl) ?_;go_wp2_with fail;refine kj hT.o rfl rfl rfl rfl ⟨iu Hv.o (by show w.heap.size<=w.heap.size+2; omega), ?_⟩;rw[yc.o];refine⟨_,zs,by rw[<-Y7.o]; rfl,zl.o,YU.o.other hT.o (by decide) (by decide) hL (fun i hi=>eB hi)⟩
     ·have e1:(x != 0)=true:=by simp[Hm]
      have Yu:=ag Hm;clear Hm;obtain⟨z0,z1,z2,_⟩:=aT Hq.o;obtain⟨y0,y1,y2,_⟩:=gT Hq.o;go_wp2_with fail;refine kj Hq.o rfl rfl rfl rfl ⟨iu HV.o (by show w.heap.size<=w.heap.size+2; omega), ?_⟩;rw[Yr.o,if_neg (by rw[hN.o]; exact Yu.o)];rw[hN.o];exact⟨rfl,Yu.o⟩
   ·have ZA:=ag (YQ.same (w':=w2) (Yi.o.block gb YQ.lt));have ZI:gb<w.heap.size:=YQ.lt;clear YQ ZF;go_wp2_with (at_range; go_must (refine zv rfl _ _ rfl lr gb _ rfl ZA.o ?_); intro w0 Ya Yl ZO);obtain⟨r9,Zc⟩:=bH w2.heap.size;rw[<-Zc]at Ya ⊢;have ZE:=ag Zc;have YS:=ag Yl;clear Zc ZO Yl
    go_frame
    go_loopw [14] (fun _ wr=> ∃vis,pW Tryz.prog 9 wr gb r9 (gs.map Di) vis/\(∀p∈vis,∃z:Int,p.2= .int .i64 z/\0<=z/\z<=1099511627776)/\Below w2.heap.size w2 wr) (fun _ wr=>wr.rangeLeft gb r9)
    ·exact⟨[],Ya,by simp,YS.o⟩
    ·obtain⟨vis,Zv,YJ,Yx⟩:=hrel;have YN:=ag Zv;have Yt:=ag YJ;have Hp:=ag Yx;clear Zv YJ Yx;go_wp2_with (at_next; go_must (refine Cp rfl _ rfl gb r9 _ _ rfl YN.o ?_ ?_))
     ·intro H3;have Hu:=ag (show gs.all (fun p=>decide (0<=p.2) && decide (p.2<=1099511627776))=true from by rw[cB];intro p hp;obtain⟨z,Zx,ZR,ZS⟩:=Yt.o (Di p) (H3.mem_iff.2 (aQ.2 ⟨p,hp,rfl⟩));simp only[Di,Value.int.injEq,true_and]at Zx;subst Zx;simp[ZR,ZS])
      have H7:=ag (aj Yi.o Hp.o);have Y6:=ag (eA Hp.o yv.o);have Y1:=ag (eA Hp.o Zn.o);have YV:=ag (eA Hp.o Zm.o);clear H3 YN Ya
      go_upto_region 9 with(fail)
      have Yr:=ag (show iA k c tree gs=(if iJ tree=0 then(match ig k gs c tree 514 ⟨#[]⟩with
       | .error x=> .error x
       | .ok p=> .ok (bF k gs p.1,dR k gs p.2 []))
      else .error (iJ tree)) by rw[Y3.o,if_pos Hu.o])
      have YI:eR S (wr) (.slice ta n tc) tree:=eR.below HT.o H7.o;have YB:=HE.o.below H7.o;obtain⟨x,hx⟩: ∃x,iJ tree=x:=⟨_,rfl⟩;have Yz:=Is S tree (.slice ta n tc) x (wr) YI YB.env hx;have YX:=ag Yz;have hN:=ag hx;clear YI YB Yz hx;go_wp2_with fail;refine YX.o.mono ?_;rintro e w4 ⟨rfl,HC⟩;have HV:=ag (aj H7.o HC);have Hq:=ag (eA HC Y6.o)
      have Y2:=ag (eA HC Y1.o);have YW:=ag (eA HC YV.o);clear HC
      by_cases Hm:x=0
      ·have e1:(x != 0)=false:=by simp[Hm]
       have Hs:=ag (qa.1 (hN.o.trans Hm));have Ys:=ag (show iA k c tree gs=(match ig k gs c tree 514 ⟨#[]⟩with
        | .error x=> .error x
        | .ok p=> .ok (bF k gs p.1,dR k gs p.2 [])) by rw[Yr.o,if_pos (hN.o.trans Hm)])
       clear Hm;obtain⟨a0,a1,a2,a3,a4,_⟩:=aT Y2.o;obtain⟨b0,b1,b2,b3,b4,_⟩:=aT YW.o;have Zb:= @run_makeMap Tryz.prog
       go_upto_region 13 with(fail)
       obtain⟨W5,Hd⟩:=bH (((w4.alloc (.map #[] 0)).alloc (.map #[] 0)).alloc (.cells #[.string k.nm, .string k.st, .string k.ck, .string k.ix, .string k.tk, .int .i64 c.mn, .int .i64 c.mx, .int .i64 c.win, .int .i64 c.bits, .int .u64 (c.seed:Int), .map (some gb), .map (some w4.heap.size), .slice none 0 0, .map (some (w4.heap.size+1))] 122));rw[<-Hd];obtain⟨base,hk⟩:=bH w4.heap.size
       rw[<-hk]at Hd ⊢;have Zy:=ag hk;have HD:BgI w4 base (base+1+1) base (base+1) k c (.map (some gb)) [] W5 []:=by
        have e1:(w4.alloc (.map #[] 0)).heap.size=base+1:=by simp[hk]
        have e2:((w4.alloc (.map #[] 0)).alloc (.map #[] 0)).heap.size=base+1+1:=by simp[hk]
        have h1:=iQ.made (P:=Tryz.prog) (k:=9) w4;have h2:=iU.made (w4.alloc (.map #[] 0));rw[e1]at h2;rw[<-hk]at h1;have h3:=ez ((w4.alloc (.map #[] 0)).alloc (.map #[] 0)) (.cells #[.string k.nm, .string k.st, .string k.ck, .string k.ix, .string k.tk, .int .i64 c.mn, .int .i64 c.mx, .int .i64 c.win, .int .i64 c.bits, .int .u64 (c.seed:Int), .map (some gb), .map (some base), .slice none 0 0, .map (some (base+1))] 122)
        rw[e2]at h3;have YH:W5.heap[base]? =(w4.alloc (.map #[] 0)).heap[base]? :=by rw[Hd]; exact(cN _ _ _ (by rw[e2]; omega)).trans (cN _ _ _ (by rw[e1]; omega))
        have Ze:W5.heap[base+1]? =((w4.alloc (.map #[] 0)).alloc (.map #[] 0)).heap[base+1]? :=by rw[Hd]; exact cN _ _ _ (by rw[e2]; omega)
        refine⟨⟨by rw[Hd]; exact h3,⟨[],rfl,bN _ _ _ _,by simp⟩,h2.same Ze⟩,⟨h1.same YH,by simp,by simp,fy,by simp⟩,fun d=>rfl, ?_⟩;rw[Hd,hk];exact((eT).alloc (by simp) _).alloc (by simp; omega) _
       have Ym:=ag HD;have hS:w.heap.size+2<base:=by have:=am Hq.o; omega
       have hL:w.heap.size<=base:=by omega
       clear Hd a0 a1 a2 a3 a4 b0 b1 b2 b3 b4 Zb hk HD;go_wp2_with fail
       go_loopw [64] (fun i wr=> ∃(j:Nat) (G:List Cq),j<=n/\i= .int .i64 (j:Int)/\BgI w4 base (base+1+1) base (base+1) k c (.map (some gb)) (tree.take j) wr G) (fun i _=>n-(intOf i).toNat)
       ·exact⟨0,[],aR _,rfl,Ym.o⟩
       ·obtain⟨j,G,hj,rfl,YD⟩:=hrel;rename_i wq;have hm:=ag YD;clear YD Ym
        by_cases z9:j<n
        ·obtain⟨e,he⟩: ∃e,tree[j]? =some e:=⟨tree[j]'(by rw[<-HN.o]; exact z9),by simp⟩;have hM:Below w.heap.size w wr:=HV.o.trans (hm.o.below.mono hL);obtain⟨b,o,dv,rfl,-,-,YA,HI,-,p0,p1,p2,p3,p4,p5⟩:=jN (eR.below HT.o hM) he;obtain⟨da,dc,rfl,-,-⟩:=eD.slice YA;have Yo:=ag (show eD (· <base) wr (.slice da e.data.length dc) e.data/\nu e from by
          obtain⟨b9,o9,dv9,z5,_,_,z4,_,_,_,_,_,_,YF,_⟩:=jN HT.o he
          cases z5
          have hq:=(hM.cell (p:=⟨b,o+j*6+4,none⟩) (cR (a:=⟨b,o+j*6+4,none⟩) YF)).trans YF;rw[p4]at hq
          cases hq
          have z3:=bX.lt' z4 (by decide);exact⟨bX.same (bX.weak (T:=(· <w.heap.size)) z3 (fun _ h=>h)) (fun i hi=>hM.block i hi) |> fun h=>bX.weak h (fun i hi=>aO hi hL),HI⟩)
         have Hk:=Hs.o.val e (aM he);have y8:=dm Hk;have ZH:e.path.size<=512:=(mE Hk).1;obtain⟨q,hq⟩: ∃q:ByteArray,q=⟨(cu (bl e.path)).toArray⟩:=⟨_,rfl⟩;have HQ:=ag hq;have H1:q.size<=maxLen:=by have h1:=qq (l:=bl e.path) (fun h=>by have:=qy y8; rw[h]at this; simp at this);rw[hq,bi,jQ];rw[<-bi e.path]at h1;unfold maxLen;omega
         have Yp:=ag he;have YG:=fun W hE=>lu e.path q W hE y8 hq
         have Y5:=ag YG;have Hf:base<=wr.heap.size:=by have h1:=hm.o.grp.map.lt; omega
         have h7:7<=base:=an HE.o.seven hL;clear Hk y8 hq YA HI he YG
         go_upto_region 16 with(fail)
         obtain⟨W6,hB⟩:=bH (wr.alloc (.cells #[.string e.path, .int .i64 e.kind, .int .i64 e.mode, .int .i64 e.time, .slice da e.data.length dc, .string e.link] 79));rw[<-hB];have hC:Below wr.heap.size wr W6:=by rw[hB]; exact eT
         have Hv:=ag hC;have Yv:=ag (show W6.heap[wr.heap.size]? =some (.cells #[.string e.path, .int .i64 e.kind, .int .i64 e.mode, .int .i64 e.time, .slice da e.data.length dc, .string e.link] 79 (0,0)) by rw[hB]; exact ez wr _);have YY:=ag (HE.o.keep (HV.o.trans ((hm.o.below.mono hL).trans (hC.mono (an hL Hf)))) HE.o.seven);clear hB hC p0 p1 p2 p3 p4 p5;obtain⟨d0,d1,d2,d3,d4,d5,_⟩:=aT Yv.o
         go_wp2_with fail;refine(Y5.o W6 YY.o.env).mono ?_;rintro e' w7 ⟨rfl,y4⟩;have za:=ag (eA y4 Yv.o);have YT:=ag (aj Hv.o y4);clear y4 d0 d1 d2 d3 d4 d5;go_wp2_with fail;obtain⟨W8,HB⟩:=bH w7.drew;have y5:Below w7.heap.size w7 W8:=by rw[HB]; exact(ak _ _).drew
         have Hw:=ag (aj YT.o y5);have HY:=ag (eA y5 za.o);have HK:=ju.ofBelow (bb:=base+1+1) (kb:=base+1) (v:= .slice none 0 0) Hw.o Hf;have hs:=ag (hm.o.bd.below Hw.o);have hu:=ag (hm.o.grp.keep hm.o.bd HK (by omega));have hc:=ag hs.o.box;have hd:wr.heap.size<W8.heap.size:=am HY.o;have Hy:=ag (show eD (· <base) W8 (.slice da e.data.length dc) e.data/\nu e from⟨qc Yo.o.1 (Hw.o.mono Hf),Yo.o.2⟩)
         have ht:Tryz.prog.underlying 119=some (.map 9 46):=Tryz.underlying119;have HX:=ag ht;clear ht y5 HK;have k0:=ar (k:=0) hc.o;have k1:=ar (k:=1) hc.o;have k2:=ar (k:=2) hc.o;have k3:=ar (k:=3) hc.o;have k4:=ar (k:=4) hc.o;have k10:=ar (k:=10) hc.o;have k11:=ar (k:=11) hc.o;have k12:=ar (k:=12) hc.o;have k13:=ar (k:=13) hc.o
         simp only[nB,eW,gx,aK,aJ,fV]at k0 k1 k2 k3 k4 k10 k11 k12 k13;clear k0 k1 k2 k3 k4 k10 k12 k13;obtain⟨d0,d1,d2,d3,d4,d5,_⟩:=aT HY.o
         cases hf:G.find? (fun g=>decide (g.dir=q))with
         | none=>
          have HF:=ag hf;clear hf;have Hj: ∀p∈G.map nX,p.1≠Value.string q:=by intro p hp e9;obtain⟨g9,z6,rfl⟩:=aQ.1 hp;simp only[nX,eJ]at e9;have:=fg.1 HF.o g9 z6;simp[e9]at this
          have Hz:=ag Hj;have hZ:=ag (show ∀W:World,W.heap[base]? =W8.heap[base]? ->(Instr.lookup 119 (.map (some base)) (.string q) false).run Tryz.prog W= .ok (.slice none 0 0) W from fun W hW=>by
           have:=(hu.o.map.same hW).is.miss gB HX.o (show(zeroValue 46).run Tryz.prog W= .ok (.slice none 0 0) W by kernel_rfl) (iL H1) Hz.o false
           simpa using this)
          clear Hj;have Ha:=ag (show(Value.slice none 0 0).ownBlock≠some (base+1+1)/\(Value.slice none 0 0).ownBlock≠some wr.heap.size/\(Value.slice none 0 0).ownBlock≠some base from⟨by simp[Value.ownBlock],by simp[Value.ownBlock],by simp[Value.ownBlock]⟩);have yp:=ag (show(Value.slice none 0 0).ownBlock≠some (base+1) by simp[Value.ownBlock]);have h8:=ag (show ∀i,(Value.slice none 0 0).ownBlock=some i->base<=i from fun i hi=>by simp[Value.ownBlock]at hi)
          have h0:=ag (show(0:Nat)<1099511627775 by decide);have HL:=hZ.o W8 rfl;refine eP (fun w'=>w'.cell? ⟨base+1+1,11,none⟩=some (.map (some base))/\(Instr.lookup 119 (.map (some base)) (.string (q)) false).run Tryz.prog w'= .ok (.slice none 0 0) w'/\w'.cell? ⟨wr.heap.size,0,none⟩=some (.string e.path)/\w'.cell? ⟨wr.heap.size,1,none⟩=some (.int .i64 e.kind)/\w'.cell? ⟨wr.heap.size,2,none⟩=some (.int .i64 e.mode)/\w'.cell? ⟨wr.heap.size,3,none⟩=some (.int .i64 e.time)/\w'.cell? ⟨wr.heap.size,4,none⟩=some (.slice da e.data.length dc)/\w'.cell? ⟨wr.heap.size,5,none⟩=some (.string e.link)) (by kernel_rfl) (by kernel_rfl) ?_
          simp only[bu,bw,ay,bp,Nat.reduceAdd,Nat.reduceSub];rw[<-HB];clear HB
          iterate 12 (refine cF rfl ⟨k11,HL,d0,d1,d2,d3,d4,d5⟩ (by rintro w' ⟨Yd,Ye,Yf,Yg,YK,Zh,Zi,Zj⟩; go_simp; rfl) ?_; simp only[bM])
          have ho:=ag ((ak W8.heap.size W8).alloc (ah _) (.cells #[.string e.path, .int .i64 e.kind, .int .i64 e.mode, .int .i64 e.time, .slice da e.data.length dc, .string e.link] 79));have hz:base+1+1<W8.heap.size:=am hc.o;have hU:=aB ((ho.o.cell (p:=⟨base+1+1,11,none⟩) hz).trans k11) (aB (hZ.o _ (ho.o.block base (by omega))) (aB ((ho.o.cell (p:=⟨wr.heap.size,0,none⟩) hd).trans d0) (aB ((ho.o.cell (p:=⟨wr.heap.size,1,none⟩) hd).trans d1) (aB ((ho.o.cell (p:=⟨wr.heap.size,2,none⟩) hd).trans d2) (aB ((ho.o.cell (p:=⟨wr.heap.size,3,none⟩) hd).trans d3) (aB ((ho.o.cell (p:=⟨wr.heap.size,4,none⟩) hd).trans d4) ((ho.o.cell (p:=⟨wr.heap.size,5,none⟩) hd).trans d5)))))))
          have Hr:=ag hU;clear hU;refine cA 12 rfl (fun K hK=> ?_);go_wp2_with fail
          (first | (refine⟨Hr.o, ?_⟩) | skip)
          refine cA 13 rfl (fun K hK=> ?_);have Hn:base<=W8.heap.size:=by omega
          go_wp2_with (at_builtin; go_must (refine bP Tryz.appEnts rfl _ _ rfl base (.slice none 0 0) (0) ([]) rfl W8 [.string e.path, .int .i64 e.kind, .int .i64 e.mode, .int .i64 e.time, .slice da e.data.length dc, .string e.link] _ rfl rfl (ln (e:=e)) ((bN _ _ _ _)) h0.o Hn ?_); intro v' wc hl ha _ HP; obtain⟨ae,ce,rfl,-,-⟩:=aH hl)
          have hG:=(ha.block (base+1+1) hz (fun e9=>Ha.o.1 e9.symm)).trans hc.o;have HR:=(ha.block wr.heap.size hd (fun e9=>Ha.o.2.1 e9.symm)).trans HY.o;have Hi:=ha.block base (by omega) (fun e9=>Ha.o.2.2 e9.symm);have hH:=hZ.o wc Hi;have hD:=ag hG;have y3:=ag HR;have yl:=ag Hi;have Hb:=ag hl;have hh:=ag ha;have Hc:=ag HP
          clear hG HR Hi hl ha HP HL k11 d0 d1 d2 d3 d4 d5;obtain⟨d0,d1,d2,d3,d4,d5,_⟩:=aT y3.o;have k11:=ar (k:=11) hD.o;simp only[nB,eW,gx,aK,aJ,fV]at k11;refine⟨⟨k11,hH,d0,d1,d2,d3,d4,d5⟩, ?_⟩;refine cH (by kernel_rfl) ?_;refine eX rfl rfl (fun K hK=> ?_);clear k11 hH d0 d1 d2 d3 d4 d5;have yn:=ag (hu.o.map.same yl.o)
          go_wp2_with (at_mapUpdate; go_must (refine kO gB rfl _ _ _ _ rfl HX.o base (G.map nX) yn.o rfl (.string q) (.slice ae (0+1) ce) rfl rfl (iL H1) Hz.o ?_); intro w10 hI hw);have hv:=ag hw;have hY:=ag (hu.o.new (ah _) H1 (y:=(.slice da e.data.length dc,e)) Hy.o Hb.o hh.o (fun i hi=>by
           rcases Hc.o i hi with h9 | h9
           ·simp[Value.ownBlock]at h9
           ·exact h9) hI hw)
          clear hI hw;have He:=hm.o.below.trans ((Hw.o.mono Hf).trans (((ak base W8).grown hh.o Hn (fun i hi=>h8.o i hi)).grown hv.o (an Hn hh.o.size) (fun i hi=>by cases hi; exact ah _)));have hF:=hs.o.nilKeep (w':=w10) ((hv.o.block _ (aO hz hh.o.size) (fun e9=>by have:=bt e9; omega)).trans (hD.o.trans hc.o.symm)) ((hv.o.block _ (aO hs.o.known.map.lt hh.o.size) (fun e9=>by have:=bt e9; omega)).trans (hh.o.block _ hs.o.known.map.lt (fun e9=>yp.o e9.symm)))
          go_roundw
          ·refine⟨j+1,(G++[⟨q, .slice ae (0+1) ce,[(.slice da e.data.length dc,e)]⟩]),by omega,by go_num,⟨hF,hY.o,fun d=> ?_,He⟩⟩;rw[oQ Yp.o];rw[xm (g:=⟨q, .slice ae (0+1) ce,[(.slice da e.data.length dc,e)]⟩) HF.o]
           by_cases hJ:q=d
           ·rw[if_pos hJ,if_pos (show cu (bl e.path)=bl d by rw[<-hJ,HQ.o]; exact(jQ _).symm),<-hm.o.ents d,<-hJ,vt HF.o]
            rfl
           ·rw[if_neg hJ,if_neg (fun h9=>hJ (kF (by rw[HQ.o]; exact(jQ _).trans h9))),cg];exact hm.o.ents d
          simp[intOf]; omega
         | some g=>
          obtain⟨A,B,zz,z7,hA⟩: ∃A B,G=A++g::B/\g.dir=q/\ ∀x∈A,x.dir≠q:=by have h9:=List.find?_eq_some_iff_append.1 hf;obtain⟨h1,A,B,h2,h3⟩:=h9;exact⟨A,B,h2,by simpa using h1,fun x hx=>by simpa using h3 x hx⟩
          have Hg:=oK hf;subst z7;subst zz;have ya:=ag Hg;have HA:=ag hA;have Hh:=hu.o.own g (by simp);have HJ:=hm.o.grp.own g (by simp);obtain⟨ga,gc,hV,ZJ,-⟩:=aH Hh;have H0:g.ents.length<=4096:=by have h1:=hm.o.ents g.dir;rw[Hg]at h1;have h2:=congrArg List.length h1;rw[aw]at h2;rw[h2];have h3:(ii (tree.take j) g.dir).length<=(tree.take j).length:=dI _ _;rw[aW]at h3;have h4:=Hs.o.len;omega
          obtain⟨gl,hR⟩:=bH g.ents.length;have YZ:=ag hR;rw[<-hR]at hV H0;have h0:=ag (show gl<1099511627775 by omega);have Y0:=ag (show W8.ownsRow base 79 6 (.slice ga gl gc) gl (jx g.ents) by rw[<-hV,hR]; exact Hh);have Yq:=ag hV;have Ha:=ag (show(Value.slice ga gl gc).ownBlock≠some (base+1+1)/\(Value.slice ga gl gc).ownBlock≠some wr.heap.size/\(Value.slice ga gl gc).ownBlock≠some base from by
           rw[<-hV];refine⟨fun e9=> ?_,fun e9=> ?_,fun e9=> ?_⟩
           ·obtain⟨cs2,HH⟩:=bK Hh e9;exact absurd (bU hc.o HH) (by decide)
           ·have:=(HJ.lt _ e9).2;omega
           ·obtain⟨cs2,HH⟩:=bK Hh e9;exact hu.o.map.ncells HH)
          have yp:=ag (show(Value.slice ga gl gc).ownBlock≠some (base+1)from by rw[<-hV];intro e9;obtain⟨cs2,HH⟩:=bK Hh e9;exact hs.o.known.cells HH)
          have h8:=ag (show ∀i,(Value.slice ga gl gc).ownBlock=some i->base<=i from fun i hi=>by rw[<-hV]at hi;exact(Hh.lt i hi).1)
          have hZ:=ag (show ∀W:World,W.heap[base]? =W8.heap[base]? ->(Instr.lookup 119 (.map (some base)) (.string g.dir) false).run Tryz.prog W= .ok (.slice ga gl gc) W from fun W hW=>by
           have:=(hu.o.map.same hW).is.hit gB HX.o (iL H1) (val:=g.val) (aQ.2 ⟨g,by simp,rfl⟩) false;rw[hV]at this
           simpa using this)
          clear hf Hg hA Hh HJ hV hR;have HL:=hZ.o W8 rfl;refine eP (fun w'=>w'.cell? ⟨base+1+1,11,none⟩=some (.map (some base))/\(Instr.lookup 119 (.map (some base)) (.string (g.dir)) false).run Tryz.prog w'= .ok (.slice ga gl gc) w'/\w'.cell? ⟨wr.heap.size,0,none⟩=some (.string e.path)/\w'.cell? ⟨wr.heap.size,1,none⟩=some (.int .i64 e.kind)/\w'.cell? ⟨wr.heap.size,2,none⟩=some (.int .i64 e.mode)/\w'.cell? ⟨wr.heap.size,3,none⟩=some (.int .i64 e.time)/\w'.cell? ⟨wr.heap.size,4,none⟩=some (.slice da e.data.length dc)/\w'.cell? ⟨wr.heap.size,5,none⟩=some (.string e.link)) (by kernel_rfl) (by kernel_rfl) ?_
          simp only[bu,bw,ay,bp,Nat.reduceAdd,Nat.reduceSub];rw[<-HB];clear HB
          iterate 12 (refine cF rfl ⟨k11,HL,d0,d1,d2,d3,d4,d5⟩ (by rintro w' ⟨Yd,Ye,Yf,Yg,YK,Zh,Zi,Zj⟩; go_simp; rfl) ?_; simp only[bM])
          have ho:=ag ((ak W8.heap.size W8).alloc (ah _) (.cells #[.string e.path, .int .i64 e.kind, .int .i64 e.mode, .int .i64 e.time, .slice da e.data.length dc, .string e.link] 79));have hz:base+1+1<W8.heap.size:=am hc.o;have hU:=aB ((ho.o.cell (p:=⟨base+1+1,11,none⟩) hz).trans k11) (aB (hZ.o _ (ho.o.block base (by omega))) (aB ((ho.o.cell (p:=⟨wr.heap.size,0,none⟩) hd).trans d0) (aB ((ho.o.cell (p:=⟨wr.heap.size,1,none⟩) hd).trans d1) (aB ((ho.o.cell (p:=⟨wr.heap.size,2,none⟩) hd).trans d2) (aB ((ho.o.cell (p:=⟨wr.heap.size,3,none⟩) hd).trans d3) (aB ((ho.o.cell (p:=⟨wr.heap.size,4,none⟩) hd).trans d4) ((ho.o.cell (p:=⟨wr.heap.size,5,none⟩) hd).trans d5)))))))
          have Hr:=ag hU;clear hU;refine cA 12 rfl (fun K hK=> ?_);go_wp2_with fail
          (first | (refine⟨Hr.o, ?_⟩) | skip)
          refine cA 13 rfl (fun K hK=> ?_);have Hn:base<=W8.heap.size:=by omega
          go_wp2_with (at_builtin; go_must (refine bP Tryz.appEnts rfl _ _ rfl base (.slice ga gl gc) (gl) ((jx g.ents)) rfl W8 [.string e.path, .int .i64 e.kind, .int .i64 e.mode, .int .i64 e.time, .slice da e.data.length dc, .string e.link] _ rfl rfl (ln (e:=e)) (Y0.o) h0.o Hn ?_); intro v' wc hl ha _ HP; obtain⟨ae,ce,rfl,-,-⟩:=aH hl);have hG:=(ha.block (base+1+1) hz (fun e9=>Ha.o.1 e9.symm)).trans hc.o
          have HR:=(ha.block wr.heap.size hd (fun e9=>Ha.o.2.1 e9.symm)).trans HY.o;have Hi:=ha.block base (by omega) (fun e9=>Ha.o.2.2 e9.symm);have hH:=hZ.o wc Hi;have hD:=ag hG;have y3:=ag HR;have yl:=ag Hi;have Hb:=ag hl;have hh:=ag ha;have Hc:=ag HP;clear hG HR Hi hl ha HP HL k11 d0 d1 d2 d3 d4 d5;obtain⟨d0,d1,d2,d3,d4,d5,_⟩:=aT y3.o
          have k11:=ar (k:=11) hD.o;simp only[nB,eW,gx,aK,aJ,fV]at k11;refine⟨⟨k11,hH,d0,d1,d2,d3,d4,d5⟩, ?_⟩;refine cH (by kernel_rfl) ?_;refine eX rfl rfl (fun K hK=> ?_);clear k11 hH d0 d1 d2 d3 d4 d5;have yn:=ag (show iQ Tryz.prog 9 wc base (A.map nX++(.string g.dir,g.val)::B.map nX)from by
           have:=hu.o.map.same yl.o
           simpa [nX]using this)
          go_wp2_with (at_mapUpdate; go_must (refine qA gB rfl _ _ _ _ rfl HX.o base (A.map nX) (B.map nX) (.string g.dir) (.slice ae (gl+1) ce) g.val yn.o rfl rfl rfl ?_); intro w10 hI hw);have hv:=ag hw;have hY:=ag (hu.o.over (ah _) (y:=(.slice da e.data.length dc,e)) Hy.o (by rw[<-YZ.o]; exact Hb.o) (by rw[Yq.o]; exact hh.o) (by rw[Yq.o]; exact Hc.o) hI hw)
          clear hI hw;have He:=hm.o.below.trans ((Hw.o.mono Hf).trans (((ak base W8).grown hh.o Hn (fun i hi=>h8.o i hi)).grown hv.o (an Hn hh.o.size) (fun i hi=>by cases hi; exact ah _)));have hF:=hs.o.nilKeep (w':=w10) ((hv.o.block _ (aO hz hh.o.size) (fun e9=>by have:=bt e9; omega)).trans (hD.o.trans hc.o.symm)) ((hv.o.block _ (aO hs.o.known.map.lt hh.o.size) (fun e9=>by have:=bt e9; omega)).trans (hh.o.block _ hs.o.known.map.lt (fun e9=>yp.o e9.symm)))
          go_roundw
          ·refine⟨j+1,(A++⟨g.dir, .slice ae (gl+1) ce,g.ents++[(.slice da e.data.length dc,e)]⟩::B),by omega,by go_num,⟨hF,hY.o,fun d=> ?_,He⟩⟩;rw[oQ Yp.o];rw[vu (A:=A) (B:=B) (g:=g) (g':=(⟨g.dir, .slice ae (gl+1) ce,g.ents++[((Value.slice da e.data.length dc,e):pX)]⟩:Cq)) rfl HA.o d]
           by_cases hJ:g.dir=d
           ·rw[if_pos hJ,if_pos (show cu (bl e.path)=bl d by rw[<-hJ,HQ.o]; exact(jQ _).symm),<-hm.o.ents d,<-hJ,ya.o,aI]
            rfl
           ·rw[if_neg hJ,if_neg (fun h9=>hJ (kF (by rw[HQ.o]; exact(jQ _).trans h9))),cg];exact hm.o.ents d
          simp[intOf]; omega
        ·have z8:j=n:=by omega
         have H0:EZ wr base base tree:=⟨G,hm.o.grp,fun d=>by have:=hm.o.ents d; rwa [show tree.take j=tree by rw[z8,HN.o,dw]]at this⟩;have Hf:base<=wr.heap.size:=by have h1:=hm.o.grp.map.lt; omega
         have h7:7<=base:=an HE.o.seven hL;have y9: ∀p∈gs,0<=p.2/\p.2<=1099511627776:=fun p hp=>by have:=cB.1 Hu.o p hp; simpa using this
         have hX:LN base (base+1+1) (base+1) base k c gs tree (Jz k gs c tree):=⟨Zo.o,Yn.o,hsd,y9,by omega,by omega,h7,by omega,Hs.o.val,Hs.o.len,Ig Yn.o Hs.o.len Hs.o.val,Ih,Ii⟩;have hM:Below w.heap.size w wr:=HV.o.trans (hm.o.below.mono hL);have YC:ld (· <base) wr (.map (some gb)) gs:=by
          rcases HG.o with⟨h1,h2⟩ | ⟨gb9,h1,_,h3⟩
          ·exact .inl ⟨h1,h2⟩
          ·exact .inr ⟨gb9,h1,aO h3.lt hL,h3.same (hM.block _ h3.lt)⟩
         have hP:=BO hX 514 (ah _) ⟨#[]⟩ (.slice none 0 0) [] wr (by show 514<=0+514; omega) (.inl rfl) hm.o.bd YC H0 (by intro b hb; simp at hb) (HE.o.keep hM HE.o.seven) Hf;unfold Bu at hP;clear H0 hX YC
         cases Ht:ig k gs c tree 514 ⟨#[]⟩with
         | error x9=>
          rw[Ht]at hP;have yc:=ag (show iA k c tree gs= .error x9 by rw[Ys.o,Ht]);have HW:=ag hP;clear hP Ht;go_wp2_with fail;refine HW.o.mono ?_;rintro e' w5 ⟨rfl,Yh,v5,bs5,hO,hy⟩;have HS:=ag (hM.trans (hy.below.mono hL));have Ho:=ag ((hy.below.block (w.heap.size+2) hS).trans ((hm.o.below.block (w.heap.size+2) hS).trans Hq.o));have zc:=ag Yh
          have e4:(x9 != 0)=true:=by simp[Yh]
          clear Yh hO hy hM
          go_upto_region 20 with(fail)
          obtain⟨W6,hB⟩:=bH (w5.alloc (.cells #[.string ⟨#[]⟩, .int .i64 0, .int .i64 0] 26));rw[<-hB];have hC:Below w5.heap.size w5 W6:=by rw[hB]; exact eT
          have Hv:=ag (aj HS.o hC);have hT:=ag (eA hC Ho.o);clear hC hB;obtain⟨z0,z1,z2,_⟩:=aT hT.o;obtain⟨y0,y1,y2,_⟩:=gT hT.o;go_wp2_with fail;refine kj hT.o rfl rfl rfl rfl ⟨iu Hv.o (by show w.heap.size<=w.heap.size+2; omega), ?_⟩;rw[yc.o];exact⟨rfl,zc.o⟩
         | ok p=>
          rw[Ht]at hP
          dsimp only at hP
          have yc:=ag (show iA k c tree gs= .ok (bF k gs p.1,dR k gs p.2 []) by rw[Ys.o,Ht]);obtain⟨r,hr⟩:=bH (bF k gs p.1);rw[<-hr]at hP;have Y7:=ag hr;have HW:=ag hP;unfold eC at HW;clear hP Ht hr;go_wp2_with fail;refine HW.o.mono ?_;rintro e' w5 ⟨rfl,-,v5,hO,hy⟩;have HS:=ag (hM.trans (hy.below.mono hL));have Ho:=ag ((hy.below.block (w.heap.size+2) hS).trans ((hm.o.below.block (w.heap.size+2) hS).trans Hq.o))
          have H8:=ag hO;clear hO hy hM
          go_upto_region 22 with(fail)
          obtain⟨W6,hB⟩:=bH ((w5.alloc (.cells #[.string r.name, .int .i64 r.gen, .int .i64 r.size] 26)).drew);have hC:Below w5.heap.size w5 W6:=by rw[hB]; exact(eT).drew
          have Hv:=ag (aj HS.o hC);have hT:=ag (eA hC Ho.o);have yb:=ag (show W6.heap[w5.heap.size]? =some (.cells #[.string r.name, .int .i64 r.gen, .int .i64 r.size] 26 (0,0)) by rw[hB]; exact ez w5 _);have Hx:=ag (H8.o.below hC);obtain⟨zs,YL,y6⟩:=Hx.o.own;obtain⟨va,vc,Zg,-,-⟩:=aH y6.row;subst Zg;have zl:=ag YL;have YU:=ag y6
          have H9:=ag Hx.o.box;clear hC YL y6;have k12:=ar (k:=12) H9.o;have f0:=ar (k:=0) yb.o;have f1:=ar (k:=1) yb.o;have f2:=ar (k:=2) yb.o;simp only[nB,eW,gx,aK,aJ,fV]at k12 f0 f1 f2;obtain⟨z0,z1,z2,_⟩:=aT hT.o;obtain⟨y0,y1,y2,_⟩:=gT hT.o;refine eV (fun w'=>w'.cell? ⟨base+1+1,12,none⟩=some (.slice va zs.length vc)/\w'.cell? ⟨w5.heap.size,0,none⟩=some (.string r.name)/\w'.cell? ⟨w5.heap.size,1,none⟩=some (.int .i64 r.gen)/\w'.cell? ⟨w5.heap.size,2,none⟩=some (.int .i64 r.size)) (by kernel_rfl) ?_
          rw[<-hB];clear hB
          iterate 5 (refine cF rfl ⟨k12,f0,f1,f2⟩ (by rintro w' ⟨Yd,Ye,Yf,Yg⟩; go_simp; rfl) ?_; simp only[bM])
          refine cA 5 rfl (fun K hK=> ?_);have YK:w.heap.size+1+1<w5.heap.size:=am Ho.o;have y7:base+1+1≠w.heap.size+1+1:=by omega
          have Hl:w5.heap.size≠w.heap.size+1+1:=by omega
          have hU:=fun(u0 u1 u2:Value)=>aB ((cC (a:=⟨base+1+1,12,none⟩) (eB (w:=W6) (x0:=u0) (x1:=u1) (x2:=u2) y7)).trans k12) (aB ((cC (a:=⟨w5.heap.size,0,none⟩) (eB (w:=W6) (x0:=u0) (x1:=u1) (x2:=u2) Hl)).trans f0) (aB ((cC (a:=⟨w5.heap.size,1,none⟩) (eB (w:=W6) (x0:=u0) (x1:=u1) (x2:=u2) Hl)).trans f1) ((cC (a:=⟨w5.heap.size,2,none⟩) (eB (w:=W6) (x0:=u0) (x1:=u1) (x2:=u2) Hl)).trans f2)))
          have Hr:=ag hU;clear hU k12 f0 f1 f2;go_wp2_with fail;refine⟨Hr.o _ _ _, ?_⟩
          iterate 2 (refine cF rfl (Hr.o _ _ _) (by rintro w' ⟨Yd,Ye,Yf,Yg⟩; go_simp; rfl) ?_; simp only[bM])
          refine cH (by kernel_rfl) ?_;go_wp2_with fail;refine kj hT.o rfl rfl rfl rfl ⟨iu Hv.o (by show w.heap.size<=w.heap.size+2; omega), ?_⟩;rw[yc.o];refine⟨_,zs,by rw[<-Y7.o]; rfl,zl.o,YU.o.other hT.o (by decide) (by decide) hL (fun i hi=>eB hi)⟩
      ·have e1:(x != 0)=true:=by simp[Hm]
       have Yu:=ag Hm;clear Hm;obtain⟨z0,z1,z2,_⟩:=aT Hq.o;obtain⟨y0,y1,y2,_⟩:=gT Hq.o;go_wp2_with fail;refine kj Hq.o rfl rfl rfl rfl ⟨iu HV.o (by show w.heap.size<=w.heap.size+2; omega), ?_⟩;rw[Yr.o,if_neg (by rw[hN.o]; exact Yu.o)];rw[hN.o];exact⟨rfl,Yu.o⟩
     ·intro key v1 w1' a0 e0 YE Zw Hj Yb Zs YH ZU;simp only[Di,cM]at Zw;obtain⟨rfl,rfl⟩:=Zw;have Y4:=ag YE;have Y8:=ag Yb;have Zd:w2.heap.size<=r9:=by have:=ZE.o; omega
      have Yw:Below w2.heap.size w2 w1':=Hp.o.grown Zs Hp.o.size (fun i hi=>by cases hi; exact Zd);have H6:=ag Yw;have Za:wr.rangeLeft gb r9=(gs.map Di).length-vis.length:=by have:=YN.o.left; omega
      have H5:w1'.rangeLeft gb r9+(vis++[(Value.string a0,Value.int .i64 e0)]).length=(gs.map Di).length:=Yb.left;have ZD:=ag (show w1'.rangeLeft gb r9<wr.rangeLeft gb r9 by
       have h1:=YN.o.left;rw[ai,bT]at H5
       omega)
      clear YE Hj Yb Zs YH Yw Za H5
      by_cases YR:0<=e0/\e0<=1099511627776
      ·obtain⟨ZM,ZN⟩:=YR;have HO:=ag (aB ZM ZN);go_wp2_with fail
       go_roundw
       ·refine⟨_,Y8.o,fun p hp=> ?_,H6.o⟩
        rcases aP.1 hp with hp | hp
        ·exact Yt.o p hp
        ·rw[aL]at hp;subst hp;exact⟨e0,rfl,HO.o.1,HO.o.2⟩
       exact ZD.o
      ·have Zq:=ag (show iA k c tree gs= .error 1 by rw[Y3.o,if_neg];intro h9;have:=cB.1 h9 _ Y4.o;simp only[aE,aG]at this;exact YR this)
       have Ho:=ag (eA H6.o yv.o);have HS:=ag (aj Yi.o H6.o);obtain⟨z0,z1,z2,_⟩:=aT Ho.o;obtain⟨y0,y1,y2,_⟩:=gT Ho.o
       by_cases ZK:e0<0
       ·clear YR;go_wp2_with fail;refine kj Ho.o rfl rfl rfl rfl ⟨iu HS.o (by show w.heap.size<=w.heap.size+2; omega), ?_⟩;rw[Zq.o];exact⟨rfl,by decide⟩
       ·have ZG:1099511627776<e0:=by omega
        clear YR;go_wp2_with fail;refine kj Ho.o rfl rfl rfl rfl ⟨iu HS.o (by show w.heap.size<=w.heap.size+2; omega), ?_⟩;rw[Zq.o];exact⟨rfl,by decide⟩
theorem wy {W:World} {b n sz:Nat} {cells:List Value} {t:TypeId} (h:W.heap[b]? =some (.cells cells.toArray t (0,0))) (hl:cells.length=n*sz) (hn:n<=maxLen):bX (fun k=>k=b) W sz (.slice (some ⟨b,0,none⟩) n n) n cells:=
 ⟨hl,some ⟨b,0,none⟩,n,rfl,ah _,hn, .inr ⟨b,0,rfl,rfl,fun j u hj=>by rw[bD h,bO,aF]; exact hj⟩⟩
theorem jH {S:Nat->Prop} {w:World} {v:Value} {bs:List UInt8} (h:bB S w v bs):(convert 29 9 v).run Tryz.prog w= .ok (.string ⟨bs.toArray⟩) w:=by have h1:=JR (S:=S) (w:=w) (v:=v) (bs:=bs) h;rw[yx]at h1;exact h1
theorem Mv (w:World) (c:UInt8):(convert 29 9 (.slice (some ⟨w.heap.size,0,none⟩) 1 1)).run Tryz.prog (w.alloc (.cells #[.int .u8 (c.toNat:Int)] 5))= .ok (.string ⟨#[c]⟩) (w.alloc (.cells #[.int .u8 (c.toNat:Int)] 5)):=by have h:=jH (S:=fun _=>True) (bs:=[c]) (w:=w.alloc (.cells #[.int .u8 (c.toNat:Int)] 5)) (v:= .slice (some ⟨w.heap.size,0,none⟩) 1 1) ((wy (cells:=[aZ c]) (aC w _) rfl (by decide)).weak (fun _ _=>trivial));exact h
theorem tM (c:UInt8) (w:World):Calls Tryz.prog 93 #[.int .u8 (c.toNat:Int)] w fun e w'=>e= .returned (.string (xE c))/\Below w.heap.size w w':=by
 have ha:=Mv w c
 go_enter Tryz.func93,Tryz.ntmps93
 go_wp2_with fail;go_ret;refine⟨?_,eT⟩
 rfl
theorem tN (w:World):Calls Tryz.prog 33 #[] w fun e w'=>e= .returned (kJ ew)/\Below w.heap.size w w':=by
 have hc:=ag ((ak w.heap.size w).alloc (ah _) (.cells #[.string ⟨#[]⟩, .string ⟨#[]⟩, .string ⟨#[]⟩, .string ⟨#[]⟩, .string ⟨#[]⟩] 42));have he:=ag (ez w (.cells #[.string ⟨#[]⟩, .string ⟨#[]⟩, .string ⟨#[]⟩, .string ⟨#[]⟩, .string ⟨#[]⟩] 42))
 go_enter Tryz.func33,Tryz.ntmps33
 go_wp2_with fail;refine(tM 110 _).mono ?_;rintro e wk ⟨rfl,ha⟩;have hd:=ag (aj hc.o ha);have hf:=ag (eA ha he.o);clear ha hc he;have hc:=hd;have he:=hf;clear hd hf;go_wp2_with fail;refine(tM 115 _).mono ?_;rintro e wk ⟨rfl,ha⟩;have hd:=ag (aj hc.o ha);have hf:=ag (eA ha he.o);clear ha hc he;have hc:=hd;have he:=hf;clear hd hf
 go_wp2_with fail;refine(tM 99 _).mono ?_;rintro e wk ⟨rfl,ha⟩;have hd:=ag (aj hc.o ha);have hf:=ag (eA ha he.o);clear ha hc he;have hc:=hd;have he:=hf;clear hd hf;go_wp2_with fail;refine(tM 105 _).mono ?_;rintro e wk ⟨rfl,ha⟩;have hd:=ag (aj hc.o ha);have hf:=ag (eA ha he.o);clear ha hc he;have hc:=hd;have he:=hf;clear hd hf
 go_wp2_with fail;refine(tM 116 _).mono ?_;rintro e wk ⟨rfl,ha⟩;have hd:=ag (aj hc.o ha);have hx:=eA ha he.o;obtain⟨c0,c1,c2,c3,c4,_⟩:=aT hx;obtain⟨f0,f1,f2,f3,f4,_⟩:=gT hx;have h5:=jb (k:=4) (jb (k:=3) (jb (k:=2) (jb (k:=1) (jb (k:=0) hx (.string (xE 110))) (.string (xE 115))) (.string (xE 99))) (.string (xE 105))) (.string (xE 116))
 simp only[aX,cG,cr]at h5;have H5:=ag h5;clear ha hx h5;go_wp2_with fail;obtain⟨m0,m1,m2,m3,m4,_⟩:=aT H5.o;refine cS (v:=kJ ew) (by simp[results,Tryz.results33,go_sem,m0,m1,m2,m3,m4]; rfl) rfl ⟨rfl, ?_⟩;have hb:w.heap.size<=w.heap.size:=ah _;exact cz (cz (cz (cz (cz hd.o hb _) hb _) hb _) hb _) hb _
theorem oI (w:World):Calls Tryz.prog 34 #[] w fun e w'=>e= .returned (kB ka)/\Below w.heap.size w w':=by
 have hx:=ez w (.cells #[.int .i64 2, .int .i64 6, .int .i64 1, .int .i64 1, .int .u64 0] 45);obtain⟨m0,m1,m2,m3,m4,_⟩:=aT hx;have M:=ag (aB m0 (aB m1 (aB m2 (aB m3 m4))));clear hx m0 m1 m2 m3 m4
 go_enter Tryz.func34,Tryz.ntmps34
 go_wp2_with fail;obtain⟨m0,m1,m2,m3,m4⟩:=M.o;exact cS (v:=kB ka) (by simp[results,Tryz.results34,go_sem,m0,m1,m2,m3,m4]; rfl) rfl ⟨rfl,eT⟩
end
section
open Go Go.RowKit
def rX :Array Value:=(qx.list.map fp).toArray
theorem Oz :Tryz.prog.built 216 ((qx.list.map fp).zipIdx.map fun p=>(p.2,p.1))=some rX:=by kernel_rfl
section
variable {P : Program} {ops : Array Oper} {Q : Exit → Act → World → Prop} {S : World → Prop}
theorem Kc {dst:Option Tmp} {op:Op} {ty:TypeId} {pos:String} {aft:Array Edge} {g:Option (Nat×Bool)} {v:Value} {fuel:Nat} {listed:Array Bool} {a:Act} {w:World} (i:Nat) (hi:ops[i]? =some ⟨dst,op,ty,pos,aft,g⟩)
  (hs:Region.noSelect ops=true) (hf:Region.free .any ops listed i=true) (hr:(Region.ready .any ops listed).contains i=true)
  (hQ: ∀c a w,Q (.panic c) (a.put dst v) w->Q (.panic c) a w) (hY:YieldsIf P ops S ⟨dst,op,ty,pos,aft,g⟩ v a) (hS:S w)
  (h:pV P ops Q S fuel (listed.setIfInBounds i true) (a.put dst v) w):pV P ops Q S (fuel+1) listed a w:=
 pV.of (wpAnyH_take (oi:=⟨dst,op,ty,pos,aft,g⟩) hi hs hf hr hQ hY hS h.out)
end
theorem Fg {S:Nat->Prop} {w:World} {a:Option Addr} {n cap:Nat} {bs:List UInt8} (h:bB S w (.slice a n cap) bs) (h0:0<bs.length): ∃b o,a=some ⟨b,o,none⟩/\n=bs.length/\n<=cap/\cap<=maxLen/\ ∀j x,bs[j]? =some x->w.cell? ⟨b,o+j,none⟩=some (u8W x):=by
 obtain⟨hl,a0,cap0,hv,hn,hm,h1⟩:=h
 cases hv
 rcases h1 with h1 | ⟨b,o,rfl,hS,hc⟩
 ·omega
 ·exact⟨b,o,rfl,rfl,hn,hm,fun j x hj=>hc j _ (by rw[bm,hj]; rfl)⟩
theorem EI (S:Nat->Prop) (v:Value) (data:List UInt8) (w:World) (hv:bB S w v data) (hl:data.length<549755813888):
  Calls Tryz.prog 206 #[v] w fun e w'=>e= .returned (.string ⟨(qv data).toArray⟩)/\Below w.heap.size w w':=by
 obtain⟨W0,hy⟩:=bH ((w.alloc (.cells (List.replicate 8 (fp 0)).toArray 216)).setRow w.heap.size rX);have hM:=ag (show Below w.heap.size w W0 by rw[hy]; exact eK (eT) (ah _) _);have hP:=ag (show W0.heap[w.heap.size]? =some (.cells rX 216 (0,0)) by rw[hy]; exact eu _ _ _ _ _ _ (aC w _));have HV:=ag hv;clear hv
 go_enter Tryz.func206,Tryz.ntmps206
 go_upto_region 2 with(first | (refine iS rfl 216 _ rfl ((qx.list.map fp).zipIdx.map fun p=>(p.2,p.1)) (by kernel_rfl) rX Oz ?_) | (refine dF rfl 216 _ _ rfl w.heap.size rX rfl rfl _ _ (aC w _) (by kernel_rfl) (by kernel_rfl) (by kernel_rfl) ?_) | fail)
 change Code.wp _ _ _ _ ((w.alloc (.cells (List.replicate 8 (fp 0)).toArray 216)).setRow w.heap.size rX)
 rw[<-hy];clear hy;go_wp2_with fail;refine(Ny S v data W0 (bX.below HV.o (by omega) hM.o) hl).mono ?_;rintro e w1 ⟨a,c,rfl,ho,hI⟩;have HO:=ag ho;have hN:=ag (aj hM.o hI);have Hc:=ag (eA hI hP.o);obtain⟨p,hp⟩:=bH (data++pN data.length);rw[<-hp]at HO ⊢;have HP:=ag hp;have hL:p.length%64=0:=by rw[hp]; exact KK data
 have hr:p.length<1099511627775:=by rw[hp,ai,xW]; unfold iT; omega
 obtain⟨q,hq⟩:=bH (p.length/64);obtain⟨n,hn⟩:=bH p.length;rw[<-hn]at HO hL hr hq ⊢;have HN:=ag hn;have HQ:=ag hq;clear ho hI hp hn;have hF:=ag (show lI w.heap.size w1 w1 (jY p 0)from⟨Hc.o,⟨rfl,rfl,rfl,ah _,fun _ _ _=>rfl⟩⟩);go_wp2_with fail
 go_loopw [5] (fun i wr=> ∃k:Nat,k<=q/\i= .int .i64 (((64*k:Nat):Int))/\lI w.heap.size w1 wr (jY p k)) (fun i _=>64*q-(intOf i).toNat)
 ·exact⟨0,by omega,rfl,hF.o⟩
 ·obtain⟨k,hk,rfl,h3⟩:=hrel;have hd:=ag h3;clear h3;obtain⟨j,hj⟩:=bH (64*k);rw[<-hj];have HJ:=ag hj
  by_cases HB:k<q
  ·have HA:j+64<=n:=by omega
   have HD:(j:Int)<n:=by omega
   obtain⟨j2,hZ⟩:=bH (j+64);have hD:=ag hZ;have Ht:IntKind.i64.wrap ((j:Int)+64)=(j2:Int):=by rw[bI]; omega
   have hw:bB (fun _=>True) wr (.slice a n c) p:=by have h1:=cK HO.o;exact(bX.same h1 (fun i hS=>hd.o.grown.block i (HO.o.lt i hS.2).2 (fun e=>by cases e; have:=am hP.o; have:=hS.1; omega))).weak (fun _ _=>trivial)
   obtain⟨a3,c3,hA,hz⟩:=rV hw (show j<j2 by omega) (by rw[<-HN.o]; omega);have h2:je p j j2=(p.drop (64*k)).take 64:=by unfold je; rw[hD.o,gg,HJ.o]
   have hr:((p.drop (64*k)).take 64).length=64:=by rw[aW,bz,<-HN.o]; omega
   rw[h2]at hz hA;obtain⟨bk,o3,rfl,HC,hY,Hq,hc⟩:=Fg hz (by rw[hr]; decide);rw[hr]at hz hA hY;clear hj hZ;have Hv:=ag hc;obtain⟨V,hV⟩:=bH (jY p k);rw[<-hV]at hd;have hG:=ag hV;have hU:=ag (show V.Ok by rw[hV]; exact tD p k);obtain⟨W6,he⟩:=bH wr.drew;have ha:=ag (show lI w.heap.size w1 W6 V by rw[he]; exact hd.o.next ((ak _ _).drew))
   have hs:=ag (show ∀i x,((p.drop (64*k)).take 64)[i]? =some x->W6.cell? ⟨bk,o3+i,none⟩=some (u8W x) by rw[he]; exact hc);have Hd:=ag (show(Tryz.prog.info? 216).map (·.size)=some (V.list.map fp).length by kernel_rfl);have Hw:=ag (show(Tryz.prog.info? 216).map (·.size)=some (V.list.map fp).toArray.size by kernel_rfl);clear hV hw hz hc h2
   go_upto_region 6 with(fail)
   refine eP (fun w'=>w'.heap[w.heap.size]? =some (.cells (V.list.map fp).toArray 216 (0,0))) (by kernel_rfl) (by kernel_rfl) ?_;simp only[bu,bw,ay,bp,Nat.reduceAdd,Nat.reduceSub];rw[<-he];clear he;refine Kc 0 rfl (by kernel_rfl) (by kernel_rfl) (by kernel_rfl) (fun _ _ _ h=>h) (yieldsIf_load_mid rfl 216 _ rfl w.heap.size 0 rfl (V.list.map fp) _ (fun w' hh=>mJ hh) fP rfl Hd.o) ha.o.box ?_
   simp only[bM];refine dx 1 rfl ha.o.box (by intro w' hh; go_simp; rfl) ?_;simp only[bM];refine dx 2 rfl ha.o.box (by intro w' hh; go_simp; rfl) ?_;simp only[bM];refine dx 3 rfl ha.o.box (by intro w' hh; go_simp; rfl) ?_;simp only[bM];refine dx 4 rfl ha.o.box (by intro w' hh; go_simp; rfl) ?_;simp only[bM];refine dx 5 rfl ha.o.box (by intro w' hh; go_simp; first | rfl | (rw[hA]; rfl)) ?_
   simp only[bM];have hJ:=Fd V bk o3 c3 _ W6 hU.o hr hY Hq hs.o;obtain⟨V2,hH⟩:=bH (sF V ((p.drop (64*k)).take 64));rw[<-hH]at hJ;have Hj:=ag hH;have Hb:=ag hJ;clear hJ hA hr hH;refine cA 6 rfl (fun K hK=> ?_);go_wp2_with fail;refine Hb.o.mono ?_;rintro e w7 ⟨rfl,hX⟩;have hg:=ag (ha.o.next hX);have h7:=ag (show(V2.list.map fp).toArray.all (·.oneCell')=true from er (fun x hx=>by obtain⟨y,-,rfl⟩:=aQ.1 hx; rfl))
   have He:=ag (show(Tryz.prog.info? 216).map (·.size)=some (V2.list.map fp).toArray.size by kernel_rfl);clear hX;go_wp2_with fail;refine⟨hg.o.box, ?_⟩;refine cH (by kernel_rfl) ?_;refine eX rfl rfl (fun K hK=> ?_);go_wp2_with (refine dF rfl 216 _ _ rfl w.heap.size (V2.list.map fp).toArray rfl rfl _ _ hg.o.box He.o rfl h7.o ?_)
   go_roundw
   case rel=>
    refine⟨k+1,by omega, ?_,hg.o.put (r':=V2) rfl |> fun h=>by rw[show jY p (k+1)=sF (jY p k) ((p.drop (64*k)).take 64)from rfl,<-hG.o,<-Hj.o]; exact h⟩;rw[hD.o,HJ.o]; exact congrArg (Value.int .i64) (by omega)
   case measure=>
    have:=HJ.o;have:=hD.o;simp only[intOf,fx];omega
  ·have Hn:k=q:=by omega
   subst Hn;have Hy: ¬(j:Int)<n:=by omega
   obtain⟨w5,Hs⟩:=bH wr;subst Hs;obtain⟨V,hV⟩:=bH (jY p k);rw[<-hV]at hd;have hU:=ag (show V.Ok by rw[hV]; exact tD p k);have hG:=ag (show qv data=V.out by unfold qv; rw[<-HP.o,<-HN.o,<-HQ.o,hV]);have Hf:=ag (show(w5.alloc (.cells #[] 5)).ownsRow w5.heap.size 5 1 (.slice (some ⟨w5.heap.size,0,none⟩) 0 0) 0 []from cW (e:=5) (size:=1) (base:=w5.heap.size) w5 #[] 0 (ah _) (aR _) (by simp))
   have Ha:=ag ((ak w5.heap.size w5).alloc (ah _) (.cells #[] 5));clear hV hj;go_wp2_with fail
   go_loopw [6,7] (fun o i wr=> ∃(j:Nat) (a c:_),j<=8/\i= .int .i64 (j:Int)/\o= .slice a (4*j) c/\wr.ownsRow w5.heap.size 5 1 (.slice a (4*j) c) (4*j) (((V.list.take j).flatMap BC).map aZ)/\Below w5.heap.size w5 wr) (fun _ i _=>8-(intOf i).toNat)
   ·exact⟨0,_,_,by omega,rfl,rfl,Hf.o,Ha.o⟩
   ·obtain⟨j,a6,c6,hj,rfl,rfl,ho,hb⟩:=hrel;have hE:=ag ho;have hB:=ag hb;have HE:=hb.size;clear ho hb;obtain⟨m,hm⟩:=bH (4*j);rw[<-hm]at hE ⊢;have HM:=ag hm
    by_cases h8:j<8
    ·obtain⟨x,hx⟩: ∃x,V.list[j]? =some x:=⟨_,bn (show j<V.list.length from h8)⟩;have HX:=ag hx;have cx:=(hB.o.cell (p:=⟨w.heap.size,j,none⟩) (am hd.o.box)).trans (hd.o.get hx);have Hz:(j:Int)<8:=by omega
     clear hx hm;obtain⟨W6,he⟩:=bH wr.drew;have hT:=ag (show W6.cell? ⟨w.heap.size,j,none⟩=some (.int .u32 (x:Int)) by rw[he]; exact cx);have Hg:=ag (show W6.ownsRow w5.heap.size 5 1 (.slice a6 m c6) m (((V.list.take j).flatMap BC).map aZ) by rw[he]; exact hE.o);have hC:=ag (show Below w5.heap.size w5 W6 by rw[he]; exact hB.o.drew);have Hu:=hC.o.size
     go_upto_region 11 with(fail)
     refine eP (fun w'=>w'.cell? ⟨w.heap.size,j,none⟩=some (.int .u32 (x:Int))) (by kernel_rfl) (by kernel_rfl) ?_;simp only[bu,bw,ay,bp,Nat.reduceAdd,Nat.reduceSub];rw[<-he];clear he cx
     iterate 20 (refine cF rfl hT.o (by intro w' hh; go_simp; rfl) ?_; simp only[bM])
     refine cA 20 rfl (fun K hK=> ?_);go_wp2_with fail;have Hp:w.heap.size<W6.heap.size:=aO (am hd.o.box) Hu;have h9:=ag ((ak W6.heap.size W6).alloc (ah _) (.cells #[.int .u8 ((x:Int)/16777216%256), .int .u8 ((x:Int)/65536%256), .int .u8 ((x:Int)/256%256), .int .u8 ((x:Int)%256)] 5));have Hk:=(h9.o.cell (p:=⟨w.heap.size,j,none⟩) Hp).trans hT.o
     have Hi:=ag (wy (n:=4) (sz:=1) (cells:=[.int .u8 ((x:Int)/16777216%256), .int .u8 ((x:Int)/65536%256), .int .u8 ((x:Int)/256%256), .int .u8 ((x:Int)%256)]) (aC W6 (.cells #[.int .u8 ((x:Int)/16777216%256), .int .u8 ((x:Int)/65536%256), .int .u8 ((x:Int)/256%256), .int .u8 ((x:Int)%256)] 5)) rfl (by decide));have hR:=ag (Hg.o.alloc (.cells #[.int .u8 ((x:Int)/16777216%256), .int .u8 ((x:Int)/65536%256), .int .u8 ((x:Int)/256%256), .int .u8 ((x:Int)%256)] 5))
     have Hh:=ag (show ∀u∈([.int .u8 ((x:Int)/16777216%256), .int .u8 ((x:Int)/65536%256), .int .u8 ((x:Int)/256%256), .int .u8 ((x:Int)%256)]:List Value),u.oneCell'=true by intro u hu; simp only[aU,du,or_false]at hu; rcases hu with rfl | rfl | rfl | rfl<;> rfl);have Hr:m+4<1099511627775:=by have:=HM.o; omega
     have h4:w5.heap.size<=(W6.alloc (.cells #[.int .u8 ((x:Int)/16777216%256), .int .u8 ((x:Int)/65536%256), .int .u8 ((x:Int)/256%256), .int .u8 ((x:Int)%256)] 5)).heap.size:=by simp; omega
     refine⟨Hk, ?_⟩;refine cA 21 rfl (fun K hK=> ?_);go_wp2_with (at_builtin; go_must (refine dV Tryz.appBytes rfl _ _ rfl w5.heap.size (.slice a6 m c6) m (((V.list.take j).flatMap BC).map aZ) rfl hR.o _ 4 [.int .u8 ((x:Int)/16777216%256), .int .u8 ((x:Int)/65536%256), .int .u8 ((x:Int)/256%256), .int .u8 ((x:Int)%256)] rfl Hi.o Hh.o Hr h4 ?_); intro v9 w9 hf Hm; obtain⟨a9,c9,rfl,-,-⟩:=aH hf)
     have hO:=ag (bZ (hC.o.alloc hC.o.size (.cells #[.int .u8 ((x:Int)/16777216%256), .int .u8 ((x:Int)/65536%256), .int .u8 ((x:Int)/256%256), .int .u8 ((x:Int)%256)] 5)) hR.o Hm (ah _) h4);have Ho:w.heap.size<w5.heap.size:=am hd.o.box;have Hl:w9.cell? ⟨w.heap.size,j,none⟩=some (.int .u32 (x:Int)):=(hO.o.cell (p:=⟨w.heap.size,j,none⟩) Ho).trans (hd.o.get HX.o)
     refine⟨Hl, ?_⟩;refine cH (by kernel_rfl) ?_;refine eX rfl rfl (fun K hK=> ?_);go_wp2_with fail
     go_roundw
     ·have h0:m+4=4*(j+1):=by rw[HM.o]; omega
      refine⟨j+1,a9,c9,by omega,by simp,by rw[h0], ?_,hO.o⟩;rw[<-h0,dC HX.o,bV,aI];have e4:([x].flatMap BC).map aZ=[.int .u8 ((x:Int)/16777216%256), .int .u8 ((x:Int)/65536%256), .int .u8 ((x:Int)/256%256), .int .u8 ((x:Int)%256)]:=by
       have e0:=lA (x:=x/2^24) (y:=(x:Int)/16777216%256) (by omega);have e1:=lA (x:=x/2^16) (y:=(x:Int)/65536%256) (by omega);have e2:=lA (x:=x/2^8) (y:=(x:Int)/256%256) (by omega);have e3:=lA (x:=x) (y:=(x:Int)%256) rfl;rw[e0,e1,e2,e3]
       rfl
      rw[e4];exact hf
     simp[intOf]; omega
    ·obtain rfl:j=8:=by omega
     obtain rfl:m=V.out.length:=by rw[HM.o,IX]
     have Hx:=jH (bs:=V.out) (cK (show wr.ownsRow w5.heap.size 5 1 (.slice a6 V.out.length c6) V.out.length (V.out.map aZ)from hE.o));clear hm;go_wp2_with fail;go_ret;have hW:Below w.heap.size w w5:=mA hN.o hd.o.grown (ah _) hN.o.size;exact⟨by rw[hG.o]; rfl,hW.trans (hB.o.mono hW.size)⟩
def uL (k:List UInt8) (x:UInt8) (i:Nat):List UInt8:=(List.range i).map fun j=>(k.getD j 0)^^^x
theorem AK (k:List UInt8) (x:UInt8) (i:Nat):uL k x (i+1)=uL k x i++[(k.getD i 0)^^^x]:=by simp[uL,List.range_succ]
theorem NB (k:List UInt8) (x:UInt8) (i:Nat):(uL k x i).length=i:=by simp[uL]
theorem NA {k:List UInt8} (x:UInt8) (h:k.length<=64):uL k x 64=(k++List.replicate (64-k.length) 0).map (fun b=>b^^^x):=by
 apply List.ext_getElem?
 intro j;unfold uL;rw[bm,bm]
 by_cases hj:j<64
 ·rw[List.getElem?_range hj]
  by_cases hk:j<k.length
  ·rw[bJ hk,bn hk];simp[List.getD_eq_getElem?_getD,hk]
  ·rw[bE (by omega),List.getElem?_replicate,if_pos (by omega)];simp[List.getD_eq_getElem?_getD,List.getElem?_eq_none (show k.length<=j by omega)]
 ·rw[dP (by simp; omega),dP (by simp; omega)]
  rfl
theorem Nz (s:ByteArray) (x:UInt8) (w:World):Calls Tryz.prog 207 #[.string s, .int .u8 (x.toNat:Int)] w fun e w'=> ∃a c,e= .returned (.slice a 64 c)/\mj w' w.heap.size (.slice a 64 c) (uL (bl s) x 64)/\Below w.heap.size w w':=by
 have hl:=ag (show(w.alloc (.cells #[] 5)).ownsRow w.heap.size 5 1 (.slice (some ⟨w.heap.size,0,none⟩) 0 0) 0 ((uL (bl s) x 0).map aZ)from cW (e:=5) (size:=1) (base:=w.heap.size) w #[] 0 (ah _) (aR _) (by simp));have hj:=ag ((ak w.heap.size w).alloc (ah _) (.cells #[] 5))
 go_enter Tryz.func207,Tryz.ntmps207
 go_wp2_with fail
 go_loopw [5,6] (fun o i wr=> ∃(k:Nat) (a:Option Addr) (c:Nat),k<=64/\i= .int .i64 (k:Int)/\o= .slice a k c/\wr.ownsRow w.heap.size 5 1 (.slice a k c) k ((uL (bl s) x k).map aZ)/\Below w.heap.size w wr) (fun _ i _=>64-(intOf i).toNat)
 ·exact⟨0,_,_,by omega,rfl,rfl,hl.o,hj.o⟩
 ·obtain⟨k,a,c,hk,rfl,rfl,ho,hb⟩:=hrel;have HO:=ag ho;have HB:=ag hb;have hz:=hb.size;clear ho hb hl hj
  by_cases hq:k<64
  ·have hp:(k:Int)<64:=by omega
   have hd:k<1099511627775:=by omega
   by_cases hm:k<s.size
   ·have hh:(k:Int)<(s.size:Int):=by omega
    have HZ:=ag (show ∀u∈[Value.int .u8 (bits BinOp.xor IntKind.u8 (s[k].toNat:Int) (x.toNat:Int))],u.oneCell'=true by simp[Value.oneCell']);have hg:=ag (show [Value.int .u8 (bits BinOp.xor IntKind.u8 (s[k].toNat:Int) (x.toNat:Int))]=[(bl s).getD k 0^^^x].map aZ by rw[GT,cL,bn (show k<(bl s).length by rw[<-bi]; exact hm),Option.getD_some,kQ s k hm]; rfl)
    go_wp2_with (at_builtin; go_loud (refine bP Tryz.appBytes rfl _ _ rfl w.heap.size (.slice a k c) k ((uL (bl s) x k).map aZ) rfl wr [Value.int .u8 (bits BinOp.xor IntKind.u8 (s[k].toNat:Int) (x.toNat:Int))] _ rfl rfl HZ.o HO.o hd hz ?_); intro v' wc ha hc _ _; obtain⟨ae,ce,rfl,-,-⟩:=aH ha; rw[hg.o,<-aI,<-AK]at ha; have hf:=ag ha; have he:=ag (bZ HB.o HO.o hc (ah _) hz); clear ha hc)
    go_roundw
    ·exact⟨k+1,_,_,by omega,by go_num,rfl,hf.o,he.o⟩
    simp[intOf]; omega
   ·have hh: ¬(k:Int)<(s.size:Int):=by omega
    have HZ:=ag (show ∀u∈[Value.int .u8 (bits BinOp.xor IntKind.u8 0 (x.toNat:Int))],u.oneCell'=true by simp[Value.oneCell']);have hg:=ag (show [Value.int .u8 (bits BinOp.xor IntKind.u8 0 (x.toNat:Int))]=[(bl s).getD k 0^^^x].map aZ by rw[cL,dP (show(bl s).length<=k by rw[<-bi]; omega),Option.getD_none];have h1:=GT 0 x;rw[show(((0:UInt8).toNat:Nat):Int)=0 from rfl]at h1;rw[h1]; rfl)
    go_wp2_with (at_builtin; go_loud (refine bP Tryz.appBytes rfl _ _ rfl w.heap.size (.slice a k c) k ((uL (bl s) x k).map aZ) rfl wr [Value.int .u8 (bits BinOp.xor IntKind.u8 0 (x.toNat:Int))] _ rfl rfl HZ.o HO.o hd hz ?_); intro v' wc ha hc _ _; obtain⟨ae,ce,rfl,-,-⟩:=aH ha; rw[hg.o,<-aI,<-AK]at ha; have hf:=ag ha; have he:=ag (bZ HB.o HO.o hc (ah _) hz); clear ha hc)
    go_roundw
    ·exact⟨k+1,_,_,by omega,by go_num,rfl,hf.o,he.o⟩
    simp[intOf]; omega
  ·have hn:k=64:=by omega
   subst hn;go_wp2_with fail;go_ret;refine⟨a,c,rfl, ?_,HB.o⟩;unfold mj;rw[NB];exact HO.o
theorem IZ (s:ByteArray) (x:UInt8) (n:Int) (w:World) (hn:n=(x.toNat:Int)) (hs:s.size<=64):Calls Tryz.prog 207 #[.string s, .int .u8 n] w fun e w'=> ∃a c,e= .returned (.slice a 64 c)/\mj w' w.heap.size (.slice a 64 c) (gM (ja (bl s)) x)/\Below w.heap.size w w':=by
 subst hn;have hk:uL (bl s) x 64=gM (ja (bl s)) x:=by rw[NA x (by rw[<-bi]; exact hs)];unfold gM ja;rw[if_neg (by rw[<-bi]; omega)]
 rw[<-hk];exact Nz s x w
theorem Ol (S:Nat->Prop) (key:ByteArray) (data:List UInt8) (dv:Value) (w:World) (hk:key.size<=64) (hv:bB S w dv data) (hl:data.length<549755000000):
  Calls Tryz.prog 190 #[.string key,dv] w fun e w'=>e= .returned (.string ⟨(zq (bl key) data).toArray⟩)/\Below w.heap.size w w':=by
 obtain⟨h4,a,cap,rfl,hn,hm,-⟩:=id hv;unfold maxLen at hm;have HV:=ag hv;obtain⟨n,hy⟩:=bH data.length;rw[<-hy]at HV hl hn ⊢;have HN:=ag hy;have h7: ¬(64:Int)<(key.size:Int):=by omega
 obtain⟨kx,hu⟩:=bH (gM (ja (bl key)) 54);obtain⟨ky,hw⟩:=bH (gM (ja (bl key)) 92);have he:kx.length=64:=by rw[hu]; unfold gM; rw[aw,jy]
 have hf:ky.length=64:=by rw[hw]; unfold gM; rw[aw,jy]
 have hA:=ag hu;have hB:=ag hw;have hp:=ag he;have hq:=ag hf;clear hv h4 hy hu hw he hf
 go_enter Tryz.func190,Tryz.ntmps190
 go_wp2_with fail;refine(IZ key 54 54 _ rfl hk).mono ?_;rintro e w1 ⟨a1,c1,rfl,hg,hj⟩;rw[<-hA.o]at hg;have hC:=ag (show w1.ownsRow w.heap.size 5 1 (.slice a1 64 c1) 64 (kx.map aZ) by unfold mj at hg; rw[hp.o]at hg; exact hg);have hM:=ag hj;have hY:=ag (show bX S w1 1 (.slice a n cap) n (data.map aZ) by rw[HN.o]; exact bX.below (by have:=HV.o; rw[HN.o]at this; exact this) (by omega) hj)
 have hJ:=hj.size;clear hg hj;have hx:64+n<1099511627775:=by omega
 go_wp2_with (at_builtin; go_loud (refine dV Tryz.appBytes rfl _ _ rfl w.heap.size (.slice a1 64 c1) 64 (kx.map aZ) rfl hC.o (.slice a n cap) n (data.map aZ) rfl hY.o (fE data) hx hJ ?_); intro v2 w2 hb hH; obtain⟨a2,c2,rfl,-,-⟩:=aH hb; have hV:=ag hb; have hN:=ag (bZ hM.o hC.o hH (ah _) hJ); clear hb hH);have hZ:=ag (show bB (fun _=>True) w2 (.slice a2 (64+n) c2) (kx++data) by
  have h1:=cK hV.o;have h2:(kx++data).length=64+n:=by rw[ai,hp.o,HN.o]
  show bX _ w2 1 _ (kx++data).length ((kx++data).map aZ)
  rw[h2,aI];exact h1.weak fun _ _=>trivial)
 refine(EI _ _ (kx++data) _ hZ.o (by rw[ai,hp.o,<-HN.o]; omega)).mono ?_;rintro e w3 ⟨rfl,hE⟩;have ho:=ag (aj hN.o hE);clear hE;obtain⟨inn,hd⟩: ∃i:ByteArray,i=⟨(qv (kx++data)).toArray⟩:=⟨_,rfl⟩;have ha:inn.size=32:=by rw[hd,bi,jQ,uf]
 rw[<-hd];have hU:=ag hd;clear hd;go_wp2_with fail;refine(IZ key 92 92 _ rfl hk).mono ?_;rintro e w4 ⟨a4,c4,rfl,hh,hr⟩;rw[<-hB.o]at hh;have hW:=ag (show w4.ownsRow w3.heap.size 5 1 (.slice a4 64 c4) 64 (ky.map aZ) by unfold mj at hh; rw[hq.o]at hh; exact hh);have hO:=ag (aj ho.o hr);have h9:=hr.size;clear hh hr;obtain⟨W5,cp,h3,hG,hs,h8⟩:=uy inn w4 (by unfold maxLen; omega)
 have hP:=ag (aj hO.o hs);have hD:=ag (cY hW.o hs);have hT:=ag (show bX (fun k=>k=w4.heap.size) W5 1 (.slice (some ⟨w4.heap.size,0,none⟩) 32 cp) 32 ((bl inn).map aZ) by have h1:=hG; unfold bB at h1; rw[<-bi,ha]at h1; exact h1);rw[ha]at h3;have hz:=ag ha;have hL:w3.heap.size<=W5.heap.size:=by omega
 clear hG hs ha;go_wp2_with (at_builtin; go_loud (refine dV Tryz.appBytes rfl _ _ rfl w3.heap.size (.slice a4 64 c4) 64 (ky.map aZ) rfl hD.o (.slice (some ⟨w4.heap.size,0,none⟩) 32 cp) 32 ((bl inn).map aZ) rfl hT.o (fE (bl inn)) (by decide) hL ?_); intro v6 w6 hc hI; obtain⟨a6,c6,rfl,-,-⟩:=aH hc; have hX:=ag hc; have hR:=ag (bZ (B:=w.heap.size) hP.o hD.o hI ho.o.size (an ho.o.size hL)); clear hc hI)
 have h0:=ag (show bB (fun _=>True) w6 (.slice a6 96 c6) (ky++bl inn) by
  have h1:=cK hX.o;have h2:(ky++bl inn).length=64+32:=by rw[ai,hq.o,<-bi,hz.o]
  show bX _ w6 1 _ (ky++bl inn).length ((ky++bl inn).map aZ)
  rw[h2,aI];exact h1.weak fun _ _=>trivial)
 refine(EI _ _ (ky++bl inn) _ h0.o (by rw[ai,hq.o,<-bi,hz.o]; decide)).mono ?_;rintro e w7 ⟨rfl,hF⟩;have hS:=ag (aj hR.o hF);clear hF;have HT:=ag (show qv (ky++bl inn)=zq (bl key) data by
  rw[hU.o,jQ,hA.o,hB.o]
  rfl)
 go_wp2_with fail;go_ret;exact⟨by rw[<-HT.o]; rfl,hS.o⟩
theorem FO (k:dq) (w:World):Calls Tryz.prog 74 #[kJ k] w fun e w'=>e= .returned (.bool (jK k))/\Below w.heap.size w w':=by
 obtain⟨W,hW⟩:=bH (w.alloc (.cells #[.string k.nm, .string k.st, .string k.ck, .string k.ix, .string k.tk] 42));have HB:=ag (show Below w.heap.size w W by rw[hW]; exact eT);have HX:=ag (show W.heap[w.heap.size]? =some (.cells #[.string k.nm, .string k.st, .string k.ck, .string k.ix, .string k.tk] 42 (0,0)) by rw[hW]; exact aC w _);have hv:jK k=(((decide (k.nm.size=32) && decide (k.st.size=32)) && decide (k.ck.size=32)) && decide (k.ix.size=32) && decide (k.tk.size=32)):=by unfold jK dq.list; simp[Bool.and_assoc]
 have HV:=ag hv;clear hv;unfold kJ
 go_enter Tryz.func74,Tryz.ntmps74
 go_upto_region 1 with fail
 rw[<-hW];clear hW;obtain⟨c0,c1,c2,c3,c4,_⟩:=aT HX.o;go_wp2_with fail
 all_goals (go_ret; refine⟨cj ?_,HB.o⟩; rw[HV.o,dy]; simp; omega)
theorem Ki (k:dq) (b:Bool) (w:World) (h:jK k=b):Calls Tryz.prog 74 #[kJ k] w fun e w'=>e= .returned (.bool b)/\Below w.heap.size w w':=by rw[<-h]; exact FO k w
theorem yT (n:Nat) (w:World) (hn:n<18446744073709551616):Calls Tryz.prog 103 #[.int .u64 (n:Int)] w (fun e w'=> ∃v,e= .returned v/\mj w' w.heap.size v (bG n)/\Below w.heap.size w w'):=by
 have HO:=ag (cW (e:=5) (size:=1) (base:=w.heap.size) w #[] 0 (ah _) (aR _) (by simp));have HB:=ag ((ak w.heap.size w).alloc (ah _) (.cells #[] 5))
 go_enter Tryz.func103,Tryz.ntmps103
 go_wp2_with fail
 go_loopw [0,3] (fun x o wr=> ∃(f m:Nat) (acc:List UInt8),x= .int .u64 (m:Int)/\m<18446744073709551616/\m<2^(7*f)/\acc++jW f m=bG n/\wr.ownsRow w.heap.size 5 1 o acc.length (acc.map aZ)/\acc.length<=20/\Below w.heap.size w wr) (fun x _ _=>(intOf x).toNat)
 ·exact⟨10,n,[],rfl,hn,jk hn (by decide),rfl,HO.o,by simp,HB.o⟩
 ·obtain⟨f,m,acc,rfl,hm,hr,he,hd,hu,hb⟩:=hrel;have HE:=ag he;have hf:=ag hd;have hp:=ag hb;have hq:=ag hr;have hg:=hb.size;obtain⟨ao,co,rfl,h1,h2⟩:=aH hd;clear he hd hb hr HO HB
  by_cases ho:127<m
  ·have hv:Value.int .u8 ((m:Int)%128+128)=aZ (UInt8.ofNat (m%128+128)):=by rw[mB (by omega)]; simp
   have HV:=ag hv;obtain⟨f,rfl⟩: ∃g,f=g+1:=⟨f-1,by
    cases f with
    | zero=>have:=hq.o; simp at this; omega
    | succ g=>rfl⟩
   have hj:=ag (show(acc++[UInt8.ofNat (m%128+128)])++jW f (m/128)=bG n by rw[<-HE.o,jW,if_pos ho]; simp);have hk:=ag (show m/128<2^(7*f) by have h3:=hq.o;rw[show 7*(f+1)=7*f+7 by omega,gD]at h3;exact fo (by omega))
   have hs:acc.length<=10:=by have h4:=dG n;rw[<-HE.o,ai,jW,if_pos ho,ay]at h4;omega
   clear hv;go_wp2_with (at_builtin; go_must (refine iX Tryz.appBytes rfl _ _ rfl w.heap.size (.slice ao acc.length co) acc.length (acc.map aZ) rfl wr [.int .u8 ((m:Int)%128+128)] _ rfl rfl (by rw[HV.o]; exact pF _) hf.o (by omega) hg ?_); intro v' wc hc ha _; have hh:=ag (bZ hp.o hf.o ha (ah _) hg); have hl:=ag (show wc.ownsRow w.heap.size 5 1 v' (acc++[UInt8.ofNat (m%128+128)]).length ((acc++[UInt8.ofNat (m%128+128)]).map aZ) by rw[ai,aI,bS,eY,<-HV.o]; exact hc); obtain⟨ae,ce,rfl,-,-⟩:=aH hc; clear hc ha)
   go_roundw
   ·exact⟨f,m/128,acc++[UInt8.ofNat (m%128+128)],by simp,by omega,hk.o,hj.o,hl.o,by simp; omega,hh.o⟩
   simp[intOf]; omega
  ·have hv:Value.int .u8 (m:Int)=aZ (UInt8.ofNat m):=by rw[mB (by omega)]
   have HV:=ag hv;have hj:=ag (show acc++[UInt8.ofNat m]=bG n by
    rw[<-HE.o]
    cases f with
    | zero=>rfl
    | succ f=>rw[jW,if_neg ho])
   clear hv;go_wp2_with (at_builtin; go_must (refine iX Tryz.appBytes rfl _ _ rfl w.heap.size (.slice ao acc.length co) acc.length (acc.map aZ) rfl wr [.int .u8 (m:Int)] _ rfl rfl (by rw[HV.o]; exact pF _) hf.o (by omega) hg ?_); intro v' wc hc ha _; have hh:=ag (bZ hp.o hf.o ha (ah _) hg); have hl:=ag (show wc.ownsRow w.heap.size 5 1 v' (acc++[UInt8.ofNat m]).length ((acc++[UInt8.ofNat m]).map aZ) by rw[ai,aI,bS,eY,<-HV.o]; exact hc); obtain⟨ae,ce,rfl,-,-⟩:=aH hc; clear hc ha)
   go_ret;rw[<-hj.o];exact⟨_,rfl,hl.o,hh.o⟩
def Cw (k:dq) (b:Nat) (v:Value) (data:List UInt8) (w:World):Prop:=w.heap[b]? =some (.cells #[.string k.nm, .string k.st, .string k.ck, .string k.ix, .string k.tk] 42 (0,0))/\bB (fun _=>True) w v data
theorem Cw.below {k:dq} {b:Nat} {v:Value} {data:List UInt8} {w w':World} (h:Cw k b v data w) (hb:Below w.heap.size w w'):Cw k b v data w':=⟨(hb.block _ (am h.1)).trans h.1,bX.below h.2 (by omega) hb⟩
theorem FT (S:Nat->Prop) (k:dq) (g:Nat) (data:List UInt8) (dv:Value) (w:World) (hk:jK k=true) (hg:g<=1099511627776) (hv:bB S w dv data) (hl:data.length<=32768):
  Calls Tryz.prog 178 #[kJ k, .int .i64 (g:Int),dv] w fun e w'=>e= .returned (.tuple #[.string (ms k g data), .int .i64 0])/\Below w.heap.size w w':=by
 obtain⟨hI,a,cap,rfl,hn,hm,-⟩:=id hv;unfold maxLen at hm;obtain⟨n,hf⟩:=bH data.length;have HN:=ag hf;have hy:k.nm.size=32:=(uV hk).1;have hD:=ag hy;obtain⟨W,hW⟩:=bH (w.alloc (.cells #[.string k.nm, .string k.st, .string k.ck, .string k.ix, .string k.tk] 42));have HB:=ag (show Below w.heap.size w W by rw[hW]; exact eT);have HX:=ag (show Cw k w.heap.size (.slice a n cap) data W by rw[hW,hf];exact⟨aC w _,(bX.below hv (by omega) (eT)).weak fun _ _=>trivial⟩)
 rw[<-hf]at hl hn ⊢;have HK:=ag hk;have hM: ¬(g:Int)<0:=by omega
 have hN:IntKind.u64.wrap (g:Int)=(g:Int):=by rw[cX]; omega
 have hO: ¬(32768:Int)<(n:Int):=by omega
 clear hv hI hf hk hy;unfold kJ
 go_enter Tryz.func178,Tryz.ntmps178
 go_upto_region 1 with fail
 rw[<-hW];clear hW;obtain⟨c0,c1,c2,c3,c4,_⟩:=aT HX.o.1;go_wp2_with fail;refine(Ki k true _ HK.o).mono ?_;rintro e w1 ⟨rfl,hh⟩;have hA:=ag (aj HB.o hh);have hG:=ag (HX.o.below hh);clear hh c0 c1 c2 c3 c4
 go_upto_region 5 with fail
 refine eV (Cw k w.heap.size (.slice a n cap) data) (by kernel_rfl) ?_;obtain⟨V,hV⟩:=bH w1.drew;rw[<-hV];have hb:Below w1.heap.size w1 V:=by rw[hV]; exact(ak _ _).drew
 have hp:=ag (aj hA.o hb);have SV:=ag (hG.o.below hb);clear hV hb
 iterate 4 (refine cF rfl SV.o (by rintro w' ⟨hx,_⟩; have x0:=bD (k:=0) hx; simp only[aF,aD]at x0; go_simp; rfl) ?_; simp only[bM])
 refine dx 5 rfl SV.o (by rintro w' ⟨hx,_⟩; have x0:=bD (k:=0) hx; simp only[aF,aD]at x0; go_simp; rfl) ?_;simp only[bM];refine cA 4 rfl (fun K hK=> ?_);go_wp2_with fail;refine(yT g _ (by omega)).mono ?_;rintro e w2 ⟨v2,rfl,hd,hc⟩;obtain⟨a2,c2,rfl,-,-⟩:=aH hd;have hL:=ag (aj hp.o hc);have S2:=ag (SV.o.below hc)
 obtain⟨m,he⟩:=bH ((bG g).length);have hr:=ag he;have ho:=dG g;rw[<-he]at ho ⊢;have hs:=ag (show w2.ownsRow V.heap.size 5 1 (.slice a2 m c2) m ((bG g).map aZ) by unfold mj at hd; rw[<-he]at hd; exact hd);have hF:=ag (show bX (fun _=>True) w2 1 (.slice a n cap) n (data.map aZ) by have h1:=S2.o.2; unfold bB at h1; rw[<-HN.o]at h1; exact h1)
 have hz:=hc.size;have hu:=ag hc;clear hd hc he;go_wp2_with fail;refine⟨S2.o, ?_⟩;refine cA 6 rfl (fun K hK=> ?_);have hJ:m+n<1099511627775:=by omega
 go_wp2_with (at_builtin; go_loud (refine dV Tryz.appBytes rfl _ _ rfl V.heap.size (.slice a2 m c2) m ((bG g).map aZ) rfl hs.o (.slice a n cap) n (data.map aZ) rfl hF.o (fE data) hJ hz ?_); intro v3 w3 ha hw; obtain⟨a3,c3,rfl,-,-⟩:=aH ha; have hE:=ag ha; have hq:=ag (bZ (B:=V.heap.size) ((ak _ _).mono (ah _)) hs.o hw (ah _) hz); clear ha hw)
 have S3:=ag (SV.o.below (hu.o.trans hq.o));have hB:=ag (aj hp.o (hu.o.trans hq.o));have hH:=ag (show bB (fun _=>True) w3 (.slice a3 (m+n) c3) (bG g++data) by
  have h1:=cK hE.o;have h2:(bG g++data).length=m+n:=by rw[ai,<-hr.o,<-HN.o]
  show bX _ w3 1 _ (bG g++data).length ((bG g++data).map aZ)
  rw[h2,aI];exact h1.weak fun _ _=>trivial)
 refine⟨S3.o, ?_⟩;refine cA 7 rfl (fun K hK=> ?_);go_wp2_with fail;refine(Ol _ k.nm (bG g++data) _ _ (by rw[hD.o]; decide) hH.o (by rw[ai,<-hr.o,<-HN.o]; omega)).mono ?_;rintro e w4 ⟨rfl,hj⟩;have S4:=ag (S3.o.below hj);have hC:=ag (aj hB.o hj);clear hj;go_wp2_with fail;refine⟨S4.o, ?_⟩
 iterate 2 (refine cF rfl S4.o (by rintro w' ⟨hx,_⟩; have x0:=bD (k:=0) hx; simp only[aF,aD]at x0; go_simp; rfl) ?_; simp only[bM])
 refine cH (by kernel_rfl) ?_;go_wp2_with fail
 go_ret2
 exact⟨rfl,hC.o⟩
end
end Go.Proofs.YtpffpjbkbaleiaaGreatDoor
