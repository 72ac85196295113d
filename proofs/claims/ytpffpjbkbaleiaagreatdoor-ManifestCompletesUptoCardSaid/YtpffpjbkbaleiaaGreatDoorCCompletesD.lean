/- Texts of this proof, one after the other: MarkB, MarkC, Rng, RngP, EndA, MapS, Glob, OrdP, RefP, RejP, TreeP, TreeQ, TreeR, Ent, TreeM, TreeN, FtA, FtB, EndB, SealB, RoundR, OwnE, EndC, BuildP, WrA, WrB. -/
import Derived.Test.YtpffpjbkbaleiaaGreatDoorCCompletesC
set_option maxRecDepth 100000
set_option maxHeartbeats 8000000
namespace Go.Proofs.YtpffpjbkbaleiaaGreatDoor
section
open Go Go.RowKit
structure rV (seed W : Nat) (d : List UInt8) (cs : List Value) : Prop where
 tab: ∀i,i<256->cs[i]? =some (.int .u64 ((ut seed i:Nat):Int))
 rng: ∀j,j<64-> ∃b,cs[256+j]? =some (aY b)
 win:cs[320]? =some (.int .i64 (W:Int))
 st: ∃s,s<64/\cs[321]? =some (.int .i64 (s:Int))/\ ∀j b,(ox W d)[j]? =some b->cs[256+(s+j)%64]? =some (aY b)
 len:cs[322]? =some (.int .i64 ((min W d.length:Nat):Int))
 sum:cs[323]? =some (.int .u64 ((qr seed (ox W d):Nat):Int))
theorem rV.lt {seed W:Nat} {d:List UInt8} {cs:List Value} (h:rV seed W d cs):323<cs.length:=(aD.1 h.sum).1
theorem Jh {x y:Nat} (hx:x<18446744073709551616) (hy:y<18446744073709551616):bits BinOp.xor IntKind.u64 (x:Int) (y:Int)=((x^^^y:Nat):Int):=u64_xor_nat x y hx hy
theorem eS {w:World} {b k:Nat} {cs:List Value} {ty:TypeId} (h:w.heap[b]? =some (.cells cs.toArray ty (0,0))):w.cell? ⟨b,k,none⟩=cs[k]? :=by rw[br w _ _ _ _ _ h,aC]
theorem mJ {w:World} {b k:Nat} {cs:List Value} {ty:TypeId} (h:w.heap[b]? =some (.cells cs.toArray ty (0,0))) (v:Value):(w.setCell ⟨b,k,none⟩ v).heap[b]? =some (.cells (cs.set k v).toArray ty (0,0)):=by rw[gT w _ _ _ _ _ h,aW]
theorem fK {w V:World} {rb:Nat} (h:w.grownBy V (some rb)) (k:Nat) (v:Value):w.grownBy (V.setCell ⟨rb,k,none⟩ v) (some rb):=h.trans (cK _ _ _ _)
theorem sH {w V:World} {rb:Nat} (h:w.grownBy V (some rb)):w.grownBy V.drew (some rb):=h.trans ⟨rfl,rfl,rfl,ai _,fun _ _ _=>rfl⟩
theorem oI {w V:World} {rb:Nat} (h:w.grownBy V (some rb)) (n:Nat):w.grownBy (V.drewN n) (some rb):=h.trans ⟨rfl,rfl,rfl,ai _,fun _ _ _=>rfl⟩
theorem rV.push {seed W:Nat} {d:List UInt8} {cs cs2:List Value} (h:rV seed W d cs) {b:UInt8} {q:List UInt8} {s2 n2:Nat} (heq: ∀i,i<321->cs2[i]? =cs[i]?) (hs:cs2[321]? =some (.int .i64 (s2:Int))) (hs2:s2<64) (hl:323<cs2.length)
  (hsum:cs2[323]? =some (.int .u64 ((qr seed (ox W (d++[b])):Nat):Int))) (hq:ox W (d++[b])=q++[b]) (hqn:q.length=n2) (hn:n2<W) (hW:W<=64) (hring: ∀(j:Nat) (c:UInt8),q[j]? =some c->cs2[256+(s2+j)%64]? =some (aY c)):
  rV seed W (d++[b]) ((cs2.set (256+(s2+n2)%64) (aY b)).set 322 (.int .i64 ((n2+1:Nat):Int))) where
 tab i hi:=by rw[au (by omega),au (by omega),heq i (by omega)]; exact h.tab i hi
 rng j hj:=by
  rw[au (by omega)]
  by_cases e:(s2+n2)%64=j
  ·rw[e,de (by omega)]; exact⟨b,rfl⟩
  ·rw[au (by omega),heq _ (by omega)]; exact h.rng j hj
 win:=by rw[au (by omega),au (by omega),heq _ (by omega)]; exact h.win
 st:=by
  refine⟨s2,hs2,by rw[au (by omega),au (by omega)]; exact hs,fun j c hc=> ?_⟩;rw[hq]at hc;rw[au (by omega)]
  rcases Nat.lt_trichotomy j n2 with hj | hj | hj
  ·rw[bH (by omega)]at hc;rw[au (by omega)];exact hring j c hc
  ·subst hj;rw[bC (by omega),hqn,eV,aB]at hc
   cases hc
   rw[de (by omega)]
  ·rw[dL (by simp; omega)]at hc; cases hc
 len:=by rw[de (by simpa using by omega)];have:=oy W (d++[b]);rw[hq]at this;simp only[ag,az,bo]at this ⊢;rw[<-this,hqn]
 sum:=by rw[au (by omega),au (by omega)]; exact hsum
theorem Nt (rb:Nat) (ty:TypeId) (seed W:Nat) (d:List UInt8) (b:UInt8) (cs:List Value) (w:World) (hb:w.heap[rb]? =some (.cells cs.toArray ty (0,0))) (hr:rV seed W d cs) (hW:1<=W) (hW2:W<=64):
  Calls Tryz.prog 200 #[.pointer (some ⟨rb,0,none⟩), .int .u8 (b.toNat:Int)] w fun e w'=>e= .returned (.tuple #[])/\(∃cs',w'.heap[rb]? =some (.cells cs'.toArray ty (0,0))/\rV seed W (d++[b]) cs'/\cs'.length=cs.length/\ ∀i,324<=i->cs'[i]? =cs[i]?)/\w.grownBy w' (some rb):=by
 have HB:=ah hb;have HR:=ah hr;clear hb hr;have hN:=b.toNat_lt;have Ho:(b.toNat:Int)<256:=by omega
 obtain⟨t,ht⟩:=bI (ut seed b.toNat);obtain⟨h,hh⟩:=bI (qr seed (ox W d));have Hl:t<18446744073709551616:=by rw[ht]; exact rG _ _
 have h9:h<18446744073709551616:=by rw[hh]; exact xd _ _
 have c323:w.cell? ⟨rb,323,none⟩=some (.int .u64 (h:Int)):=by rw[eS HB.o,HR.o.sum,hh]
 have ct:w.cell? ⟨rb,b.toNat,none⟩=some (.int .u64 (t:Int)):=by rw[eS HB.o,HR.o.tab _ hN,ht]
 have HT:=ah (aA ht hh);clear ht hh
 go_enter Tryz.func200,Tryz.ntmps200
 go_wp2_with fail;refine eJ (fun w'=>w'.cell? ⟨rb,323,none⟩=some (.int .u64 (h:Int))/\w'.cell? ⟨rb,b.toNat,none⟩=some (.int .u64 (t:Int))) (by kernel_rfl) (by kernel_rfl) ?_;simp only[bt,bu,az,bo,Nat.reduceAdd,Nat.reduceSub];obtain⟨V,hV⟩:=bI w.drew;rw[<-hV];have hL:=ah (show V.heap[rb]? =some (.cells cs.toArray ty (0,0)) by rw[hV]; exact HB.o)
 have Hm:=ah (show w.grownBy V (some rb) by rw[hV]; exact⟨rfl,rfl,rfl,ai _,fun _ _ _=>rfl⟩);clear c323 ct;have c323:V.cell? ⟨rb,323,none⟩=some (.int .u64 (h:Int)):=by rw[eS hL.o,HR.o.sum,HT.o.2]
 have ct:V.cell? ⟨rb,b.toNat,none⟩=some (.int .u64 (t:Int)):=by rw[eS hL.o,HR.o.tab _ hN,HT.o.1]
 clear hV
 iterate 5 (refine cI rfl ⟨c323,ct⟩ (by rintro w' ⟨hk,hm⟩; go_simp; rfl) ?_; simp only[bN])
 refine dy 6 rfl ⟨c323,ct⟩ (by rintro w' ⟨hk,hm⟩; go_simp; rfl) ?_;simp only[bN];refine dy 7 rfl ⟨c323,ct⟩ (by rintro w' ⟨hk,hm⟩; go_simp; rfl) ?_;simp only[bN];refine dy 8 rfl ⟨c323,ct⟩ (by rintro w' ⟨hk,hm⟩; go_simp; rfl) ?_;simp only[bN];refine dy 9 rfl ⟨c323,ct⟩ (by rintro w' ⟨hk,hm⟩; go_simp; rfl) ?_;simp only[bN];refine dy 10 rfl ⟨c323,ct⟩ (by rintro w' ⟨hk,hm⟩; go_simp; rfl) ?_
 simp only[bN];refine dy 11 rfl ⟨c323,ct⟩ (by rintro w' ⟨hk,hm⟩; go_simp; rfl) ?_;simp only[bN];refine cC 5 rfl (fun K hK=> ?_);go_wp2_with fail;refine(AA h 1 V h9 (by decide)).mono ?_;rintro e w1 ⟨rfl,rfl⟩;go_wp2_with fail;refine⟨⟨c323,ct⟩, ?_⟩
 iterate 3 (refine cI rfl ⟨c323,ct⟩ (by rintro w' ⟨hk,hm⟩; go_simp; rfl) ?_; simp only[bN])
 rw[Jh (pG 1 h9) Hl];obtain⟨h1,hO⟩:=bI (ki h 1^^^t);rw[<-hO];have hE:h1<18446744073709551616:=by rw[hO]; exact rr (pG 1 h9) Hl
 have Hg:=ah hO;clear hO;have cf:V.frozen? ⟨rb,323,none⟩=false:=dO V _ _ _ _ hL.o;refine cL (by kernel_rfl) ?_;refine eU rfl rfl (fun K hK=> ?_);go_wp2_with fail;obtain⟨U,hU⟩:=bI (V.setCell ⟨rb,323,none⟩ (.int .u64 (h1:Int)));rw[<-hU];obtain⟨cs1,h8⟩:=bI (cs.set 323 (.int .u64 (h1:Int)));have hy:=ah (show U.heap[rb]? =some (.cells cs1.toArray ty (0,0)) by rw[hU,h8]; exact mJ hL.o _)
 have Hf:=ah (show w.grownBy U (some rb) by rw[hU]; exact fK Hm.o _ _);have ha:=ah h8;clear hU c323 ct cf h8;obtain⟨n,hn⟩:=bI (min W d.length);obtain⟨s,hs,He,Hk⟩:=HR.o.st;have hl:=HR.o.lt;have c322:U.cell? ⟨rb,322,none⟩=some (.int .i64 (n:Int)):=by rw[eS hy.o,ha.o,au (by decide),HR.o.len,hn]
 have c320:U.cell? ⟨rb,320,none⟩=some (.int .i64 (W:Int)):=by rw[eS hy.o,ha.o,au (by decide),HR.o.win]
 have c321:U.cell? ⟨rb,321,none⟩=some (.int .i64 (s:Int)):=by rw[eS hy.o,ha.o,au (by decide),He]
 have Hh:=ah (show cs[322]? =some (.int .i64 (n:Int)) by rw[HR.o.len,hn]);have HN:=ah hn;have Hi:=ah He;clear hn He;have h3:=ah Hk;clear Hk
 go_quiet (fail)
 have hz:=ah (show(U.drewN nq).heap[rb]? =some (.cells cs1.toArray ty (0,0))from hy.o);have hA:=ah (show w.grownBy (U.drewN nq) (some rb)from oI Hf.o _);clear hy Hf c322 c320 c321
 generalize U.drewN nq=U1 at *
 by_cases hf:n=W
 ·obtain⟨x,l,hS⟩: ∃x l,ox W d=x::l:=by
   cases hw:ox W d with
   | nil=>have:=oy W d; rw[hw,<-HN.o,hf]at this; simp at this; omega
   | cons x l=>exact⟨x,l,rfl⟩
  have Hr:l.length+1=W:=by have:=oy W d; rw[hS,<-HN.o,hf]at this; simpa using this
  have hx:=h3.o 0 x (by rw[hS]; rfl);rw[cZ,eH hs]at hx;have Hv:=x.toNat_lt;have Hw:(x.toNat:Int)<256:=by omega
  have HC:(s:Int)<64:=by omega
  obtain⟨tx,hR⟩:=bI (ut seed x.toNat);have hq:tx<18446744073709551616:=by rw[hR]; exact rG _ _
  have cx:=HR.o.tab _ Hv;rw[<-hR]at cx;have HX:=ah (aA hS (aA hx (aA hR cx)));clear hS hx hR cx;subst hf;go_wp2_with fail;refine eJ (fun w'=>w'.cell? ⟨rb,323,none⟩=some (.int .u64 (h1:Int))/\w'.cell? ⟨rb,321,none⟩=some (.int .i64 (s:Int))/\w'.cell? ⟨rb,256+s,none⟩=some (.int .u8 (x.toNat:Int))/\w'.cell? ⟨rb,x.toNat,none⟩=some (.int .u64 (tx:Int))/\w'.cell? ⟨rb,320,none⟩=some (.int .i64 (n:Int))) (by kernel_rfl) (by kernel_rfl) ?_
  simp only[bt,bu,az,bo,Nat.reduceAdd,Nat.reduceSub];obtain⟨V2,hM⟩:=bI U1.drew;rw[<-hM];have hd:=ah (show V2.heap[rb]? =some (.cells cs1.toArray ty (0,0)) by rw[hM]; exact hz.o);have hT:=ah (show w.grownBy V2 (some rb) by rw[hM]; exact sH hA.o);clear hM;have c323:V2.cell? ⟨rb,323,none⟩=some (.int .u64 (h1:Int)):=by rw[eS hd.o,ha.o,de (by omega)]
  have c320:V2.cell? ⟨rb,320,none⟩=some (.int .i64 (n:Int)):=by rw[eS hd.o,ha.o,au (by decide),HR.o.win]
  have c321:V2.cell? ⟨rb,321,none⟩=some (.int .i64 (s:Int)):=by rw[eS hd.o,ha.o,au (by decide),Hi.o]
  have cx1:V2.cell? ⟨rb,256+s,none⟩=some (.int .u8 (x.toNat:Int)):=by rw[eS hd.o,ha.o,au (by omega),HX.o.2.1]; rfl
  have ct1:V2.cell? ⟨rb,x.toNat,none⟩=some (.int .u64 (tx:Int)):=by rw[eS hd.o,ha.o,au (by omega),HX.o.2.2.2]
  iterate 22 (refine cI rfl ⟨c323,c321,cx1,ct1,c320⟩ (by rintro w' ⟨hk,hm,Hs,Ht,Hu⟩; go_simp; rfl) ?_; simp only[bN])
  refine cC 22 rfl (fun K hK=> ?_);go_wp2_with fail;refine(AA tx n V2 hq hW2).mono ?_;rintro e w1 ⟨rfl,rfl⟩;go_wp2_with fail;refine⟨⟨c323,c321,cx1,ct1,c320⟩, ?_⟩
  iterate 3 (refine cI rfl ⟨c323,c321,cx1,ct1,c320⟩ (by rintro w' ⟨hk,hm,Hs,Ht,Hu⟩; go_simp; rfl) ?_; simp only[bN])
  rw[Jh hE (pG n hq)];obtain⟨h2,hP⟩:=bI (h1^^^ki tx n);rw[<-hP];have Hp:h2<18446744073709551616:=by rw[hP]; exact rr hE (pG n hq)
  have Hn:=ah hP;have cf:V2.frozen? ⟨rb,323,none⟩=false:=dO V2 _ _ _ _ hd.o;have cf1:V2.frozen? ⟨rb,321,none⟩=false:=dO V2 _ _ _ _ hd.o;have cf2:V2.frozen? ⟨rb,322,none⟩=false:=dO V2 _ _ _ _ hd.o;have c322:V2.cell? ⟨rb,322,none⟩=some (.int .i64 (n:Int)):=by rw[eS hd.o,ha.o,au (by decide),Hh.o]
  obtain⟨s2,hv⟩:=bI ((s+1)%64);obtain⟨n2,hu⟩:=bI (n-1);have Hz:IntKind.i64.wrap ((s:Int)+1)=((s+1:Nat):Int):=by rw[bF]; omega
  have HA:((s:Int)+1)%64=(s2:Int):=by omega
  have Hy:IntKind.i64.wrap ((n:Int)-1)=(n2:Int):=by rw[bF]; omega
  have hg:s2<64:=by omega
  have hJ:n2<64:=by omega
  have h0:=ah hv;have hC:=ah hu;clear hP hv hu;refine cL (by kernel_rfl) ?_;refine eU rfl rfl (fun K hK=> ?_);go_wp2_with fail;obtain⟨X,hX⟩:=bI (((V2.setCell ⟨rb,323,none⟩ (.int .u64 (h2:Int))).setCell ⟨rb,321,none⟩ (.int .i64 (s2:Int))).setCell ⟨rb,322,none⟩ (.int .i64 (n2:Int)));rw[<-hX];have he:=ah (show X.heap[rb]? =some (.cells (((cs1.set 323 (.int .u64 (h2:Int))).set 321 (.int .i64 (s2:Int))).set 322 (.int .i64 (n2:Int))).toArray ty (0,0)) by rw[hX]; exact mJ (mJ (mJ hd.o _) _) _)
  have hY:=ah (show w.grownBy X (some rb) by rw[hX]; exact fK (fK (fK hT.o _ _) _ _) _ _);have ho:=ah (show(((cs1.set 323 (.int .u64 (h2:Int))).set 321 (.int .i64 (s2:Int))).set 322 (.int .i64 (n2:Int)))[321]? =some (.int .i64 (s2:Int))/\(((cs1.set 323 (.int .u64 (h2:Int))).set 321 (.int .i64 (s2:Int))).set 322 (.int .i64 (n2:Int)))[322]? =some (.int .i64 (n2:Int))from⟨by rw[au (by decide),de (by rw[ha.o]; simp; omega)],by rw[de (by rw[ha.o]; simp; omega)]⟩)
  have hZ:=ah (show ∀j,j<64-> ∃c,(((cs1.set 323 (.int .u64 (h2:Int))).set 321 (.int .i64 (s2:Int))).set 322 (.int .i64 (n2:Int)))[256+j]? =some (aY c)from fun j hj=>by rw[au (by omega),au (by omega),au (by omega),ha.o,au (by omega)];exact HR.o.rng j hj)
  clear hX c323 c320 c321 cx1 ct1 cf cf1 cf2 c322;have h7:=hN;obtain⟨j2,hF⟩:=bI ((s2+n2)%64);have hp:j2<64:=by omega
  have hG:(j2:Int)<64:=by omega
  have h4:IntKind.i64.wrap ((s2:Int)+(n2:Int))=(s2:Int)+(n2:Int):=by rw[bF]; omega
  have Hb:((s2:Int)+(n2:Int))%64=(j2:Int):=by omega
  have hH:Int.tmod ((s2:Int)+(n2:Int)) 64=(j2:Int):=by rw[Int.tmod_eq_emod_of_nonneg (by omega)]; omega
  have hI:IntKind.i64.wrap (j2:Int)=(j2:Int):=by rw[bF]; omega
  have Ha:IntKind.i64.wrap ((n2:Int)+1)=((n2+1:Nat):Int):=by rw[bF]; omega
  have c321:X.cell? ⟨rb,321,none⟩=some (.int .i64 (s2:Int)):=by rw[eS he.o,ho.o.1]
  have c322:X.cell? ⟨rb,322,none⟩=some (.int .i64 (n2:Int)):=by rw[eS he.o,ho.o.2]
  have cf1:X.frozen? ⟨rb,256+j2,none⟩=false:=dO X _ _ _ _ he.o;have cf2:X.frozen? ⟨rb,322,none⟩=false:=dO X _ _ _ _ he.o;obtain⟨bj,hD⟩:=hZ.o j2 hp;have cbj:X.cell? ⟨rb,256+j2,none⟩=some (aY bj):=by rw[eS he.o,hD]
  clear hD;have Hc: ¬(256+j2=322):=by omega
  have Hd: ¬(322=256+j2):=by omega
  have hB:=ah hF;clear hF;refine bL [some 15,none] (by kernel_rfl) (by kernel_rfl) (by kernel_rfl) ?_;simp only[ed,aR,aZ,bA,bR]
  repeat (first | (refine cy rfl ?_; simp only[bN]) | (refine cU rfl (fun K hK=> ?_); go_simp; refine hK _ ?_; clear hK K))
  refine cT ?_;refine eu rfl (fun K hK=> ?_);go_wp2_with fail
  go_end0
  refine⟨rfl,⟨_,mJ (mJ (show X.drew.heap[rb]? =_ from he.o) _) _, ?_, ?_, ?_⟩,fK (fK (sH hY.o) _ _) _ _⟩
  ·rw[hB.o];have Hq:=(oy n d).symm;refine HR.o.push (b:=b) (q:=l) (s2:=s2) (n2:=n2) ?_ ?_ hg ?_ ?_ ?_ ?_ ?_ hW2 ?_
   ·intro i hi;rw[au (by omega),au (by omega),au (by omega),ha.o,au (by omega)]
   ·exact ho.o.1
   ·rw[ha.o]; simp; omega
   ·rw[au (by omega),au (by omega),de (by rw[ha.o]; simp; omega),Hn.o,Hg.o,HT.o.1,HT.o.2,HX.o.2.2.1,AU hW (by have:=HN.o; omega),HX.o.1];have:=Fs (rG seed) x b l (by omega);rw[Hr]at this;unfold qr;rw[this]
    rfl
   ·rw[AU hW (by have:=HN.o; omega),HX.o.1]; rfl
   ·have:=hC.o; omega
   ·have:=hC.o; omega
   ·intro j c hc;have Hx:=(aD.1 hc).1;rw[au (by omega),au (by omega),au (by omega),ha.o,au (by omega)];have:=h3.o (j+1) c (by rw[HX.o.1]; exact hc);rw[show(s2+j)%64=(s+(j+1))%64 by have:=h0.o; omega];exact this
  ·rw[ha.o]; simp
  ·intro i hi;have:=hB.o;rw[au (by omega),au (by omega),au (by omega),au (by omega),au (by omega),ha.o,au (by omega)]
 ·go_wp2_with fail;obtain⟨X,hX⟩:=bI U1;rw[<-hX];obtain⟨s2,hv⟩:=bI s;obtain⟨n2,hu⟩:=bI n;have he:=ah (show X.heap[rb]? =some (.cells cs1.toArray ty (0,0)) by rw[hX]; exact hz.o);have hY:=ah (show w.grownBy X (some rb) by rw[hX]; exact hA.o);have ho:=ah (show cs1[321]? =some (.int .i64 (s2:Int))/\cs1[322]? =some (.int .i64 (n2:Int))from⟨by rw[ha.o,au (by decide),Hi.o,hv],by rw[ha.o,au (by decide),Hh.o,hu]⟩)
  have hZ:=ah (show ∀j,j<64-> ∃c,cs1[256+j]? =some (aY c)from fun j hj=>by rw[ha.o,au (by omega)];exact HR.o.rng j hj)
  have hg:s2<64:=by omega
  have hJ:n2<64:=by have:=HN.o; omega
  have h0:=ah hv;have hC:=ah hu;clear hX hv hu;have h7:=hN;obtain⟨j2,hF⟩:=bI ((s2+n2)%64);have hp:j2<64:=by omega
  have hG:(j2:Int)<64:=by omega
  have h4:IntKind.i64.wrap ((s2:Int)+(n2:Int))=(s2:Int)+(n2:Int):=by rw[bF]; omega
  have Hb:((s2:Int)+(n2:Int))%64=(j2:Int):=by omega
  have hH:Int.tmod ((s2:Int)+(n2:Int)) 64=(j2:Int):=by rw[Int.tmod_eq_emod_of_nonneg (by omega)]; omega
  have hI:IntKind.i64.wrap (j2:Int)=(j2:Int):=by rw[bF]; omega
  have Ha:IntKind.i64.wrap ((n2:Int)+1)=((n2+1:Nat):Int):=by rw[bF]; omega
  have c321:X.cell? ⟨rb,321,none⟩=some (.int .i64 (s2:Int)):=by rw[eS he.o,ho.o.1]
  have c322:X.cell? ⟨rb,322,none⟩=some (.int .i64 (n2:Int)):=by rw[eS he.o,ho.o.2]
  have cf1:X.frozen? ⟨rb,256+j2,none⟩=false:=dO X _ _ _ _ he.o;have cf2:X.frozen? ⟨rb,322,none⟩=false:=dO X _ _ _ _ he.o;obtain⟨bj,hD⟩:=hZ.o j2 hp;have cbj:X.cell? ⟨rb,256+j2,none⟩=some (aY bj):=by rw[eS he.o,hD]
  clear hD;have Hc: ¬(256+j2=322):=by omega
  have Hd: ¬(322=256+j2):=by omega
  have hB:=ah hF;clear hF;refine bL [some 15,none] (by kernel_rfl) (by kernel_rfl) (by kernel_rfl) ?_;simp only[ed,aR,aZ,bA,bR]
  repeat (first | (refine cy rfl ?_; simp only[bN]) | (refine cU rfl (fun K hK=> ?_); go_simp; refine hK _ ?_; clear hK K))
  refine cT ?_;refine eu rfl (fun K hK=> ?_);go_wp2_with fail
  go_end0
  have Hj:d.length<W:=by have:=HN.o; omega
  refine⟨rfl,⟨_,mJ (mJ (show X.drew.heap[rb]? =_ from he.o) _) _, ?_, ?_, ?_⟩,fK (fK (sH hY.o) _ _) _ _⟩
  ·rw[hB.o];refine HR.o.push (b:=b) (q:=ox W d) (s2:=s2) (n2:=n2) ?_ ?_ hg ?_ ?_ (AR Hj b) ?_ ?_ hW2 ?_
   ·intro i hi;rw[ha.o,au (by omega)]
   ·exact ho.o.1
   ·rw[ha.o]; simp; omega
   ·rw[ha.o,de (by omega),Hg.o,HT.o.1,HT.o.2,AR Hj];unfold qr;rw[nZ]
   ·rw[oy,<-HN.o,hC.o]
   ·have:=hC.o; have:=HN.o; omega
   ·intro j c hc;rw[ha.o,au (by omega),h0.o];exact h3.o j c hc
  ·rw[ha.o]; simp
  ·intro i hi;have:=hB.o;rw[au (by omega),au (by omega),ha.o,au (by omega)]
structure Cg (w : World) : Prop where
 tab:TabAt 6 Lib.deBruijn64tab w
 lt:6<w.heap.size
theorem Cg.block {w w':World} (h:Cg w) (hb:w'.heap[6]? =w.heap[6]?) (hs:w.heap.size<=w'.heap.size):Cg w':=
 ⟨fun j hj=>by rw[<-h.tab j hj]; exact cw hb,aO h.lt hs⟩
theorem Cg.below {w0 w w':World} (h:Cg w) (hb:Below w0.heap.size w w') (hlt:6<w0.heap.size):Cg w':=h.block (hb.block _ hlt) hb.size
theorem Cg.grown {w w':World} {r:Option Nat} (h:Cg w) (hg:w.grownBy w' r) (hr:r≠some 6):Cg w':=h.block (hg.block _ h.lt (fun e=>hr e.symm)) hg.size
theorem rg (rb n:Nat) (w:World) (h:w.cell? ⟨rb,322,none⟩=some (.int .i64 (n:Int))):Calls Tryz.prog 201 #[.pointer (some ⟨rb,0,none⟩)] w fun e w'=>e= .returned (.int .i64 (n:Int))/\w=w':=by
 go_enter Tryz.func201,Tryz.ntmps201
 go_wp2_with fail;go_ret;exact⟨rfl,rfl⟩
theorem rh (rb n:Nat) (w:World) (h:w.cell? ⟨rb,323,none⟩=some (.int .u64 (n:Int))):Calls Tryz.prog 203 #[.pointer (some ⟨rb,0,none⟩)] w fun e w'=>e= .returned (.int .u64 (n:Int))/\w=w':=by
 go_enter Tryz.func203,Tryz.ntmps203
 go_wp2_with fail;go_ret;exact⟨rfl,rfl⟩
theorem LA (x:Nat) (w:World) (hx:x<18446744073709551616) (hT:Cg w):Calls Tryz.prog 202 #[.int .u64 (x:Int)] w fun e w'=>e= .returned (.int .i64 ((Lib.ctz 64 x:Nat):Int))/\w=w':=by
 go_enter Tryz.func202,Tryz.ntmps202
 go_wp2_with fail;refine(Tryz.bits_TrailingZeros64 x hx w (fun _=>hT.tab)).mono ?_;rintro e w' ⟨rfl,rfl⟩;go_wp2_with fail;go_ret;exact⟨rfl,rfl⟩
def qu (c:fC) (data:List UInt8) (p:Nat):Bool:=IA c.seed c.win.toNat c.bits.toNat (data.take p)
structure uM (c : fC) (data : List UInt8) (p : Nat) (cs : List Value) : Prop where
 roll:rV c.seed c.win.toNat (data.take p) cs
 len:cs.length=331
 cut: ∀i,i<5->cs[324+i]? =(fZ c)[i]?
 pos:cs[329]? =some (.int .i64 (p:Int))
 last:cs[330]? =some (.int .i64 (qt (qu c data) c.mn.toNat p))
theorem Dx (mk:Nat->Bool) (mn p:Nat): -(mn:Int)<=qt mk mn p/\qt mk mn p<=(p:Int):=by rcases sK (mk:=mk) (mn:=mn) p with⟨h,_⟩ | ⟨L,h,h1,h2,_⟩<;> rw[h]<;> omega
theorem NM (c:fC) (data:List UInt8) (p:Nat) (b:UInt8) (mb:Nat) (ty:TypeId) (cs:List Value) (w:World) (hc:jU c=true) (hb:data[p]? =some b) (hp:data.length<=1048576) (hbox:w.heap[mb]? =some (.cells cs.toArray ty (0,0))) (hm:uM c data p cs) (hT:Cg w) (hmb:mb≠6):
  Calls Tryz.prog 188 #[.pointer (some ⟨mb,0,none⟩), .int .u8 (b.toNat:Int)] w fun e w'=>e= .returned (.bool (kI (qu c data) c.mn.toNat (p+1)))/\(∃cs',w'.heap[mb]? =some (.cells cs'.toArray ty (0,0))/\uM c data (p+1) cs')/\w.grownBy w' (some mb):=by
 have hv:=lW.1 hc;have HV:=ah hv;have HM:=ah hm;have hS:=ah hbox;have HT:=ah hT;have Hh:=(aD.1 hb).1;have hR:data.take (p+1)=data.take p++[b]:=by rw[bY,hb]; rfl
 have hF:=ah hR;obtain⟨W,hW⟩:=bI c.win.toNat
 obtain⟨B,hB⟩:=bI c.bits.toNat
 obtain⟨mn,hO⟩:=bI c.mn.toNat
 have hH:c.win=(W:Int):=by omega
 have hG:c.bits=(B:Int):=by omega
 have hM:c.mn=(mn:Int):=by omega
 have h9:1<=W:=by omega
 have Ha:W<=64:=by omega
 have HI:=ah (aA hW (aA hB (aA hO (aA hH (aA hG hM)))));clear hc hm hbox hT hb hR hv hW hB hO hH hG hM
 go_enter Tryz.func188,Tryz.ntmps188
 go_wp2_with fail;refine(Nt mb ty c.seed W (data.take p) b cs w hS.o (by have:=HM.o.roll; rw[<-HI.o.1]at this; exact this) h9 Ha).mono ?_;rintro e w1 ⟨rfl,⟨cs1,hI,hP,hL,hJ⟩,hx⟩;have ho:=ah hI;have hw:=ah hP;have hf:=ah hJ;have hr:=ah (hL.trans HM.o.len);have hX:=ah hx;have hZ:=ah (HT.o.grown hx (fun e=>hmb (bK e)));clear hI hP hJ hL hx
 have c329:w1.cell? ⟨mb,329,none⟩=some (.int .i64 (p:Int)):=by rw[eS ho.o,hf.o _ (by decide),HM.o.pos]
 have cf:w1.frozen? ⟨mb,329,none⟩=false:=dO w1 _ _ _ _ ho.o;have hy:IntKind.i64.wrap ((p:Int)+1)=((p+1:Nat):Int):=by rw[bF]; omega
 go_wp2_with fail;obtain⟨cs2,he⟩:=bI (cs1.set 329 (.int .i64 (((p:Nat):Int)+1)));obtain⟨U,hU⟩:=bI (w1.setCell ⟨mb,329,none⟩ (.int .i64 (((p:Nat):Int)+1)));rw[<-hU];have ha:=ah (show U.heap[mb]? =some (.cells cs2.toArray ty (0,0)) by rw[hU,he]; exact mJ ho.o _);have hq:=ah (show w.grownBy U (some mb) by rw[hU]; exact fK hX.o _ _);have h4:=ah (show Cg U by rw[hU]; exact hZ.o.grown (cK _ _ _ _) (fun e=>hmb (bK e)))
 have hd:=ah he;have hs:=ah (show cs2.length=331 by rw[he,List.length_set]; exact hr.o);clear hU he c329 cf hy;obtain⟨n,hn⟩:=bI (min W (p+1));obtain⟨h,hh⟩:=bI (qr c.seed (ox W (data.take (p+1))));have Hc:h<18446744073709551616:=by rw[hh]; exact xd _ _
 obtain⟨z,hz⟩:=bI (Lib.ctz 64 h);obtain⟨la,hl⟩:=bI (qt (qu c data) mn p);have Hg: -(mn:Int)<=la/\la<=(p:Int):=by rw[hl]; exact Dx _ _ _
 have c322:U.cell? ⟨mb,322,none⟩=some (.int .i64 (n:Int)):=by rw[eS ha.o,hd.o,au (by decide),hw.o.len,hn,ag,bn,az,bo,fx (by omega:p<=data.length)]
 have c323:U.cell? ⟨mb,323,none⟩=some (.int .u64 (h:Int)):=by rw[eS ha.o,hd.o,au (by decide),hw.o.sum,hh,hF.o]
 have c324:U.cell? ⟨mb,324,none⟩=some (.int .i64 (mn:Int)):=by rw[eS ha.o,hd.o,au (by decide),hf.o _ (by decide),HM.o.cut 0 (by decide),<-HI.o.2.2.2.2.2]; rfl
 have c326:U.cell? ⟨mb,326,none⟩=some (.int .i64 (W:Int)):=by rw[eS ha.o,hd.o,au (by decide),hf.o _ (by decide),HM.o.cut 2 (by decide),<-HI.o.2.2.2.1]; rfl
 have c327:U.cell? ⟨mb,327,none⟩=some (.int .i64 (B:Int)):=by rw[eS ha.o,hd.o,au (by decide),hf.o _ (by decide),HM.o.cut 3 (by decide),<-HI.o.2.2.2.2.1]; rfl
 have c329:U.cell? ⟨mb,329,none⟩=some (.int .i64 ((p:Int)+1)):=by rw[eS ha.o,hd.o,de (by rw[hr.o]; decide)]
 have c330:U.cell? ⟨mb,330,none⟩=some (.int .i64 la):=by rw[eS ha.o,hd.o,au (by decide),hf.o _ (by decide),HM.o.last,hl,HI.o.2.2.1]
 have hN:qu c data (p+1)=(decide (W<=n) && decide (B<=z)):=by
  unfold qu IA;rw[<-HI.o.1,<-HI.o.2.1,hz,hh]
  congr 1
  rw[ji,bn]; omega
 have hu:=ah hN;have HH:=ah (aA hn (aA hh (aA hz hl)));have hV:=ah (show ∀n,Cg (U.drewN n)from fun n=>h4.o.block rfl (ai _));clear hn hh hz hl hN;have HZ:=ah (show ∀m,Calls Tryz.prog 202 #[.int .u64 (h:Int)] (U.drewN m) fun e w'=>e= .returned (.int .i64 (z:Int))/\U.drewN m=w' from fun m=>by rw[HH.o.2.2.1]; exact LA h (U.drewN m) Hc (hV.o m))
 have hE:=ah (show rV c.seed c.win.toNat (data.take (p+1)) cs2 by
  rw[<-HI.o.1,hF.o,hd.o];have h:=hw.o;refine⟨fun i hi=> ?_,fun j hj=> ?_, ?_, ?_, ?_, ?_⟩
  ·rw[au (by omega)]; exact h.tab i hi
  ·rw[au (by omega)]; exact h.rng j hj
  ·rw[au (by omega)]; exact h.win
  ·obtain⟨s,h1,h2,h3⟩:=h.st;refine⟨s,h1,by rw[au (by omega)]; exact h2,fun j b hb=>by rw[au (by omega)]; exact h3 j b hb⟩
  ·rw[au (by omega)]; exact h.len
  ·rw[au (by omega)]; exact h.sum)
 have hA:=ah (show ∀i,i<5->cs2[324+i]? =(fZ c)[i]? from fun i hi=>by rw[hd.o,au (by omega),hf.o _ (by omega)]; exact HM.o.cut i hi)
 have hD:=ah (show cs2[329]? =some (.int .i64 ((p+1:Nat):Int)) by rw[hd.o,de (by rw[hr.o]; decide)]; rfl);have hY:=ah (show cs2[330]? =some (.int .i64 la) by rw[hd.o,au (by decide),hf.o _ (by decide),HM.o.last,HH.o.2.2.2,HI.o.2.2.1]);have hC:=ah (show qu c data (p+1)=false->(kI (qu c data) c.mn.toNat (p+1)=false/\uM c data (p+1) cs2)from fun h0=>⟨by rw[kI,h0]; rfl,{
  roll:=hE.o
  len:=hs.o
  cut:=hA.o
  pos:=hD.o
  last:=by rw[qt,if_neg (by rw[h0]; decide),<-HI.o.2.2.1,<-HH.o.2.2.2]; exact hY.o}⟩)
 by_cases h1:n<W
 ·have h7:(n:Int)<(W:Int):=by omega
  go_quiet ((first | (go_at_call 201; refine lf (rg mb n _ c322)) | (go_at_call 203; refine lf (rh mb h _ c323)) | (go_at_call 202; refine lf (HZ.o _))))
  go_wp2_with fail;go_ret;have hg:=hC.o (by rw[hu.o,cB (by omega)]; rfl);exact⟨bX hg.1.symm,⟨cs2,ha.o,hg.2⟩,oI hq.o _⟩
 ·have h7:(W:Int)<=(n:Int):=by omega
  have He: ¬(n:Int)<(W:Int):=by omega
  by_cases h2:z<B
  ·have h8:(z:Int)<(B:Int):=by omega
   go_quiet ((first | (go_at_call 201; refine lf (rg mb n _ c322)) | (go_at_call 203; refine lf (rh mb h _ c323)) | (go_at_call 202; refine lf (HZ.o _))))
   go_wp2_with fail;go_ret;have hg:=hC.o (by rw[hu.o,cB (by omega: ¬B<=z),Bool.and_false]);exact⟨bX hg.1.symm,⟨cs2,ha.o,hg.2⟩,oI hq.o _⟩
  ·have h8:(B:Int)<=(z:Int):=by omega
   have Hf: ¬(z:Int)<(B:Int):=by omega
   go_quiet ((first | (go_at_call 201; refine lf (rg mb n _ c322)) | (go_at_call 203; refine lf (rh mb h _ c323)) | (go_at_call 202; refine lf (HZ.o _))))
   go_wp2_with fail;have cf:U.frozen? ⟨mb,330,none⟩=false:=dO U _ _ _ _ ha.o;have Hd:IntKind.i64.wrap ((p:Int)+1-la)=(p:Int)+1-la:=by have:=HV.o; have:=HI.o; rw[bF]; omega
   go_quiet (fail)
   go_wp2_with fail;go_ret;have hk:qu c data (p+1)=true:=by rw[hu.o,cR (by omega:W<=n),cR (by omega:B<=z)]; rfl
   refine⟨bX ?_,⟨cs2.set 330 (.int .i64 ((p:Int)+1)),mJ (show(U.drewN _).heap[mb]? =_ from ha.o) _, ?_⟩,fK (oI hq.o _) _ _⟩
   ·rw[kI,hk,gU,<-HI.o.2.2.1,<-HH.o.2.2.2,ji]; simp
   ·have h:=hE.o;have Hb:=hA.o;refine⟨⟨fun i hi=> ?_,fun j hj=> ?_, ?_, ?_, ?_, ?_⟩,by rw[List.length_set]; exact hs.o,fun i hi=> ?_, ?_, ?_⟩
    ·rw[au (by omega)]; exact h.tab i hi
    ·rw[au (by omega)]; exact h.rng j hj
    ·rw[au (by omega)]; exact h.win
    ·obtain⟨s,h1,h2,h3⟩:=h.st;refine⟨s,h1,by rw[au (by omega)]; exact h2,fun j b hb=>by rw[au (by omega)]; exact h3 j b hb⟩
    ·rw[au (by omega)]; exact h.len
    ·rw[au (by omega)]; exact h.sum
    ·rw[au (by omega)]; exact Hb i hi
    ·rw[au (by omega)]; exact hD.o
    ·rw[de (by rw[hs.o]; decide),qt,if_pos hk]; rfl
def NF {α:Type} (Kp:World->World->Prop) (I:List α->World->Prop) (Ix:Code->List α->World->Prop) (xs:List α) (W:World):Exit->Act->World->Prop
 | .normal,_,B=>KeepsOthers W B/\Kp W B/\I xs B
 | .ret,_,B=>KeepsOthers W B/\Ix .ret xs B
 | .exit id,_,B=>KeepsOthers W B/\Ix (.exit id) xs B
 | .goto t,_,B=>KeepsOthers W B/\Ix (.goto t) xs B
 | .panic _,_,_=>False
 | .outgrown,_,_=>False
section
variable {P : Program} {α : Type}
theorem EV {W W':World} (h:Below W.heap.size W W'):W.grownBy W' none:=⟨h.os,h.tape,h.output,h.size,fun k hk _=>h.block k hk⟩
theorem ww {W:World} {l:Nat} {r:Loop} (h:W.heap[l]? =some (.loop r)) (o:Obj):(W.putObj l o).heap[l]? =some o:=World.putObj_heap_same (aM.1 h).1
end
def GS {σ:Type} (mt:TypeId) (n:Nat) (I:σ->World->Prop):Prop:=
 ∀s A B row,I s A->A.grownBy B row->(∀r,row=some r->n<=r/\ ∃cs,A.heap[r]? =some (.cells cs mt (0,0)))->I s B
def QD {α:Type} (P:Program) (g:Nat) (lb:Array Value) (encs:α->Array Value) (D:List α->α->World->Prop) (Kp:World->World->Prop) (S Sp:List α->Prop) (N:Nat) (mt:TypeId) (w:World):Prop:=
 ∀(l:Nat) (J Jx:List α->World->Prop) (W:World),Below w.heap.size w W->GS mt W.heap.size J->
  (∀pre x A,J pre A->D pre x A->pre.length<N->YieldAt Fence.wide 2 P l (encs x) A fun e B=>(e= .returned (.bool true)/\J (pre++[x]) B/\Kp A B)\/(e= .returned (.bool false)/\Jx (pre++[x]) B))->
  J [] W->
  CallsIn Fence.wide 3 P g (#[.func (.yield l) #[] #[]]++lb) W fun e B=>(∃v,e= .returned v)/\((∃xs,S xs/\J xs B)\/(∃pre,Sp pre/\Jx pre B))
section
variable {P : Program} {α : Type}
theorem Ly {g:Operand} {ps:Array Tmp} {assign body:Code} {Q:Exit->Act->World->Prop} {a:Act} {w:World} {gf:Nat} {lb:Array Value} (hg:a.eval g= .func (.func gf) #[] lb) (eg: ∀args w,(callFunc gf args).run P w= .ok (.enter gf args) w)
  {encs:α->Array Value} {D:List α->α->World->Prop} {Kp:World->World->Prop} {S Sp:List α->Prop} {N:Nat} {mt:TypeId} (hseq:QD P gf lb encs D Kp S Sp N mt w)
  (hKt: ∀ {A B C:World},Kp A B->Kp B C->Kp A C) (hKb: ∀(W:World) (l:Nat) (o o':Obj),w.heap.size<=l->W.heap[l]? =some o->o.isCells=false->o.isWalk=false->Kp W (W.putObj l o')) (hps: ∀x,(encs x).size=ps.size)
  (I:List α->World->Prop) (Ix:Code->List α->World->Prop) (Ax:List α->α->Act->World->Prop) (hI:OwnFrom w.heap.size I) (hI2:GS mt w.heap.size I) (hIx: ∀c,OwnFrom w.heap.size (Ix c))
  (hAx:OwnFrom w.heap.size (fun(s:List α×α×Act) W=>Ax s.1 s.2.1 s.2.2 W)) (h0:I [] w)
  (hassign: ∀(l:Nat) (pre:List α) (x:α) (W:World),w.heap.size<W.heap.size->I pre W->D pre x W->pre.length<N->assign.wpIn (Fence.wide.inRound l) 2 P (Exit.then (fun a₁ B=>KeepsOthers W B/\Kp W B/\Ax pre x a₁ B) (fun _ _ _=>False)) {tmps:=(ps.zip (encs x)).foldl (fun t (p,v)=>t.setIfInBounds p v) a.tmps,defers:=[]} W)
  (hbody: ∀(l:Nat) (pre:List α) (x:α) (a₁:Act) (W:World),Ax pre x a₁ W->body.wpIn (Fence.wide.inRound l) 2 P (NF Kp I Ix (pre++[x]) W) a₁ W)
  (hdone: ∀(Dl:Nat) (xs:List α) (W:World),w.heap.size<=Dl->S xs->I xs W->W.heap[Dl]? =some (.deferred (some []))->Q .normal {a with defers:= {target:= .collected Dl,args:= #[]} ::a.defers} W)
  (hstop: ∀(Dl:Nat) (c:Code) (pre:List α) (W:World),w.heap.size<=Dl->Sp pre->Ix c pre W->W.heap[Dl]? =some (.deferred (some []))->c.wp P Q {a with defers:= {target:= .collected Dl,args:= #[]} ::a.defers} W):
  (Code.rangeFunc g ps assign body).wp P Q a w:=by
 refine(wpIn_wide (n:=4)).1 (wpIn_rangeFunc (fun fn hG=> ?_))
 show ∃l mark w₁ d w₁' f args w₂,_
 let rec_:LoopState->Option Code->Loop:=fun st pe=> {state:=st,pending:=pe,fn:=fn,tmps:=a.tmps,params:=ps,assign:=assign,body:=body,defers:=w.heap.size}
 obtain⟨rec,ha⟩:=bI rec_;have hO: ∀st pe,(rec st pe).params=ps:=fun st pe=>by rw[ha]
 have hp: ∀st pe,(rec st pe).state=st:=fun st pe=>by rw[ha]
 have hu: ∀st pe,(rec st pe).pending=pe:=fun st pe=>by rw[ha]
 obtain⟨L,hL⟩:=bI (w.heap.size+1);obtain⟨V,hV⟩: ∃V,(w.alloc (.deferred (some []))).alloc (.loop (rec .ready none))=V:=⟨_,rfl⟩;have hA:V.heap[L]? =some (.loop (rec .ready none)):=by rw[<-hV,hL]; have:=World.alloc_heap_new (w.alloc (.deferred (some []))) (.loop (rec .ready none)); rwa [World.size_alloc]at this
 have hx:V.heap[w.heap.size]? =some (.deferred (some [])):=by rw[<-hV]; exact(cS _ _ _ (by simp)).trans (World.alloc_heap_new w _)
 have hz:I [] V:=by rw[<-hV]; exact hI.alloc _ (hI.alloc _ h0)
 have hv:Below w.heap.size w V:=by rw[<-hV]; exact((ak _ w).alloc (ai _) _).alloc (by simp) _
 let J:List α->World->Prop:=fun pre W=>I pre W/\W.heap[L]? =some (.loop (rec .ready none))/\W.heap[w.heap.size]? =some (.deferred (some []))
 let Jx:List α->World->Prop:=fun pre W=> ∃c,Ix c pre W/\W.heap[L]? =some (.loop (rec .done (some c)))/\W.heap[w.heap.size]? =some (.deferred (some []))
 have hP:w.heap.size+2<=V.heap.size:=by rw[<-hV]; simp
 have hJ:GS mt V.heap.size J:=by
  rintro s A B row ⟨h1,h2,h3⟩ hg hr;have hs: ∀(k:Nat) (o:Obj),A.heap[k]? =some o->o.isCells=false->row≠some k:=fun k o hk hw e=>by obtain⟨_,cs,ho⟩:=hr k e;rw[hk]at ho; cases ho; cases hw
  refine⟨hI2 s A B row h1 hg (fun r e=> ?_), ?_, ?_⟩
  ·obtain⟨h4,cs,ho⟩:=hr r e;exact⟨by omega,cs,ho⟩
  ·exact(hg.block _ (aM.1 h2).1 (fun e=>hs _ _ h2 rfl e.symm)).trans h2
  ·exact(hg.block _ (aM.1 h3).1 (fun e=>hs _ _ h3 rfl e.symm)).trans h3
 have hc: ∀(jump:Option Code) (W B:World),W.heap[L]? =some (.loop (rec .busy none))->W.heap[w.heap.size]? =some (.deferred (some []))->KeepsOthers W B->
   (Instr.endRound L jump).run P B= .ok (.bool jump.isNone) (B.putObj L (.loop (rec (if jump.isNone then .ready else .done) jump)))/\B.heap[L]? =some (.loop (rec .busy none))/\
   (B.putObj L (.loop (rec (if jump.isNone then .ready else .done) jump))).heap[L]? =some (.loop (rec (if jump.isNone then .ready else .done) jump))/\
   (B.putObj L (.loop (rec (if jump.isNone then .ready else .done) jump))).heap[w.heap.size]? =some (.deferred (some [])):=by
  intro jump W B h1 h2 hk;have hb:=hk.same _ _ h1 rfl;have hd:=hk.same _ _ h2 rfl;have:=run_endRound (P:=P) jump hb;refine⟨?_,hb,ww hb _,(gX (by omega)).trans hd⟩;rw[this,ha]
 have he: ∀pre x A,J pre A->D pre x A->pre.length<N->YieldAt Fence.wide 2 P L (encs x) A fun e B=>(e= .returned (.bool true)/\J (pre++[x]) B/\Kp A B)\/(e= .returned (.bool false)/\Jx (pre++[x]) B):=by
  rintro pre x A ⟨hi,hl,hk⟩ hd hN;have hR:L<A.heap.size:=(aM.1 hl).1;have hy:=run_yield (P:=P) (args:=encs x) hl (by rw[hO]; exact hps x);refine⟨_,_,_,_,hy, ?_⟩;rw[ha];refine roundIn_of_wpIn hG (wpIn_mono (hassign L pre x A (by omega) hi hd hN) ?_);rintro e a₁ B hB
  cases e with
  | normal=>
   obtain⟨hq,hM,hD⟩:=hB;have hh:=hq.same _ _ hl rfl;have hH:=hq.same _ _ hk rfl;have hE:=run_beginRound (P:=P) hh (hp _ _);refine⟨_,hE, ?_⟩;have hF:({rec .ready none with state:= .busy} :Loop)=rec .busy none:=by rw[ha]
   rw[hF];have hj:=ww hh (.loop (rec .busy none));have hf:(B.putObj L (.loop (rec .busy none))).heap[w.heap.size]? =some (.deferred (some [])):=(gX (by omega)).trans hH;have hm:Ax pre x a₁ (B.putObj L (.loop (rec .busy none))):=hAx.putObj (s:=(pre,x,a₁)) _ hD (by omega) hh rfl;have hn:Kp A (B.putObj L (.loop (rec .busy none))):=hKt hM (hKb _ _ _ _ (by omega) hh rfl rfl)
   refine wpIn_mono (hbody L pre x a₁ _ hm) ?_;rintro e a3 C hC
   cases e with
   | normal=>
    obtain⟨c1,c2,c3⟩:=hC;obtain⟨r1,r2,r3,r4⟩:=hc none _ C hj hf c1;exact⟨_,_,r1, .inl ⟨rfl,⟨hI.putObj _ c3 (by omega) r2 rfl,r3,r4⟩,hKt (hKt hn c2) (hKb _ _ _ _ (by omega) r2 rfl rfl)⟩⟩
   | ret=>
    obtain⟨c1,c3⟩:=hC;obtain⟨r1,r2,r3,r4⟩:=hc (some .ret) _ C hj hf c1;exact⟨_,_,r1, .inr ⟨rfl,_,(hIx _).putObj _ c3 (by omega) r2 rfl,r3,r4⟩⟩
   | exit id=>
    obtain⟨c1,c3⟩:=hC;obtain⟨r1,r2,r3,r4⟩:=hc (some (.exit id)) _ C hj hf c1;exact⟨_,_,r1, .inr ⟨rfl,_,(hIx _).putObj _ c3 (by omega) r2 rfl,r3,r4⟩⟩
   | goto t=>
    obtain⟨c1,c3⟩:=hC;obtain⟨r1,r2,r3,r4⟩:=hc (some (.goto t)) _ C hj hf c1;exact⟨_,_,r1, .inr ⟨rfl,_,(hIx _).putObj _ c3 (by omega) r2 rfl,r3,r4⟩⟩
   | panic ch=>exact hC.elim
   | outgrown=>exact hC.elim
  | ret=>exact hB.elim
  | exit id=>exact hB.elim
  | goto t=>exact hB.elim
  | panic ch=>exact hB.elim
  | outgrown=>exact hB.elim
 refine⟨L,[{target:= .collected w.heap.size,args:= #[]}],V,{target:= .fn (.func gf) lb,args:= #[.func (.yield L) #[] #[]]},V,gf, #[.func (.yield L) #[] #[]]++lb,V, ?_, ?_,fun _ _=>trivial, ?_,fun _=>by omega, ?_⟩
 ·rw[<-hV,hL,ha]; exact run_enterLoop_outer _ _ _ _ _
 ·simp only[resolve,hg];simp[go_sem]
 ·simp[invoke,go_sem,eg]
 ·refine(hseq L J Jx V hv hJ he ⟨hz,hA,hx⟩).mono ?_;rintro e B ⟨⟨v,rfl⟩,hB⟩
  rcases hB with⟨xs,hS,hi,hl,hk⟩ | ⟨pre,hS,c,hi,hl,hk⟩
  ·have:=run_endLoop (P:=P) hl (by rw[hp]; simp);rw[hu]at this;exact⟨none,_,this,hdone _ xs _ (ai _) hS (hI.putObj _ hi (by omega) hl rfl) ((gX (by omega)).trans hk)⟩
  ·have:=run_endLoop (P:=P) hl (by rw[hp]; simp);rw[hu]at this;exact⟨some c,_,this,(wpIn_wide (n:=4)).2 (hstop _ c pre _ (ai _) hS ((hIx c).putObj _ hi (by omega) hl rfl) ((gX (by omega)).trans hk))⟩
end
attribute [local go_sem] Oper.semAt_some
def jC (t:TypeId) (A B:World):Prop:= ∀(k:Nat) (cs:Array Value),A.heap[k]? =some (.cells cs t (0,0))->B.heap[k]? =A.heap[k]?
section
variable {t : TypeId} {A B C : World} {n : Nat}
theorem jC.refl (A:World):jC t A A:=fun _ _ _=>rfl
theorem jC.trans (h:jC t A B) (k:jC t B C):jC t A C:=fun i cs hi=>(k i cs ((h i cs hi).trans hi)).trans (h i cs hi)
theorem jC.below (h:Below A.heap.size A B):jC t A B:=fun i _ hi=>h.block i (aM.1 hi).1
theorem jC.grown {row:Option Nat} (h:A.grownBy B row) (hr: ∀r,row=some r-> ∀cs,A.heap[r]? ≠some (.cells cs t (0,0))):jC t A B:=fun i cs hi=>h.block i (aM.1 hi).1 (fun e=>hr i e.symm cs hi)
end
theorem oY {A:World} {base sz m k:Nat} {t:TypeId} {v:Value} {xs:List Value} (h:A.ownsRow base t sz v m xs) (hk:v.ownBlock=some k):base<=k/\ ∃cur,A.heap[k]? =some (.cells cur t (0,0)):=by
 rcases h.2 with⟨rfl,_⟩ | ⟨g,cap,cur,rfl,hb,ha,_⟩
 ·cases hk
 ·simp only[Value.ownBlock,aX]at hk;subst hk;exact⟨hb,cur,ha⟩
theorem KO {seed W:Nat} :rV seed W [] (lq seed (List.replicate 64 0) W 0 0 0):=by
 have h0:ox W []=[]:=by unfold ox; simp
 have ht:=tT seed;have g: ∀i,256<=i->(lq seed (List.replicate 64 0) W 0 0 0)[i]? =((List.replicate 64 (0:UInt8)).map aY++[Value.int .i64 (W:Int), .int .i64 0, .int .i64 0, .int .u64 0])[i-256]? :=fun i hi=>by unfold lq; rw[bC (by omega),ht]; rfl
 refine⟨fun i hi=> ?_,fun j hj=>⟨0, ?_⟩, ?_,⟨0,by decide, ?_,fun j b hb=>by rw[h0]at hb; cases hb⟩, ?_, ?_⟩
 ·unfold lq;rw[bH (by omega)];unfold uE;rw[bh,List.getElem?_range hi]; rfl
 ·rw[g _ (by omega),fT,bH (by simpa using hj),bh,List.getElem?_replicate,if_pos hj]; rfl
 ·rw[g _ (by decide)]; rfl
 ·rw[g _ (by decide)]; rfl
 ·rw[g _ (by decide)]; simp
 ·rw[g _ (by decide),h0]; rfl
theorem Kh {c:fC} (hc:jU c=true) (data:List UInt8):uM c data 0 (sk c (lq c.seed (List.replicate 64 0) c.win.toNat 0 0 0) 0 (-c.mn)):=by
 have hv:=lW.1 hc;have hl:(lq c.seed (List.replicate 64 0) c.win.toNat 0 0 0).length=324:=uz _ (by simp) _ _ _ _;have h:=KO (seed:=c.seed) (W:=c.win.toNat);have lo: ∀i,i<324->(sk c (lq c.seed (List.replicate 64 0) c.win.toNat 0 0 0) 0 (-c.mn))[i]? =(lq c.seed (List.replicate 64 0) c.win.toNat 0 0 0)[i]? :=fun i hi=>by unfold sk; rw[bH (by omega)]
 have ha: ∀i,(sk c (lq c.seed (List.replicate 64 0) c.win.toNat 0 0 0) 0 (-c.mn))[324+i]? =(fZ c++[Value.int .i64 0,Value.int .i64 (-c.mn)])[i]? :=fun i=>by unfold sk; rw[bC (by omega),hl,fT]
 refine⟨⟨fun i hi=> ?_,fun j hj=> ?_, ?_, ?_, ?_, ?_⟩,uq c hl _ _,fun i hi=> ?_, ?_, ?_⟩
 ·rw[lo _ (by omega)]; exact h.tab i hi
 ·rw[lo _ (by omega)]; exact h.rng j hj
 ·rw[lo _ (by omega)]; exact h.win
 ·obtain⟨s,h1,h2,h3⟩:=h.st;exact⟨s,h1,by rw[lo _ (by omega)]; exact h2,fun j b hb=>by rw[lo _ (by omega)]; exact h3 j b hb⟩
 ·rw[lo _ (by omega)]; exact h.len
 ·rw[lo _ (by omega)]; exact h.sum
 ·rw[ha,bH (by simpa [fZ]using hi)]
 ·rw[show 329=324+5 from rfl,ha]; rfl
 ·rw[show 330=324+6 from rfl,ha,qt];have: -c.mn= -((c.mn.toNat:Nat):Int):=by omega
  rw[this]; rfl
theorem wS (mk:Nat->Bool) (mn mx len:Nat): ∀p,(ld mk mn mx len p).length<=p/\mg (ld mk mn mx len p)<=p
 | 0=>⟨by simp[ld],by simp[ld,mg]⟩
 | p+1=>by
  have:=wS mk mn mx len p;rw[ld]
  split
  ·rw[ag,mB]; simp; omega
  ·omega
def kY (c:fC) (dv:Value) (b1 b2:Nat) (w:World):Prop:=w.heap[b1]? =some (.cells (fZ c).toArray 45 (0,0))/\w.heap[b2]? =some (.cells #[dv] 29 (0,0))
def LR (b1 b2:Nat) (A B:World):Prop:=B.heap[b1]? =A.heap[b1]? /\B.heap[b2]? =A.heap[b2]?
theorem kY.same {c:fC} {dv:Value} {b1 b2:Nat} {A B:World} (h:kY c dv b1 b2 A) (hk:LR b1 b2 A B):kY c dv b1 b2 B:=⟨hk.1.trans h.1,hk.2.trans h.2⟩
theorem kY.below {c:fC} {dv:Value} {b1 b2:Nat} {A B:World} (h:kY c dv b1 b2 A) (hb:Below A.heap.size A B):kY c dv b1 b2 B:=h.same ⟨hb.block _ (am h.1),hb.block _ (am h.2)⟩
theorem kY.grown {c:fC} {dv:Value} {b1 b2 r:Nat} {A B:World} (h:kY c dv b1 b2 A) (hg:A.grownBy B (some r)) (h1:b1<r) (h2:b2<r):kY c dv b1 b2 B:=
 h.same ⟨hg.block _ (am h.1) (fun e=>by cases e; omega),hg.block _ (am h.2) (fun e=>by cases e; omega)⟩
theorem kY.mx {c:fC} {dv:Value} {b1 b2:Nat} {A:World} (h:kY c dv b1 b2 A):A.cell? ⟨b1,1,none⟩=some (.int .i64 c.mx):=(br A _ 1 _ _ _ h.1).trans rfl
theorem kY.dat {c:fC} {dv:Value} {b1 b2:Nat} {A:World} (h:kY c dv b1 b2 A):A.cell? ⟨b2,0,none⟩=some dv:=(br A _ 0 _ _ _ h.2).trans rfl
def Ow (c:fC) (data:List UInt8) (b1 b2 n₀:Nat) (w:World):Prop:=
 QD Tryz.prog 186 #[.pointer (some ⟨b1,0,none⟩), .pointer (some ⟨b2,0,none⟩)] (fun q:Nat=> #[.int .i64 (q:Int)]) (fun pre q _=>mg pre<q/\q<=data.length)
  (fun A B=>Below n₀ A B/\jC 239 A B/\LR b1 b2 A B) (fun xs=>xs=qI (qu c data) c.mn.toNat c.mx.toNat data.length) (fun _=>True) data.length 239 w
theorem mr {B b:Nat} {w0 w w':World} (hb:Below B w0 w) (h:w.grownBy w' (some b)) (h1:B<=b) (h2:B<=w.heap.size):Below B w0 w':=
 hb.trans ⟨h.os,h.tape,h.output,h.size,fun k hk=>h.block k (by omega) (fun e=>by cases e; omega)⟩
theorem vY (c:fC) (data:List UInt8) (p:Nat) (b:UInt8) (pr:Bool) (mb:Nat) (ty:TypeId) (cs:List Value) (w:World) (hc:jU c=true) (hb:data[p]? =some b) (hp:data.length<=1048576) (hbox:w.heap[mb]? =some (.cells cs.toArray ty (0,0))) (hm:uM c data p cs) (hT:Cg w) (hmb:mb≠6) (hpr:pr=kI (qu c data) c.mn.toNat (p+1)):
  Calls Tryz.prog 188 #[.pointer (some ⟨mb,0,none⟩), .int .u8 (b.toNat:Int)] w fun e w'=>e= .returned (.bool pr)/\(∃cs',w'.heap[mb]? =some (.cells cs'.toArray ty (0,0))/\uM c data (p+1) cs')/\w.grownBy w' (some mb):=by
 rw[hpr]; exact NM c data p b mb ty cs w hc hb hp hbox hm hT hmb
theorem Mw (S:Nat->Prop) (c:fC) (data:List UInt8) (dv:Value) (b1 b2:Nat) (w wc:World) (hc:jU c=true) (hs:c.seed<18446744073709551616) (hx:kY c dv b1 b2 wc) (hd:bD S w dv data) (hl:data.length<=1048576) (hT:Cg w) (hbc:Below w.heap.size w wc):
  Ow c data b1 b2 w.heap.size wc:=by
 intro l J Jx W hP hJ hY h0;have Hp:=aj hbc hP;have hV:=ah Hp;have HV:=ah hc;have HD:=ah hd;have HT:=ah hT;have HJ:=ah hJ;have HY:=ah hY;have H0:=ah h0;have hM:=ah (hx.below hP);have hE:=ah (show b1<W.heap.size/\b2<W.heap.size from⟨am hM.o.1,am hM.o.2⟩);obtain⟨_,da,dcap,rfl,HA,HC,Hk⟩:=id hd;obtain⟨n,hn⟩:=bI data.length
 rw[<-hn]at hM HA hl;have HN:=ah hn;have hv:=lW.1 hc;obtain⟨mx,Hv⟩:=bI c.mx.toNat
 obtain⟨mn,Hu⟩:=bI c.mn.toNat
 have Hd:c.mx=(mx:Int):=by omega
 have HK:mx<=32768:=by omega
 have hF:=ah (aA Hv (aA Hd Hu));have He:=ah (show c.win=(c.win.toNat:Int)/\1<=c.win.toNat/\c.win.toNat<=64/\0<=c.mn/\c.mn<=32768 by omega);have hr:=mF hM.o.1;have HR:=ah hr;have Hy:=ah (show(Tryz.prog.info? 45).map (·.size)=some (fZ c).length by kernel_rfl);clear hJ hY h0 Hp hP hbc hc hd hT hx hn hv Hv Hu Hd hr;have y2:=hM.o.dat
 refine callsIn_wide.2 ?_
 show Calls Tryz.prog 186 #[.func (.yield l) #[] #[], .pointer (some ⟨b1,0,none⟩), .pointer (some ⟨b2,0,none⟩)] W _
 go_enter Tryz.func186,Tryz.ntmps186
 go_wp2_with (first | (refine dX rfl 45 _ rfl b1 0 rfl (fZ c) _ HR.o Tryz.underlying45 rfl Hy.o ?_) | fail);refine(yK c c.win.toNat W hs He.o.1 He.o.2.1 He.o.2.2.1 He.o.2.2.2).mono ?_;rintro e w5 ⟨rfl,Ho⟩;obtain⟨mc,hX⟩:=bI (sk c (lq c.seed (List.replicate 64 0) c.win.toNat 0 0 0) 0 (-c.mn));rw[<-hX];have hZ:mc.length=331:=by rw[hX]; exact uq c (uz _ (by simp) _ _ _ _) _ _
 have HO:=ah hX;have Hz:=ah (show uM c data 0 mc by rw[hX]; exact Kh HV.o data);have h8:=ah (show(Tryz.prog.info? 239).map (·.size)=some mc.toArray.size by rw[bS,hZ]; kernel_rfl);have Hh:=ah (show Tryz.zeroCells239.size=mc.toArray.size by rw[show mc.toArray.size=331 from by rw[bS]; exact hZ]; kernel_rfl);have Hi:=ah (show mc.toArray.all (·.oneCell')=true from ei (by rw[hX]; exact Af c _ _ _))
 have Hf:=ah Ho;clear Ho hX hZ y2;have y2:=(hM.o.below Hf.o).dat
 have Hg:=ah (show Below w5.heap.size w5 ((w5.alloc (.cells Tryz.zeroCells239 239)).setRow w5.heap.size mc.toArray)from eE (eW) (ai _) _);have Hm:=ah (show((w5.alloc (.cells Tryz.zeroCells239 239)).setRow w5.heap.size mc.toArray).heap[w5.heap.size]? =some (.cells mc.toArray 239 (0,0))from em _ _ _ _ _ _ (aG w5 _));have y3:=(Hg.o.cell (bP y2)).trans y2
 go_wp2_with (first | (refine dA rfl 239 _ _ rfl w5.heap.size _ rfl rfl _ _ (aG w5 _) h8.o Hh.o Hi.o ?_) | fail)
 generalize (w5.alloc (.cells Tryz.zeroCells239 239)).setRow w5.heap.size mc.toArray=w6 at *
 obtain⟨mb,Ht⟩:=bI w5.heap.size;have ha:=ah (show W.heap.size<=mb/\mb≠6 by
  have h1:=Hf.o.size;have h2:=hV.o.size;have h3:=HT.o.lt
  omega)
 have hI:=ah (aj Hf.o Hg.o);rw[<-Ht]at Hg Hm ⊢;clear Ht y2 y3
 go_loopw [13,5] (fun i s wr=> ∃(k:Nat) (pre:List Nat) (cs:List Value),k<=n/\i= .int .i64 (k:Int)/\pre=ld (qu c data) mn mx n k/\s= .int .i64 ((mg pre:Nat):Int)/\J pre wr/\Below w.heap.size w wr/\wr.heap[mb]? =some (.cells cs.toArray 239 (0,0))/\uM c data k cs/\kY c (.slice da n dcap) b1 b2 wr) (fun i _ _=>n-(intOf i).toNat)
 ·exact⟨0,[],mc,aU _,rfl,rfl,rfl,HJ.o _ _ _ none H0.o (EV hI.o) (fun r e=>by cases e),aj hV.o hI.o,Hm.o,Hz.o,hM.o.below hI.o⟩
 ·obtain⟨k,pre,cs,hk,rfl,hU,rfl,Hn,Hq,Hr,hZ,Hs⟩:=hrel;have h4:=ah Hs;have hw:=ah hU;have Ha:=ah Hn;have hf:=ah Hq;have hD:=ah Hr;have hC:=ah hZ;have Hw:=wS (qu c data) mn mx n k;rw[<-hU]at Hw;obtain⟨sn,Hl⟩:=bI (mg pre);rw[<-Hl]at Hw ⊢;have hG:=ah Hl;clear hU Hn Hq Hr hZ Hl Hs
  by_cases HH:k<n
  ·obtain⟨b,hb⟩: ∃b,data[k]? =some b:=⟨data[k]'(by rw[<-HN.o]; exact HH),by simp⟩
   rcases Hk with Hk | ⟨db,dof,rfl,hS,Hj⟩
   ·rw[<-HN.o]at Hk; omega
   have Hc:=(hf.o.cell (bP (Hj k (aY b) (by rw[bh,hb]; rfl)))).trans (Hj k (aY b) (by rw[bh,hb]; rfl));have y2:=h4.o.dat
   have HQ:(k:Int)<(n:Int):=by omega
   have HF:IntKind.i64.wrap ((k:Int)+1)=((k+1:Nat):Int):=by rw[bF]; omega
   have HB:=ah hb;clear Hj hb hS;unfold maxLen at HC
   change wr.cell? ⟨db,dof+k,none⟩=some (.int .u8 (b.toNat:Int))at Hc
   obtain⟨pr,Hx⟩:=bI (kI (qu c data) c.mn.toNat (k+1));have hW:=ah Hx;clear Hx;have HM:IntKind.i64.wrap ((k:Int)+1-(sn:Int))=(k:Int)+1-(sn:Int):=by rw[bF]; omega
   by_cases hp:pr=true
   ·subst hp;have hO:=ah (show mU (qu c data) mn mx n sn (k+1)=true by unfold mU; rw[hF.o.2.2,<-hW.o]; rfl)
    go_upto_region 7 with(fail)
    refine(vY c data k b _ mb 239 cs _ HV.o HB.o (by rw[<-HN.o]; exact hl) hD.o hC.o (HT.o.block (hf.o.block _ HT.o.lt) hf.o.size) ha.o.2 hW.o).mono ?_;rintro e w7 ⟨rfl,⟨cs7,hA,hz⟩,hj⟩;have hB:=ah hA;have hN:=ah hz;have ho:=ah hj;have hL:=ah (mr hf.o hj (an hV.o.size ha.o.1) hf.o.size);clear hA hz hj;have hh:=ah (h4.o.grown ho.o (aO hE.o.1 ha.o.1) (aO hE.o.2 ha.o.1)); have z2:=hh.o.dat
    have z1:=hh.o.mx; rw[hF.o.2.1]at z1
    go_upto_region 7 with(fail)
    have h9:=ah (HJ.o _ _ _ _ Ha.o ho.o (fun r e=>by cases e; exact⟨ha.o.1,cs.toArray,hD.o⟩));have h7:=ah (show mg pre<k+1/\k+1<=data.length from⟨by rw[<-hG.o]; omega,by rw[<-HN.o]; omega⟩);have Hb:=ah (show pre.length<data.length by rw[<-HN.o]; omega);obtain⟨fn,tmps,assign,body,hy,hR⟩:=HY.o pre (k+1) w7 h9.o h7.o Hb.o;rw[show(((k+1:Nat):Int))=(k:Int)+1 from rfl]at hy
    refine(wpIn_wide (n:=3)).1 ?_
    gi_wp2_with (fail)
    refine hR.mono ?_;rintro e6 w8 (⟨rfl,hg,hH⟩ | ⟨rfl,hg⟩)
    ·have hq:=ah hg;have hu:=ah hH;clear hg hH hy hR
     gi_wp2
     go_wp2_with fail
     go_roundw
     ·refine⟨k+1,pre++[k+1],cs7,by omega,by go_num, ?_,by rw[mB]; rfl,hq.o,hL.o.trans hu.o.1,(hu.o.2.1 mb _ hB.o).trans hB.o,hN.o,hh.o.same hu.o.2.2⟩;rw[ld,<-hw.o,<-hG.o,hO.o,if_pos rfl]
     simp[intOf]; omega
    ·have hq:=ah hg;clear hg hy hR
     gi_wp2
     go_wp2_with fail;refine cP (gw rfl _ _ _) rfl ?_;exact⟨⟨_,rfl⟩, .inr ⟨pre++[k+1],trivial,hq.o⟩⟩
   ·have HL:pr=false:=by simpa using hp
    subst HL;clear hp
    by_cases hm:sn+mx<=k+1
    ·have HI:(mx:Int)<=(k:Int)+1-(sn:Int):=by omega
     have HS: ¬(k:Int)+1-(sn:Int)<(mx:Int):=by omega
     have hO:=ah (show mU (qu c data) mn mx n sn (k+1)=true by unfold mU; rw[cR hm]; simp)
     go_upto_region 7 with(fail)
     refine(vY c data k b _ mb 239 cs _ HV.o HB.o (by rw[<-HN.o]; exact hl) hD.o hC.o (HT.o.block (hf.o.block _ HT.o.lt) hf.o.size) ha.o.2 hW.o).mono ?_;rintro e w7 ⟨rfl,⟨cs7,hA,hz⟩,hj⟩;have hB:=ah hA;have hN:=ah hz;have ho:=ah hj;have hL:=ah (mr hf.o hj (an hV.o.size ha.o.1) hf.o.size);clear hA hz hj;have hh:=ah (h4.o.grown ho.o (aO hE.o.1 ha.o.1) (aO hE.o.2 ha.o.1)); have z2:=hh.o.dat
     have z1:=hh.o.mx; rw[hF.o.2.1]at z1
     go_upto_region 7 with(fail)
     have h9:=ah (HJ.o _ _ _ _ Ha.o ho.o (fun r e=>by cases e; exact⟨ha.o.1,cs.toArray,hD.o⟩));have h7:=ah (show mg pre<k+1/\k+1<=data.length from⟨by rw[<-hG.o]; omega,by rw[<-HN.o]; omega⟩);have Hb:=ah (show pre.length<data.length by rw[<-HN.o]; omega);obtain⟨fn,tmps,assign,body,hy,hR⟩:=HY.o pre (k+1) w7 h9.o h7.o Hb.o;rw[show(((k+1:Nat):Int))=(k:Int)+1 from rfl]at hy
     refine(wpIn_wide (n:=3)).1 ?_
     gi_wp2_with (fail)
     refine hR.mono ?_;rintro e6 w8 (⟨rfl,hg,hH⟩ | ⟨rfl,hg⟩)
     ·have hq:=ah hg;have hu:=ah hH;clear hg hH hy hR
      gi_wp2
      go_wp2_with fail
      go_roundw
      ·refine⟨k+1,pre++[k+1],cs7,by omega,by go_num, ?_,by rw[mB]; rfl,hq.o,hL.o.trans hu.o.1,(hu.o.2.1 mb _ hB.o).trans hB.o,hN.o,hh.o.same hu.o.2.2⟩;rw[ld,<-hw.o,<-hG.o,hO.o,if_pos rfl]
      simp[intOf]; omega
     ·have hq:=ah hg;clear hg hy hR
      gi_wp2
      go_wp2_with fail;refine cP (gw rfl _ _ _) rfl ?_;exact⟨⟨_,rfl⟩, .inr ⟨pre++[k+1],trivial,hq.o⟩⟩
    ·have HI:(k:Int)+1-(sn:Int)<(mx:Int):=by omega
     by_cases he:n<=k+1
     ·have HE:(n:Int)<=(k:Int)+1:=by omega
      have HP: ¬(k:Int)+1<(n:Int):=by omega
      have hO:=ah (show mU (qu c data) mn mx n sn (k+1)=true by unfold mU; rw[cR he]; simp)
      go_upto_region 7 with(fail)
      refine(vY c data k b _ mb 239 cs _ HV.o HB.o (by rw[<-HN.o]; exact hl) hD.o hC.o (HT.o.block (hf.o.block _ HT.o.lt) hf.o.size) ha.o.2 hW.o).mono ?_;rintro e w7 ⟨rfl,⟨cs7,hA,hz⟩,hj⟩;have hB:=ah hA;have hN:=ah hz;have ho:=ah hj;have hL:=ah (mr hf.o hj (an hV.o.size ha.o.1) hf.o.size);clear hA hz hj;have hh:=ah (h4.o.grown ho.o (aO hE.o.1 ha.o.1) (aO hE.o.2 ha.o.1)); have z2:=hh.o.dat
      have z1:=hh.o.mx; rw[hF.o.2.1]at z1
      go_upto_region 7 with(fail)
      have h9:=ah (HJ.o _ _ _ _ Ha.o ho.o (fun r e=>by cases e; exact⟨ha.o.1,cs.toArray,hD.o⟩));have h7:=ah (show mg pre<k+1/\k+1<=data.length from⟨by rw[<-hG.o]; omega,by rw[<-HN.o]; omega⟩);have Hb:=ah (show pre.length<data.length by rw[<-HN.o]; omega);obtain⟨fn,tmps,assign,body,hy,hR⟩:=HY.o pre (k+1) w7 h9.o h7.o Hb.o;rw[show(((k+1:Nat):Int))=(k:Int)+1 from rfl]at hy
      refine(wpIn_wide (n:=3)).1 ?_
      gi_wp2_with (fail)
      refine hR.mono ?_;rintro e6 w8 (⟨rfl,hg,hH⟩ | ⟨rfl,hg⟩)
      ·have hq:=ah hg;have hu:=ah hH;clear hg hH hy hR
       gi_wp2
       go_wp2_with fail
       go_roundw
       ·refine⟨k+1,pre++[k+1],cs7,by omega,by go_num, ?_,by rw[mB]; rfl,hq.o,hL.o.trans hu.o.1,(hu.o.2.1 mb _ hB.o).trans hB.o,hN.o,hh.o.same hu.o.2.2⟩;rw[ld,<-hw.o,<-hG.o,hO.o,if_pos rfl]
       simp[intOf]; omega
      ·have hq:=ah hg;clear hg hy hR
       gi_wp2
       go_wp2_with fail;refine cP (gw rfl _ _ _) rfl ?_;exact⟨⟨_,rfl⟩, .inr ⟨pre++[k+1],trivial,hq.o⟩⟩
     ·have HE:(k:Int)+1<(n:Int):=by omega
      have hO:=ah (show mU (qu c data) mn mx n sn (k+1)=false by unfold mU; rw[cB he,cB hm,hF.o.2.2,<-hW.o]; rfl);go_wp2_with (go_at_call 188; refine(vY c data k b _ mb 239 cs _ HV.o HB.o (by rw[<-HN.o]; exact hl) hD.o hC.o (HT.o.block (hf.o.block _ HT.o.lt) hf.o.size) ha.o.2 hW.o).mono ?_; rintro e w7 ⟨rfl,⟨cs7,hA,hz⟩,hj⟩; have hB:=ah hA; have hN:=ah hz; have ho:=ah hj; have hL:=ah (mr hf.o hj (an hV.o.size ha.o.1) hf.o.size); clear hA hz hj; have hh:=ah (h4.o.grown ho.o (aO hE.o.1 ha.o.1) (aO hE.o.2 ha.o.1)); have z2:=hh.o.dat; have z1:=hh.o.mx; rw[hF.o.2.1]at z1)
      go_roundw
      ·refine⟨k+1,pre,cs7,by omega,by go_num, ?_,by rw[hG.o], ?_,hL.o,hB.o,hN.o,hh.o⟩
       ·rw[ld,<-hw.o,<-hG.o,hO.o,if_neg (by decide)]
       ·exact HJ.o _ _ _ _ Ha.o ho.o (fun r e=>by cases e; exact⟨ha.o.1,cs.toArray,hD.o⟩)
      simp[intOf]; omega
  ·have HG:k=n:=by omega
   go_wp2_with fail
   go_end0
   refine⟨⟨_,rfl⟩, .inl ⟨pre, ?_,Ha.o⟩⟩;rw[hw.o,HG,HN.o,hF.o.1,hF.o.2.2]; rfl
open Go Go.RowKit Go.Maps Go.MapKept
open Go.ChangeMaps (modify_eq_set map_eraseIdx)
def ik (P:Program) (k:TypeId) (w:World) (b:Nat) (m:List (Value×Value)):Prop:=
 ∃es clock,w.heap[b]? =some (.map es clock)/\es.toList.map (fun e=>(e.key,e.val))=m/\Stamped es clock/\ ∀p∈m,∃l,keyOf P k p.1=some l
section
variable {P : Program} {k t e : TypeId} {w w' : World} {b : Nat} {m : List (Value × Value)} {key val z : Value}
theorem yH {es:Array MapEntry} {clock:Nat} (h:Stamped es clock):((es.toList.map (fun e=>(e.key,e.val))).map Prod.fst).Nodup:=by rw[je];have:=((stamped_iff es clock).1 h).2.2;unfold List.Nodup;rw[fU];exact this
theorem ik.is (h:ik P k w b m):jJ P k w b m:=by obtain⟨es,clock,hb,he,hs,hk⟩:=h;exact⟨es,clock,hb,he,by rw[<-he]; exact yH hs,hk⟩
theorem ik.lt (h:ik P k w b m):b<w.heap.size:=h.is.lt
theorem ik.same (h:ik P k w b m) (hs:w'.heap[b]? =w.heap[b]?):ik P k w' b m:=by obtain⟨es,clock,hb,h2⟩:=h;exact⟨es,clock,hs.trans hb,h2⟩
theorem ik.made (w:World):ik P k (w.alloc (.map #[] 0)) w.heap.size []:=⟨#[],0,(MapKept.heap_alloc w _).1,rfl,stamped_empty 0,by simp⟩
theorem ik.nodup (h:ik P k w b m):(m.map Prod.fst).Nodup:=by obtain⟨_,_,_,_,hn,_⟩:=h.is; exact hn
theorem lR {w:World} {b:Nat} {x:Obj} (hb:w.heap[b]? =some x) (o:Obj):w.grownBy (ChangeMaps.setBlock w b o) (some b):=
 ⟨rfl,rfl,rfl,by simp[ChangeMaps.setBlock],fun i _ hi=>zO hb _ (fun e=>hi (by rw[e]))⟩
theorem ik.put (h:ik P k w b m) (K:Keyed P k) (ht:P.underlying t=some (.map k e)) (hkey: ∃l,keyOf P k key=some l) (hm: ∀p∈m,p.1≠key) (val:Value):
  ∃w',(Instr.mapUpdate t (.map (some b)) key val).run P w= .ok () w'/\ik P k w' b (m++[(key,val)])/\w.grownBy w' (some b):=by
 obtain⟨es,clock,hb,he,hc,hk⟩:=h;obtain⟨kl,ha⟩:=hkey
 rcases K.find w ha es.toList (jJ.keys he hk)with⟨h1,h2⟩ | ⟨j,e0,h1,h2,h3⟩
 ·refine⟨ChangeMaps.setBlock w b (.map (es.push ⟨key,val,clock⟩) (clock+1)), ?_,⟨_,_,qL hb _, ?_,stamped_push hc h2, ?_⟩,lR hb _⟩
  ·simp[Instr.mapUpdate,run_underlying ht,MapKept.run_getObj_map hb,K.check w false ha,h1,MapKept.run_setObj_map _ hb,Result.andThen,ChangeMaps.setBlock]
  ·simp[<-he]
  ·intro p hp
   rcases aN.1 hp with hp | hp
   ·exact hk p hp
   ·simp only[aE]at hp;subst hp;exact⟨kl,ha⟩
 ·exact absurd h3 (hm (e0.key,e0.val) (by rw[<-he]; exact aP.2 ⟨e0,aQ h2,rfl⟩))
theorem ik.over {m1 m2:List (Value×Value)} {old:Value} (h:ik P k w b (m1++(key,old)::m2)) (K:Keyed P k) (ht:P.underlying t=some (.map k e)) (val:Value):
  ∃w',(Instr.mapUpdate t (.map (some b)) key val).run P w= .ok () w'/\ik P k w' b (m1++(key,val)::m2)/\w.grownBy w' (some b):=by
 have hh:=h.nodup;obtain⟨es,clock,hb,he,hl,hk⟩:=h;obtain⟨kl,hc⟩:=hk (key,old) (by simp)
 rcases K.find w hc es.toList (jJ.keys he hk)with⟨h1,h2⟩ | ⟨j,e0,h1,h2,h3⟩
 ·exfalso
  have:(key,old)∈es.toList.map (fun e=>(e.key,e.val)):=by rw[he]; simp
  obtain⟨x,hx,hm⟩:=aP.1 this;exact h2 x hx (congrArg Prod.fst hm)
 ·have hj:es[j]? =some e0:=by simpa using h2
  have ha:(es.modify j (fun e'=> {e' with key:=key,val:=val})).toList=es.toList.set j {e0 with key:=key,val:=val} :=by rw[Array.toList_modify,modify_eq_set _ _ _ _ h2]
  have hg:j=m1.length:=by
   have h4:(m1++(key,old)::m2)[j]? =some (e0.key,e0.val):=by rw[<-he,bh,h2]; rfl
   have h5:((m1++(key,old)::m2).map Prod.fst)[j]? =some key:=by rw[bh,h4]; simp[h3]
   have h6:((m1++(key,old)::m2).map Prod.fst)[m1.length]? =some key:=by simp
   have hf:=(aD.1 h5).1;exact(List.getElem?_inj hf hh).1 (h5.trans h6.symm)
  refine⟨ChangeMaps.setBlock w b (.map (es.modify j (fun e'=> {e' with key:=key,val:=val})) clock), ?_,⟨_,_,qL hb _, ?_, ?_, ?_⟩,lR hb _⟩
  ·simp[Instr.mapUpdate,run_underlying ht,MapKept.run_getObj_map hb,K.check w false hc,h1,hj,h3,K.stays w hc,MapKept.run_setObj_map _ hb,Result.andThen,ChangeMaps.setBlock]
  ·rw[ha,List.map_set,he,hg];simp
  ·exact stamped_modify hl j _ (fun _ _=>rfl) (fun e' _ hd=>by rw[hj]at hd; cases hd; exact h3.symm)
  ·intro p hp
   rcases aN.1 hp with hp | hp
   ·exact hk p (by simp[hp])
   ·rcases aT.1 hp with rfl | hp
    ·exact⟨kl,hc⟩
    ·exact hk p (by simp[hp])
theorem ik.del {m1 m2:List (Value×Value)} {old:Value} (h:ik P k w b (m1++(key,old)::m2)) (K:Keyed P k) (ht:P.underlying t=some (.map k e)) (ty:TypeId):
  ∃w',(Builtin.delete_ #[t,k] ty #[.map (some b),key]).run P w= .ok (.tuple #[]) w'/\ik P k w' b (m1++m2)/\w.grownBy w' (some b):=by
 have hh:=h.nodup;obtain⟨es,clock,hb,he,hj,hk⟩:=h;obtain⟨kl,hd⟩:=hk (key,old) (by simp)
 rcases K.find w hd es.toList (jJ.keys he hk)with⟨h1,h2⟩ | ⟨j,e0,h1,h2,h3⟩
 ·exfalso
  have:(key,old)∈es.toList.map (fun e=>(e.key,e.val)):=by rw[he]; simp
  obtain⟨x,hx,hl⟩:=aP.1 this;exact h2 x hx (congrArg Prod.fst hl)
 ·have ha:j<es.toList.length:=(aD.1 h2).1;have hg:j<es.size:=by simpa using ha
  have hc:(es.eraseIdxIfInBounds j).toList=es.toList.eraseIdx j:=by unfold Array.eraseIdxIfInBounds;rw[dif_pos hg];simp
  have hf:j=m1.length:=by
   have h4:(m1++(key,old)::m2)[j]? =some (e0.key,e0.val):=by rw[<-he,bh,h2]; rfl
   have h5:((m1++(key,old)::m2).map Prod.fst)[j]? =some key:=by rw[bh,h4]; simp[h3]
   have h6:((m1++(key,old)::m2).map Prod.fst)[m1.length]? =some key:=by simp
   have ha:=(aD.1 h5).1;exact(List.getElem?_inj ha hh).1 (h5.trans h6.symm)
  refine⟨ChangeMaps.setBlock w b (.map (es.eraseIdxIfInBounds j) clock), ?_,⟨_,_,qL hb _, ?_,stamped_erase hj j, ?_⟩,lR hb _⟩
  ·simp[Builtin.delete_,run_underlying ht,MapKept.run_getObj_map hb,K.check w _ hd,h1,MapKept.run_setObj_map _ hb,Result.andThen,ChangeMaps.setBlock]
  ·rw[hc,map_eraseIdx,he,hf];rw[List.eraseIdx_append_of_length_le (ai _)];simp
  ·intro p hp
   rcases aN.1 hp with hp | hp
   ·exact hk p (by simp[hp])
   ·exact hk p (by simp[hp])
theorem ik.len (h:ik P k w b m) (ht:P.underlying t=some (.map k e)) (ty:TypeId):(Builtin.len_ #[t] ty #[.map (some b)]).run P w= .ok (.int .i64 (m.length:Int)) w:=by
 obtain⟨es,clock,hb,he,_⟩:=h;have:es.size=m.length:=by rw[<-he]; simp
 simp[Builtin.len_,run_underlying ht,MapKept.run_getObj_map hb,goInt,Result.andThen,this]
def pN (P:Program) (k:TypeId) (w:World) (b r:Nat) (m vis:List (Value×Value)):Prop:=
 ∃es clock since seen c0,w.heap[b]? =some (.map es clock)/\es.toList.map (fun e=>(e.key,e.val))=m/\Stamped es clock/\(∀p∈m,∃l,keyOf P k p.1=some l)/\
  w.heap[r]? =some (.mapIter (some b) since seen c0)/\(∀x∈es.toList,x.born<since)/\since<=c0/\since<=clock/\vis.Perm ((es.toList.filter fun x=>seen.contains x.born).map (fun e=>(e.key,e.val)))
theorem pN.map {r:Nat} {vis:List (Value×Value)} (h:pN P k w b r m vis):ik P k w b m:=by obtain⟨es,clock,_,_,_,hb,he,hs,hk,_⟩:=h;exact⟨es,clock,hb,he,hs,hk⟩
theorem pN.same {r:Nat} {vis:List (Value×Value)} (h:pN P k w b r m vis) (h1:w'.heap[b]? =w.heap[b]?) (h2:w'.heap[r]? =w.heap[r]?):pN P k w' b r m vis:=by obtain⟨es,clock,since,seen,c0,hb,he,hs,hk,hr,h3⟩:=h;exact⟨es,clock,since,seen,c0,h1.trans hb,he,hs,hk,h2.trans hr,h3⟩
theorem pN.ne {r:Nat} {vis:List (Value×Value)} (h:pN P k w b r m vis):r≠b:=by
 obtain⟨es,clock,since,seen,c0,hb,_,_,_,hr,_⟩:=h;intro e1;subst e1;rw[hb]at hr
 cases hr
theorem pN.sub {r:Nat} {vis:List (Value×Value)} (h:pN P k w b r m vis): ∀p∈vis,p∈m:=by obtain⟨es,clock,since,seen,c0,hb,he,hs,hk,hr,_,_,_,hv⟩:=h;intro p hp;obtain⟨x,hx,rfl⟩:=aP.1 (hv.subset hp);rw[<-he];exact aP.2 ⟨x,(dV.1 hx).1,rfl⟩
theorem tu {α:Type} (p:α->Bool): ∀(l:List α),(l.filter p).length+(l.filter fun x=> !p x).length=l.length
 | []=>rfl
 | a::l=>by
  have:=tu p l
  cases h:p a<;> simp[h]<;> omega
theorem pN.left {r:Nat} {vis:List (Value×Value)} (h:pN P k w b r m vis):w.rangeLeft b r+vis.length=m.length:=by
 obtain⟨es,clock,since,seen,c0,hb,he,hs,hk,hr,_,_,_,hv⟩:=h;have h1:w.rangeLeft b r=(leftOf es seen).size:=by simp only[World.rangeLeft,hb,hr]
 have h2:(leftOf es seen).size=(es.toList.filter fun x=> !seen.contains x.born).length:=by unfold leftOf;rw[<-Array.toList_filter,Array.length_toList]
 have h3:=tu (fun x:MapEntry=>seen.contains x.born) es.toList;rw[h1,h2,hv.length_eq,aw,<-he,aw];omega
theorem ik.range (h:ik P k w b m) (ht:P.underlying t=some (.map k e)):
  ∃w',(Instr.range t (.map (some b))).run P w= .ok (.pointer (some ⟨w.heap.size,0,none⟩)) w'/\pN P k w' b w.heap.size m []/\Below w.heap.size w w'/\w'.heap.size=w.heap.size+1:=by
 have ha:=h.lt;obtain⟨es,clock,hb,he,hs,hk⟩:=h;refine⟨_,run_range_map w t k e b es clock ht hb,⟨es,clock,clock, #[],clock,((MapKept.heap_alloc w _).2 b ha).trans hb,he,hs,hk,(MapKept.heap_alloc w _).1,((stamped_iff es clock).1 hs).1,ai _,ai _, ?_⟩,eW,by simp⟩;simp
theorem OJ {es:Array MapEntry} {clock:Nat} (hs:Stamped es clock) {x y:MapEntry} (hx:x∈es.toList) (hy:y∈es.toList) (h:x.born=y.born):x=y:=born_inj ((stamped_iff es clock).1 hs).2.1 hx hy h
theorem KC {es:List MapEntry} {seen:Array Nat} {e0:MapEntry} (hn:es.Nodup) (hinj: ∀x∈es,x.born=e0.born->x=e0) (he:e0∈es) (h0:seen.contains e0.born=false):
  ((es.filter fun x=>seen.contains x.born)++[e0]).Perm (es.filter fun x=>(seen.push e0.born).contains x.born):=by
 refine(List.perm_ext_iff_of_nodup ?_ (hn.filter _)).2 (fun x=> ?_)
 ·rw[gR];refine⟨hn.filter _,by simp,fun a ha c hc=> ?_⟩;simp only[aE]at hc;subst hc;rintro rfl;rw[dV]at ha;rw[ha.2]at h0
  cases h0
 ·simp only[aN,dV,aE,contains_push,gK,kf]
  constructor
  ·rintro(⟨h1,h2⟩ | rfl)
   ·exact⟨h1, .inl h2⟩
   ·exact⟨he, .inr rfl⟩
  ·rintro⟨h1,h2 | h2⟩
   ·exact .inl ⟨h1,h2⟩
   ·exact .inr (hinj x h1 h2)
theorem pN.next {r:Nat} {vis:List (Value×Value)} (h:pN P k w b r m vis) (ty:TypeId):
  (vis.Perm m/\(Instr.next (.pointer (some ⟨r,0,none⟩)) false ty).run P w= .ok (.tuple #[.bool false]) w)\/
  ∃key v w',(key,v)∈m/\(∀p∈vis,p.1≠key)/\(Instr.next (.pointer (some ⟨r,0,none⟩)) false ty).run P w= .ok (.tuple #[.bool true,key,v]) w'/\
   pN P k w' b r m (vis++[(key,v)])/\w.grownBy w' (some r)/\w'.heap.size=w.heap.size/\(Instr.entry (.pointer (some ⟨r,0,none⟩))).run P w'= .ok (.tuple #[key,v]) w':=by
 have hw:=h.ne;obtain⟨es,clock,since,seen,c0,hb,he,hs,hk,hr,hf,hB,hn,hv⟩:=h;have hl:=(stamped_iff es clock).1 hs
 rcases run_next_at (P:=P) w ty r b since c0 seen es clock hr hb hf hB with⟨h0,hc⟩ | ⟨e0,hq,w1,hg,hc⟩
 ·refine Or.inl ⟨?_,hc⟩;have:(es.toList.filter fun x=>seen.contains x.born)=es.toList:=by rw[List.filter_eq_self];intro x hx;exact all_seen es seen h0 x hx
  rw[this,he]at hv;exact hv
 ·obtain⟨hd,hh⟩:=mem_left hq;have hA:w1.heap[r]? =some (.mapIter (some b) since seen c0):=by rcases hg with rfl | rfl<;> exact hr
  have ho:w1.heap[b]? =some (.map es clock):=by rcases hg with rfl | rfl<;> exact hb
  have ha:=heap_set (o':= .mapIter (some b) since (seen.push e0.born) clock) hA;have hm:(ChangeMaps.setBlock w1 r (.mapIter (some b) since (seen.push e0.born) clock)).heap[b]? =some (.map es clock):=(ha.2 b (fun e1=>hw e1.symm)).trans ho;have hu:es.toList.Nodup:=by have:=hl.2.1;unfold List.Nodup at this;rw[fU]at this;exact this.imp (fun h e=>h (by rw[e]))
  have hj: ∀x∈es.toList,x.born=e0.born->x=e0:=fun x hx hE=>OJ hs hx hd hE
  have hz:=KC hu hj hd hh;refine Or.inr ⟨e0.key,e0.val,_,by rw[<-he]; exact aP.2 ⟨e0,hd,rfl⟩,fun p hp hy=> ?_,hc,⟨es,clock,since,seen.push e0.born,clock,hm,he,hs,hk,ha.1,hf,hn,hn, ?_⟩, ?_, ?_,
   run_entry_at _ r b since seen es clock e0 ha.1 hm hd hl.2.1⟩
  ·obtain⟨x,hx,rfl⟩:=aP.1 (hv.subset hp);obtain⟨hC,hD⟩:=dV.1 hx;have:x=e0:=entry_eq_of_key hl.2.2 hC hd hy;subst this;rw[hD]at hh
   cases hh
  ·refine(hv.append_right _).trans ?_;have:=hz.map (fun e:MapEntry=>(e.key,e.val));rw[aL]at this;exact this
  ·rcases hg with rfl | rfl<;> exact⟨rfl,rfl,rfl,by simp[ChangeMaps.setBlock],fun i _ hi=>ha.2 i (fun e1=>hi (by rw[e1]))⟩
  ·rcases hg with rfl | rfl<;> simp[ChangeMaps.setBlock]
end
section
variable {P : Program} {w : World} {ops : Array Oper} {rest : List Oper} {o : Oper} {a : Act} {Q : Exit → Act → World → Prop} {k e : TypeId}
theorem ze (hg:o.guard=none) (mo:Operand) (t:TypeId) (hop:o.op=Op.range t mo) (ht:P.underlying t=some (.map k e)) (b:Nat) (m:List (Value×Value)) (hm:a.eval mo= .map (some b)) (h:ik P k w b m)
  (hK: ∀w',pN P k w' b w.heap.size m []->Below w.heap.size w w'->w'.heap.size=w.heap.size+1->wpList P ops Q rest (a.put o.dst (.pointer (some ⟨w.heap.size,0,none⟩))) w'):wpList P ops Q (o::rest) a w:=by
 refine fJ hg fun K' hb=> ?_
 obtain⟨w',ha,r1,r2,r3⟩:=h.range ht;unfold Oper.wp;simp[execOp,hop,hm,ha,Result.andThen];exact hb _ _ (hK w' r1 r2 r3)
theorem Cb (hg:o.guard=none) (it:Operand) (hop:o.op=Op.next it false) (b r:Nat) (m vis:List (Value×Value)) (hit:a.eval it= .pointer (some ⟨r,0,none⟩)) (h:pN P k w b r m vis)
  (hDone:vis.Perm m->wpList P ops Q rest (a.put o.dst (.tuple #[.bool false])) w)
  (hMore: ∀(key v:Value) (w':World),(key,v)∈m->(∀p∈vis,p.1≠key)->pN P k w' b r m (vis++[(key,v)])->w.grownBy w' (some r)->w'.heap.size=w.heap.size->
   (Instr.entry (.pointer (some ⟨r,0,none⟩))).run P w'= .ok (.tuple #[key,v]) w'->wpList P ops Q rest (a.put o.dst (.tuple #[.bool true,key,v])) w'):wpList P ops Q (o::rest) a w:=by
 refine fJ hg fun K' hb=> ?_
 unfold Oper.wp
 rcases h.next o.type with⟨h0,ha⟩ | ⟨key,v,w',h1,h2,ha,h3,h4,h5,h6⟩
 ·simp[execOp,hop,hit,ha,Result.andThen];exact hb _ _ (hDone h0)
 ·simp[execOp,hop,hit,ha,Result.andThen];exact hb _ _ (hMore key v w' h1 h2 h3 h4 h5 h6)
theorem jY (K:Keyed P k) (hg:o.guard=none) (mo x v:Operand) (t:TypeId) (hop:o.op=Op.mapUpdate t mo x v) (ht:P.underlying t=some (.map k e)) (b:Nat) (m:List (Value×Value)) (h:ik P k w b m) (hmo:a.eval mo= .map (some b)) (key val:Value) (hx:a.eval x=key) (hv:a.eval v=val) (hkey: ∃l,keyOf P k key=some l) (hnew: ∀p∈m,p.1≠key)
  (hK: ∀w',ik P k w' b (m++[(key,val)])->w.grownBy w' (some b)->wpList P ops Q rest (a.put o.dst undef) w'):wpList P ops Q (o::rest) a w:=by
 refine fJ hg fun K' hb=> ?_
 obtain⟨w',ha,r1,r2⟩:=h.put K ht hkey hnew val;unfold Oper.wp;simp[execOp,hop,hmo,hx,hv,ha,Result.andThen];exact hb _ _ (hK w' r1 r2)
theorem qo (K:Keyed P k) (hg:o.guard=none) (mo x v:Operand) (t:TypeId) (hop:o.op=Op.mapUpdate t mo x v) (ht:P.underlying t=some (.map k e)) (b:Nat) (m1 m2:List (Value×Value)) (key val old:Value) (h:ik P k w b (m1++(key,old)::m2)) (hmo:a.eval mo= .map (some b)) (hx:a.eval x=key) (hv:a.eval v=val)
  (hK: ∀w',ik P k w' b (m1++(key,val)::m2)->w.grownBy w' (some b)->wpList P ops Q rest (a.put o.dst undef) w'):wpList P ops Q (o::rest) a w:=by
 refine fJ hg fun K' hb=> ?_
 obtain⟨w',ha,r1,r2⟩:=h.over K ht val;unfold Oper.wp;simp[execOp,hop,hmo,hx,hv,ha,Result.andThen];exact hb _ _ (hK w' r1 r2)
end
end
section
def lU :Nat->List UInt8->List Int
 | 0,_=>[]
 | n+1,l=>if l=[]then []else((Lib.decodeL l).1:Int)::lU n (l.drop (Lib.decodeL l).2)
def uB (l:List UInt8):List Int:=lU l.length l
def Ma {T:Type} (f:List T->Bool):List T->Bool
 | []=>f []
 | t::us=>f (t::us) || Ma f us
def QF {T:Type} (m:T->Bool) (f:List T->Bool):List T->Bool
 | []=>false
 | t::us=>m t && f us
def dv {P T:Type} (star:P->Bool) (m:P->T->Bool):List P->List T->Bool
 | [],ts=>ts.isEmpty
 | p::ps,ts=>if star p then Ma (dv star m ps) ts else QF (m p) (dv star m ps) ts
theorem mZ (l:List UInt8) (h:l≠[]):1<=(Lib.decodeL l).2/\(Lib.decodeL l).2<=l.length:=⟨Lib.decodeL_width l,Lib.decodeL_le l h⟩
theorem tN : ∀(n m:Nat) (l:List UInt8),l.length<=n->l.length<=m->lU n l=lU m l
 | 0,m,l,h,_=>by have:l=[]:=bq (by omega);subst this; cases m<;> simp[lU]
 | n,0,l,_,h=>by have:l=[]:=bq (by omega);subst this; cases n<;> simp[lU]
 | n+1,m+1,l,h1,h2=>by
  unfold lU
  split
  ·rfl
  ·rename_i hl;have:=mZ l hl;rw[tN n m (l.drop (Lib.decodeL l).2) (by rw[bz]; omega) (by rw[bz]; omega)]
theorem En (l:List UInt8) (h:l≠[]):uB l=((Lib.decodeL l).1:Int)::uB (l.drop (Lib.decodeL l).2):=by
 have h1:=mZ l h;have hl:l.length=(l.length-1)+1:=by have:=List.length_pos_iff.2 h; omega
 unfold uB;rw[hl,lU,if_neg h,tN _ (l.drop (Lib.decodeL l).2).length (l.drop (Lib.decodeL l).2) (by rw[bz]; omega) (ai _)]
theorem ri : ∀(n:Nat) (l:List UInt8),(lU n l).length<=n
 | 0,_=>by simp[lU]
 | n+1,l=>by
  unfold lU
  split
  ·simp
  ·have:=ri n (l.drop (Lib.decodeL l).2); simp; omega
theorem yU (l:List UInt8):(uB l).length<=l.length:=ri _ _
theorem mD {a b:UInt8} (h:iA a=iA b):a=b:=by
 unfold iA at h
 split at h<;> split at h
 ·simp[*]
 ·omega
 ·omega
 ·apply gN.1; omega
theorem Ny (a:UInt8) (h:a≠47):0<=iA a:=by unfold iA; rw[if_neg h]; omega
theorem QE : ∀(a b:List UInt8),ft a b= -1\/ft a b=0\/ft a b=1
 | [],[]=>by simp[ft]
 | [],_::_=>by simp[ft]
 | _::_,[]=>by simp[ft]
 | a::l,b::r=>by
  unfold ft
  split
  ·exact QE l r
  ·unfold Lib.compareInt; split
   ·simp
   ·split<;> simp
theorem Bp : ∀(a b:List UInt8),ft b a= -ft a b
 | [],[]=>by simp[ft]
 | [],_::_=>by simp[ft]
 | _::_,[]=>by simp[ft]
 | a::l,b::r=>by
  unfold ft
  by_cases h:a=b
  ·rw[if_pos h,if_pos h.symm]; exact Bp l r
  ·rw[if_neg h,if_neg (kT h)];have:iA a≠iA b:=fun e=>h (mD e)
   unfold Lib.compareInt
   rcases Int.lt_trichotomy (iA a) (iA b)with h1 | h1 | h1
   ·rw[if_neg (by omega),if_pos (by omega),if_pos h1]; rfl
   ·exact absurd h1 this
   ·rw[if_pos (by omega),if_neg (by omega),if_pos (by omega)]
theorem CF : ∀(a b:List UInt8),ft a b=0<->a=b
 | [],[]=>by simp[ft]
 | [],_::_=>by simp[ft]
 | _::_,[]=>by simp[ft]
 | a::l,b::r=>by
  unfold ft
  by_cases h:a=b
  ·rw[if_pos h,CF l r]; simp[h]
  ·rw[if_neg h];have:iA a≠iA b:=fun e=>h (mD e)
   unfold Lib.compareInt
   constructor
   ·intro e; split at e
    ·omega
    ·split at e<;> omega
   ·intro e; simp at e; exact absurd e.1 h
theorem zr : ∀(a b c:List UInt8),ft a b<=0->ft b c<=0->ft a c<=0/\(ft a c=0->ft a b=0/\ft b c=0)
 | [],b,[],h1,h2=>by
  cases b with
  | nil=>simp[ft]
  | cons x b=>simp[ft]at h2
 | [],_,_::_,_,_=>by simp[ft]
 | _::_,[],_,h1,_=>by simp[ft]at h1
 | x::a,y::b,[],_,h2=>by simp[ft]at h2
 | x::a,y::b,z::c,h1,h2=>by
  unfold ft at h1 h2 ⊢
  by_cases hxy:x=y
  ·subst hxy;rw[if_pos rfl]at h1 ⊢
   by_cases hxz:x=z
   ·subst hxz;rw[if_pos rfl]at h2 ⊢;rw[if_pos rfl];exact zr a b c h1 h2
   ·rw[if_neg hxz]at h2 ⊢;rw[if_neg hxz];refine⟨h2,fun e=> ?_⟩
    exfalso
    have:iA x≠iA z:=fun e=>hxz (mD e)
    unfold Lib.compareInt at e
    split at e
    ·omega
    ·split at e<;> omega
  ·rw[if_neg hxy]at h1 ⊢;have n1:iA x≠iA y:=fun e=>hxy (mD e)
   have l1:iA x<iA y:=by
    unfold Lib.compareInt at h1
    split at h1
    ·assumption
    ·split at h1
     ·omega
     ·omega
   by_cases ha:y=z
   ·subst ha;rw[if_neg hxy];refine⟨h1,fun e=> ?_⟩
    exfalso
    unfold Lib.compareInt at e;rw[if_pos l1]at e; omega
   ·rw[if_neg ha]at h2;have n2:iA y≠iA z:=fun e=>ha (mD e)
    have l2:iA y<iA z:=by
     unfold Lib.compareInt at h2
     split at h2
     ·assumption
     ·split at h2<;> omega
    have n3:x≠z:=fun e=>by subst e; omega
    rw[if_neg n3];unfold Lib.compareInt;rw[if_pos (by omega)];exact⟨by omega,fun e=>by omega⟩
theorem Bo : ∀(p q:List UInt8),ft p (p++q)<=0
 | [],[]=>by simp[ft]
 | [],_::_=>by simp[ft]
 | a::p,q=>by rw[aK,ft,if_pos rfl]; exact Bo p q
theorem uU : ∀(d b r:List UInt8),ft d b<=0->ft b (d++47::r)<=0->b=d\/ ∃s,b=d++47::s
 | [],[],_,_,_=> .inl rfl
 | [],x::b,r,_,h2=>by
  by_cases hx:x=47
  ·exact .inr ⟨b,by simp[hx]⟩
  ·rw[aI,ft,if_neg hx]at h2;have h3:=Ny x hx;have h4:iA 47= -1:=rfl;unfold Lib.compareInt at h2;rw[h4,if_neg (by omega),if_pos (by omega)]at h2;omega
 | y::d,[],_,h1,_=>by simp[ft]at h1
 | y::d,x::b,r,h1,h2=>by
  rw[aK]at h2;unfold ft at h1 h2
  by_cases hxy:y=x
  ·subst hxy;rw[if_pos rfl]at h1 h2
   rcases uU d b r h1 h2 with h | ⟨s,h⟩
   ·exact .inl (by rw[h])
   ·exact .inr ⟨s,by rw[h]; rfl⟩
  ·rw[if_neg hxy]at h1;rw[if_neg (kT hxy)]at h2;have n1:iA y≠iA x:=fun e=>hxy (mD e)
   unfold Lib.compareInt at h1 h2
   split at h1
   ·split at h2
    ·omega
    ·first | omega | (split at h2<;> omega)
   ·first | omega | (split at h1<;> omega)
theorem te (k n:Nat) (z:Int) (h:z=((k+n:Nat):Int)):UInt8.ofNat k+UInt8.ofNat n=UInt8.ofNat z.toNat:=by subst h; rw[eQ,UInt8.ofNat_add]
theorem Fm (r:Nat):(Utf8.encode (r:Int)).data.toList=Lib.encodeRune (r:Int):=by
 unfold Lib.encodeRune
 by_cases c1:r<128
 ·have v:Utf8.valid (r:Int)=true:=by simp[Utf8.valid]; omega
  rw[Lib.encodeRuneZ_one (by omega) (by omega)]; simp[Utf8.encode,v,c1]
 by_cases c2:r<2048
 ·have v:Utf8.valid (r:Int)=true:=by simp[Utf8.valid]; omega
  rw[Lib.encodeRuneZ_two (by omega) (by omega)]; simp[Utf8.encode,v,c1,c2]; exact⟨te 192 _ _ (by omega),te 128 _ _ (by omega)⟩
 by_cases hb:(55296<=r/\r<=57343)\/1114111<r
 ·have v:Utf8.valid (r:Int)=false:=by simp[Utf8.valid]; omega
  rw[Lib.encodeRuneZ_bad (by omega)]; simp[Utf8.encode,v,Utf8.runeError]
 by_cases c3:r<65536
 ·have v:Utf8.valid (r:Int)=true:=by simp[Utf8.valid]; omega
  rw[Lib.encodeRuneZ_three (by omega)]; simp[Utf8.encode,v,c1,c2,c3]; exact⟨te 224 _ _ (by omega),te 128 _ _ (by omega),te 128 _ _ (by omega)⟩
 ·have v:Utf8.valid (r:Int)=true:=by simp[Utf8.valid]; omega
  rw[Lib.encodeRuneZ_four (by omega) (by omega)]; simp[Utf8.encode,v,c1,c2,c3]; exact⟨te 240 _ _ (by omega),te 128 _ _ (by omega),te 128 _ _ (by omega),te 128 _ _ (by omega)⟩
def BQ (l:List UInt8):List UInt8:=(uB l).flatMap Lib.encodeRune
theorem BR :BQ []=[]:=rfl
theorem Ei (l:List UInt8) (h:l≠[]):BQ l=Lib.encodeRune ((Lib.decodeL l).1:Int)++BQ (l.drop (Lib.decodeL l).2):=by unfold BQ; rw[En l h,bm]
theorem wR (r:Int):(Lib.encodeRune r).length<=4:=by have:=(Lib.encodeRuneZ_length r).2; simpa [Lib.encodeRune]using this
theorem IP : ∀(n:Nat) (l:List UInt8),l.length<=n->l.length<=(BQ l).length/\(BQ l=l<->Lib.validD l=true)
 | 0,l,h=>by have:l=[]:=bq (by omega);subst this;exact⟨by simp,by simp[BR,Lib.validD_nil]⟩
 | n+1,l,h=>by
  by_cases hl:l=[]
  ·subst hl;exact⟨by simp,by simp[BR,Lib.validD_nil]⟩
  ·have hw:=mZ l hl;obtain⟨ih1,ih2⟩:=IP n (l.drop (Lib.decodeL l).2) (by rw[bz]; omega);rw[bz]at ih1;rw[Ei l hl,Lib.validD_step l hl]
   by_cases hb:(Lib.decodeL l).1=65533/\(Lib.decodeL l).2=1
   ·have e3:(Lib.encodeRune ((Lib.decodeL l).1:Int)).length=3:=by rw[hb.1]; rfl
    rw[if_pos hb];refine⟨by rw[ag,e3]; omega,⟨fun e=> ?_,fun e=>by cases e⟩⟩;have:=congrArg List.length e;rw[ag,e3]at this;omega
   ·rw[if_neg hb,Lib.encode_decode l hl hb];refine⟨by rw[ag,bn]; omega, ?_⟩;rw[<-ih2]
    constructor
    ·intro e;have h2:l.take (Lib.decodeL l).2++BQ (l.drop (Lib.decodeL l).2)=l.take (Lib.decodeL l).2++l.drop (Lib.decodeL l).2:=by rw[dx]; exact e
     exact List.append_cancel_left h2
    ·intro e; rw[e,dx]
theorem KJ (l:List UInt8):(BQ l == l)=Lib.validD l:=by rw[dq,kf]; exact(IP l.length l (ai _)).2
theorem CH (l:List UInt8):((dg 47 l).length == 1)= !l.contains 47:=by
 by_cases h:(47:UInt8)∈l
 ·obtain⟨p,q,rfl,hp⟩:=zR l 47 h;have:=sT 47 q;rw[oZ 47 p q hp];have h2:((p::dg 47 q).length == 1)=false:=by rw[ij]; simp; exact pJ 47 q
  rw[h2]; simp
 ·rw[fP 47 l h]; simp[h]
theorem EG (ps:List (List UInt8)) (p:List UInt8):jT (ps++[p])=if ps=[]then p else jT ps++[47]++p:=by
 cases ps with
 | nil=>simp[jT,Lib.join_one]
 | cons q ps=>
  simp only[aK,jT,Lib.join_cons,if_neg (List.cons_ne_nil q ps)];have: ∀(l:List (List UInt8)),Lib.joinTail [47] (l++[p])=Lib.joinTail [47] l++47::p:=by
   intro l
   induction l with
   | nil=>simp[Lib.joinTail]
   | cons a l _=>simp only[aK,Lib.joinTail]; simp
  rw[this]; simp
theorem CG {p:List UInt8} (h:iO p=true):p≠[]/\p≠[46]/\p≠[46,46]/\47∉p:=by simp only[iO,aF]at h;obtain⟨⟨⟨⟨⟨h1,_⟩,h2⟩,h3⟩,h4⟩,_⟩:=h;exact⟨by simpa using h1,by simpa using h2,by simpa using h3,by simpa using h4⟩
theorem ro {l:List UInt8} (h:dH l=true): ∀p∈dg 47 l,iO p=true:=by simp only[dH,aF]at h;exact cu.1 h.2
open Go.RowKit
structure dd where
 path:ByteArray
 kind:Int
 mode:Int
 time:Int
 data:List UInt8
 link:ByteArray
deriving DecidableEq
def pg (l:List UInt8):Bool:=decide (1<=l.length) && decide (l.length<=512) && !l.contains 0
def lr (e:dd):Bool:=
 if e.kind=1 then decide (e.data.length<=1048576) && decide (e.link.size=0)
 else if e.kind=2 then decide (e.data.length=0) && decide (e.link.size=0)
 else if e.kind=3 then decide (e.data.length=0) && pg (bl e.link)
 else false
def pf (e:dd):Bool:=decide (0<=e.mode) && decide (e.mode<=511) && decide (0<=e.time)
def ig (e:dd):Bool:=dH (bl e.path) && pf e && lr e
def kV (L:List dd) (p:ByteArray):Option dd:=L.find? fun e=>decide (e.path=p)
def ny (L:List dd) (p:List UInt8):Int:=if p=[]then 0 else match kV L ⟨p.toArray⟩with
 | none=>4
 | some e=>if e.kind=2 then 0 else 13
def nV (a b:dd):Int:=ft (bl a.path) (bl b.path)
def nP (pre:List dd) (e:dd):Bool:=match pre.getLast? with
 | none=>true
 | some f=>decide (nV f e<0)
def fX (pre:List dd) (e:dd):Int:=if(ig e && nP pre e)=true then ny pre (cr (bl e.path))else 1
def oV :List dd->List dd->Int
 | _,[]=>0
 | pre,e::r=>if fX pre e=0 then oV (pre++[e]) r else fX pre e
def iD (L:List dd):Int:=if 4096<L.length then 2 else oV [] L
theorem IL {p:ByteArray} {l:List UInt8} (h:bl p=l):p=⟨l.toArray⟩:=kr (by rw[h]; simp[bl])
theorem wG (a b:dd):nV b a= -nV a b:=Bp _ _
theorem pn {a b:dd} :nV a b=0<->a.path=b.path:=by unfold nV; rw[CF]; exact⟨kr,fun h=>by rw[h]⟩
theorem rX {a b c:dd} (h1:nV a b<0) (h2:nV b c<0):nV a c<0:=by
 obtain⟨h3,h4⟩:=zr (bl a.path) (bl b.path) (bl c.path) (by unfold nV at h1; omega) (by unfold nV at h2; omega)
 rcases Int.lt_or_eq_of_le h3 with h | h
 ·exact h
 ·have:=(h4 h).1; unfold nV at h1; omega
def jk (L:List dd):Prop:=L.Pairwise fun a b=>nV a b<0
theorem jk.nodup {L:List dd} (h:jk L):(L.map dd.path).Nodup:=by unfold List.Nodup;rw[fU];exact List.Pairwise.imp (fun h e=>by have:=pn.2 e; omega) h
theorem jk.filter {L:List dd} (h:jk L) (p:dd->Bool):jk (L.filter p):=List.Pairwise.filter p h
theorem rj : ∀ {L M:List dd},jk L->jk M->L.Perm M->L=M
 | [],M,_,_,hp=>by rw[List.nil_perm.1 hp]
 | a::L,[],_,_,hp=>by exact absurd hp.length_eq (by simp)
 | a::L,b::M,hl,hm,hp=>by
  obtain⟨hl1,hl2⟩:=fc.1 hl;obtain⟨hm1,hm2⟩:=fc.1 hm;have hab:a=b:=by
   have h1:a∈b::M:=hp.subset (by simp);have h2:b∈a::L:=hp.symm.subset (by simp)
   rcases aT.1 h1 with h1 | h1
   ·exact h1
   ·rcases aT.1 h2 with h2 | h2
    ·exact h2.symm
    ·have h3:=hm1 a h1;have h4:=hl1 b h2;have h5:=wG a b;omega
  subst hab;rw[rj hl2 hm2 hp.cons_inv]
theorem sF {L:List dd} {p:ByteArray} {e:dd} (h:kV L p=some e):e∈L/\e.path=p:=by unfold kV at h;exact⟨dR h,by have:=jz h; simpa using this⟩
theorem xa {L:List dd} {p:ByteArray} (h:kV L p=none): ∀e∈L,e.path≠p:=by unfold kV at h;rw[eZ]at h;intro e he hp;exact h e he (by simp[hp])
theorem JO {L:List dd} (hn:(L.map dd.path).Nodup) {e:dd} (he:e∈L):kV L e.path=some e:=by
 cases h:kV L e.path with
 | none=>exact absurd rfl (xa h e he)
 | some f=>
  obtain⟨h1,h2⟩:=sF h;have:f=e:=by
   unfold List.Nodup at hn;rw[fU,List.pairwise_iff_getElem]at hn;obtain⟨i,hi,rfl⟩:=eh h1;obtain⟨j,hj,rfl⟩:=eh he
   by_cases hb:i=j
   ·subst hb; rfl
   ·exfalso
    rcases Nat.lt_or_gt_of_ne hb with ha | ha
    ·exact hn i j hi hj ha h2
    ·exact hn j i hj hi ha h2.symm
  rw[this]
structure Bi (L : List dd) : Prop where
 ord:jk L
 val: ∀e∈L,ig e=true
 up: ∀e∈L,ny L (cr (bl e.path))=0
 len:L.length<=4096
theorem Bi.nil :Bi []:=⟨fp,by simp,by simp,by simp⟩
theorem Bi.nodup {L:List dd} (h:Bi L):(L.map dd.path).Nodup:=h.ord.nodup
theorem dj {e:dd} (h:ig e=true):dH (bl e.path)=true:=by unfold ig at h; simp only[aF]at h; exact h.1.1
theorem tY {l:List UInt8} (h:dH l=true):l≠[]:=by intro e; subst e; exact absurd h (by decide)
theorem mH {l:List UInt8} (h:dH l=true):l.length<=512:=by simp only[dH,aF,aJ]at h; exact h.1.1
theorem ui {L:List dd} {p:List UInt8} (h:ny L p=0) (hp:p≠[]): ∃f∈L,bl f.path=p/\f.kind=2:=by
 unfold ny at h;rw[if_neg hp]at h
 cases hf:kV L ⟨p.toArray⟩with
 | none=>rw[hf]at h; simp at h
 | some f=>
  rw[hf]at h;simp only at h;obtain⟨h1,h2⟩:=sF hf
  split at h
  ·exact⟨f,h1,by rw[h2]; simp[bl],by assumption⟩
  ·simp at h
theorem vS {L:List dd} (hn:(L.map dd.path).Nodup) {p:List UInt8} (h:p=[]\/ ∃f∈L,bl f.path=p/\f.kind=2):ny L p=0:=by
 unfold ny
 by_cases hp:p=[]
 ·rw[if_pos hp]
 ·rw[if_neg hp]
  rcases h with h | ⟨f,h1,h2,h3⟩
  ·exact absurd h hp
  ·have:f.path=⟨p.toArray⟩:=IL h2;rw[<-this,JO hn h1];simp only[if_pos h3]
theorem tg {d q r:List UInt8} (h:q=d++47::r):cr q=d\/ ∃s,cr q=d++47::s:=by
 obtain⟨p,t,hq,ht⟩:=ob q (by rw[h]; simp);have ha:cr q=p:=by rw[hq]; exact lJ p t ht
 rw[ha];have he:p++47::t=d++47::r:=by rw[<-hq,h]
 rcases List.append_eq_append_iff.1 he with⟨a,h1,h2⟩ | ⟨a,h1,h2⟩
 ·cases a with
  | nil=>left; simpa using h1.symm
  | cons x a=>
   exfalso
   rw[aK,gL]at h2
   apply ht
   rw[h2.2];simp
 ·cases a with
  | nil=>left; simpa using h1
  | cons x a=>
   right
   rw[aK,gL]at h2;exact⟨a,by rw[h1,<-h2.1]⟩
theorem fF {l:List UInt8} (h:dH l=true):(cr l).length<l.length:=by
 by_cases hm:(47:UInt8)∈l
 ·obtain⟨p,t,hq,ht⟩:=ob l hm;have:cr l=p:=by rw[hq]; exact lJ p t ht
  rw[this,hq]; simp
 ·rw[oh l hm];have:=tY h
  cases l with
  | nil=>exact absurd rfl this
  | cons=>simp
def PF (M:List dd) (x:dd):Prop:=cr (bl x.path)=[]\/ ∃f∈M,bl f.path=cr (bl x.path)/\f.kind=2
theorem GD {L:List dd} {x:dd} (h:ny L (cr (bl x.path))=0):PF L x:=by
 by_cases hp:cr (bl x.path)=[]
 ·exact .inl hp
 ·obtain⟨f,h1,h2,h3⟩:=ui h hp;exact .inr ⟨f,h1,h2,h3⟩
theorem Bi.has {L:List dd} (h:Bi L) {e:dd} (he:e∈L):PF L e:=GD (h.up e he)
theorem qV {l:List UInt8} (h:cr l≠[]): ∃t,l=cr l++47::t:=by
 by_cases hm:(47:UInt8)∈l
 ·obtain⟨p,q,rfl,hq⟩:=ob l hm;exact⟨q,by rw[lJ p q hq]⟩
 ·exact absurd (oh l hm) h
theorem zx {L M:List dd} (hm:(M.map dd.path).Nodup) (hs: ∀x∈L,x∈M) {p:List UInt8} (h:ny L p=0):ny M p=0:=by
 by_cases hp:p=[]
 ·exact vS hm (.inl hp)
 ·obtain⟨f,h1,h2,h3⟩:=ui h hp;exact vS hm (.inr ⟨f,hs f h1,h2,h3⟩)
structure Tr (L : List dd) : Prop where
 ord:jk L
 val: ∀e∈L,ig e=true
 up: ∀e∈L,ny L (cr (bl e.path))=0
theorem yP {e f:dd} (hv:ig e=true) (hp:cr (bl e.path)≠[]) (hf:bl f.path=cr (bl e.path)):nV f e<0:=by
 obtain⟨t,ht⟩:=qV hp;have h1:nV f e<=0:=by
  unfold nV;rw[hf,ht];have:=Bo (cr (bl e.path)) (47::t);have h2:cr (cr (bl e.path)++47::t)=cr (bl e.path):=by rw[<-ht]
  rw[h2]; exact this
 rcases Int.lt_or_eq_of_le h1 with h | h
 ·exact h
 ·have h2:=pn.1 h;have h3:=fF (dj hv);rw[<-hf,h2]at h3;omega
theorem Tr.pre {L M:List dd} (h:Tr (L++M)):Tr L:=by
 obtain⟨s1,s2,s3⟩:=dS.1 h.ord;refine⟨s1,fun e he=>h.val e (by simp[he]),fun e he=> ?_⟩;have hu:=GD (h.up e (by simp[he]));refine vS (jk.nodup s1) ?_
 rcases hu with hu | ⟨f,h1,h2,h3⟩
 ·exact .inl hu
 ·by_cases hp:cr (bl e.path)=[]
  ·exact .inl hp
  ·right
   have hb:=yP (h.val e (by simp[he])) hp h2
   rcases aN.1 h1 with h1 | h1
   ·exact⟨f,h1,h2,h3⟩
   ·have h4:=s3 e he f h1;have h5:=wG e f;omega
theorem wl {pre:List dd} (hs:jk pre) {e:dd} :nP pre e=true<->jk (pre++[e]):=by
 unfold nP
 cases hl:pre.getLast? with
 | none=>
  rw[List.getLast?_eq_none_iff]at hl;subst hl;simp[jk]
 | some f=>
  obtain⟨ys,hy⟩:=List.getLast?_eq_some_iff.1 hl;simp only[aJ]
  constructor
  ·intro h;refine dS.2 ⟨hs,by simp,fun a ha b hb=> ?_⟩;simp only[aE]at hb;subst hb;rw[hy]at ha hs
   rcases aN.1 ha with ha | ha
   ·exact rX ((dS.1 hs).2.2 a ha f (by simp)) h
   ·simp only[aE]at ha; subst ha; exact h
  ·intro h;exact(dS.1 h).2.2 f (by rw[hy]; simp) e (by simp)
theorem qC {pre:List dd} (h:Tr pre) (e:dd):fX pre e=0<->Tr (pre++[e]):=by
 unfold fX
 constructor
 ·intro hc
  split at hc
  ·rename_i ha;rw[aF]at ha;have hs:=(wl h.ord).1 ha.2;have hm: ∀x∈pre,x∈pre++[e]:=fun x hx=>by simp[hx]
   refine⟨hs,fun x hx=> ?_,fun x hx=> ?_⟩
   ·rcases aN.1 hx with hx | hx
    ·exact h.val x hx
    ·simp only[aE]at hx; subst hx; exact ha.1
   ·rcases aN.1 hx with hx | hx
    ·exact zx hs.nodup hm (h.up x hx)
    ·simp only[aE]at hx; subst hx; exact zx hs.nodup hm hc
  ·simp at hc
 ·intro ht;have hv:=ht.val e (by simp);rw[if_pos (by rw[hv,(wl h.ord).2 ht.ord]; rfl)];refine vS h.ord.nodup ?_
  rcases GD (ht.up e (by simp))with hu | ⟨f,h1,h2,h3⟩
  ·exact .inl hu
  ·rcases aN.1 h1 with h1 | h1
   ·exact .inr ⟨f,h1,h2,h3⟩
   ·simp only[aE]at h1;subst h1;have:=fF (dj hv);rw[<-h2]at this; omega
theorem wy : ∀ {r pre:List dd},Tr pre->(oV pre r=0<->Tr (pre++r))
 | [],pre,h=>by simp only[oV,ci]; exact⟨fun _=>h,fun _=>trivial⟩
 | e::r,pre,h=>by
  have h1:=qC h e;rw[oV]
  split
  ·rename_i hc;have:=wy (r:=r) (h1.1 hc);rw[this]; simp
  ·rename_i hc
   constructor
   ·intro h2; exact absurd h2 hc
   ·intro h2;have h3:Tr (pre++[e]):=Tr.pre (M:=r) (by simpa using h2);exact absurd (h1.2 h3) hc
theorem pP {L:List dd} :iD L=0<->Bi L:=by
 unfold iD
 split
 ·rename_i h;exact⟨fun h2=>by simp at h2,fun h2=>by have:=h2.len; omega⟩
 ·rename_i h;rw[wy (r:=L) (pre:=[]) ⟨fp,by simp,by simp⟩,aI];exact⟨fun t=>⟨t.ord,t.val,t.up,by omega⟩,fun t=>⟨t.ord,t.val,t.up⟩⟩
theorem nM {p:ByteArray} :p.size=0<->bl p=[]:=by rw[bi]; exact List.length_eq_zero_iff
def u8V (b:UInt8):Value:= .int .u8 (b.toNat:Int)
def el (S:Nat->Prop) (w:World) (v:Value) (bs:List UInt8):Prop:=cD S w 1 v bs.length (bs.map u8V)
theorem el.below {S:Nat->Prop} {w w':World} {v:Value} {bs:List UInt8} (h:el S w v bs) (hb:Below w.heap.size w w'):el S w' v bs:=cD.below h (by omega) hb
theorem el.nil (S:Nat->Prop) (w:World):el S w (.slice none 0 0) []:=cD.nil _ _ _
def wU (v:Value) (e:dd):Value:= .agg #[.string e.path, .int .i64 e.kind, .int .i64 e.mode, .int .i64 e.time,v, .string e.link]
def vC (v:Value) (e:dd):List Value:=[.string e.path, .int .i64 e.kind, .int .i64 e.mode, .int .i64 e.time,v, .string e.link]
structure jP (e : dd) : Prop where
 pth:e.path.size<=maxLen
 lnk:e.link.size<=maxLen
 knd:(Lit.int .i64 e.kind).wf=true
 mde:(Lit.int .i64 e.mode).wf=true
 tim:(Lit.int .i64 e.time).wf=true
def mj (S:Nat->Prop) (w:World) (c:List Value) (e:dd):Prop:= ∃v,c=vC v e/\el S w v e.data/\jP e
theorem mj.len {S:Nat->Prop} {w:World} (c:List Value) (e:dd) (h:mj S w c e):c.length=6:=by obtain⟨v,rfl,_⟩:=h; rfl
theorem mj.below {S:Nat->Prop} {w w':World} {c:List Value} {e:dd} (h:mj S w c e) (hb:Below w.heap.size w w'):mj S w' c e:=by obtain⟨v,h1,h2,h3⟩:=h;exact⟨v,h1,h2.below hb,h3⟩
def dY (S:Nat->Prop) (w:World) (v:Value) (l:List dd):Prop:=cN S w 6 (mj S w) v l
theorem dY.below {S:Nat->Prop} {w w':World} {v:Value} {l:List dd} (h:dY S w v l) (hb:Below w.heap.size w w'):dY S w' v l:=
 cN.below h (by omega) hb (fun _ _ _ hr=>hr.below hb)
theorem dY.nil (S:Nat->Prop) (w:World):dY S w (.slice none 0 0) []:=cN.nil
theorem jN {S:Nat->Prop} {w:World} {a:Option Addr} {n cap:Nat} {l:List dd} (hv:dY S w (.slice a n cap) l) {k:Nat} {e:dd} (hr:l[k]? =some e):
  ∃b o v,a=some ⟨b,o,none⟩/\S b/\b<w.heap.size/\el S w v e.data/\jP e/\n=l.length/\w.cell? ⟨b,o+k*6,none⟩=some (.string e.path)/\w.cell? ⟨b,o+k*6+1,none⟩=some (.int .i64 e.kind)/\w.cell? ⟨b,o+k*6+2,none⟩=some (.int .i64 e.mode)/\w.cell? ⟨b,o+k*6+3,none⟩=some (.int .i64 e.time)/\w.cell? ⟨b,o+k*6+4,none⟩=some v/\w.cell? ⟨b,o+k*6+5,none⟩=some (.string e.link):=by
 obtain⟨a',cap',he,hn,hm,hg⟩:=cN.shape hv mj.len;simp only[cY]at he;obtain⟨rfl,rfl,rfl⟩:=he;obtain⟨b,o,c,ha,hb,⟨v,hc,hd,hh⟩,hl,hj⟩:=hg k e hr;subst hc;have hf:=hj 0 (by omega);exact⟨b,o,v,ha,hb,bP (hf.trans rfl),hd,hh,rfl,hf,by have h:=hj 1 (by omega); rwa [<-dk]at h,by have h:=hj 2 (by omega); rwa [<-dk]at h,by have h:=hj 3 (by omega); rwa [<-dk]at h,by have h:=hj 4 (by omega); rwa [<-dk]at h,by have h:=hj 5 (by omega); rwa [<-dk]at h⟩
open Go Go.RowKit Go.Maps
abbrev oU :=Value×dd
theorem fw :Keyed Tryz.prog 9:=string_keyed ee
theorem gY {n:ByteArray} (h:n.size<=maxLen): ∃l,keyOf Tryz.prog 9 (.string n)=some l:=⟨.string n.data.toList,by simp[keyOf,mapKey,Tryz.underlying9,h]⟩
section
variable {S S' : Nat → Prop} {w w' : World} {mb : Nat} {xs : List oU}
end
def QU :Value:= .agg #[.string ByteArray.empty, .int .i64 0, .int .i64 0, .int .i64 0, .slice none 0 0, .string ByteArray.empty]
section
variable {S S' : Nat → Prop} {w w' : World} {tb mb : Nat} {L : List dd}
end
section
variable {S S' : Nat → Prop} {w w' : World} {tb mb : Nat} {L : List dd} {xs : List oU} {t : TypeId}
end
section
variable {P : Program} {w : World} {ops : Array Oper} {rest : List Oper} {o : Oper} {a : Act} {Q : Exit → Act → World → Prop}
theorem zd {Φ:World->Prop} (hg:o.guard=none) (mo x:Operand) (t k:TypeId) (hop:o.op=Op.call {callee:=Callee.builtin Builtin.delete,args:= #[mo,x],argTypes:= #[t,k]}) (mv key:Value) (hmo:a.eval mo=mv) (hx:a.eval x=key) (hrun: ∃w',(Builtin.delete_ #[t,k] o.type #[mv,key]).run P w= .ok (.tuple #[]) w'/\Φ w')
  (hK: ∀w',Φ w'->wpList P ops Q rest (a.put o.dst (.tuple #[])) w'):wpList P ops Q (o::rest) a w:=by
 refine fJ hg fun K' ha=> ?_
 obtain⟨w',hr,h2⟩:=hrun;unfold Oper.wp;simp[execOp,hop,resolve,invoke,builtin,hmo,hx,hr,Result.andThen];exact ha _ _ (hK w' h2)
end
end
section
open Go.RowKit
theorem ar {w:World} {b k:Nat} {cs:Array Value} {t:TypeId} {x:Nat×Nat} (h:w.heap[b]? =some (.cells cs t x)):w.cell? ⟨b,k,none⟩=cs[k]? :=by simp[World.cell?,h]
theorem Di (s:ByteArray) (w:World):Calls Tryz.prog 136 #[.string s, .int .u8 0] w fun e w'=>e= .returned (.int .i64 (Lib.indexByte (bl s) 0))/\w=w':=
 (Tryz.strings_IndexByte s 0 w).mono fun _ _ ⟨he,hw⟩=>⟨he,hw.symm⟩
theorem yZ (s:ByteArray) (w:World) (hs:s.size<=maxLen):Calls Tryz.prog 149 #[.string s] w fun e w'=>e= .returned (.bool (pg (bl s)))/\w=w':=by
 unfold maxLen at hs;have HX:=ah (show pg (bl s)=(decide (1<=s.size) && decide (s.size<=512) && !(bl s).contains 0) by unfold pg; rw[bi]);have HI:=ah (lC (bl s) 0)
 go_enter Tryz.func149,Tryz.ntmps149
 go_wp2_with (go_at_call 136; refine(Di s _).mono ?_; rintro e w3 ⟨rfl,rfl⟩)
 ·go_ret;refine⟨bX ?_,rfl⟩;have z1:decide (1<=s.size)=true:=by simp; omega
  have z2:decide (s.size<=512)=true:=by simp; omega
  rw[HX.o,z1,z2,<-HI.o];rw[dq];simp
 ·go_ret;refine⟨bX ?_,rfl⟩;have z2:decide (s.size<=512)=false:=by simp; omega
  rw[HX.o,z2];simp
 ·go_ret;refine⟨bX ?_,rfl⟩;have z1:decide (1<=s.size)=false:=cB (by omega);rw[HX.o,z1];simp
theorem sV (s:ByteArray) (b:Bool) (w:World) (he:oz w) (h:dH (bl s)=b):Calls Tryz.prog 119 #[.string s] w fun e w'=>e= .returned (.bool b)/\Below w.heap.size w w':=by rw[<-h]; exact uJ s w he
theorem GF (S:Nat->Prop) (en:dd) (v:Value) (w:World) (hd:el S w v en.data) (hok:jP en) (henv:oz w):Calls Tryz.prog 117 #[wU v en] w fun e w'=>e= .returned (.bool (ig en))/\Below w.heap.size w w':=by
 obtain⟨_,a,cap,rfl,hc,hm,-⟩:=hd;unfold maxLen at hm;have HE:=ah henv;have HO:=ah hok;have hp:=hok.pth;have hq:=hok.lnk;unfold maxLen at hp hq;have HL:=ah (show en.link.toList.isEmpty=decide (en.link.size=0) by rw[eN,bi,dq]; simp);clear henv hok;unfold wU
 cases hv:dH (bl en.path)
 ·have hk:=ah hv;clear hv
  go_enter Tryz.func117,Tryz.ntmps117
  go_wp2_with fail;obtain⟨W,hW⟩:=bI (w.alloc (.cells #[.string en.path, .int .i64 en.kind, .int .i64 en.mode, .int .i64 en.time, .slice a en.data.length cap, .string en.link] 79));rw[<-hW];have hg:=ah (show Below w.heap.size w W by rw[hW]; exact eW);have hh:=ah (show W.heap[w.heap.size]? =some (.cells #[.string en.path, .int .i64 en.kind, .int .i64 en.mode, .int .i64 en.time, .slice a en.data.length cap, .string en.link] 79 (0,0)) by rw[hW]; exact aG w _)
  clear hW;refine(sV en.path false _ (HE.o.below hg.o) hk.o).mono ?_;rintro e w1 ⟨rfl,he⟩;have ha:=ah (aj hg.o he);clear he;go_wp2_with fail;go_ret;exact⟨bX (by simp[ig,hk.o]),ha.o⟩
 ·have hk:=ah hv;clear hv
  by_cases ho:0<=en.mode/\en.mode<=511/\0<=en.time
  ·have HH:=ah (show ig en=lr en by obtain⟨x1,x2,x3⟩:=ho; unfold ig pf; rw[hk.o]; simp[x1,x2,x3]);obtain⟨hr,hs,hu⟩:=ho
   go_enter Tryz.func117,Tryz.ntmps117
   go_wp2_with fail;obtain⟨W,hW⟩:=bI (w.alloc (.cells #[.string en.path, .int .i64 en.kind, .int .i64 en.mode, .int .i64 en.time, .slice a en.data.length cap, .string en.link] 79));rw[<-hW];have hg:=ah (show Below w.heap.size w W by rw[hW]; exact eW);have hh:=ah (show W.heap[w.heap.size]? =some (.cells #[.string en.path, .int .i64 en.kind, .int .i64 en.mode, .int .i64 en.time, .slice a en.data.length cap, .string en.link] 79 (0,0)) by rw[hW]; exact aG w _)
   clear hW;refine(sV en.path true _ (HE.o.below hg.o) hk.o).mono ?_;rintro e w1 ⟨rfl,he⟩;have hb:=ah ((he.block w.heap.size ((aM.1 hh.o).1)).trans hh.o);have ha:=ah (aj hg.o he);have hn:w.heap.size<w1.heap.size:=(aM.1 hb.o).1;obtain⟨c0,c1,c2,c3,c4,c5,_⟩:=aS hb.o;clear he hh
   by_cases hf:en.kind=1
   ·have e1:(en.kind == 1)=true:=by simp[hf]
    have HK:=ah (show lr en=(decide (en.data.length<=1048576) && decide (en.link.size=0)) by unfold lr; rw[if_pos hf]);clear hf;go_wp2_with fail
    ·go_ret;refine⟨bX ?_,ha.o⟩;rw[HH.o,HK.o,HL.o,cR (p:=en.data.length<=1048576) (by omega)]
     rfl
    ·go_ret;refine⟨bX ?_,ha.o⟩;rw[HH.o,HK.o,cB (p:=en.data.length<=1048576) (by omega)]
     rfl
   ·have e1:(en.kind == 1)=false:=by simp[hf]
    by_cases hj:en.kind=2
    ·have e2:(en.kind == 2)=true:=by simp[hj]
     have HK:=ah (show lr en=(decide (en.data.length=0) && decide (en.link.size=0)) by unfold lr; rw[if_neg hf,if_pos hj]);clear hf hj;go_wp2_with fail
     ·go_ret;refine⟨bX ?_,ha.o⟩;rw[HH.o,HK.o,HL.o,cR (p:=en.data.length=0) (by rw[show en.data=[] by assumption]; rfl)]
      rfl
     ·go_ret;refine⟨bX ?_,ha.o⟩;rw[HH.o,HK.o,cB (p:=en.data.length=0) (fun h=>absurd (bq h) (by assumption))]
      rfl
    ·have e2:(en.kind == 2)=false:=by simp[hj]
     by_cases hl:en.kind=3
     ·have e3:(en.kind == 3)=true:=by simp[hl]
      have HK:=ah (show lr en=(decide (en.data.length=0) && pg (bl en.link)) by unfold lr; rw[if_neg hf,if_neg hj,if_pos hl]);clear hf hj hl;go_wp2_with (go_at_call 149; refine(yZ en.link _ HO.o.lnk).mono ?_; rintro e w3 ⟨rfl,rfl⟩)
      ·go_ret;refine⟨bX ?_,ha.o⟩;rw[HH.o,HK.o,cR (p:=en.data.length=0) (by rw[show en.data=[] by assumption]; rfl)]
       rfl
      ·go_ret;refine⟨bX ?_,ha.o⟩;rw[HH.o,HK.o,cB (p:=en.data.length=0) (fun h=>absurd (bq h) (by assumption))]
       rfl
     ·have e3:(en.kind == 3)=false:=by simp[hl]
      have HK:=ah (show lr en=false by unfold lr; rw[if_neg hf,if_neg hj,if_neg hl]);clear hf hj hl;go_wp2_with fail;go_ret;exact⟨bX (by rw[HH.o,HK.o]),ha.o⟩
  ·have HF:=ah (show ig en=false by
    have:pf en=false:=by unfold pf; rw[fo]; simp; omega
    unfold ig; rw[this]; simp)
   go_enter Tryz.func117,Tryz.ntmps117
   go_wp2_with fail;obtain⟨W,hW⟩:=bI (w.alloc (.cells #[.string en.path, .int .i64 en.kind, .int .i64 en.mode, .int .i64 en.time, .slice a en.data.length cap, .string en.link] 79));rw[<-hW];have hg:=ah (show Below w.heap.size w W by rw[hW]; exact eW);have hh:=ah (show W.heap[w.heap.size]? =some (.cells #[.string en.path, .int .i64 en.kind, .int .i64 en.mode, .int .i64 en.time, .slice a en.data.length cap, .string en.link] 79 (0,0)) by rw[hW]; exact aG w _)
   clear hW;refine(sV en.path true _ (HE.o.below hg.o) hk.o).mono ?_;rintro e w1 ⟨rfl,he⟩;have hb:=ah ((he.block w.heap.size ((aM.1 hh.o).1)).trans hh.o);have ha:=ah (aj hg.o he);have hn:w.heap.size<w1.heap.size:=(aM.1 hb.o).1;obtain⟨c0,c1,c2,c3,c4,c5,_⟩:=aS hb.o;clear he hh;go_wp2_with fail
   all_goals first
    | (exfalso; omega)
    | (go_ret; exact⟨bX (by rw[HF.o]),ha.o⟩)
theorem JE (S:Nat->Prop) (v:Value) (bs:List UInt8) (w:World) (hd:el S w v bs) (hl:bs.length<=140737488355328):Calls Tryz.prog 175 #[v] w fun e w'=> ∃v',e= .returned v'/\w'.ownsRow w.heap.size 5 1 v' bs.length (bs.map u8V)/\Below w.heap.size w w':=by
 obtain⟨_,a,cap,rfl,hn,hm,h0⟩:=hd
 cases a with
 | none=>
  have hz:bs.length=0:=by
   rcases h0 with h0 | ⟨b,o,ha,_⟩
   ·exact h0
   ·cases ha
  obtain rfl:=bq hz;refine(Any.bytes_Clone_nil Tryz.laysClone _ _ w).mono ?_;rintro e w' ⟨rfl,rfl⟩;exact⟨_,rfl,bM _ _ _ _,ak _ _⟩
 | some a=>
  refine(Any.bytes_Clone_at Tryz.laysClone a bs.length cap (bs.map fun b=>(b.toNat:Int)) w (by simp) hl ?_).mono ?_
  ·intro i hi
   rcases h0 with h0 | ⟨b,o,ha,_,hc⟩
   ·omega
   ·cases ha
    rw[tf];refine hc i _ ?_;simp[hi,u8V]
  ·rintro e w' ⟨v',rfl,h1,_,h2⟩;refine⟨v',rfl, ?_,h2⟩;rw[je]at h1;exact h1
theorem gB {w:World} {base base' size n:Nat} {e:TypeId} {v:Value} {xs:List Value} (h:w.ownsRow base e size v n xs) (hb:base'<=base):w.ownsRow base' e size v n xs:=
 ⟨h.1,h.2.imp id (fun⟨g,cap,cur,e1,h1,h2⟩=>⟨g,cap,cur,e1,an hb h1,h2⟩)⟩
theorem qK {w:World} {b k:Nat} {cs:Array Value} {t:TypeId} (h:w.heap[b]? =some (.cells cs t (0,0))):w.frozen? ⟨b,k,none⟩=false:=by simp[World.frozen?,h]
theorem NJ {w:World} {b k:Nat} {cs:Array Value} {t:TypeId} (h:w.heap[b]? =some (.cells cs t (0,0))) (x:Value):(w.setCell ⟨b,k,none⟩ x).heap[b]? =some (.cells (cs.setIfInBounds k x) t (0,0)):=by simp only[World.setCell,gD,if_true,h,dW]; rfl
theorem xV {w:World} {b c k:Nat} {o:Obj} (h:w.heap[b]? =some o) (hne:b≠c) (x:Value):(w.setCell ⟨c,k,none⟩ x).heap[b]? =some o:=by rw[ay _ _ _ _ hne]; exact h
theorem nu {w:World} {b:Nat} {o:Obj} (h:w.heap[b]? =some o) (x:Obj):(w.alloc x).heap[b]? =some o:=by have ha:=(aM.1 h).1;rw[cS _ _ _ ha]; exact h
theorem ep (w:World) (x:Obj):(w.alloc x).heap[w.heap.size]? =some x:=by show(w.heap.push x)[w.heap.size]? =some x; simp
theorem qa (w:World) (x y:Obj):((w.alloc x).alloc y).heap[w.heap.size+1]? =some y:=by
 have:=ep (w.alloc x) y
 rwa [show(w.alloc x).heap.size=w.heap.size+1 by show(w.heap.push x).size=_; simp]at this
theorem mf {w:World} {b:Nat} {o:Obj} (h:w.heap[b]? =some o):b<w.heap.size:=(aM.1 h).1
open Go Go.RowKit
theorem rJ {S:Nat->Prop} {w:World} {a:Option Addr} {n cap:Nat} {bs:List UInt8} (h:bD S w (.slice a n cap) bs) {s e:Nat} (hs:s<e) (he:e<=bs.length):
  ∃a' cap',(∀w',(Instr.slice 29 (.slice a n cap) (some (.int .i64 (s:Int))) (some (.int .i64 (e:Int))) none).run Tryz.prog w'= .ok (.slice a' (ja bs s e).length cap') w')/\bD S w (.slice a' (ja bs s e).length cap') (ja bs s e):=by
 obtain⟨hl,a0,cap0,hv,hn,hm,h0⟩:=h;simp only[cY]at hv;obtain⟨rfl,rfl,rfl⟩:=hv;have hz: ∀w',(sizeOf (Tryz.prog.elem 29)).run Tryz.prog w'= .ok 1 w':=fun _=>by kernel_rfl
 have ha:(ja bs s e).length=e-s:=by unfold ja; rw[bn,bz]; omega
 refine⟨if cap-s=0 then a else a.map (fun p=>p.add s),cap-s,fun w'=> ?_, ?_⟩
 ·rw[run_slice_lh _ _ _ _ _ dm .i64 .i64 (s:Int) (e:Int) (by omega) (by omega) (by omega),hz,ha];simp only[Result.andThen,sliced,eQ,jI];rw[if_neg (by omega: ¬cap-s=0)]
  try rw[if_neg (by omega)]
 ·refine⟨by simp,_,_,rfl,by omega,by omega, ?_⟩
  rcases h0 with h0 | ⟨b,o,rfl,hS,hc⟩
  ·omega
  ·refine .inr ⟨b,o+s, ?_,hS,fun j x hj=> ?_⟩
   ·rw[if_neg (by omega),dW,jV]
   ·rw[dk];refine hc (s+j) x ?_;unfold ja at hj;rw[List.map_take,List.map_drop,eA]at hj
    split at hj
    ·rw[fG]at hj; exact hj
    ·cases hj
def QC (k n:Nat):Prop:=k=1-> ¬1048576<n
def sy (c:fC) (n:Nat):Int:=if jU c=true then(if 1048576<n then 2 else 0)else 1
theorem oE (c:fC) (b:Bool) (w:World) (h:jU c=b):Calls Tryz.prog 70 #[kB c] w fun e w'=>e= .returned (.bool b)/\Below w.heap.size w w':=by rw[<-h]; exact Bw c w
theorem wB (c:fC) (a:Option Addr) (n cap sb:Nat) (w:World) (hx:w.cell? ⟨sb,0,none⟩=some (.slice a n cap)) (hm:n<=maxLen):
  Calls Tryz.prog 173 #[kB c, .slice (some ⟨sb,0,none⟩) 1 1] w fun e w'=>e= .returned (.int .i64 (sy c n))/\Below w.heap.size w w':=by
 unfold maxLen at hm;have HX:=ah hx;clear hx;unfold kB
 by_cases hv:jU c=true
 ·have HV:=ah hv;have HE:=ah (show sy c n=if 1048576<n then 2 else 0 by unfold sy; rw[if_pos hv]);clear hv
  go_enter Tryz.func173,Tryz.ntmps173
  go_wp2_with (go_at_call 70; refine(oE c true _ HV.o).mono ?_; rintro e w1 ⟨rfl,hd⟩; have he:=ah (((ak _ _).alloc (ai w.heap.size) _).trans (hd.mono (by simp))); clear hd)
  go_loopw [12] (fun i wr=> ∃k:Nat,k<=1/\i= .int .i64 (k:Int)/\Below w.heap.size w wr/\QC k n) (fun i _=>1-(intOf i).toNat)
  ·exact⟨0,by omega,rfl,he.o,fun h=>by cases h⟩
  ·obtain⟨k,hk,rfl,hb,ha⟩:=hrel;have HB:=ah hb;have hf:=ah ha;clear hb ha
   by_cases h0:k=0
   ·subst h0;have hc:=(HB.o.cell (bP HX.o)).trans HX.o
    by_cases hn:1048576<n
    ·have hg:(1048576:Int)<(n:Int):=by omega
     go_wp2_with fail;go_ret;exact⟨dP (by rw[HE.o,if_pos hn]),HB.o⟩
    ·have hg:(n:Int)<=1048576:=by omega
     go_wp2_with fail
     go_roundw
     ·exact⟨1,by omega,by go_num,HB.o,fun _=>hn⟩
     simp[intOf]
   ·have h1:k=1:=by omega
    subst h1;go_wp2_with fail;go_ret;exact⟨dP (by rw[HE.o,if_neg (hf.o rfl)]),HB.o⟩
 ·have HV:=ah (show jU c=false by simpa using hv);have HE:=ah (show sy c n=1 by unfold sy; rw[if_neg hv]);clear hv
  go_enter Tryz.func173,Tryz.ntmps173
  go_wp2_with (go_at_call 70; refine(oE c false _ HV.o).mono ?_; rintro e w1 ⟨rfl,hd⟩; have he:=ah (((ak _ _).alloc (ai w.heap.size) _).trans (hd.mono (by simp))); clear hd);go_ret;exact⟨dP HE.o.symm,he.o⟩
theorem Mv (c:fC) (dv:Value) (w:World) (hd: ∃a n cap,dv= .slice a n cap):Calls Tryz.prog 174 #[kB c,dv] w fun e w'=>e= .returned (.func (.func 186) #[] #[.pointer (some ⟨w.heap.size,0,none⟩), .pointer (some ⟨w.heap.size+1,0,none⟩)])/\
  kY c dv w.heap.size (w.heap.size+1) w'/\Below w.heap.size w w'/\w'.heap.size=w.heap.size+2:=by
 obtain⟨a,n,cap,rfl⟩:=hd;unfold kB
 go_enter Tryz.func174,Tryz.ntmps174
 go_wp2_with fail;go_ret;exact⟨rfl,⟨nu (ep w _) _,qa w _ _⟩,(eW).alloc (by simp) _,by simp⟩
structure dl where
 nm:ByteArray
 st:ByteArray
 ck:ByteArray
 ix:ByteArray
 tk:ByteArray
def dl.list (k:dl):List ByteArray:=[k.nm,k.st,k.ck,k.ix,k.tk]
def eT (k:dl):List Value:=[.string k.nm, .string k.st, .string k.ck, .string k.ix, .string k.tk]
def kF (k:dl):Value:= .agg #[.string k.nm, .string k.st, .string k.ck, .string k.ix, .string k.tk]
def jK (k:dl):Bool:=k.list.all fun s=>decide (s.size=32)
theorem JY (k:dl) {j:Nat} (h:j<5): ∃s,k.list[j]? =some s/\(eT k)[j]? =some (.string s):=by
 have hc:j=0\/j=1\/j=2\/j=3\/j=4:=by omega
 rcases hc with rfl | rfl | rfl | rfl | rfl
 ·exact⟨_,rfl,rfl⟩
 ·exact⟨_,rfl,rfl⟩
 ·exact⟨_,rfl,rfl⟩
 ·exact⟨_,rfl,rfl⟩
 ·exact⟨_,rfl,rfl⟩
theorem yW (k:dl) (w:World):Calls Tryz.prog 115 #[kF k] w fun e w'=>e= .returned (.bool (jK k))/\Below w.heap.size w w':=by
 unfold kF
 go_enter Tryz.func115,Tryz.ntmps115
 go_wp2_with fail;obtain⟨W1,hb⟩:=bI ((w.alloc (.cells #[.string k.nm, .string k.st, .string k.ck, .string k.ix, .string k.tk] 42)).alloc (.cells #[.string k.nm, .string k.st, .string k.ck, .string k.ix, .string k.tk] 9));rw[<-hb];have hd:=ah (show Below w.heap.size w W1 by rw[hb]; exact(eW).alloc (by simp) _);have hk:=ah (show W1.heap[w.heap.size+1]? =some (.cells (eT k).toArray 9 (0,0)) by rw[hb];have:=aG (w.alloc (.cells #[.string k.nm, .string k.st, .string k.ck, .string k.ix, .string k.tk] 42)) (.cells #[.string k.nm, .string k.st, .string k.ck, .string k.ix, .string k.tk] 9);rw[show(w.alloc (.cells #[.string k.nm, .string k.st, .string k.ck, .string k.ix, .string k.tk] 42)).heap.size=w.heap.size+1 by simp]at this;exact this)
 clear hb
 go_loopw [17] (fun i wr=> ∃j:Nat,j<=5/\i= .int .i64 (j:Int)/\wr=W1/\(k.list.take j).all (fun s=>decide (s.size=32))=true) (fun i _=>5-(intOf i).toNat)
 ·exact⟨0,by omega,rfl,rfl,rfl⟩
 ·obtain⟨j,hj,rfl,rfl,ha⟩:=hrel;have HA:=ah ha;clear ha
  by_cases h5:j<5
  ·obtain⟨s,hg,hh⟩:=JY k h5;have c0:wr.cell? ⟨w.heap.size+1,j,none⟩=some (.string s):=by rw[br wr _ _ _ _ _ hk.o,aC]; exact hh
   have hl:(j:Int)<5:=by omega
   have HS:=ah hg;clear hg hh
   by_cases he:s.size=32
   ·have hc:(s.size:Int)=32:=by omega
    go_wp2_with fail
    go_roundw
    ·exact⟨j+1,by omega,by simp,trivial,by rw[bY,HS.o,List.all_append,HA.o]; simp[he]⟩
    simp[intOf]; omega
   ·have hc: ¬(s.size:Int)=32:=by omega
    go_wp2_with fail;go_ret;have hf:jK k=false:=by unfold jK;rw[List.all_eq_false];exact⟨s,aQ HS.o,by simpa using he⟩
    rw[hf];exact⟨rfl,hd.o⟩
  ·obtain rfl:j=5:=by omega
   go_wp2_with fail;go_ret;have hf:jK k=true:=HA.o;rw[hf];exact⟨rfl,hd.o⟩
theorem qj (k:dl) (b:Bool) (w:World) (h:jK k=b):Calls Tryz.prog 115 #[kF k] w fun e w'=>e= .returned (.bool b)/\Below w.heap.size w w':=by rw[<-h]; exact yW k w
theorem uG {k:dl} (h:jK k=true):k.nm.size=32/\k.st.size=32/\k.ck.size=32/\k.ix.size=32/\k.tk.size=32:=by unfold jK dl.list at h;simp only[List.all_cons,List.all_nil,Bool.and_true,aF,aJ]at h;exact h
def mi (k:dl) (g:Nat) (c:List UInt8):ByteArray:=⟨(yX (bl k.nm) (bE g++c)).toArray⟩
theorem lD (k:dl) (g:Nat) (c:List UInt8):(mi k g c).size=32:=by unfold mi; rw[bi,iX,EA]
theorem tP (S:Nat->Prop) (k:dl) (g:Nat) (c:List UInt8) (cv:Value) (w:World) (hk:jK k=true) (hg:g<=1099511627776) (hc:bD S w cv c) (hl:c.length<=32768) (hE:Bb w):
  Calls Tryz.prog 156 #[kF k, .int .i64 (g:Int),cv] w fun e w'=>e= .returned (.tuple #[.string (mi k g c), .int .i64 0])/\Below w.heap.size w w':=by
 have HK:=ah hk;have HC:=ah hc;have HE:=ah hE;obtain⟨_,a,cap,rfl,hu,hP,-⟩:=id hc;obtain⟨cl,hv⟩:=bI c.length;rw[<-hv]at hl HC ⊢;have ho:=ah hv;clear hk hc hE hv hu hP;unfold kF
 go_enter Tryz.func156,Tryz.ntmps156
 go_wp2_with fail;obtain⟨W1,hj⟩:=bI (w.alloc (.cells #[.string k.nm, .string k.st, .string k.ck, .string k.ix, .string k.tk] 42));rw[<-hj];have hD:=ah (show Below w.heap.size w W1 by rw[hj]; exact eW);have hM:=ah (show W1.heap[w.heap.size]? =some (.cells (eT k).toArray 42 (0,0)) by rw[hj]; exact aG w _);clear hj;refine(qj k true W1 HK.o).mono ?_;rintro e w1 ⟨rfl,hr⟩
 have hF:=ah (aj hD.o hr);have hN:=ah (er hr hM.o);clear hr;go_wp2_with fail;refine fd (fun w'=>w'.cell? ⟨w.heap.size,0,none⟩=some (.string k.nm)) (by kernel_rfl) ?_;obtain⟨V,hV⟩:=bI w1.drew;rw[<-hV];have hy:=ah (show Below w.heap.size w V by rw[hV]; exact hF.o.trans ((ak _ _).drew));have he:=ah (show V.heap[w.heap.size]? =some (.cells (eT k).toArray 42 (0,0)) by rw[hV]; exact hN.o)
 clear hV;have hh:V.cell? ⟨w.heap.size,0,none⟩=some (.string k.nm):=(br V _ _ _ _ _ he.o).trans rfl
 iterate 4 (refine cI rfl hh (by intro w' hC; go_simp; rfl) ?_; simp only[bN])
 refine dy 5 rfl hh (by intro w' hC; go_simp; rfl) ?_;simp only[bN];refine cC 4 rfl (fun K hK=> ?_);go_wp2_with fail;refine(wm g V (by omega)).mono ?_;rintro e w3 ⟨v3,rfl,hw,hm⟩;obtain⟨a3,c3,rfl,-,-⟩:=aH hw;have hn:=ah (aj hy.o hm);have hq:w3.cell? ⟨w.heap.size,0,none⟩=some (.string k.nm):=(hm.cell (p:=⟨w.heap.size,0,none⟩) (am he.o)).trans hh
 have hO:=hy.o.size;have hp:=ah hw;have hA:=ah (iL (n:=g) (by omega));have hd:=hm.size;clear hw hm hh;go_wp2_with fail;refine⟨hq, ?_⟩;refine cC 6 rfl (fun K hK=> ?_);have hI:=ah (show bD S w3 (.slice a cl cap) c from cD.below HC.o (by omega) hn.o);have hS:(bE g).length+cl<1099511627775:=by have:=hA.o; omega
 have hL:=ah (show cD S w3 1 (.slice a cl cap) cl (c.map aY) by have h9:=hI.o; unfold bD at h9; rw[<-ho.o]at h9; exact h9);go_wp2_with (at_builtin; go_loud (refine ew Tryz.appBytes rfl _ _ rfl V.heap.size (.slice a3 (bE g).length c3) (bE g).length ((bE g).map aY) rfl hp.o (.slice a cl cap) cl (c.map aY) rfl hL.o (fy c) hS hd ?_); intro v' wc hb ha; have hJ:=ah hb; have hz:=ah ha; obtain⟨a4,c4,rfl,-,-⟩:=aH hb; clear hb ha)
 have hx:=ah (show Below w.heap.size w wc from bZ hn.o hp.o hz.o hO hn.o.size);have hf:wc.cell? ⟨w.heap.size,0,none⟩=some (.string k.nm):=by rw[<-hq];exact cw (hz.o.block w.heap.size (by have:=am he.o; omega) (fun e=>by have h1:=(hp.o.lt _ e.symm).1; have:=am he.o; omega))
 have hH:=ah (show bD (fun _=>True) wc (.slice a4 ((bE g).length+cl) c4) (bE g++c) by have h9:=cJ hJ.o;rw[<-aL]at h9;unfold bD;rw[ag,<-ho.o];exact h9.weak (fun _ _=>trivial))
 have hR:(bE g++c).length<281474976710656:=by rw[ag,<-ho.o]; have:=hA.o; omega
 clear hq;refine⟨hf, ?_⟩;refine cC 7 rfl (fun K hK=> ?_);have hT:=(uG HK.o).1;go_wp2_with fail;refine(uZ (fun _=>True) k.nm (bE g++c) _ wc (by rw[hT]; decide) hH.o hR (HE.o.below hx.o)).mono ?_;rintro e w5 ⟨rfl,hs⟩;have hG:=ah (aj hx.o hs);have hB:w5.cell? ⟨w.heap.size,0,none⟩=some (.string k.nm):=(hs.cell (p:=⟨w.heap.size,0,none⟩) (block_lt_of_cell hf)).trans hf
 clear hs hf;go_wp2_with fail;refine⟨hB, ?_⟩
 iterate 2 (refine cI rfl hB (by intro w' hC; go_simp; rfl) ?_; simp only[bN])
 refine cL (by kernel_rfl) ?_;go_wp2_with fail
 go_ret2
 exact⟨rfl,hG.o⟩
theorem yV (k:dl) (w:World) (hE:Bb w):Calls Tryz.prog 69 #[kF k, .slice none 0 0] w fun e w'=>(∃v,e= .returned (.tuple #[v, .int .i64 (if jK k=true then 0 else 1)]))/\Below w.heap.size w w':=by
 have HE:=ah hE;clear hE;unfold kF
 by_cases hk:jK k=true
 ·rw[if_pos hk];have HK:=ah hk;clear hk
  go_enter Tryz.func69,Tryz.ntmps69
  go_wp2_with fail;obtain⟨W1,ha⟩:=bI (w.alloc (.cells #[.string k.nm, .string k.st, .string k.ck, .string k.ix, .string k.tk] 42));rw[<-ha];have hd:=ah (show Below w.heap.size w W1 by rw[ha]; exact eW);have he:=ah (show W1.heap[w.heap.size]? =some (.cells (eT k).toArray 42 (0,0)) by rw[ha]; exact aG w _);clear ha;refine(qj k true W1 HK.o).mono ?_
  rintro e w1 ⟨rfl,hb⟩;have hc:=ah (aj hd.o hb);have hl:=ah (er hb he.o);have c2:w1.cell? ⟨w.heap.size,2,none⟩=some (.string k.ck):=(br w1 _ _ _ _ _ hl.o).trans rfl;have hm:=(uG HK.o).2.2.1;clear hb;go_wp2_with fail;refine(uZ (fun _=>True) k.ck [] _ w1 (by rw[hm]; decide) (cD.nil _ _ _) (by decide) (HE.o.below hc.o)).mono ?_;rintro e w2 ⟨rfl,hf⟩
  have hh:=ah (aj hc.o hf);obtain⟨t,ht⟩: ∃t:ByteArray,t=⟨(yX (bl k.ck) []).toArray⟩:=⟨_,rfl⟩;have ho:t.size=32:=by rw[ht,bi,iX,EA]
  rw[<-ht];obtain⟨W3,cp,hn,-,hg,-⟩:=ug (t.extract 0 16) w2 (by have:=Lib.extract_data t 0 16; rw[ByteArray.size_extract]; unfold maxLen; omega);have hj:=ah (aj hh.o hg);clear hf ht hg c2;go_wp2_with fail
  go_ret2
  exact⟨⟨_,rfl⟩,hj.o⟩
 ·rw[if_neg hk];have HK:=ah (show jK k=false by simpa using hk);clear hk
  go_enter Tryz.func69,Tryz.ntmps69
  go_wp2_with fail;obtain⟨W1,ha⟩:=bI (w.alloc (.cells #[.string k.nm, .string k.st, .string k.ck, .string k.ix, .string k.tk] 42));rw[<-ha];have hd:=ah (show Below w.heap.size w W1 by rw[ha]; exact eW);have he:=ah (show W1.heap[w.heap.size]? =some (.cells (eT k).toArray 42 (0,0)) by rw[ha]; exact aG w _);clear ha;refine(qj k false W1 HK.o).mono ?_
  rintro e w1 ⟨rfl,hb⟩;have hc:=ah (aj hd.o hb);clear hb;go_wp2_with fail
  go_ret2
  exact⟨⟨_,rfl⟩,hc.o⟩
end
section
open Go
section
variable {P : Program} {l n : Nat}
theorem Cv {f:FuncId} {args:Array Value} {w:World} {R:Ending->World->Prop} (h:Calls P f args w R):CallsIn (Fence.wide.inRound l) n P f args w R:=CallsIn.inRound l (callsIn_wide.2 h)
theorem GE {o:Oper} {a:Act} {next:Act->World->Prop} {Q:Exit->Act->World->Prop} {r:Result Next} (h:o.upon P a next Q r):o.uponIn (Fence.wide.inRound l) n P a next Q r:=by
 cases r with
 | ok x w=>
  cases x with
  | value v=>exact h
  | skip=>exact h
  | defer d=>exact h
  | enter f args=>exact⟨fun e=>(by cases e),Cv h⟩
  | row row args=>
   exact⟨fun e=>(by cases e),fun c cs _=>by obtain⟨v,w',h1,h2⟩:=(show Rows P row args w _ from h) c cs;exact⟨v,w',h1,stepsIn_wide.2 h2⟩⟩
  | _=>exact h.elim
 | halt x w=>
  cases x<;> first | exact h | exact h.elim
def qc (o:Oper):Bool:=match o.op with | .defer _=>false | _=>true
theorem Ng {o:Oper} {a:Act} {w:World} {K:Act->World->Prop} {Q:Exit->Act->World->Prop} (hd:qc o=true) (h:o.wp P a w K Q):o.wpIn (Fence.wide.inRound l) n P a w K Q:=
 ⟨fun _ _=>trivial,by rw[Oper.semAt_eq _ _ _ (fun c e=>by simp[qc,e]at hd)];exact GE h⟩
theorem GJ {L:List Oper} {Q:Exit->Act->World->Prop} (hd:L.all qc=true) (hno: ¬LetsOut Q) {i:Nat} {K:Act->World->Prop} {a:Act} {w:World} (h:wpOp P L.toArray Q i K a w):wpOpIn (Fence.wide.inRound l) n P L.toArray Q i K a w:=by
 unfold wpOp at h;unfold wpOpIn
 cases hx:L.toArray[i]? with
 | none=>rw[hx]at h; exact h
 | some x=>
  rw[hx]at h;simp only at h ⊢;have ha:qc x=true:=cu.1 hd x (aQ (by simpa using hx))
  split at h
  ·rename_i hw;rw[if_pos hw]
   rcases h with h | h
   ·exact Ng ha h
   ·exact absurd h.2 hno
  ·rename_i hw;rw[if_neg hw];exact⟨fun _ _=>trivial,h⟩
theorem vz {L:List Oper} {md:Region.Mode} {Q:Exit->Act->World->Prop} (hd:L.all qc=true) (hno: ¬LetsOut Q): ∀(fuel:Nat) (listed:Array Bool) (a:Act) (w:World),wpAny P md L.toArray Q fuel listed a w->wpAnyIn (Fence.wide.inRound l) n P md L.toArray Q fuel listed a w
 | 0,_,_,_,h=>h
 | fuel+1,_,_,_,h=>⟨h.1,fun i hi=>wpOpIn_mono (fun a' w' h'=>vz hd hno fuel _ a' w' h') (GJ hd hno (h.2 i hi))⟩
theorem Fv {id:Nat} {a:Act} {w:World} {L:List Oper} {Q:Exit->Act->World->Prop} (S:World->Prop) (hm:P.follows .mixedOrders=true) (hnd:L.all qc=true) (hno: ¬LetsOut Q) (hB:Dv .any L=true)
  (h:pM P L.dropLast.toArray (zf P L.toArray (L.length-1) Q) S (L.length-1) (Array.replicate L.length false) a w.drew):(Code.region id L.toArray true).wpIn (Fence.wide.inRound l) n P Q a w:=by
 simp only[Dv,aF,aJ]at hB;obtain⟨⟨hc,hd⟩,hb⟩:=hB;have ha: ∀(i:Nat) (x:Oper),L[i]? =some x->(∀e∈x.after,e.on<i)/\ ∀j b,x.guard=some (j,b)->j<i:=fun i x hx=>by
  have:=cu.1 hb i (dU.2 (aD.1 hx).1);rw[hx]at this;simp only[aF]at this;refine⟨fun e he=> ?_,fun j b hg=> ?_⟩
  ·have:=Array.all_eq_true'.1 this.1 e he
   simpa using this
  ·have:=this.2;rw[hg]at this
   simpa using this
 refine wpIn_region_any hm ?_;have:=GZ hc hd (fun i x hx=>(ha i x hx).1) (fun i x j b hx=>(ha i x hx).2 j b) (L.length-1) _ a w.drew De (wpAny_of_held _ _ _ _ (by simpa using h.out));rw[show L.length-1+1=L.length by omega]at this;refine vz hnd hno _ _ _ _ ?_
 simpa using this
def MY (Q:Exit->Act->World->Prop):Exit->Act->World->Prop
 | .outgrown,_,_=>False
 | e,a,w=>Q e a w
@[go_sem] theorem BF (Q:Exit->Act->World->Prop) (a:Act) (w:World):MY Q .normal a w=Q .normal a w:=rfl
theorem Kq (Q:Exit->Act->World->Prop): ¬LetsOut (MY Q):=fun⟨_,_,h⟩=>h
theorem Fu {id:Nat} {a:Act} {w:World} {L:List Oper} {Q:Exit->Act->World->Prop} (S:World->Prop) (hm:P.follows .mixedOrders=true) (hnd:L.all qc=true) (hB:Dv .any L=true)
  (h:pM P L.dropLast.toArray (zf P L.toArray (L.length-1) (MY Q)) S (L.length-1) (Array.replicate L.length false) a w.drew):(Code.region id L.toArray true).wpIn (Fence.wide.inRound l) n P Q a w:=
 wpIn_mono (Fv S hm hnd (Kq Q) hB h) (fun e _ _ h=>by cases e<;> first | exact h | exact h.elim)
end
open Go Go.RowKit Go.Maps
theorem Tryz.appEnts :kw Tryz.prog 46 79 6 80:=kw.mk' (z:=QU) Tryz.underlying46 (by kernel_rfl) rfl (by decide) (by decide)
def iE (ys:List oU):List Value:=ys.flatMap fun y=>vC y.1 y.2
theorem wV (ys:List oU) (y:oU):iE (ys++[y])=iE ys++vC y.1 y.2:=by simp[iE]
theorem zE : ∀ys:List oU,(iE ys).length=ys.length*6
 | []=>rfl
 | y::ys=>by have:=zE ys;unfold iE at this ⊢;rw[bm,ag,this,az,show(vC y.1 y.2).length=6 from rfl]; omega
theorem lj {a:Option Addr} {n c:Nat} {e:dd} : ∀u∈vC (.slice a n c) e,u.oneCell'=true:=by
 intro u hu;simp only[vC,aT,dz,or_false]at hu
 rcases hu with rfl | rfl | rfl | rfl | rfl | rfl<;> rfl
theorem zD : ∀ {ys:List oU} {k:Nat} {y:oU},ys[k]? =some y-> ∀j,j<6->(iE ys)[k*6+j]? =(vC y.1 y.2)[j]?
 | [],k,_,h,_,_=>by simp at h
 | x::ys,0,y,h,j,hj=>by simp at h; subst h;unfold iE;rw[bm,jh,bT,bH (by exact hj)]
 | x::ys,k+1,y,h,j,hj=>by
  have:=zD (ys:=ys) (k:=k) (y:=y) (by simpa using h) j hj;unfold iE at this ⊢;rw[bm,bC (by show 6<=_; omega),<-this]
  congr 1
  show(k+1)*6+j-6=_
  omega
theorem CT {S:Nat->Prop} {w:World} : ∀ {ys:List oU},(∀y∈ys,el S w y.1 y.2.data/\jP y.2)->eO (mj S w) (iE ys) (ys.map Prod.snd)
 | [],_=>rfl
 | y::ys,h=>⟨vC y.1 y.2,iE ys,by simp[iE],⟨y.1,rfl,h y (by simp)⟩,CT (fun z hz=>h z (by simp[hz]))⟩
theorem Pj {w:World} {base n cap:Nat} {a:Option Addr} {ys:List oU} {m:Nat} (h:w.ownsRow base 79 6 (.slice a n cap) m (iE ys)) {k:Nat} {y:oU} (hk:ys[k]? =some y):
  ∃b,a=some ⟨b,0,none⟩/\base<=b/\b<w.heap.size/\n=ys.length/\w.cell? ⟨b,k*6,none⟩=some (.string y.2.path)/\w.cell? ⟨b,k*6+1,none⟩=some (.int .i64 y.2.kind)/\w.cell? ⟨b,k*6+2,none⟩=some (.int .i64 y.2.mode)/\w.cell? ⟨b,k*6+3,none⟩=some (.int .i64 y.2.time)/\w.cell? ⟨b,k*6+4,none⟩=some y.1/\w.cell? ⟨b,k*6+5,none⟩=some (.string y.2.link):=by
 have ha:=h.1;rw[zE]at ha;have hm:m=ys.length:=by omega
 subst hm;have hr:=cJ h;obtain⟨_,a',cap',he,_,_,h0⟩:=hr;simp only[cY]at he;obtain⟨rfl,rfl,rfl⟩:=he;have hf:=(aD.1 hk).1
 rcases h0 with h0 | ⟨b,o,rfl,hb,hc⟩
 ·omega
 ·rcases h.2 with⟨hn,_⟩ | ⟨g,cp,cur,hv,hd,hh,_⟩
  ·cases hn
  ·simp only[cY,aX,jq]at hv;obtain⟨⟨rfl,rfl,-⟩,-,rfl⟩:=hv;have g:=fun j (hj:j<6)=>hc (k*6+j) _ ((zD hk j hj).trans (bG (l:=vC y.1 y.2) hj))
   have g0:=g 0 (by omega);have g1:=g 1 (by omega);have g2:=g 2 (by omega);have g3:=g 3 (by omega);have g4:=g 4 (by omega);have g5:=g 5 (by omega);simp only[bT,cZ]at g0 g1 g2 g3 g4 g5;exact⟨b,rfl,hd,(aM.1 hh).1,rfl,g0,g1,g2,g3,g4,g5⟩
theorem el.slice {S:Nat->Prop} {w:World} {v:Value} {bs:List UInt8} (h:el S w v bs): ∃a c,v= .slice a bs.length c/\bs.length<=c/\c<=maxLen:=by obtain⟨_,a,c,rfl,h1,h2,_⟩:=h;exact⟨a,c,rfl,h1,h2⟩
theorem cW {w w':World} {B n sz:Nat} {e:TypeId} {v:Value} {xs:List Value} (h:w.ownsRow B e sz v n xs) (hb:Below w.heap.size w w'):w'.ownsRow B e sz v n xs:=by
 refine h.kept (row:=none) ⟨hb.os,hb.tape,hb.output,hb.size,fun k hk _=>hb.block k hk⟩ ?_
 cases hv:v.ownBlock
 ·exact .inl rfl
 ·exact .inr (by simp)
attribute [local go_sem] Oper.semAt_some
theorem Tryz.appChunks :kw Tryz.prog 181 29 1 24:=kw.mk' (z:= .slice none 0 0) Tryz.underlying181 (by kernel_rfl) rfl (by decide) (by decide)
def LJ (B:Nat) (v:Value) (L:List (List UInt8)) (w:World):Prop:=
 ∃ys:List (Value×List UInt8),ys.map Prod.snd=L/\w.ownsRow B 29 1 v ys.length (ys.map Prod.fst)/\ ∀y∈ys,w.ownsRow B 5 1 y.1 y.2.length (y.2.map aY)
theorem nL {A B:World} {row:Option Nat} {base sz m:Nat} {t:TypeId} {v:Value} {xs:List Value} (h:A.ownsRow base t sz v m xs) (hg:A.grownBy B row) (hr: ∀r,row=some r-> ∀cs,A.heap[r]? ≠some (.cells cs t (0,0))):B.ownsRow base t sz v m xs:=by
 refine h.kept hg ?_
 rcases h.2 with⟨rfl,_⟩ | ⟨g,cap,cur,rfl,_,ha,_⟩
 ·exact .inl rfl
 ·exact .inr fun e'=>hr g (by simpa [Value.ownBlock]using e'.symm) cur ha
theorem FT {A:World} {b1 b2 s1 s2 m1 m2:Nat} {t1 t2:TypeId} {v1 v2:Value} {x1 x2:List Value} (h1:A.ownsRow b1 t1 s1 v1 m1 x1) (h2:A.ownsRow b2 t2 s2 v2 m2 x2) (ht:t1≠t2):v1.ownBlock=none\/v1.ownBlock≠v2.ownBlock:=by
 cases h:v1.ownBlock with
 | none=>exact .inl rfl
 | some k=>
  refine .inr fun e=> ?_
  obtain⟨_,c1,d1⟩:=oY h1 h;obtain⟨_,c2,d2⟩:=oY h2 e.symm;rw[d1]at d2
  cases d2
  exact ht rfl
def ChI (bx:Nat) (data:List UInt8) (w4:World) (pre:List Nat) (W:World):Prop:=
 (∃(ys:List (Value×List UInt8)) (v:Value),ys.map Prod.snd=jO data 0 pre/\ys.length=pre.length/\W.heap[bx]? =some (.cells #[v] 181 (0,0))/\W.ownsRow (bx+4) 29 1 v ys.length (ys.map Prod.fst)/\ ∀y∈ys,W.ownsRow (bx+4) 5 1 y.1 y.2.length (y.2.map aY))/\
 W.heap[bx+1]? =some (.cells #[.int .i64 ((mg pre:Nat):Int)] 3 (0,0))/\Below bx w4 W
theorem ChI.turn {bx:Nat} {data:List UInt8} {w4:World} {pre:List Nat} {A B:World} {row:Option Nat} (h:ChI bx data w4 pre A) (h4:w4.heap.size=bx+4) (hg:A.grownBy B row) (hr: ∀r,row=some r->bx+4<=r/\ ∀cs t,A.heap[r]? =some (.cells cs t (0,0))->t=239):ChI bx data w4 pre B:=by
 obtain⟨⟨ys,v,h1,h2,h3,h5,h6⟩,h7,h8⟩:=h;have hs:=h8.size;refine⟨⟨ys,v,h1,h2,(hg.block _ (am h3) (fun e=>by have:=(hr _ e.symm).1; omega)).trans h3,nL h5 hg (fun r e cs hc=>by have:=(hr r e).2 cs _ hc; cases this),fun y hy=>nL (h6 y hy) hg (fun r e cs hc=>by have:=(hr r e).2 cs _ hc; cases this)⟩,
  (hg.block _ (am h7) (fun e=>by have:=(hr _ e.symm).1; omega)).trans h7,h8.grown hg (by omega) (fun k e=>by have:=(hr k e).1; omega)⟩
theorem Ic {bx:Nat} {data:List UInt8} {w4:World} (h4:w4.heap.size=bx+4):OwnFrom w4.heap.size (ChI bx data w4):=fun _ _ _ _ h hg hr=>h.turn h4 hg (fun r e=>⟨by have:=(hr r e).1; omega,fun cs t hc=>by obtain⟨_,o,ho,hw⟩:=hr r e;rw[ho]at hc; cases hc; cases hw⟩)
theorem Mh {bx:Nat} {data:List UInt8} {w4:World} (h4:w4.heap.size=bx+4):GS 239 w4.heap.size (ChI bx data w4):=fun _ _ _ _ h hg hr=>h.turn h4 hg (fun r e=>⟨by have:=(hr r e).1; omega,fun cs t hc=>by obtain⟨_,cs',ho⟩:=hr r e;rw[ho]at hc; cases hc; rfl⟩)
def Ew (c:fC) (dv:Value) (w0 bx q:Nat):Act:=
 {tmps:= #[kB c,dv, .pointer (some ⟨w0,0,none⟩), .pointer (some ⟨w0+1,0,none⟩), .slice none 0 0, .int .i64 0, .int .i64 0, .pointer (some ⟨bx,0,none⟩), .pointer (some ⟨bx+1,0,none⟩), .int .i64 (q:Int),kB c,dv, .slice (some ⟨w0+1+1,0,none⟩) 1 1, .int .i64 0, .int .i64 0, .bool false,undef,kB c,dv,
   .func (.func 186) #[] #[.pointer (some ⟨bx+2,0,none⟩), .pointer (some ⟨bx+2+1,0,none⟩)], .int .i64 (q:Int),undef,undef,undef,undef,undef,undef,undef,undef,undef,undef],defers:=[]}
def ChA (c:fC) (dv:Value) (w0 bx:Nat) (data:List UInt8) (w4:World) (pre:List Nat) (q:Nat) (a:Act) (W:World):Prop:=
 ChI bx data w4 pre W/\(mg pre<q/\q<=data.length)/\pre.length<data.length/\a=Ew c dv w0 bx q
theorem OL {c:fC} {dv:Value} {w0 bx:Nat} {data:List UInt8} {w4:World} (h4:w4.heap.size=bx+4):OwnFrom w4.heap.size (fun(s:List Nat×Nat×Act) W=>ChA c dv w0 bx data w4 s.1 s.2.1 s.2.2 W):=fun s A B row h hg hr=>⟨Ic h4 s.1 A B row h.1 hg hr,h.2⟩
theorem QY {n b1 b2:Nat} {t:TypeId} {A B C:World} (h:Below n A B/\jC t A B/\LR b1 b2 A B) (k:Below n B C/\jC t B C/\LR b1 b2 B C):Below n A C/\jC t A C/\LR b1 b2 A C:=⟨h.1.trans k.1,h.2.1.trans k.2.1,k.2.2.1.trans h.2.2.1,k.2.2.2.trans h.2.2.2⟩
theorem wD (S:Nat->Prop) (c:fC) (data:List UInt8) (dv:Value) (w:World) (hc:jU c=true) (hs:c.seed<18446744073709551616) (hd:bD S w dv data) (hl:data.length<=1048576) (hT:Cg w):
  Calls Tryz.prog 155 #[kB c,dv] w fun e w'=> ∃v,e= .returned (.tuple #[v, .int .i64 0])/\LJ w.heap.size v (jO data 0 (qI (qu c data) c.mn.toNat c.mx.toNat data.length)) w'/\Below w.heap.size w w':=by
 have HC:=ah hc;have HD:=ah hd;have HT:=ah hT;obtain⟨_,da,dcap,rfl,H4,yn,-⟩:=id hd;obtain⟨n,hn⟩:=bI data.length;rw[<-hn]at H4 hl HD ⊢;have HN:=ah hn;have HH:=ah (show sy c n=0 by unfold sy; rw[if_pos hc,if_neg (by omega)]);have HL:=ah (show n<=maxLen by unfold maxLen; omega);clear hc hd hT hn;refine(callsIn_wide (n:=4)).1 (callsIn_of_wp_marks Tryz.func155 rfl trivial ?_ rfl)
 simp only[Tryz.ntmps155,bS,az,bo,Nat.reduceAdd,Nat.reduceSub,Array.replicate_succ,Array.replicate_zero,List.push_toArray,List.append_toArray,aI,aK];refine(wpIn_wide (n:=4)).2 ?_;unfold kB;go_wp2_with fail;obtain⟨w1,hz⟩:=bI (((w.alloc (.cells #[.int .i64 c.mn, .int .i64 c.mx, .int .i64 c.win, .int .i64 c.bits, .int .u64 (c.seed:Int)] 45)).alloc (.cells #[.slice da n dcap] 29)).alloc (.cells #[.slice da n dcap] 29))
 rw[<-hz];have HB:=ah (show Below w.heap.size w w1 by rw[hz]; exact((eW).alloc (by simp) _).alloc (by simp; omega) _);have HR:=ah (show w1.heap[w.heap.size]? =some (.cells (fZ c).toArray 45 (0,0)) by rw[hz]; exact nu (nu (ep w _) _) _);have HU:=ah (show w1.heap[w.heap.size+1]? =some (.cells #[.slice da n dcap] 29 (0,0)) by rw[hz]; exact nu (qa w _ _) _)
 have HX:=ah (show w1.heap[w.heap.size+1+1]? =some (.cells #[.slice da n dcap] 29 (0,0)) by rw[hz]; exact(by have:=aG ((w.alloc (.cells #[.int .i64 c.mn, .int .i64 c.mx, .int .i64 c.win, .int .i64 c.bits, .int .u64 (c.seed:Int)] 45)).alloc (.cells #[.slice da n dcap] 29)) (.cells #[.slice da n dcap] 29); simpa using this));clear hz;have hY:=wB c da n dcap (w.heap.size+1+1) w1 (ar HX.o) HL.o
 rw[HH.o]at hY;unfold kB at hY;refine hY.mono ?_;rintro e w2 ⟨rfl,hu⟩;have hM:=ah (aj HB.o hu);have HS:=ah (er hu HR.o);have Hq:=ah (er hu HU.o);clear hY hu;have hH:=ah (nu (nu HS.o (.cells #[.slice none 0 0] 181)) (.cells #[.int .i64 0] 3));have Hr:=ah (nu (nu Hq.o (.cells #[.slice none 0 0] 181)) (.cells #[.int .i64 0] 3));have hG:=ah (nu (ep w2 (.cells #[.slice none 0 0] 181)) (.cells #[.int .i64 0] 3))
 have hE:=ah (qa w2 (.cells #[.slice none 0 0] 181) (.cells #[.int .i64 0] 3));have HE:=ah (((ak w2.heap.size w2).alloc (ai _) (.cells #[.slice none 0 0] 181)).alloc (by simp) (.cells #[.int .i64 0] 3));have h0:((w2.alloc (.cells #[.slice none 0 0] 181)).alloc (.cells #[.int .i64 0] 3)).heap.size=w2.heap.size+2:=by simp
 have c0:=ar (k:=0) hH.o;have c1:=ar (k:=1) hH.o;have c2:=ar (k:=2) hH.o;have c3:=ar (k:=3) hH.o;have c4:=ar (k:=4) hH.o;have y0:=ar (k:=0) Hr.o;simp only[fZ,gd]at c0 c1 c2 c3 c4 y0;go_wp2_with fail
 generalize (w2.alloc (.cells #[.slice none 0 0] 181)).alloc (.cells #[.int .i64 0] 3)=w3 at *
 have he:=Mv c (.slice da n dcap) w3 ⟨_,_,_,rfl⟩;unfold kB at he;refine he.mono ?_;rintro e w4 ⟨rfl,hZ,hJ,Hy⟩;clear he c0 c1 c2 c3 c4 y0;obtain⟨bx,hm⟩:=bI w2.heap.size;rw[h0]at hZ ⊢;rw[<-hm]at hG hE hZ ⊢;have HF:=ah (hJ.mono (by rw[h0,hm]; omega:bx<=w3.heap.size));have hr:=ah (show Below w2.heap.size w2 w4 from HE.o.trans (by rw[<-hm]; exact HF.o))
 have Hb:=ah (er hJ hG.o);have Ha:=ah (er hJ hE.o);have HV:=ah (er hJ Hr.o);have hw:w4.heap.size=bx+4:=by rw[Hy,h0,hm]
 have HI:=ah hZ;have He:=ah (show w.heap.size+1<bx by rw[hm]; exact am Hq.o);have hO:=ah hm;have Ho:=ah (show bD S w2 (.slice da n dcap) data from HD.o.below (by decide) hM.o);clear hZ hJ Hy h0 hm;go_wp2_with fail;refine Ly (gf:=186) (lb:= #[.pointer (some ⟨bx+2,0,none⟩), .pointer (some ⟨bx+2+1,0,none⟩)]) rfl (enters_of Tryz.func186 (by kernel_rfl) rfl)
  (Mw S c data (.slice da n dcap) (bx+2) (bx+2+1) w2 w4 HC.o hs HI.o Ho.o (by rw[<-HN.o]; exact hl) (HT.o.block (hM.o.block _ HT.o.lt) hM.o.size) hr.o) QY (fun W l o o' yp h1 h2 h3=> ?kb) (fun _=>rfl)
  (ChI bx data w4) (fun _ _ _=>False) (ChA c (.slice da n dcap) w.heap.size bx data w4) (Ic hw) (Mh hw) (fun _ _ _ _ _ h _ _=>h) (OL hw) ⟨⟨[], .slice none 0 0,rfl,rfl,Hb.o,bM _ _ _ _,by simp⟩,Ha.o,ak _ _⟩ ?assign ?body ?done ?stop
 case kb=>
  have yv:=(aM.1 h1).1;have hb:=hO.o;have hg:=grownBy_putObj' W l o';refine⟨mr (ak _ _) hg (by omega) (by omega),jC.grown hg (fun r e cs Hu=>by cases e; rw[h1]at Hu; cases Hu; cases h2),hg.block _ (by omega) (fun e=>by cases e; omega),hg.block _ (by omega) (fun e=>by cases e; omega)⟩
 case assign=>
  rintro l pre q W hW hI hD hN
  gi_wp2
  exact⟨KeepsOthers.refl _,⟨ak _ _,jC.refl _,rfl,rfl⟩,hI,hD,hN,rfl⟩
 case body=>
  rintro l pre q a₁ W ⟨hI,hD,hN,rfl⟩;obtain⟨⟨ys,v,h1,h2,h3,h5,h6⟩,h7,h8⟩:=hI;have H1:=ah h1;have H2:=ah h2;have H3:=ah h3;have H5:=ah h5;have H6:=ah h6;have H7:=ah h7;have H8:=ah h8;obtain⟨s,Hl⟩:=bI (mg pre);rw[<-Hl]at hD H7;have HP:=ah Hl;have y3:=h8.size;clear h1 h2 h3 h5 h6 h7 h8 Hl;obtain⟨av,cv,rfl,y5,y4⟩:=aH H5.o;have HJ:=ah (Ho.o.below (by decide) (hr.o.trans (H8.o.mono (by rw[<-hO.o]; omega))))
  have hR:=ah ((H8.o.block _ (by have:=He.o; omega)).trans HV.o);obtain⟨sa,sc,Hz,Hm⟩:=rJ HJ.o hD.1 hD.2;obtain⟨pl,Hj⟩:=bI (ja data s q);rw[<-Hj]at Hz Hm;have HO:=ah Hm;have Hp:=ah Hj;clear Hm Hj;simp only[Ew]
  gi_wp2
  refine Fu (fun w'=>w'.cell? ⟨bx,0,none⟩=some (.slice av ys.length cv)/\w'.cell? ⟨w.heap.size+1,0,none⟩=some (.slice da n dcap)/\w'.cell? ⟨bx+1,0,none⟩=some (.int .i64 (s:Int))) (by kernel_rfl) (by kernel_rfl) (by kernel_rfl) ?_;simp only[bt,bu,az,bo,Nat.reduceAdd,Nat.reduceSub];obtain⟨V,hV⟩:=bI W.drew
  rw[<-hV];have hF:=ah (show Below W.heap.size W V by rw[hV]; exact(ak _ _).drew);have ya:V.heap.size=W.heap.size:=by rw[hV]; rfl
  clear hV;have k0:=ar (k:=0) (er hF.o H3.o);have k1:=ar (k:=0) (er hF.o hR.o);have k2:=ar (k:=0) (er hF.o H7.o);simp only[aC,aB]at k0 k1 k2
  iterate 5 (refine cI rfl ⟨k0,k1,k2⟩ (by rintro w' ⟨hz,y6,y7⟩; go_simp; first | rfl | (rw[Hz]; rfl)) ?_; simp only[bN])
  have HQ:=ah (show bD S V (.slice sa pl.length sc) pl from HO.o.below (by decide) hF.o);refine cC 5 rfl (fun K hK=> ?_);go_wp2_with fail;refine(JE S _ pl V HQ.o (by rw[Hp.o]; unfold ja; rw[bn,bz]; rw[<-HN.o]at hD; omega)).mono ?_;rintro e w5 ⟨v5,rfl,Hh,Ht⟩;obtain⟨a5,e5,rfl,y2,y1⟩:=aH Hh;have HM:=ah Hh;have hf:=ah (show Below W.heap.size W w5 from hF.o.trans (by rw[<-ya]; exact Ht))
  clear Hh Ht k0 k1 k2;have k0:=ar (k:=0) (er hf.o H3.o);have k1:=ar (k:=0) (er hf.o hR.o);have k2:=ar (k:=0) (er hf.o H7.o);simp only[aC,aB]at k0 k1 k2;go_wp2_with fail;refine⟨⟨k0,k1,k2⟩, ?_⟩;have h9:=ah (show Below w5.heap.size w5 (w5.alloc (.cells #[.slice a5 pl.length e5] 29))from eW);have l0:=(h9.o.cell (bP k0)).trans k0
  have l1:=(h9.o.cell (bP k1)).trans k1;have l2:=(h9.o.cell (bP k2)).trans k2;refine cC 6 rfl (fun K hK=> ?_);go_wp2_with fail;refine⟨⟨l0,l1,l2⟩, ?_⟩;clear l0 l1 l2;have Hc:=ah (show w5.ownsRow (bx+4) 29 1 (.slice av ys.length cv) ys.length (ys.map Prod.fst)from cW H5.o hf.o);have HK:=ah (show ys.length<1099511627775 by rw[H2.o]; rw[<-HN.o]at hN; omega)
  have HG:=ah (show bx+4<=w5.heap.size by have:=hf.o.size; omega);refine cC 7 rfl (fun K hK=> ?_);go_wp2_with (at_builtin; go_must (refine bO Tryz.appChunks rfl _ _ rfl (bx+4) (.slice av ys.length cv) ys.length (ys.map Prod.fst) rfl w5 [.slice a5 pl.length e5] 29 rfl rfl (by simp[Value.oneCell']) Hc.o HK.o HG.o ?_); intro v7 w7 hh ha Hg Hk; obtain⟨a7,c7,rfl,-,-⟩:=aH hh)
  have Hv: ∀k,(Value.slice av ys.length cv).ownBlock=some k->bx+4<=k:=fun k e=>(oY Hc.o e).1
  have hX: ∀k,k<w5.heap.size->k<bx+4->w7.heap[k]? =w5.heap[k]? :=fun k h1 h2=>ha.block k h1 (fun e=>by have:=Hv k e.symm; omega)
  have yb:=hf.o.size;have hB:=ah (show w7.heap[bx]? =some (.cells #[.slice av ys.length cv] 181 (0,0)) by rw[hX _ (by omega) (by omega),hf.o.block _ (am H3.o),H3.o]);have hP:=ah (show w7.heap[bx+1]? =some (.cells #[.int .i64 (s:Int)] 3 (0,0)) by rw[hX _ (by omega) (by omega),hf.o.block _ (am H7.o),H7.o]);have HW:=ah (show w7.heap[w.heap.size+1]? =some (.cells #[.slice da n dcap] 29 (0,0)) by rw[hX _ (by have:=He.o; omega) (by have:=He.o; omega),hf.o.block _ (am hR.o),hR.o])
  have Hd:=ah hh;have hA:=ah ha;clear hh ha Hg Hk hX k0 k1 k2;refine⟨⟨ar hB.o,ar HW.o,ar hP.o⟩, ?_⟩;simp only[bN];have k0:=ar (k:=0) hB.o;have f0:=qK (k:=0) hB.o;have f1:=qK (k:=0) hP.o;have k2:=ar (k:=0) hP.o;simp only[aC,aB]at k0 k2;refine cL (by kernel_rfl) ?_
  refine eU rfl rfl (fun K hK=> ?_);go_wp2_with fail;rw[BF]
  gi_wp2
  have H0:(w7.setCell ⟨bx,0,none⟩ (.slice a7 (ys.length+1) c7)).heap[bx]? =some (.cells #[.slice a7 (ys.length+1) c7] 181 (0,0)):=by simpa using NJ (k:=0) hB.o (.slice a7 (ys.length+1) c7)
  have Hf:(w7.setCell ⟨bx,0,none⟩ (.slice a7 (ys.length+1) c7)).heap[bx+1]? =some (.cells #[.int .i64 (s:Int)] 3 (0,0)):=xV hP.o (by omega) _;obtain⟨B,hU⟩:=bI ((w7.setCell ⟨bx,0,none⟩ (.slice a7 (ys.length+1) c7)).setCell ⟨bx+1,0,none⟩ (.int .i64 (q:Int)));rw[<-hU];have HY:B.heap[bx]? =some (.cells #[.slice a7 (ys.length+1) c7] 181 (0,0)):=by rw[hU]; exact xV H0 (by omega) _
  have HZ:B.heap[bx+1]? =some (.cells #[.int .i64 (q:Int)] 3 (0,0)):=by rw[hU]; simpa using NJ (k:=0) Hf (.int .i64 (q:Int))
  have ho:=cK (w7) bx 0 (.slice a7 (ys.length+1) c7);have hp:=cK (w7.setCell ⟨bx,0,none⟩ (.slice a7 (ys.length+1) c7)) (bx+1) 0 (.int .i64 (q:Int));rw[<-hU]at hp;have H9: ∀k,k<w7.heap.size->k≠bx->k≠bx+1->B.heap[k]? =w7.heap[k]? :=fun k h1 h2 h3=>(hp.block k (aO h1 ho.size) (fun e=>h3 (bK e))).trans (ho.block k h1 (fun e=>h2 (bK e)))
  have yc:=hA.o.size;have hC: ∀k,k<W.heap.size->k≠bx->k≠bx+1->(Value.slice av ys.length cv).ownBlock≠some k->B.heap[k]? =W.heap[k]? :=fun k h1 h2 h3 h4=>by rw[H9 k (by omega) h2 h3,hA.o.block k (by omega) (fun e=>h4 e.symm),hf.o.block k h1]
  have hx:W.heap.size<=B.heap.size:=by have:=ho.size; have:=hp.size; omega
  have Hw:B.os=W.os:=by rw[hp.os,ho.os,hA.o.os,hf.o.os]
  have HA:B.tape=W.tape:=by rw[hp.tape,ho.tape,hA.o.tape,hf.o.tape]
  have Hx:B.output=W.output:=by rw[hp.output,ho.output,hA.o.output,hf.o.output]
  have hL: ∀(sz m:Nat) (t:TypeId) (u:Value) (xs:List Value),w5.ownsRow (bx+4) t sz u m xs->t=5->B.ownsRow (bx+4) t sz u m xs:=fun sz m t u xs h ht=>by have h7:w7.ownsRow (bx+4) t sz u m xs:=h.kept hA.o (FT h Hc.o (by rw[ht]; decide));have h8:=nL h7 ho (fun r e cs hc=>by cases e; rw[hB.o]at hc; cases hc; cases ht);exact nL h8 hp (fun r e cs hc=>by cases e; rw[Hf]at hc; cases hc; cases ht)
  have hj: ∀k,k<bx+4->(Value.slice av ys.length cv).ownBlock≠some k:=fun k h1 e=>by have:=Hv k e; omega
  refine⟨⟨hx,fun k o hq Hi=> ?_⟩,⟨⟨Hw,HA,Hx,hx,fun k hk=> ?_⟩,fun k cs hk=> ?_, ?_, ?_⟩,⟨ys++[(.slice a5 pl.length e5,pl)], .slice a7 (ys.length+1) c7, ?_, ?_,HY, ?_, ?_⟩, ?_, ?_⟩
  ·rw[hC k (aM.1 hq).1 (fun e=>by rw[e,H3.o]at hq; cases hq; cases Hi) (fun e=>by rw[e,H7.o]at hq; cases hq; cases Hi) (fun e=>by obtain⟨_,cur,hv⟩:=oY H5.o e;rw[hv]at hq; cases hq; cases Hi)]
   exact hq
  ·rw[<-hO.o]at hk;exact hC k (by omega) (by omega) (by omega) (hj k (by omega))
  ·exact hC k (aM.1 hk).1 (fun e=>by rw[e,H3.o]at hk; cases hk) (fun e=>by rw[e,H7.o]at hk; cases hk) (fun e=>by obtain⟨_,cur,hv⟩:=oY H5.o e;rw[hv]at hk; cases hk)
  ·exact hC _ (by omega) (by omega) (by omega) (hj _ (by omega))
  ·exact hC _ (by omega) (by omega) (by omega) (hj _ (by omega))
  ·rw[aL,H1.o,lT,Hp.o,HP.o]; rfl
  ·rw[ag,ag,H2.o]; rfl
  ·rw[ag,aL];have h8:=nL Hd.o ho (fun r e cs hc=>by cases e; rw[hB.o]at hc; cases hc);exact nL h8 hp (fun r e cs hc=>by cases e; rw[Hf]at hc; cases hc)
  ·intro y hy
   rcases aN.1 hy with hy | hy
   ·exact hL _ _ _ _ _ (cW (H6.o y hy) hf.o) rfl
   ·rw[aE.1 hy];exact hL _ _ _ _ _ (gB HM.o (by omega)) rfl
  ·rw[mB]; exact HZ
  ·refine H8.o.trans ⟨Hw,HA,Hx,hx,fun k hk=>hC k (by omega) (by omega) (by omega) (hj k (by omega))⟩
 case done=>
  rintro Dl ys W yl hS ⟨⟨zs,v,h1,h2,h3,h5,h6⟩,h7,h8⟩ hK;have hc:=ar (k:=0) h3;simp only[aC,aB]at hc;go_wp2_with fail;have hu:=hM.o;have hm:=hO.o;refine⟨by simp, .inl ⟨_,_,rfl,run_takeDeferred hK, ?_⟩⟩;have Hn:=hu.size;refine⟨_,results_tmp2 rfl _ _ _,v,rfl,⟨zs,by rw[h1,hS,HN.o],ownsRow_putObj (gB h5 (by omega)) _ hK rfl,fun y hy=>ownsRow_putObj (gB (h6 y hy) (by omega)) _ hK rfl⟩, ?_⟩
  have Hs:Below w.heap.size w W:=(hu.trans (hr.o.mono Hn)).trans (h8.mono (by omega));exact mr Hs (grownBy_putObj' W Dl _) (by omega) Hs.size
 case stop=>
  rintro Dl c pre W _ _ h _;exact h.elim
end
section
open Go.RowKit
structure dt where
 ref:cH
 con:List UInt8
def mQ (gs:List (ByteArray×Int)) (n:ByteArray):Int:=((gs.find? fun p=>decide (p.1=n)).map Prod.snd).getD 0
def aV (k:dl) (gs:List (ByteArray×Int)) (c:List UInt8):cH:=⟨mi k (mQ gs (mi k 0 c)).toNat c,mQ gs (mi k 0 c),(c.length:Int)⟩
def kJ (k:dl) (gs:List (ByteArray×Int)) (bs:List dt) (c:List UInt8):List dt:=if aV k gs c∈bs.map dt.ref then bs else bs++[⟨aV k gs c,c⟩]
def eG (k:dl) (gs:List (ByteArray×Int)) (cs:List (List UInt8)) (bs:List dt):List dt:=cs.foldl (kJ k gs) bs
def fO (c:fC) (data:List UInt8):List (List UInt8):=jO data 0 (qI (qu c data) c.mn.toNat c.mx.toNat data.length)
def mh (dir path:List UInt8):List UInt8:=if(path.drop dir.length).head? =some 47 then(path.drop dir.length).tail else path.drop dir.length
def gW (tree:List dd) (dir:ByteArray):List dd:=tree.filter fun e=>decide (cr (bl e.path)=bl dir)
def cE (k:dl) (gs:List (ByteArray×Int)) (c:fC) (dir:ByteArray) (e:dd) (node:cH):cj:=
 ⟨⟨(mh (bl dir) (bl e.path)).toArray⟩,e.kind,e.mode,e.time,if e.kind=1 then(e.data.length:Int)else 0,e.link,if e.kind=1 then(fO c e.data).map (aV k gs)else [],if e.kind=2 then node else eq⟩
def gZ (k:dl) (gs:List (ByteArray×Int)) (c:fC) (rec:ByteArray->Except Int (List UInt8×List (List UInt8))) (dir:ByteArray):List dd->List cj->List (List UInt8)->Except Int (List cj×List (List UInt8))
 | [],its,cs=> .ok (its,cs)
 | e::r,its,cs=>
  if e.kind=1 then gZ k gs c rec dir r (its++[cE k gs c dir e eq]) (cs++fO c e.data)
  else if e.kind=2 then(match rec e.path with
   | .error x=> .error x
   | .ok p=>gZ k gs c rec dir r (its++[cE k gs c dir e (aV k gs p.1)]) (cs++p.2))
  else gZ k gs c rec dir r (its++[cE k gs c dir e eq]) cs
def gV (k:dl) (gs:List (ByteArray×Int)) (c:fC) (tree:List dd):Nat->ByteArray->Except Int (List UInt8×List (List UInt8))
 | 0,_=> .error 0
 | f+1,dir=>match gZ k gs c (gV k gs c tree f) dir (gW tree dir) [] []with
  | .error x=> .error x
  | .ok (its,cs)=>if jL its=true then(if(gk its).length<=32768 then .ok (gk its,cs++[gk its])else .error 2)else .error 1
def iy (k:dl) (c:fC) (tree:List dd) (gs:List (ByteArray×Int)):Except Int (cH×List dt):=
 if jK k=true/\jU c=true then(if(gs.all fun p=>decide (0<=p.2) && decide (p.2<=1099511627776))=true then
  (if iD tree=0 then(match gV k gs c tree 514 ⟨#[]⟩with
   | .error x=> .error x
   | .ok p=> .ok (aV k gs p.1,eG k gs p.2 []))
  else .error (iD tree))else .error 1)else .error 1
theorem jE (k:dl) (gs:List (ByteArray×Int)) (a b:List (List UInt8)) (bs:List dt):eG k gs (a++b) bs=eG k gs b (eG k gs a bs):=eR
open Go Go.RowKit
def sW (w:World) (wb:Nat) (data:List UInt8):Prop:= ∃v,w.heap[wb]? =some (.cells #[v, .int .i64 0] 160 (0,0))/\me w wb v data
def mX (wb:Nat) (w w':World):Prop:=Below wb w w'/\ ∀t,t≠5->t≠160->jC t w w'
theorem mX.refl (wb:Nat) (w:World):mX wb w w:=⟨ak _ _,fun _ _ _=>jC.refl _⟩
theorem mX.trans {wb:Nat} {A B C:World} (h:mX wb A B) (k:mX wb B C):mX wb A C:=⟨h.1.trans k.1,fun t h1 h2=>(h.2 t h1 h2).trans (k.2 t h1 h2)⟩
theorem mX.row {wb:Nat} {w w':World} {v:Value} {data:List UInt8} (ho:me w wb v data) (hb:wb<=w.heap.size) (hg:w.grownBy w' v.ownBlock):mX wb w w':=
 ⟨(ak _ _).grown hg hb (fun k e=>(oY ho e).1),fun t h1 _=>jC.grown hg (fun r e cs hcs=>by obtain⟨_,cur,hc⟩:=oY ho e;rw[hc]at hcs; cases hcs; exact h1 rfl)⟩
theorem mX.set {wb k:Nat} {w:World} {cs:Array Value} (hb:w.heap[wb]? =some (.cells cs 160 (0,0))) (v:Value):mX wb w (w.setCell ⟨wb,k,none⟩ v):=
 ⟨(ak _ _).grown (cK w wb k v) (fH (am hb)) (fun k e=>by cases e; exact ai _),fun t _ h2=>jC.grown (cK w wb k v) (fun r e cs' hcs=>by cases e; rw[hb]at hcs; cases hcs; exact h2 rfl)⟩
theorem sW.box {w w':World} {wb:Nat} {v:Value} {cs:Array Value} {data:List UInt8} (hb:w.heap[wb]? =some (.cells cs 160 (0,0))) (ho:me w wb v data) (hg:w.grownBy w' v.ownBlock):w'.heap[wb]? =some (.cells cs 160 (0,0)):=
 (hg.block _ (am hb) (fun e=>by obtain⟨_,cur,hc⟩:=oY ho e.symm;rw[hc]at hb; cases hb)).trans hb
theorem sW.put {w1:World} {wb:Nat} {v v':Value} {data:List UInt8} (hb:w1.heap[wb]? =some (.cells #[v, .int .i64 0] 160 (0,0))) (ho:me w1 wb v' data):sW (w1.setCell ⟨wb,0,none⟩ v') wb data:=
 ⟨v',by simpa using NJ (k:=0) hb v',World.ownsRow.kept ho (cK w1 wb 0 v') (by
  cases h:v'.ownBlock with
  | none=>exact .inl rfl
  | some k=>
   refine .inr (fun e=> ?_);obtain⟨_,cur,hc⟩:=oY ho h
   cases e
   rw[hc]at hb; cases hb)⟩
theorem yM (w:World):Calls Tryz.prog 48 #[] w fun e w'=>e= .returned (.pointer (some ⟨w.heap.size,0,none⟩))/\sW w' w.heap.size []/\Below w.heap.size w w':=by
 go_enter Tryz.func48,Tryz.ntmps48
 go_wp2_with fail;go_ret;exact⟨rfl,⟨.slice none 0 0,ep w _,bM _ _ _ _⟩,eW⟩
theorem lK (wb n:Nat) (data:List UInt8) (w:World) (hw:sW w wb data) (hl:data.length<1099511000000) (hn:n<18446744073709551616):
  Calls Tryz.prog 51 #[.pointer (some ⟨wb,0,none⟩), .int .u64 (n:Int)] w fun e w'=>e= .returned (.tuple #[])/\sW w' wb (data++bE n)/\mX wb w w':=by
 obtain⟨v,hb,ho⟩:=hw;obtain⟨a0,c0,rfl,hk,hp⟩:=aH ho;have HB:=ah hb;have HO:=ah ho;have hf:=am hb;obtain⟨k0,k1,_⟩:=aS hb;clear hb ho
 go_enter Tryz.func51,Tryz.ntmps51
 go_wp2_with fail;refine(sD wb _ data n w HO.o (fH hf) hl hn).mono ?_;rintro e w1 ⟨v',rfl,hd,hc,-⟩;obtain⟨a1,c1,hg,-,-⟩:=aH hd;obtain⟨m,hm⟩:=bI ((data++bE n).length);rw[<-hm]at hg;subst hg;clear hm;have ha:=sW.box HB.o HO.o hc;have he:=ah ha;have hj:=ah hd;have hh:=ah (mX.row HO.o (fH hf) hc);have f0:=qK (k:=0) ha
 clear k0 k1;have k0:=ar (k:=0) ha;simp only[aC,aB]at k0;clear ha hd hc;go_wp2_with fail
 go_end0
 exact⟨rfl,sW.put he.o hj.o,hh.o.trans (mX.set he.o _)⟩
theorem AP (wb:Nat) (t:ByteArray) (data:List UInt8) (w:World) (hw:sW w wb data) (hl:data.length<1099000000000) (hn:t.size<500000000):
  Calls Tryz.prog 50 #[.pointer (some ⟨wb,0,none⟩), .string t] w fun e w'=>e= .returned (.tuple #[])/\sW w' wb (data++(bE t.size++bl t))/\mX wb w w':=by
 obtain⟨v,hb,ho⟩:=hw;obtain⟨a0,c0,rfl,hy,hA⟩:=aH ho;have HB:=ah hb;have HO:=ah ho;have hq:=am hb;obtain⟨k0,k1,_⟩:=aS hb;clear hb ho;have hB:IntKind.u64.wrap (t.size:Int)=((t.size:Nat):Int):=by rw[cV]; omega
 have hy:=iL (n:=t.size) (by omega)
 go_enter Tryz.func50,Tryz.ntmps50
 go_wp2_with fail;refine(sD wb _ data t.size w HO.o (fH hq) (by omega) (by omega)).mono ?_;rintro e w1 ⟨v',rfl,hj,hh,-⟩;obtain⟨a1,c1,hs,-,-⟩:=aH hj;obtain⟨m,hm⟩:=bI ((data++bE t.size).length);rw[<-hm]at hs;subst hs;have HM:=ah hm;clear hm;have hk:=ah (sW.box HB.o HO.o hh);have hf:=ah hj;have hv:=ah (mX.row HO.o (fH hq) hh)
 have hx:=ah (show(data++bE t.size).length+t.size<1099511627775 by rw[ag]; omega);have hd:=am hk.o;clear k0 k1 hj hh;go_wp2_with (at_builtin; go_must (refine lw rfl _ _ rfl wb (.slice a1 m c1) (data++bE t.size) rfl hf.o t rfl hx.o (fH hd) ?_); intro v2 w2 hc ha; obtain⟨a2,c2,hu,-,-⟩:=aH hc; obtain⟨m2,hr⟩:=bI ((data++bE t.size).length+t.size); try (rw[<-hr]at hu); subst hu; clear hr; have hg:=ah hc; have hp:=ah ha; clear hc ha; have he:=ah (sW.box hk.o hf.o hp.o); have f0:=qK (k:=0) he.o; have k0:=ar (k:=0) he.o; simp only[aC,aB]at k0)
 go_end0
 have hz:me w2 wb (.slice a2 m2 c2) (data++(bE t.size++bl t)):=by have:=hg.o;unfold me;rw[<-bp,ag,aL,<-bi];exact this
 exact⟨rfl,sW.put he.o hz,(hv.o.trans (mX.row hf.o (fH hd) hp.o)).trans (mX.set he.o _)⟩
theorem Of (wb:Nat) (t:ByteArray) (data:List UInt8) (w:World) (hw:sW w wb data) (hl:data.length<1099000000000) (hn:t.size=32):
  Calls Tryz.prog 101 #[.pointer (some ⟨wb,0,none⟩), .string t] w fun e w'=>e= .returned (.tuple #[])/\sW w' wb (data++bl t)/\mX wb w w':=by
 obtain⟨v,hb,ho⟩:=hw;obtain⟨a0,c0,rfl,hp,hq⟩:=aH ho;have HB:=ah hb;have HO:=ah ho;have hg:=am hb;obtain⟨k0,k1,_⟩:=aS hb;clear hb ho;have hr:(t.size:Int)=32:=by omega
 have hk:=ah (show data.length+t.size<1099511627775 by omega);clear hn
 go_enter Tryz.func101,Tryz.ntmps101
 go_wp2_with (at_builtin; go_must (refine lw rfl _ _ rfl wb (.slice a0 data.length c0) data rfl HO.o t rfl hk.o (fH hg) ?_); intro v2 w2 hc ha; obtain⟨a2,c2,hj,-,-⟩:=aH hc; obtain⟨m2,hh⟩:=bI ((data.length+t.size)); try (rw[<-hh]at hj); subst hj; clear hh; have he:=ah hc; have hf:=ah ha; clear hc ha; have hd:=ah (sW.box HB.o HO.o hf.o); have f0:=qK (k:=0) hd.o; clear k0 k1; have k0:=ar (k:=0) hd.o; simp only[aC,aB]at k0)
 go_end0
 have hm:me w2 wb (.slice a2 m2 c2) (data++bl t):=by have:=he.o;unfold me;rw[ag,aL,<-bi];exact this
 exact⟨rfl,sW.put hd.o hm,(mX.row HO.o (fH hg) hf.o).trans (mX.set hd.o _)⟩
theorem yq (wb n:Nat) (data:List UInt8) (w:World) (hw:sW w wb data) (hl:data.length<1099511000000) (hn:n<9223372036854775808):
  Calls Tryz.prog 49 #[.pointer (some ⟨wb,0,none⟩), .int .i64 (n:Int)] w fun e w'=>e= .returned (.tuple #[])/\sW w' wb (data++bE n)/\mX wb w w':=by
 have HW:=ah hw;obtain⟨v,hb,ho⟩:=hw;obtain⟨a0,c0,rfl,hd,he⟩:=aH ho;have HB:=ah hb;have HO:=ah ho;have hf:=am hb;obtain⟨k0,k1,_⟩:=aS hb;clear hb ho;have hg:IntKind.u64.wrap (n:Int)=((n:Nat):Int):=by rw[cV]; omega
 go_enter Tryz.func49,Tryz.ntmps49
 go_wp2_with fail;refine(lK wb n data w HW.o hl (by omega)).mono ?_;rintro e w1 ⟨rfl,hc,ha⟩;go_wp2_with fail
 go_end0
 exact⟨rfl,hc,ha⟩
theorem mX.below {wb:Nat} {w w':World} (h:Below w.heap.size w w') (hb:wb<=w.heap.size):mX wb w w':=⟨h.mono hb,fun _ _ _=>jC.below h⟩
theorem sW.below {wb:Nat} {data:List UInt8} {w w':World} (h:sW w wb data) (hb:Below w.heap.size w w'):sW w' wb data:=by obtain⟨v,h1,h2⟩:=h;exact⟨v,er hb h1,cW h2 hb⟩
def Ov (data:List UInt8) (w:World) (e:Ending) (w':World):Prop:=
 Below w.heap.size w w'/\if data.length<=1048576 then ∃v,e= .returned (.tuple #[v, .int .i64 0])/\me w' w.heap.size v data else e= .returned (.tuple #[.slice none 0 0, .int .i64 2])
theorem Lw (wb:Nat) (data:List UInt8) (w:World) (hw:sW w wb data) (hl:data.length<1099000000000):Calls Tryz.prog 53 #[.pointer (some ⟨wb,0,none⟩)] w (Ov data w):=by
 obtain⟨v,hb,ho⟩:=hw;obtain⟨a0,c0,hv,hq,hs⟩:=aH ho;obtain⟨n,hn⟩:=bI data.length;rw[<-hn]at hv hq hl;subst hv;have HN:=ah hn;have HR:=ah (show cD (fun k=>wb<=k/\(Value.slice a0 n c0).ownBlock=some k) w 1 (.slice a0 n c0) n (data.map aY) by rw[hn]; rw[hn]at ho; exact cJ ho);have hu:=am hb;obtain⟨k0,k1,_⟩:=aS hb;clear hb ho hn
 by_cases hd:n<=1048576
 ·have hf:=ah hd;have hr:(n:Int)<=1048576:=by omega
  have hm:=ah (World.ownsRow_made (base:=w.heap.size) (e:=5) (size:=1) w #[] 0 (ai _) (by unfold maxLen; omega) rfl);have he:=ah ((ak w.heap.size w).alloc (ai _) (.cells #[] 5));have hp:=ah (HR.o.below (by decide) he.o);have hk:=ah (show ∀u∈data.map aY,u.oneCell'=true from fy data);have hh:=ah (show 0+n<1099511627775 by omega)
  have k2:=(he.o.cell (bP k0)).trans k0
  go_enter Tryz.func53,Tryz.ntmps53
  go_wp2_with (at_builtin; go_must (refine ew Tryz.appBytes rfl _ _ rfl w.heap.size _ 0 [] rfl hm.o _ n (data.map aY) rfl hp.o hk.o hh.o he.o.size ?_); intro v6 wz hc ha; go_must (rw[bT,aI]at hc); have hj:=ah hc; have hg:=ah ha; clear hc ha)
  go_ret2
  refine⟨he.o.grown hg.o he.o.size (fun k e=>by cases e; exact ai _), ?_⟩;rw[<-HN.o,if_pos hf.o];exact⟨v6,rfl,by unfold me; rw[<-HN.o]; exact hj.o⟩
 ·have hf:=ah hd;have hr:(1048576:Int)<(n:Int):=by omega
  clear hd
  go_enter Tryz.func53,Tryz.ntmps53
  go_wp2_with fail
  go_ret2
  refine⟨ak _ _, ?_⟩;rw[<-HN.o,if_neg hf.o]
  rfl
theorem tZ (wb:Nat) (r:cH) (data:List UInt8) (w:World) (hw:sW w wb data) (hl:data.length<1098000000000) (hr:lF r=true):
  Calls Tryz.prog 52 #[.pointer (some ⟨wb,0,none⟩),fi r] w fun e w'=>e= .returned (.tuple #[])/\sW w' wb (data++fE r)/\mX wb w w':=by
 have HW:=ah hw;obtain⟨hk,hD,hE,hI,hJ⟩:=mV.1 hr;obtain⟨g,hg⟩:=bI r.gen.toNat
 obtain⟨z,hz⟩:=bI r.size.toNat
 have hm:r.gen=(g:Int):=by omega
 have hq:r.size=(z:Int):=by omega
 have hs:=ah (show fE r=bl r.name++(bE g++bE z) by unfold fE; rw[hg,hz]);have he:=ah hk;have hN:IntKind.u64.wrap (g:Int)=(g:Int):=by rw[cV]; omega
 have hO:IntKind.u64.wrap (z:Int)=(z:Int):=by rw[cV]; omega
 have hM:g<1099511627777:=by omega
 have hP:z<32769:=by omega
 have hG:wb<w.heap.size:=by obtain⟨_,h,_⟩:=hw; exact am h
 unfold fi;rw[hm,hq];clear hw hr hk hD hE hI hJ hg hz hm hq
 go_enter Tryz.func52,Tryz.ntmps52
 go_wp2_with fail;obtain⟨w1,ha⟩:=bI (w.alloc (.cells #[.string r.name, .int .i64 (g:Int), .int .i64 (z:Int)] 26));rw[<-ha];have hf:=ah (show Below w.heap.size w w1 by rw[ha]; exact eW);have hj:=ah (show w1.heap[w.heap.size]? =some (.cells #[.string r.name, .int .i64 (g:Int), .int .i64 (z:Int)] 26 (0,0)) by rw[ha]; exact ep w _);have hu:=ah (mX.below hf.o (fH hG))
 have hy:=ah (HW.o.below hf.o);clear ha;refine(Of wb r.name data w1 hy.o (by omega) he.o).mono ?_;rintro e w2 ⟨rfl,ho,hc⟩;have hA:=ah ho;have hv:=ah hc;have hb:=ah ((hc.2 _ (by decide) (by decide) _ _ hj.o).trans hj.o);have hn:(data++bl r.name).length=data.length+32:=by rw[ag,<-bi,he.o]
 have hh:=ah hn;have c1:=ar (k:=1) hb.o;simp only[gd]at c1;clear ho hc hn;go_wp2_with fail;refine(lK wb g _ w2 hA.o (by rw[hh.o]; omega) (by omega)).mono ?_;rintro e w3 ⟨rfl,hp,hd⟩;have hB:=ah hp;have hx:=ah hd;have hC:=ah ((hd.2 _ (by decide) (by decide) _ _ hb.o).trans hb.o);have c2:=ar (k:=2) hC.o;simp only[gd]at c2;clear hp hd c1
 have hL:=iL (n:=g) (by omega);go_wp2_with fail;refine(lK wb z _ w3 hB.o (by rw[ag,hh.o]; omega) (by omega)).mono ?_;rintro e w4 ⟨rfl,hH,hF⟩;go_wp2_with fail
 go_end0
 refine⟨rfl, ?_,((hu.o.trans hv.o).trans hx.o).trans hF⟩;rw[hs.o,<-bp,<-bp];exact hH
end
end Go.Proofs.YtpffpjbkbaleiaaGreatDoor
