/- Texts of this proof, one after the other: MarkB, MarkC, ScnP, ScnQ, ScnC, TreeR, Ent, ScnM, ScnV, MapS, TreeM, TreeN, FtA, FtB, FtC, FtD, FtE, OwnE, FtP, FtQ, AwQ, ScnW, SetR, ScnS, ScnF, ScnD. -/
import Derived.Test.YtnjkpcalgoefhaaGreatDoorCEncodesB
set_option maxRecDepth 100000
set_option maxHeartbeats 8000000
namespace Go.Proofs.YtnjkpcalgoefhaaGreatDoor
open Go Go.RowKit
structure kY (seed W : Nat) (d : List UInt8) (cs : List Value) : Prop where
 tab: ∀i,i<256->cs[i]? =some (.int .u64 ((tH seed i:Nat):Int))
 rng: ∀j,j<64-> ∃b,cs[256+j]? =some (aN b)
 win:cs[320]? =some (.int .i64 (W:Int))
 st: ∃s,s<64/\cs[321]? =some (.int .i64 (s:Int))/\ ∀j b,(iR W d)[j]? =some b->cs[256+(s+j)%64]? =some (aN b)
 len:cs[322]? =some (.int .i64 ((min W d.length:Nat):Int))
 sum:cs[323]? =some (.int .u64 ((nL seed (iR W d):Nat):Int))
theorem kY.lt {seed W:Nat} {d:List UInt8} {cs:List Value} (h:kY seed W d cs):323<cs.length:=(List.getElem?_eq_some_iff.1 h.sum).1
theorem zm {x y:Nat} (hx:x<18446744073709551616) (hy:y<18446744073709551616):bits BinOp.xor IntKind.u64 (x:Int) (y:Int)=((x^^^y:Nat):Int):=u64_xor_nat x y hx hy
theorem bF {w:World} {b k:Nat} {cs:List Value} {ty:TypeId} (h:w.heap[b]? =some (.cells cs.toArray ty (0,0))):w.cell? ⟨b,k,none⟩=cs[k]? :=by rw[cell_of_row w _ _ _ _ _ h,List.getElem?_toArray]
theorem fP {w:World} {b k:Nat} {cs:List Value} {ty:TypeId} (h:w.heap[b]? =some (.cells cs.toArray ty (0,0))) (v:Value):(w.setCell ⟨b,k,none⟩ v).heap[b]? =some (.cells (cs.set k v).toArray ty (0,0)):=by
 rw[heap_setCell_same w _ _ _ _ _ h,List.setIfInBounds_toArray]
theorem bS {w V:World} {rb:Nat} (h:w.grownBy V (some rb)) (k:Nat) (v:Value):w.grownBy (V.setCell ⟨rb,k,none⟩ v) (some rb):=h.trans (aG _ _ _ _)
theorem kf {w V:World} {rb:Nat} (h:w.grownBy V (some rb)):w.grownBy V.drew (some rb):=h.trans ⟨rfl,rfl,rfl,Nat.le_refl _,fun _ _ _=>rfl⟩
theorem io {w V:World} {rb:Nat} (h:w.grownBy V (some rb)) (n:Nat):w.grownBy (V.drewN n) (some rb):=h.trans ⟨rfl,rfl,rfl,Nat.le_refl _,fun _ _ _=>rfl⟩
theorem kY.push {seed W:Nat} {d:List UInt8} {cs cs2:List Value} (h:kY seed W d cs) {b:UInt8} {q:List UInt8} {s2 n2:Nat} (heq: ∀i,i<321->cs2[i]? =cs[i]?) (hs:cs2[321]? =some (.int .i64 (s2:Int))) (hs2:s2<64) (hl:323<cs2.length)
  (hsum:cs2[323]? =some (.int .u64 ((nL seed (iR W (d++[b])):Nat):Int))) (hq:iR W (d++[b])=q++[b]) (hqn:q.length=n2) (hn:n2<W) (hW:W<=64) (hring: ∀(j:Nat) (c:UInt8),q[j]? =some c->cs2[256+(s2+j)%64]? =some (aN c)):
  kY seed W (d++[b]) ((cs2.set (256+(s2+n2)%64) (aN b)).set 322 (.int .i64 ((n2+1:Nat):Int))) where
 tab i hi:=by rw[List.getElem?_set_ne (by omega),List.getElem?_set_ne (by omega),heq i (by omega)]; exact h.tab i hi
 rng j hj:=by
  rw[List.getElem?_set_ne (by omega)]
  by_cases e:(s2+n2)%64=j
  ·rw[e,List.getElem?_set_self (by omega)]; exact⟨b,rfl⟩
  ·rw[List.getElem?_set_ne (by omega),heq _ (by omega)]; exact h.rng j hj
 win:=by rw[List.getElem?_set_ne (by omega),List.getElem?_set_ne (by omega),heq _ (by omega)]; exact h.win
 st:=by
  refine⟨s2,hs2,by rw[List.getElem?_set_ne (by omega),List.getElem?_set_ne (by omega)]; exact hs,fun j c hc=> ?_⟩;rw[hq]at hc;rw[List.getElem?_set_ne (by omega)]
  rcases Nat.lt_trichotomy j n2 with hj | hj | hj
  ·rw[List.getElem?_append_left (by omega)]at hc;rw[List.getElem?_set_ne (by omega)];exact hring j c hc
  ·subst hj;rw[List.getElem?_append_right (by omega),hqn,Nat.sub_self,List.getElem?_cons_zero]at hc
   cases hc
   rw[List.getElem?_set_self (by omega)]
  ·rw[List.getElem?_eq_none (by simp; omega)]at hc; cases hc
 len:=by
  rw[List.getElem?_set_self (by simpa using by omega)];have:=kz W (d++[b]);rw[hq]at this;simp only[List.length_append,List.length_cons,List.length_nil]at this ⊢;rw[<-this,hqn]
 sum:=by rw[List.getElem?_set_ne (by omega),List.getElem?_set_ne (by omega)]; exact hsum
theorem CS (rb:Nat) (ty:TypeId) (seed W:Nat) (d:List UInt8) (b:UInt8) (cs:List Value) (w:World) (hb:w.heap[rb]? =some (.cells cs.toArray ty (0,0))) (hr:kY seed W d cs) (hW:1<=W) (hW2:W<=64):
  Calls Tryz.prog 195 #[.pointer (some ⟨rb,0,none⟩), .int .u8 (b.toNat:Int)] w fun e w'=>e= .returned (.tuple #[])/\(∃cs',w'.heap[rb]? =some (.cells cs'.toArray ty (0,0))/\kY seed W (d++[b]) cs'/\cs'.length=cs.length/\ ∀i,324<=i->cs'[i]? =cs[i]?)/\w.grownBy w' (some rb):=by
 have HB:=ab hb;have HR:=ab hr;clear hb hr;have hbt:=b.toNat_lt;have hbti:(b.toNat:Int)<256:=by omega
 obtain⟨t,ht⟩: ∃t,t=tH seed b.toNat:=⟨_,rfl⟩;obtain⟨h,hh⟩: ∃h,h=nL seed (iR W d):=⟨_,rfl⟩;have htl:t<18446744073709551616:=by rw[ht]; exact oz _ _
 have hhl:h<18446744073709551616:=by rw[hh]; exact uP _ _
 have c323:w.cell? ⟨rb,323,none⟩=some (.int .u64 (h:Int)):=by rw[bF HB.out,HR.out.sum,hh]
 have ct:w.cell? ⟨rb,b.toNat,none⟩=some (.int .u64 (t:Int)):=by rw[bF HB.out,HR.out.tab _ hbt,ht]
 have HT:=ab (And.intro ht hh);clear ht hh
 go_enter Tryz.func195,Tryz.ntmps195
 go_wp2_with fail;refine cL (fun w'=>w'.cell? ⟨rb,323,none⟩=some (.int .u64 (h:Int))/\w'.cell? ⟨rb,b.toNat,none⟩=some (.int .u64 (t:Int))) (by kernel_rfl) (by kernel_rfl) ?_;simp only[List.dropLast_cons_cons,List.dropLast_singleton,List.length_cons,List.length_nil,Nat.reduceAdd,Nat.reduceSub];obtain⟨V,hV⟩: ∃V:World,V=w.drew:=⟨_,rfl⟩;rw[<-hV];have HBV:=ab (show V.heap[rb]? =some (.cells cs.toArray ty (0,0)) by rw[hV]; exact HB.out)
 have HGV:=ab (show w.grownBy V (some rb) by rw[hV]; exact⟨rfl,rfl,rfl,Nat.le_refl _,fun _ _ _=>rfl⟩);clear c323 ct;have c323:V.cell? ⟨rb,323,none⟩=some (.int .u64 (h:Int)):=by rw[bF HBV.out,HR.out.sum,HT.out.2]
 have ct:V.cell? ⟨rb,b.toNat,none⟩=some (.int .u64 (t:Int)):=by rw[bF HBV.out,HR.out.tab _ hbt,HT.out.1]
 clear hV;refine ag 0 rfl (by kernel_rfl) (by kernel_rfl) (by kernel_rfl) (fun _ _ _ h=>h) rfl ⟨c323,ct⟩ (by rintro w' ⟨hw1,hw2⟩; go_simp; rfl) ?_;simp only[Act.put,aH,aI,aJ];refine ag 1 rfl (by kernel_rfl) (by kernel_rfl) (by kernel_rfl) (fun _ _ _ h=>h) rfl ⟨c323,ct⟩ (by rintro w' ⟨hw1,hw2⟩; go_simp; rfl) ?_;simp only[Act.put,aH,aI,aJ];refine ag 2 rfl (by kernel_rfl) (by kernel_rfl) (by kernel_rfl) (fun _ _ _ h=>h) rfl ⟨c323,ct⟩ (by rintro w' ⟨hw1,hw2⟩; go_simp; rfl) ?_
 simp only[Act.put,aH,aI,aJ];refine ag 3 rfl (by kernel_rfl) (by kernel_rfl) (by kernel_rfl) (fun _ _ _ h=>h) rfl ⟨c323,ct⟩ (by rintro w' ⟨hw1,hw2⟩; go_simp; rfl) ?_;simp only[Act.put,aH,aI,aJ];refine ag 4 rfl (by kernel_rfl) (by kernel_rfl) (by kernel_rfl) (fun _ _ _ h=>h) rfl ⟨c323,ct⟩ (by rintro w' ⟨hw1,hw2⟩; go_simp; rfl) ?_;simp only[Act.put,aH,aI,aJ];refine ag 6 rfl (by kernel_rfl) (by kernel_rfl) (by kernel_rfl) (fun _ _ _ h=>h) rfl ⟨c323,ct⟩ (by rintro w' ⟨hw1,hw2⟩; go_simp; rfl) ?_
 simp only[Act.put,aH,aI,aJ];refine ag 7 rfl (by kernel_rfl) (by kernel_rfl) (by kernel_rfl) (fun _ _ _ h=>h) rfl ⟨c323,ct⟩ (by rintro w' ⟨hw1,hw2⟩; go_simp; rfl) ?_;simp only[Act.put,aH,aI,aJ];refine ag 8 rfl (by kernel_rfl) (by kernel_rfl) (by kernel_rfl) (fun _ _ _ h=>h) rfl ⟨c323,ct⟩ (by rintro w' ⟨hw1,hw2⟩; go_simp; rfl) ?_;simp only[Act.put,aH,aI,aJ];refine ag 9 rfl (by kernel_rfl) (by kernel_rfl) (by kernel_rfl) (fun _ _ _ h=>h) rfl ⟨c323,ct⟩ (by rintro w' ⟨hw1,hw2⟩; go_simp; rfl) ?_
 simp only[Act.put,aH,aI,aJ];refine ag 10 rfl (by kernel_rfl) (by kernel_rfl) (by kernel_rfl) (fun _ _ _ h=>h) rfl ⟨c323,ct⟩ (by rintro w' ⟨hw1,hw2⟩; go_simp; rfl) ?_;simp only[Act.put,aH,aI,aJ];refine ag 11 rfl (by kernel_rfl) (by kernel_rfl) (by kernel_rfl) (fun _ _ _ h=>h) rfl ⟨c323,ct⟩ (by rintro w' ⟨hw1,hw2⟩; go_simp; rfl) ?_;simp only[Act.put,aH,aI,aJ]
 refine aC 5 rfl (by kernel_rfl) rfl (fun K hK=> ?_);go_wp2_with fail;refine(sr h 1 V hhl (by decide)).mono ?_;rintro e w1 ⟨rfl,rfl⟩;go_wp2_with fail;refine⟨⟨c323,ct⟩, ?_⟩;refine ag 12 rfl (by kernel_rfl) (by kernel_rfl) (by kernel_rfl) (fun _ _ _ h=>h) rfl ⟨c323,ct⟩ (by rintro w' ⟨hw1,hw2⟩; go_simp; rfl) ?_;simp only[Act.put,aH,aI,aJ];refine ag 13 rfl (by kernel_rfl) (by kernel_rfl) (by kernel_rfl) (fun _ _ _ h=>h) rfl ⟨c323,ct⟩ (by rintro w' ⟨hw1,hw2⟩; go_simp; rfl) ?_
 simp only[Act.put,aH,aI,aJ];refine ag 14 rfl (by kernel_rfl) (by kernel_rfl) (by kernel_rfl) (fun _ _ _ h=>h) rfl ⟨c323,ct⟩ (by rintro w' ⟨hw1,hw2⟩; go_simp; rfl) ?_;simp only[Act.put,aH,aI,aJ];rw[zm (iQ 1 hhl) htl];obtain⟨h1,hh1⟩: ∃h1,h1=dV h 1^^^t:=⟨_,rfl⟩;rw[<-hh1];have hh1l:h1<18446744073709551616:=by rw[hh1]; exact mO (iQ 1 hhl) htl
 have HH1:=ab hh1;clear hh1;have cf:V.frozen? ⟨rb,323,none⟩=false:=frozen_of_row V _ _ _ _ HBV.out;refine bu (by kernel_rfl) ?_;refine dd rfl rfl (fun K hK=> ?_);go_wp2_with fail;obtain⟨U,hU⟩: ∃U:World,U=V.setCell ⟨rb,323,none⟩ (.int .u64 (h1:Int)):=⟨_,rfl⟩;rw[<-hU];obtain⟨cs1,hc1⟩: ∃cs1,cs1=cs.set 323 (.int .u64 (h1:Int)):=⟨_,rfl⟩;have HBU:=ab (show U.heap[rb]? =some (.cells cs1.toArray ty (0,0)) by rw[hU,hc1]; exact fP HBV.out _)
 have HGU:=ab (show w.grownBy U (some rb) by rw[hU]; exact bS HGV.out _ _);have HC1:=ab hc1;clear hU c323 ct cf hc1;obtain⟨n,hn⟩: ∃n,n=min W d.length:=⟨_,rfl⟩;obtain⟨s,hs,hsc,hsw⟩:=HR.out.st;have hl:=HR.out.lt;have c322:U.cell? ⟨rb,322,none⟩=some (.int .i64 (n:Int)):=by rw[bF HBU.out,HC1.out,List.getElem?_set_ne (by decide),HR.out.len,hn]
 have c320:U.cell? ⟨rb,320,none⟩=some (.int .i64 (W:Int)):=by rw[bF HBU.out,HC1.out,List.getElem?_set_ne (by decide),HR.out.win]
 have c321:U.cell? ⟨rb,321,none⟩=some (.int .i64 (s:Int)):=by rw[bF HBU.out,HC1.out,List.getElem?_set_ne (by decide),hsc]
 have HLN:=ab (show cs[322]? =some (.int .i64 (n:Int)) by rw[HR.out.len,hn]);have HN:=ab hn;have HSC:=ab hsc;clear hn hsc;have HSW:=ab hsw;clear hsw
 go_quiet (fail)
 have HBU1:=ab (show(U.drewN nq).heap[rb]? =some (.cells cs1.toArray ty (0,0))from HBU.out);have HGU1:=ab (show w.grownBy (U.drewN nq) (some rb)from io HGU.out _);clear HBU HGU c322 c320 c321
 generalize U.drewN nq=U1 at *
 by_cases hf:n=W
 ·obtain⟨x,l,hxl⟩: ∃x l,iR W d=x::l:=by
   cases hw:iR W d with
   | nil=>have:=kz W d; rw[hw,<-HN.out,hf]at this; simp at this; omega
   | cons x l=>exact⟨x,l,rfl⟩
  have hll:l.length+1=W:=by have:=kz W d; rw[hxl,<-HN.out,hf]at this; simpa using this
  have hx:=HSW.out 0 x (by rw[hxl]; rfl);rw[Nat.add_zero,Nat.mod_eq_of_lt hs]at hx;have hxt:=x.toNat_lt;have hxti:(x.toNat:Int)<256:=by omega
  have hsi:(s:Int)<64:=by omega
  obtain⟨tx,htx⟩: ∃tx,tx=tH seed x.toNat:=⟨_,rfl⟩;have htxl:tx<18446744073709551616:=by rw[htx]; exact oz _ _
  have cx:=HR.out.tab _ hxt;rw[<-htx]at cx;have HX:=ab (And.intro hxl (And.intro hx (And.intro htx cx)));clear hxl hx htx cx;subst hf;go_wp2_with fail;refine cL (fun w'=>w'.cell? ⟨rb,323,none⟩=some (.int .u64 (h1:Int))/\w'.cell? ⟨rb,321,none⟩=some (.int .i64 (s:Int))/\w'.cell? ⟨rb,256+s,none⟩=some (.int .u8 (x.toNat:Int))/\w'.cell? ⟨rb,x.toNat,none⟩=some (.int .u64 (tx:Int))/\w'.cell? ⟨rb,320,none⟩=some (.int .i64 (n:Int))) (by kernel_rfl) (by kernel_rfl) ?_
  simp only[List.dropLast_cons_cons,List.dropLast_singleton,List.length_cons,List.length_nil,Nat.reduceAdd,Nat.reduceSub];obtain⟨V2,hV2⟩: ∃V2:World,V2=U1.drew:=⟨_,rfl⟩;rw[<-hV2];have HBV2:=ab (show V2.heap[rb]? =some (.cells cs1.toArray ty (0,0)) by rw[hV2]; exact HBU1.out);have HGV2:=ab (show w.grownBy V2 (some rb) by rw[hV2]; exact kf HGU1.out);clear hV2;have c323:V2.cell? ⟨rb,323,none⟩=some (.int .u64 (h1:Int)):=by rw[bF HBV2.out,HC1.out,List.getElem?_set_self (by omega)]
  have c320:V2.cell? ⟨rb,320,none⟩=some (.int .i64 (n:Int)):=by rw[bF HBV2.out,HC1.out,List.getElem?_set_ne (by decide),HR.out.win]
  have c321:V2.cell? ⟨rb,321,none⟩=some (.int .i64 (s:Int)):=by rw[bF HBV2.out,HC1.out,List.getElem?_set_ne (by decide),HSC.out]
  have cx1:V2.cell? ⟨rb,256+s,none⟩=some (.int .u8 (x.toNat:Int)):=by rw[bF HBV2.out,HC1.out,List.getElem?_set_ne (by omega),HX.out.2.1]; rfl
  have ct1:V2.cell? ⟨rb,x.toNat,none⟩=some (.int .u64 (tx:Int)):=by rw[bF HBV2.out,HC1.out,List.getElem?_set_ne (by omega),HX.out.2.2.2]
  refine ag 0 rfl (by kernel_rfl) (by kernel_rfl) (by kernel_rfl) (fun _ _ _ h=>h) rfl ⟨c323,c321,cx1,ct1,c320⟩ (by rintro w' ⟨hw1,hw2,hw3,hw4,hw5⟩; go_simp; rfl) ?_;simp only[Act.put,aH,aI,aJ];refine ag 1 rfl (by kernel_rfl) (by kernel_rfl) (by kernel_rfl) (fun _ _ _ h=>h) rfl ⟨c323,c321,cx1,ct1,c320⟩ (by rintro w' ⟨hw1,hw2,hw3,hw4,hw5⟩; go_simp; rfl) ?_;simp only[Act.put,aH,aI,aJ]
  refine ag 2 rfl (by kernel_rfl) (by kernel_rfl) (by kernel_rfl) (fun _ _ _ h=>h) rfl ⟨c323,c321,cx1,ct1,c320⟩ (by rintro w' ⟨hw1,hw2,hw3,hw4,hw5⟩; go_simp; rfl) ?_;simp only[Act.put,aH,aI,aJ];refine ag 3 rfl (by kernel_rfl) (by kernel_rfl) (by kernel_rfl) (fun _ _ _ h=>h) rfl ⟨c323,c321,cx1,ct1,c320⟩ (by rintro w' ⟨hw1,hw2,hw3,hw4,hw5⟩; go_simp; rfl) ?_;simp only[Act.put,aH,aI,aJ]
  refine ag 4 rfl (by kernel_rfl) (by kernel_rfl) (by kernel_rfl) (fun _ _ _ h=>h) rfl ⟨c323,c321,cx1,ct1,c320⟩ (by rintro w' ⟨hw1,hw2,hw3,hw4,hw5⟩; go_simp; rfl) ?_;simp only[Act.put,aH,aI,aJ];refine ag 5 rfl (by kernel_rfl) (by kernel_rfl) (by kernel_rfl) (fun _ _ _ h=>h) rfl ⟨c323,c321,cx1,ct1,c320⟩ (by rintro w' ⟨hw1,hw2,hw3,hw4,hw5⟩; go_simp; rfl) ?_;simp only[Act.put,aH,aI,aJ]
  refine ag 6 rfl (by kernel_rfl) (by kernel_rfl) (by kernel_rfl) (fun _ _ _ h=>h) rfl ⟨c323,c321,cx1,ct1,c320⟩ (by rintro w' ⟨hw1,hw2,hw3,hw4,hw5⟩; go_simp; rfl) ?_;simp only[Act.put,aH,aI,aJ];refine ag 7 rfl (by kernel_rfl) (by kernel_rfl) (by kernel_rfl) (fun _ _ _ h=>h) rfl ⟨c323,c321,cx1,ct1,c320⟩ (by rintro w' ⟨hw1,hw2,hw3,hw4,hw5⟩; go_simp; rfl) ?_;simp only[Act.put,aH,aI,aJ]
  refine ag 8 rfl (by kernel_rfl) (by kernel_rfl) (by kernel_rfl) (fun _ _ _ h=>h) rfl ⟨c323,c321,cx1,ct1,c320⟩ (by rintro w' ⟨hw1,hw2,hw3,hw4,hw5⟩; go_simp; rfl) ?_;simp only[Act.put,aH,aI,aJ];refine ag 9 rfl (by kernel_rfl) (by kernel_rfl) (by kernel_rfl) (fun _ _ _ h=>h) rfl ⟨c323,c321,cx1,ct1,c320⟩ (by rintro w' ⟨hw1,hw2,hw3,hw4,hw5⟩; go_simp; rfl) ?_;simp only[Act.put,aH,aI,aJ]
  refine ag 10 rfl (by kernel_rfl) (by kernel_rfl) (by kernel_rfl) (fun _ _ _ h=>h) rfl ⟨c323,c321,cx1,ct1,c320⟩ (by rintro w' ⟨hw1,hw2,hw3,hw4,hw5⟩; go_simp; rfl) ?_;simp only[Act.put,aH,aI,aJ];refine ag 11 rfl (by kernel_rfl) (by kernel_rfl) (by kernel_rfl) (fun _ _ _ h=>h) rfl ⟨c323,c321,cx1,ct1,c320⟩ (by rintro w' ⟨hw1,hw2,hw3,hw4,hw5⟩; go_simp; rfl) ?_;simp only[Act.put,aH,aI,aJ]
  refine ag 12 rfl (by kernel_rfl) (by kernel_rfl) (by kernel_rfl) (fun _ _ _ h=>h) rfl ⟨c323,c321,cx1,ct1,c320⟩ (by rintro w' ⟨hw1,hw2,hw3,hw4,hw5⟩; go_simp; rfl) ?_;simp only[Act.put,aH,aI,aJ];refine ag 13 rfl (by kernel_rfl) (by kernel_rfl) (by kernel_rfl) (fun _ _ _ h=>h) rfl ⟨c323,c321,cx1,ct1,c320⟩ (by rintro w' ⟨hw1,hw2,hw3,hw4,hw5⟩; go_simp; rfl) ?_;simp only[Act.put,aH,aI,aJ]
  refine ag 14 rfl (by kernel_rfl) (by kernel_rfl) (by kernel_rfl) (fun _ _ _ h=>h) rfl ⟨c323,c321,cx1,ct1,c320⟩ (by rintro w' ⟨hw1,hw2,hw3,hw4,hw5⟩; go_simp; rfl) ?_;simp only[Act.put,aH,aI,aJ];refine ag 15 rfl (by kernel_rfl) (by kernel_rfl) (by kernel_rfl) (fun _ _ _ h=>h) rfl ⟨c323,c321,cx1,ct1,c320⟩ (by rintro w' ⟨hw1,hw2,hw3,hw4,hw5⟩; go_simp; rfl) ?_;simp only[Act.put,aH,aI,aJ]
  refine ag 16 rfl (by kernel_rfl) (by kernel_rfl) (by kernel_rfl) (fun _ _ _ h=>h) rfl ⟨c323,c321,cx1,ct1,c320⟩ (by rintro w' ⟨hw1,hw2,hw3,hw4,hw5⟩; go_simp; rfl) ?_;simp only[Act.put,aH,aI,aJ];refine ag 17 rfl (by kernel_rfl) (by kernel_rfl) (by kernel_rfl) (fun _ _ _ h=>h) rfl ⟨c323,c321,cx1,ct1,c320⟩ (by rintro w' ⟨hw1,hw2,hw3,hw4,hw5⟩; go_simp; rfl) ?_;simp only[Act.put,aH,aI,aJ]
  refine ag 18 rfl (by kernel_rfl) (by kernel_rfl) (by kernel_rfl) (fun _ _ _ h=>h) rfl ⟨c323,c321,cx1,ct1,c320⟩ (by rintro w' ⟨hw1,hw2,hw3,hw4,hw5⟩; go_simp; rfl) ?_;simp only[Act.put,aH,aI,aJ];refine ag 19 rfl (by kernel_rfl) (by kernel_rfl) (by kernel_rfl) (fun _ _ _ h=>h) rfl ⟨c323,c321,cx1,ct1,c320⟩ (by rintro w' ⟨hw1,hw2,hw3,hw4,hw5⟩; go_simp; rfl) ?_;simp only[Act.put,aH,aI,aJ]
  refine ag 20 rfl (by kernel_rfl) (by kernel_rfl) (by kernel_rfl) (fun _ _ _ h=>h) rfl ⟨c323,c321,cx1,ct1,c320⟩ (by rintro w' ⟨hw1,hw2,hw3,hw4,hw5⟩; go_simp; rfl) ?_;simp only[Act.put,aH,aI,aJ];refine ag 21 rfl (by kernel_rfl) (by kernel_rfl) (by kernel_rfl) (fun _ _ _ h=>h) rfl ⟨c323,c321,cx1,ct1,c320⟩ (by rintro w' ⟨hw1,hw2,hw3,hw4,hw5⟩; go_simp; rfl) ?_;simp only[Act.put,aH,aI,aJ]
  refine aC 22 rfl (by kernel_rfl) rfl (fun K hK=> ?_);go_wp2_with fail;refine(sr tx n V2 htxl hW2).mono ?_;rintro e w1 ⟨rfl,rfl⟩;go_wp2_with fail;refine⟨⟨c323,c321,cx1,ct1,c320⟩, ?_⟩;refine ag 23 rfl (by kernel_rfl) (by kernel_rfl) (by kernel_rfl) (fun _ _ _ h=>h) rfl ⟨c323,c321,cx1,ct1,c320⟩ (by rintro w' ⟨hw1,hw2,hw3,hw4,hw5⟩; go_simp; rfl) ?_;simp only[Act.put,aH,aI,aJ]
  refine ag 24 rfl (by kernel_rfl) (by kernel_rfl) (by kernel_rfl) (fun _ _ _ h=>h) rfl ⟨c323,c321,cx1,ct1,c320⟩ (by rintro w' ⟨hw1,hw2,hw3,hw4,hw5⟩; go_simp; rfl) ?_;simp only[Act.put,aH,aI,aJ];refine ag 25 rfl (by kernel_rfl) (by kernel_rfl) (by kernel_rfl) (fun _ _ _ h=>h) rfl ⟨c323,c321,cx1,ct1,c320⟩ (by rintro w' ⟨hw1,hw2,hw3,hw4,hw5⟩; go_simp; rfl) ?_;simp only[Act.put,aH,aI,aJ]
  rw[zm hh1l (iQ n htxl)];obtain⟨h2,hh2⟩: ∃h2,h2=h1^^^dV tx n:=⟨_,rfl⟩;rw[<-hh2];have hh2l:h2<18446744073709551616:=by rw[hh2]; exact mO hh1l (iQ n htxl)
  have HH2:=ab hh2;have cf:V2.frozen? ⟨rb,323,none⟩=false:=frozen_of_row V2 _ _ _ _ HBV2.out;have cf1:V2.frozen? ⟨rb,321,none⟩=false:=frozen_of_row V2 _ _ _ _ HBV2.out;have cf2:V2.frozen? ⟨rb,322,none⟩=false:=frozen_of_row V2 _ _ _ _ HBV2.out;have c322:V2.cell? ⟨rb,322,none⟩=some (.int .i64 (n:Int)):=by rw[bF HBV2.out,HC1.out,List.getElem?_set_ne (by decide),HLN.out]
  obtain⟨s2,hs2⟩: ∃s2,s2=(s+1)%64:=⟨_,rfl⟩;obtain⟨n2,hn2⟩: ∃n2,n2=n-1:=⟨_,rfl⟩;have hsa:IntKind.i64.wrap ((s:Int)+1)=((s+1:Nat):Int):=by rw[IntKind.wrap_i64]; omega
  have hsb:((s:Int)+1)%64=(s2:Int):=by omega
  have hna:IntKind.i64.wrap ((n:Int)-1)=(n2:Int):=by rw[IntKind.wrap_i64]; omega
  have hs264:s2<64:=by omega
  have hn264:n2<64:=by omega
  have HS2:=ab hs2;have HN2:=ab hn2;clear hh2 hs2 hn2;refine bu (by kernel_rfl) ?_;refine dd rfl rfl (fun K hK=> ?_);go_wp2_with fail;obtain⟨X,hX⟩: ∃X:World,X=((V2.setCell ⟨rb,323,none⟩ (.int .u64 (h2:Int))).setCell ⟨rb,321,none⟩ (.int .i64 (s2:Int))).setCell ⟨rb,322,none⟩ (.int .i64 (n2:Int)):=⟨_,rfl⟩;rw[<-hX];have HBX:=ab (show X.heap[rb]? =some (.cells (((cs1.set 323 (.int .u64 (h2:Int))).set 321 (.int .i64 (s2:Int))).set 322 (.int .i64 (n2:Int))).toArray ty (0,0)) by rw[hX]; exact fP (fP (fP HBV2.out _) _) _)
  have HGX:=ab (show w.grownBy X (some rb) by rw[hX]; exact bS (bS (bS HGV2.out _ _) _ _) _ _);have HCX:=ab (show(((cs1.set 323 (.int .u64 (h2:Int))).set 321 (.int .i64 (s2:Int))).set 322 (.int .i64 (n2:Int)))[321]? =some (.int .i64 (s2:Int))/\(((cs1.set 323 (.int .u64 (h2:Int))).set 321 (.int .i64 (s2:Int))).set 322 (.int .i64 (n2:Int)))[322]? =some (.int .i64 (n2:Int))from⟨by rw[List.getElem?_set_ne (by decide),List.getElem?_set_self (by rw[HC1.out]; simp; omega)],by rw[List.getElem?_set_self (by rw[HC1.out]; simp; omega)]⟩)
  have HRX:=ab (show ∀j,j<64-> ∃c,(((cs1.set 323 (.int .u64 (h2:Int))).set 321 (.int .i64 (s2:Int))).set 322 (.int .i64 (n2:Int)))[256+j]? =some (aN c)from fun j hj=>by
   rw[List.getElem?_set_ne (by omega),List.getElem?_set_ne (by omega),List.getElem?_set_ne (by omega),HC1.out,List.getElem?_set_ne (by omega)];exact HR.out.rng j hj)
  clear hX c323 c320 c321 cx1 ct1 cf cf1 cf2 c322;have hbt2:=hbt;obtain⟨j2,hj2⟩: ∃j2,j2=(s2+n2)%64:=⟨_,rfl⟩;have hj64:j2<64:=by omega
  have hj64i:(j2:Int)<64:=by omega
  have hadd:IntKind.i64.wrap ((s2:Int)+(n2:Int))=(s2:Int)+(n2:Int):=by rw[IntKind.wrap_i64]; omega
  have hmod:((s2:Int)+(n2:Int))%64=(j2:Int):=by omega
  have hmod2:Int.tmod ((s2:Int)+(n2:Int)) 64=(j2:Int):=by rw[Int.tmod_eq_emod_of_nonneg (by omega)]; omega
  have hmod3:IntKind.i64.wrap (j2:Int)=(j2:Int):=by rw[IntKind.wrap_i64]; omega
  have hinc:IntKind.i64.wrap ((n2:Int)+1)=((n2+1:Nat):Int):=by rw[IntKind.wrap_i64]; omega
  have c321:X.cell? ⟨rb,321,none⟩=some (.int .i64 (s2:Int)):=by rw[bF HBX.out,HCX.out.1]
  have c322:X.cell? ⟨rb,322,none⟩=some (.int .i64 (n2:Int)):=by rw[bF HBX.out,HCX.out.2]
  have cf1:X.frozen? ⟨rb,256+j2,none⟩=false:=frozen_of_row X _ _ _ _ HBX.out;have cf2:X.frozen? ⟨rb,322,none⟩=false:=frozen_of_row X _ _ _ _ HBX.out;obtain⟨bj,hbj⟩:=HRX.out j2 hj64;have cbj:X.cell? ⟨rb,256+j2,none⟩=some (aN bj):=by rw[bF HBX.out,hbj]
  clear hbj;have hne1: ¬(256+j2=322):=by omega
  have hne2: ¬(322=256+j2):=by omega
  have HJ2:=ab hj2;clear hj2;refine aA [some 15,none] (by kernel_rfl) (by kernel_rfl) (by kernel_rfl) ?_;simp only[bz,List.take_succ_cons,List.take_zero,List.drop_succ_cons,List.drop_zero]
  repeat (first | (refine aD rfl ?_; simp only[Act.put,aH,aI,aJ]) | (refine aM rfl (fun K hK=> ?_); go_simp; refine hK _ ?_; clear hK K))
  refine aL ?_;refine bE rfl (fun K hK=> ?_);go_wp2_with fail
  go_end0
  refine⟨rfl,⟨_,fP (fP (show X.drew.heap[rb]? =_ from HBX.out) _) _, ?_, ?_, ?_⟩,bS (bS (kf HGX.out) _ _) _ _⟩
  ·rw[HJ2.out];have hlen:=(kz n d).symm;refine HR.out.push (b:=b) (q:=l) (s2:=s2) (n2:=n2) ?_ ?_ hs264 ?_ ?_ ?_ ?_ ?_ hW2 ?_
   ·intro i hi;rw[List.getElem?_set_ne (by omega),List.getElem?_set_ne (by omega),List.getElem?_set_ne (by omega),HC1.out,List.getElem?_set_ne (by omega)]
   ·exact HCX.out.1
   ·rw[HC1.out]; simp; omega
   ·rw[List.getElem?_set_ne (by omega),List.getElem?_set_ne (by omega),List.getElem?_set_self (by rw[HC1.out]; simp; omega),HH2.out,HH1.out,HT.out.1,HT.out.2,HX.out.2.2.1,sM hW (by have:=HN.out; omega),HX.out.1];have:=xi (oz seed) x b l (by omega);rw[hll]at this;unfold nL;rw[this]
    rfl
   ·rw[sM hW (by have:=HN.out; omega),HX.out.1]; rfl
   ·have:=HN2.out; omega
   ·have:=HN2.out; omega
   ·intro j c hc;have hjl:=(List.getElem?_eq_some_iff.1 hc).1;rw[List.getElem?_set_ne (by omega),List.getElem?_set_ne (by omega),List.getElem?_set_ne (by omega),HC1.out,List.getElem?_set_ne (by omega)];have:=HSW.out (j+1) c (by rw[HX.out.1]; exact hc);rw[show(s2+j)%64=(s+(j+1))%64 by have:=HS2.out; omega];exact this
  ·rw[HC1.out]; simp
  ·intro i hi;have:=HJ2.out;rw[List.getElem?_set_ne (by omega),List.getElem?_set_ne (by omega),List.getElem?_set_ne (by omega),List.getElem?_set_ne (by omega),List.getElem?_set_ne (by omega),HC1.out,List.getElem?_set_ne (by omega)]
 ·go_wp2_with fail;obtain⟨X,hX⟩: ∃X:World,X=U1:=⟨_,rfl⟩;rw[<-hX];obtain⟨s2,hs2⟩: ∃s2,s2=s:=⟨_,rfl⟩;obtain⟨n2,hn2⟩: ∃n2,n2=n:=⟨_,rfl⟩;have HBX:=ab (show X.heap[rb]? =some (.cells cs1.toArray ty (0,0)) by rw[hX]; exact HBU1.out);have HGX:=ab (show w.grownBy X (some rb) by rw[hX]; exact HGU1.out);have HCX:=ab (show cs1[321]? =some (.int .i64 (s2:Int))/\cs1[322]? =some (.int .i64 (n2:Int))from⟨by rw[HC1.out,List.getElem?_set_ne (by decide),HSC.out,hs2],by rw[HC1.out,List.getElem?_set_ne (by decide),HLN.out,hn2]⟩)
  have HRX:=ab (show ∀j,j<64-> ∃c,cs1[256+j]? =some (aN c)from fun j hj=>by
   rw[HC1.out,List.getElem?_set_ne (by omega)];exact HR.out.rng j hj)
  have hs264:s2<64:=by omega
  have hn264:n2<64:=by have:=HN.out; omega
  have HS2:=ab hs2;have HN2:=ab hn2;clear hX hs2 hn2;have hbt2:=hbt;obtain⟨j2,hj2⟩: ∃j2,j2=(s2+n2)%64:=⟨_,rfl⟩;have hj64:j2<64:=by omega
  have hj64i:(j2:Int)<64:=by omega
  have hadd:IntKind.i64.wrap ((s2:Int)+(n2:Int))=(s2:Int)+(n2:Int):=by rw[IntKind.wrap_i64]; omega
  have hmod:((s2:Int)+(n2:Int))%64=(j2:Int):=by omega
  have hmod2:Int.tmod ((s2:Int)+(n2:Int)) 64=(j2:Int):=by rw[Int.tmod_eq_emod_of_nonneg (by omega)]; omega
  have hmod3:IntKind.i64.wrap (j2:Int)=(j2:Int):=by rw[IntKind.wrap_i64]; omega
  have hinc:IntKind.i64.wrap ((n2:Int)+1)=((n2+1:Nat):Int):=by rw[IntKind.wrap_i64]; omega
  have c321:X.cell? ⟨rb,321,none⟩=some (.int .i64 (s2:Int)):=by rw[bF HBX.out,HCX.out.1]
  have c322:X.cell? ⟨rb,322,none⟩=some (.int .i64 (n2:Int)):=by rw[bF HBX.out,HCX.out.2]
  have cf1:X.frozen? ⟨rb,256+j2,none⟩=false:=frozen_of_row X _ _ _ _ HBX.out;have cf2:X.frozen? ⟨rb,322,none⟩=false:=frozen_of_row X _ _ _ _ HBX.out;obtain⟨bj,hbj⟩:=HRX.out j2 hj64;have cbj:X.cell? ⟨rb,256+j2,none⟩=some (aN bj):=by rw[bF HBX.out,hbj]
  clear hbj;have hne1: ¬(256+j2=322):=by omega
  have hne2: ¬(322=256+j2):=by omega
  have HJ2:=ab hj2;clear hj2;refine aA [some 15,none] (by kernel_rfl) (by kernel_rfl) (by kernel_rfl) ?_;simp only[bz,List.take_succ_cons,List.take_zero,List.drop_succ_cons,List.drop_zero]
  repeat (first | (refine aD rfl ?_; simp only[Act.put,aH,aI,aJ]) | (refine aM rfl (fun K hK=> ?_); go_simp; refine hK _ ?_; clear hK K))
  refine aL ?_;refine bE rfl (fun K hK=> ?_);go_wp2_with fail
  go_end0
  have hdl:d.length<W:=by have:=HN.out; omega
  refine⟨rfl,⟨_,fP (fP (show X.drew.heap[rb]? =_ from HBX.out) _) _, ?_, ?_, ?_⟩,bS (bS (kf HGX.out) _ _) _ _⟩
  ·rw[HJ2.out];refine HR.out.push (b:=b) (q:=iR W d) (s2:=s2) (n2:=n2) ?_ ?_ hs264 ?_ ?_ (sL hdl b) ?_ ?_ hW2 ?_
   ·intro i hi;rw[HC1.out,List.getElem?_set_ne (by omega)]
   ·exact HCX.out.1
   ·rw[HC1.out]; simp; omega
   ·rw[HC1.out,List.getElem?_set_self (by omega),HH1.out,HT.out.1,HT.out.2,sL hdl];unfold nL;rw[gR]
   ·rw[kz,<-HN.out,HN2.out]
   ·have:=HN2.out; have:=HN.out; omega
   ·intro j c hc;rw[HC1.out,List.getElem?_set_ne (by omega),HS2.out];exact HSW.out j c hc
  ·rw[HC1.out]; simp
  ·intro i hi;have:=HJ2.out;rw[List.getElem?_set_ne (by omega),List.getElem?_set_ne (by omega),HC1.out,List.getElem?_set_ne (by omega)]
structure tW (w : World) : Prop where
 tab:TabAt 5 Lib.deBruijn64tab w
 lt:5<w.heap.size
theorem tW.block {w w':World} (h:tW w) (hb:w'.heap[5]? =w.heap[5]?) (hs:w.heap.size<=w'.heap.size):tW w':=
 ⟨fun j hj=>by rw[<-h.tab j hj]; exact World.cell?_of_block hb,Nat.lt_of_lt_of_le h.lt hs⟩
theorem tW.below {w0 w w':World} (h:tW w) (hb:Below w0.heap.size w w') (hlt:5<w0.heap.size):tW w':=h.block (hb.block _ hlt) hb.size
theorem tW.grown {w w':World} {r:Option Nat} (h:tW w) (hg:w.grownBy w' r) (hr:r≠some 5):tW w':=h.block (hg.block _ h.lt (fun e=>hr e.symm)) hg.size
theorem kn (rb n:Nat) (w:World) (h:w.cell? ⟨rb,322,none⟩=some (.int .i64 (n:Int))):Calls Tryz.prog 196 #[.pointer (some ⟨rb,0,none⟩)] w fun e w'=>e= .returned (.int .i64 (n:Int))/\w=w':=by
 go_enter Tryz.func196,Tryz.ntmps196
 go_wp2_with fail;go_ret;exact⟨rfl,rfl⟩
theorem ko (rb n:Nat) (w:World) (h:w.cell? ⟨rb,323,none⟩=some (.int .u64 (n:Int))):Calls Tryz.prog 198 #[.pointer (some ⟨rb,0,none⟩)] w fun e w'=>e= .returned (.int .u64 (n:Int))/\w=w':=by
 go_enter Tryz.func198,Tryz.ntmps198
 go_wp2_with fail;go_ret;exact⟨rfl,rfl⟩
theorem Bq (x:Nat) (w:World) (hx:x<18446744073709551616) (hT:tW w):Calls Tryz.prog 197 #[.int .u64 (x:Int)] w fun e w'=>e= .returned (.int .i64 ((Lib.ctz 64 x:Nat):Int))/\w=w':=by
 go_enter Tryz.func197,Tryz.ntmps197
 go_wp2_with fail;refine(Tryz.bits_TrailingZeros64 x hx w (fun _=>hT.tab)).mono ?_;rintro e w' ⟨rfl,rfl⟩;go_wp2_with fail;go_ret;exact⟨rfl,rfl⟩
def tE (c:eU) (data:List UInt8) (p:Nat):Bool:=FB c.seed c.win.toNat c.bits.toNat (data.take p)
structure nD (c : eU) (data : List UInt8) (p : Nat) (cs : List Value) : Prop where
 roll:kY c.seed c.win.toNat (data.take p) cs
 len:cs.length=331
 cut: ∀i,i<5->cs[324+i]? =(cT c)[i]?
 pos:cs[329]? =some (.int .i64 (p:Int))
 last:cs[330]? =some (.int .i64 (jA (tE c data) c.mn.toNat p))
theorem vf (mk:Nat->Bool) (mn p:Nat): -(mn:Int)<=jA mk mn p/\jA mk mn p<=(p:Int):=by
 rcases xt (mk:=mk) (mn:=mn) p with⟨h,_⟩ | ⟨L,h,h1,h2,_⟩<;> rw[h]<;> omega
theorem Dq (c:eU) (data:List UInt8) (p:Nat) (b:UInt8) (mb:Nat) (ty:TypeId) (cs:List Value) (w:World) (hc:fq c=true) (hb:data[p]? =some b) (hp:data.length<=1048576) (hbox:w.heap[mb]? =some (.cells cs.toArray ty (0,0))) (hm:nD c data p cs) (hT:tW w) (hmb:mb≠5):
  Calls Tryz.prog 176 #[.pointer (some ⟨mb,0,none⟩), .int .u8 (b.toNat:Int)] w fun e w'=>e= .returned (.bool (pU (tE c data) c.mn.toNat (p+1)))/\(∃cs',w'.heap[mb]? =some (.cells cs'.toArray ty (0,0))/\nD c data (p+1) cs')/\w.grownBy w' (some mb):=by
 have hv:=fo.1 hc;have HV:=ab hv;have HM:=ab hm;have HBX:=ab hbox;have HT:=ab hT;have hpl:=(List.getElem?_eq_some_iff.1 hb).1;have htk:data.take (p+1)=data.take p++[b]:=by rw[List.take_add_one,hb]; rfl
 have HTK:=ab htk;obtain⟨W,hW⟩: ∃W,W=c.win.toNat:=⟨_,rfl⟩;obtain⟨B,hB⟩: ∃B,B=c.bits.toNat:=⟨_,rfl⟩;obtain⟨mn,hmn⟩: ∃mn,mn=c.mn.toNat:=⟨_,rfl⟩;have hWi:c.win=(W:Int):=by omega
 have hBi:c.bits=(B:Int):=by omega
 have hmi:c.mn=(mn:Int):=by omega
 have hW1:1<=W:=by omega
 have hW2:W<=64:=by omega
 have HI:=ab (And.intro hW (And.intro hB (And.intro hmn (And.intro hWi (And.intro hBi hmi)))));clear hc hm hbox hT hb htk hv hW hB hmn hWi hBi hmi
 go_enter Tryz.func176,Tryz.ntmps176
 go_wp2_with fail;refine(CS mb ty c.seed W (data.take p) b cs w HBX.out (by have:=HM.out.roll; rw[<-HI.out.1]at this; exact this) hW1 hW2).mono ?_;rintro e w1 ⟨rfl,⟨cs1,hb1,hr1,hl1,hk1⟩,hg1⟩;have HB1:=ab hb1;have HR1:=ab hr1;have HK1:=ab hk1;have HL1:=ab (hl1.trans HM.out.len);have HG1:=ab hg1;have HT1:=ab (HT.out.grown hg1 (fun e=>hmb (Option.some.inj e)));clear hb1 hr1 hk1 hl1 hg1
 have c329:w1.cell? ⟨mb,329,none⟩=some (.int .i64 (p:Int)):=by rw[bF HB1.out,HK1.out _ (by decide),HM.out.pos]
 have cf:w1.frozen? ⟨mb,329,none⟩=false:=frozen_of_row w1 _ _ _ _ HB1.out;have hinc:IntKind.i64.wrap ((p:Int)+1)=((p+1:Nat):Int):=by rw[IntKind.wrap_i64]; omega
 go_wp2_with fail;obtain⟨cs2,hcs2⟩: ∃cs2,cs2=cs1.set 329 (.int .i64 (((p:Nat):Int)+1)):=⟨_,rfl⟩;obtain⟨U,hU⟩: ∃U:World,U=w1.setCell ⟨mb,329,none⟩ (.int .i64 (((p:Nat):Int)+1)):=⟨_,rfl⟩;rw[<-hU];have HBU:=ab (show U.heap[mb]? =some (.cells cs2.toArray ty (0,0)) by rw[hU,hcs2]; exact fP HB1.out _);have HGU:=ab (show w.grownBy U (some mb) by rw[hU]; exact bS HG1.out _ _)
 have HTU:=ab (show tW U by rw[hU]; exact HT1.out.grown (aG _ _ _ _) (fun e=>hmb (Option.some.inj e)));have HC2:=ab hcs2;have HL2:=ab (show cs2.length=331 by rw[hcs2,List.length_set]; exact HL1.out);clear hU hcs2 c329 cf hinc;obtain⟨n,hn⟩: ∃n,n=min W (p+1):=⟨_,rfl⟩;obtain⟨h,hh⟩: ∃h,h=nL c.seed (iR W (data.take (p+1))):=⟨_,rfl⟩;have hhl:h<18446744073709551616:=by rw[hh]; exact uP _ _
 obtain⟨z,hz⟩: ∃z,z=Lib.ctz 64 h:=⟨_,rfl⟩;obtain⟨la,hla⟩: ∃la,la=jA (tE c data) mn p:=⟨_,rfl⟩;have hlr: -(mn:Int)<=la/\la<=(p:Int):=by rw[hla]; exact vf _ _ _
 have c322:U.cell? ⟨mb,322,none⟩=some (.int .i64 (n:Int)):=by
  rw[bF HBU.out,HC2.out,List.getElem?_set_ne (by decide),HR1.out.len,hn,List.length_append,List.length_take,List.length_cons,List.length_nil,Nat.min_eq_left (by omega:p<=data.length)]
 have c323:U.cell? ⟨mb,323,none⟩=some (.int .u64 (h:Int)):=by
  rw[bF HBU.out,HC2.out,List.getElem?_set_ne (by decide),HR1.out.sum,hh,HTK.out]
 have c324:U.cell? ⟨mb,324,none⟩=some (.int .i64 (mn:Int)):=by
  rw[bF HBU.out,HC2.out,List.getElem?_set_ne (by decide),HK1.out _ (by decide),HM.out.cut 0 (by decide),<-HI.out.2.2.2.2.2]; rfl
 have c326:U.cell? ⟨mb,326,none⟩=some (.int .i64 (W:Int)):=by
  rw[bF HBU.out,HC2.out,List.getElem?_set_ne (by decide),HK1.out _ (by decide),HM.out.cut 2 (by decide),<-HI.out.2.2.2.1]; rfl
 have c327:U.cell? ⟨mb,327,none⟩=some (.int .i64 (B:Int)):=by
  rw[bF HBU.out,HC2.out,List.getElem?_set_ne (by decide),HK1.out _ (by decide),HM.out.cut 3 (by decide),<-HI.out.2.2.2.2.1]; rfl
 have c329:U.cell? ⟨mb,329,none⟩=some (.int .i64 ((p:Int)+1)):=by
  rw[bF HBU.out,HC2.out,List.getElem?_set_self (by rw[HL1.out]; decide)]
 have c330:U.cell? ⟨mb,330,none⟩=some (.int .i64 la):=by
  rw[bF HBU.out,HC2.out,List.getElem?_set_ne (by decide),HK1.out _ (by decide),HM.out.last,hla,HI.out.2.2.1]
 have hmk:tE c data (p+1)=(decide (W<=n) && decide (B<=z)):=by
  unfold tE FB;rw[<-HI.out.1,<-HI.out.2.1,hz,hh]
  congr 1
  rw[decide_eq_decide,List.length_take]; omega
 have HMK:=ab hmk;have HH:=ab (And.intro hn (And.intro hh (And.intro hz hla)));have HDQ:=ab (show ∀n,tW (U.drewN n)from fun n=>HTU.out.block rfl (Nat.le_refl _));clear hn hh hz hla hmk;have HZ:=ab (show ∀m,Calls Tryz.prog 197 #[.int .u64 (h:Int)] (U.drewN m) fun e w'=>e= .returned (.int .i64 (z:Int))/\U.drewN m=w' from fun m=>by rw[HH.out.2.2.1]; exact Bq h (U.drewN m) hhl (HDQ.out m))
 have HRO:=ab (show kY c.seed c.win.toNat (data.take (p+1)) cs2 by
  rw[<-HI.out.1,HTK.out,HC2.out];have h:=HR1.out;refine⟨fun i hi=> ?_,fun j hj=> ?_, ?_, ?_, ?_, ?_⟩
  ·rw[List.getElem?_set_ne (by omega)]; exact h.tab i hi
  ·rw[List.getElem?_set_ne (by omega)]; exact h.rng j hj
  ·rw[List.getElem?_set_ne (by omega)]; exact h.win
  ·obtain⟨s,h1,h2,h3⟩:=h.st;refine⟨s,h1,by rw[List.getElem?_set_ne (by omega)]; exact h2,fun j b hb=>by rw[List.getElem?_set_ne (by omega)]; exact h3 j b hb⟩
  ·rw[List.getElem?_set_ne (by omega)]; exact h.len
  ·rw[List.getElem?_set_ne (by omega)]; exact h.sum)
 have HCU:=ab (show ∀i,i<5->cs2[324+i]? =(cT c)[i]? from fun i hi=>by
  rw[HC2.out,List.getElem?_set_ne (by omega),HK1.out _ (by omega)]; exact HM.out.cut i hi)
 have HPO:=ab (show cs2[329]? =some (.int .i64 ((p+1:Nat):Int)) by rw[HC2.out,List.getElem?_set_self (by rw[HL1.out]; decide)]; rfl);have HLA:=ab (show cs2[330]? =some (.int .i64 la) by rw[HC2.out,List.getElem?_set_ne (by decide),HK1.out _ (by decide),HM.out.last,HH.out.2.2.2,HI.out.2.2.1]);have HNO:=ab (show tE c data (p+1)=false->(pU (tE c data) c.mn.toNat (p+1)=false/\nD c data (p+1) cs2)from fun h0=>⟨by rw[pU,h0]; rfl,{
  roll:=HRO.out
  len:=HL2.out
  cut:=HCU.out
  pos:=HPO.out
  last:=by rw[jA,if_neg (by rw[h0]; decide),<-HI.out.2.2.1,<-HH.out.2.2.2]; exact HLA.out}⟩)
 by_cases h1:n<W
 ·have h1i:(n:Int)<(W:Int):=by omega
  go_quiet ((first | (go_at_call 196; refine eF (kn mb n _ c322)) | (go_at_call 198; refine eF (ko mb h _ c323)) | (go_at_call 197; refine eF (HZ.out _))))
  go_wp2_with fail;go_ret;have hno:=HNO.out (by rw[HMK.out,decide_eq_false (by omega)]; rfl);exact⟨az hno.1.symm,⟨cs2,HBU.out,hno.2⟩,io HGU.out _⟩
 ·have h1i:(W:Int)<=(n:Int):=by omega
  have h1j: ¬(n:Int)<(W:Int):=by omega
  by_cases h2:z<B
  ·have h2i:(z:Int)<(B:Int):=by omega
   go_quiet ((first | (go_at_call 196; refine eF (kn mb n _ c322)) | (go_at_call 198; refine eF (ko mb h _ c323)) | (go_at_call 197; refine eF (HZ.out _))))
   go_wp2_with fail;go_ret;have hno:=HNO.out (by rw[HMK.out,decide_eq_false (by omega: ¬B<=z),Bool.and_false]);exact⟨az hno.1.symm,⟨cs2,HBU.out,hno.2⟩,io HGU.out _⟩
  ·have h2i:(B:Int)<=(z:Int):=by omega
   have h2j: ¬(z:Int)<(B:Int):=by omega
   go_quiet ((first | (go_at_call 196; refine eF (kn mb n _ c322)) | (go_at_call 198; refine eF (ko mb h _ c323)) | (go_at_call 197; refine eF (HZ.out _))))
   go_wp2_with fail;have cf:U.frozen? ⟨mb,330,none⟩=false:=frozen_of_row U _ _ _ _ HBU.out;have hsub:IntKind.i64.wrap ((p:Int)+1-la)=(p:Int)+1-la:=by have:=HV.out; have:=HI.out; rw[IntKind.wrap_i64]; omega
   go_quiet (fail)
   go_wp2_with fail;go_ret;have hyes:tE c data (p+1)=true:=by rw[HMK.out,decide_eq_true (by omega:W<=n),decide_eq_true (by omega:B<=z)]; rfl
   refine⟨az ?_,⟨cs2.set 330 (.int .i64 ((p:Int)+1)),fP (show(U.drewN _).heap[mb]? =_ from HBU.out) _, ?_⟩,bS (io HGU.out _) _ _⟩
   ·rw[pU,hyes,Bool.true_and,<-HI.out.2.2.1,<-HH.out.2.2.2,decide_eq_decide]; simp
   ·have h:=HRO.out;have hcu:=HCU.out;refine⟨⟨fun i hi=> ?_,fun j hj=> ?_, ?_, ?_, ?_, ?_⟩,by rw[List.length_set]; exact HL2.out,fun i hi=> ?_, ?_, ?_⟩
    ·rw[List.getElem?_set_ne (by omega)]; exact h.tab i hi
    ·rw[List.getElem?_set_ne (by omega)]; exact h.rng j hj
    ·rw[List.getElem?_set_ne (by omega)]; exact h.win
    ·obtain⟨s,h1,h2,h3⟩:=h.st;refine⟨s,h1,by rw[List.getElem?_set_ne (by omega)]; exact h2,fun j b hb=>by rw[List.getElem?_set_ne (by omega)]; exact h3 j b hb⟩
    ·rw[List.getElem?_set_ne (by omega)]; exact h.len
    ·rw[List.getElem?_set_ne (by omega)]; exact h.sum
    ·rw[List.getElem?_set_ne (by omega)]; exact hcu i hi
    ·rw[List.getElem?_set_ne (by omega)]; exact HPO.out
    ·rw[List.getElem?_set_self (by rw[HL2.out]; decide),jA,if_pos hyes]; rfl
end Go.Proofs.YtnjkpcalgoefhaaGreatDoor
namespace Go.Proofs.YtnjkpcalgoefhaaGreatDoor
open Go.RowKit
structure bm where
 sum:ByteArray
 size:Int
deriving DecidableEq
structure aw where
 path:ByteArray
 kind:Int
 mode:Int
 time:Int
 size:Int
 link:ByteArray
 parts:List bm
deriving DecidableEq
structure cA where
 tm:Int
 files:List aw
def fH (f:aw):bG:=⟨f.path,f.kind,f.mode,f.time,[],f.link⟩
def jo (l:List bm):Int:=l.foldl (fun a p=>wrap64 (a+p.size)) 0
theorem sF (l:List bm) (p:bm):jo (l++[p])=wrap64 (jo l+p.size):=by unfold jo; rw[List.foldl_append]; rfl
def cW (p:bm):Bool:=decide (p.sum.size=32) && decide (1<=p.size) && decide (p.size<=32768)
def cJ (f:aw):Bool:=if f.kind=1 then f.parts.all cW && (decide (f.size=jo f.parts) && decide (jo f.parts<=1048576))else decide (f.size=0) && decide (f.parts=[])
def cR (x:cA):Bool:=decide (0<=x.tm) && decide (x.files.length<=4096) && x.files.all cJ && decide (cD (x.files.map fH)=0)
def jI (c:List UInt8):ByteArray:=⟨(xR c).toArray⟩
def bP (c:List UInt8):bm:=⟨jI c,(c.length:Int)⟩
def gq (tm:Int) (f:aw) (e:bG):Bool:=decide (f.path=e.path) && decide (f.kind=1) && decide (e.kind=1) && (decide (f.time=e.time) && decide (f.size=(e.data.length:Int)) && decide (e.time<tm))
def fg (l:List aw) (p:ByteArray):Option aw:=l.find? fun f=>decide (f.path=p)
def qq (tm:Int) (prev:List aw) (e:bG):Bool:=decide (e.kind=1) && (match fg prev e.path with | some f=>gq tm f e | none=>false)
def sq (tm:Int) (prev:List aw) (e:bG):Bool:=decide (e.kind=1) && !qq tm prev e
def cE (c:eU) (data:List UInt8):List (List UInt8):=er data 0 (uG (tE c data) c.mn.toNat c.mx.toNat data.length)
def ek (tm:Int) (prev:List aw) (c:eU) (e:bG):List bm:=
 if e.kind=1 then(match fg prev e.path with | some f=>if gq tm f e=true then f.parts else(cE c e.data).map bP | none=>(cE c e.data).map bP)else []
def fw (tm:Int) (prev:List aw) (c:eU) (e:bG):aw:=⟨e.path,e.kind,e.mode,e.time,(e.data.length:Int),e.link,ek tm prev c e⟩
instance decMemB (x : ByteArray) (l : List ByteArray) : Decidable (x ∈ l) := decidable_of_iff (∃ y ∈ l, y = x) ⟨fun ⟨_, h, e⟩ => e ▸ h, fun h => ⟨x, h, rfl⟩⟩
def uX (l:List ByteArray) (x:ByteArray):List ByteArray:=if x∈l then l else l++[x]
def rD (fs:List aw):List ByteArray:=(fs.flatMap aw.parts).foldl (fun l p=>uX l p.sum) []
def bO (s:List ByteArray×List (List UInt8)) (c:List UInt8):List ByteArray×List (List UInt8):=if jI c∈s.1 then s else(s.1++[jI c],s.2++[c])
def qM (rs:List bd) (e:bG):Bool:=(dJ rs (bl e.path) (decide (e.kind=2))).1
def dw (rs:List bd) (T:List bG):List bG:=T.filter fun e=> !qM rs e
structure kX where
 files:List aw
 known:List ByteArray
 news:List (List UInt8)
 read:Nat
 kept:Nat
def dS (tm:Int) (prev:List aw) (c:eU) (K:List bG):kX:=
 ⟨K.map (fw tm prev c),(((K.filter (sq tm prev)).flatMap fun e=>cE c e.data).foldl bO (rD prev,[])).1,(((K.filter (sq tm prev)).flatMap fun e=>cE c e.data).foldl bO (rD prev,[])).2,(K.filter (sq tm prev)).length,(K.filter (qq tm prev)).length⟩
def gO (f g:aw):Int:=if f.kind=g.kind/\f.link=g.link/\f.parts=g.parts then(if f.mode=g.mode/\f.time=g.time then 0 else 3)else 2
def jG :Nat->List aw->List aw->List (ByteArray×Int)
 | 0,_,_=>[]
 | _+1,[],[]=>[]
 | n+1,a::ar,[]=>(a.path,4)::jG n ar []
 | n+1,[],b::br=>(b.path,1)::jG n [] br
 | n+1,a::ar,b::br=>
  if cz (bl a.path) (bl b.path)<0 then(a.path,4)::jG n ar (b::br)
  else if 0<cz (bl a.path) (bl b.path)then(b.path,1)::jG n (a::ar) br
  else if gO a b=0 then jG n ar br else(b.path,gO a b)::jG n ar br
def qE (a b:List aw):List (ByteArray×Int):=jG (a.length+b.length) a b
structure BE where
 idx:cA
 chg:List (ByteArray×Int)
 news:List (List UInt8)
 read:Nat
 kept:Nat
def fm (prev:cA) (at':Int) (tree:List bG) (rules:List UInt8) (c:eU):Except Int BE:=
 if cR prev=true/\prev.tm<=at'/\fq c=true then
  (if(cI rules).2.2=0 then
   (if cD tree=0 then
    .ok ⟨⟨at',(dS prev.tm prev.files c (dw (cI rules).1 tree)).files⟩,qE prev.files (dS prev.tm prev.files c (dw (cI rules).1 tree)).files,
     (dS prev.tm prev.files c (dw (cI rules).1 tree)).news,(dS prev.tm prev.files c (dw (cI rules).1 tree)).read,(dS prev.tm prev.files c (dw (cI rules).1 tree)).kept⟩
   else .error (cD tree))
  else .error (cI rules).2.2)
 else .error 1
theorem Gd {tm:Int} {prev:List aw} {e:bG} (h:qq tm prev e=true):sq tm prev e=false:=by unfold sq; rw[h]; simp
theorem AQ {tm:Int} {prev:List aw} {c:eU} {K:List bG} {e:bG} (h:qq tm prev e=true):
  dS tm prev c (K++[e])=⟨(dS tm prev c K).files++[fw tm prev c e],(dS tm prev c K).known,(dS tm prev c K).news,(dS tm prev c K).read,(dS tm prev c K).kept+1⟩:=by
 simp[dS,List.filter_append,h,Gd h]
theorem AU {tm:Int} {prev:List aw} {c:eU} {K:List bG} {e:bG} (h:sq tm prev e=true):
  dS tm prev c (K++[e])=⟨(dS tm prev c K).files++[fw tm prev c e],((cE c e.data).foldl bO ((dS tm prev c K).known,(dS tm prev c K).news)).1,((cE c e.data).foldl bO ((dS tm prev c K).known,(dS tm prev c K).news)).2,(dS tm prev c K).read+1,(dS tm prev c K).kept⟩:=by
 have h2:qq tm prev e=false:=by
  unfold sq at h; rw[Bool.and_eq_true]at h; simpa using h.2
 simp[dS,List.filter_append,h,h2,List.foldl_append]
theorem AR {tm:Int} {prev:List aw} {c:eU} {K:List bG} {e:bG} (h:e.kind≠1):
  dS tm prev c (K++[e])=⟨(dS tm prev c K).files++[fw tm prev c e],(dS tm prev c K).known,(dS tm prev c K).news,(dS tm prev c K).read,(dS tm prev c K).kept⟩:=by
 have h1:sq tm prev e=false:=by unfold sq; simp[h]
 have h2:qq tm prev e=false:=by unfold qq; simp[h]
 simp[dS,List.filter_append,h1,h2]
theorem zO {rs:List bd} {T:List bG} {e:bG} (h:qM rs e=true):dw rs (T++[e])=dw rs T:=by simp[dw,List.filter_append,h]
theorem zP {rs:List bd} {T:List bG} {e:bG} (h:qM rs e=false):dw rs (T++[e])=dw rs T++[e]:=by simp[dw,List.filter_append,h]
theorem Ex {l:List ByteArray} {x y:ByteArray} :y∈uX l x<->y∈l\/y=x:=by
 unfold uX; split
 ·rename_i h;exact⟨.inl,fun h2=>h2.elim id (fun e=>by rw[e]; exact h)⟩
 ·simp
theorem iL {l:List aw} {p:ByteArray} {f:aw} (h:fg l p=some f):f∈l/\f.path=p:=
 ⟨List.mem_of_find?_eq_some h,by have:=List.find?_some h; simpa using this⟩
theorem Fp {tm:Int} {prev:List aw} {e:bG} :qq tm prev e=true<->e.kind=1/\ ∃f,fg prev e.path=some f/\f.kind=1/\f.time=e.time/\f.size=(e.data.length:Int)/\e.time<tm:=by
 unfold qq gq
 cases h:fg prev e.path with
 | none=>simp
 | some f=>
  have:=(iL h).2;simp[this,and_assoc];exact fun h _ _ _ _=>h
theorem CN {tm:Int} {prev:List aw} {c:eU} {e:bG} (h:qq tm prev e=true): ∃f,fg prev e.path=some f/\ek tm prev c e=f.parts/\f.kind=1/\f.size=(e.data.length:Int):=by
 obtain⟨h1,f,h2,h3,h4,h5,h6⟩:=Fp.1 h;refine⟨f,h2, ?_,h3,h5⟩;unfold ek gq;rw[if_pos h1,h2];simp[(iL h2).2,h1,h3,h4,h5,h6]
theorem pS {tm:Int} {prev:List aw} {c:eU} {e:bG} (h:sq tm prev e=true):ek tm prev c e=(cE c e.data).map bP:=by
 unfold sq at h;rw[Bool.and_eq_true,decide_eq_true_eq]at h;have h2:=h.2;unfold qq at h2;unfold ek;rw[if_pos h.1]
 cases hf:fg prev e.path with
 | none=>rfl
 | some f=>
  rw[hf]at h2;simp[h.1]at h2;simp[h2]
theorem Ey {tm:Int} {prev:List aw} {e:bG} (h:e.kind=1):qq tm prev e=true\/sq tm prev e=true:=by
 unfold sq
 cases qq tm prev e<;> simp[h]
theorem sQ {n:Int} (h0:0<=n) (h1:n<=9223372036854775807):wrap64 n=n:=IntWalk.wrap64_in n ⟨by omega,h1⟩
theorem ng : ∀(ls:List (List UInt8)) (i:Nat) (acc rs:List bd) (n:Int),acc.length<=256->dn ls i acc=(rs,n,0)->rs.length<=256
 | [],i,acc,rs,n,ha,h=>by
  simp only[dn,Prod.mk.injEq]at h;rw[<-h.1]; exact ha
 | l::ls,i,acc,rs,n,ha,h=>by
  simp only[dn]at h
  split at h
  ·exact ng ls _ _ _ _ ha h
  ·split at h
   ·simp at h
   ·split at h
    ·simp at h
    ·rename_i hne;exact ng ls _ _ _ _ (by simp; omega) h
theorem xB {l:List UInt8} {rs:List bd} {n:Int} (h:cI l=(rs,n,0)):rs.length<=256:=by
 unfold cI at h
 split at h
 ·simp at h
 ·exact ng _ _ _ _ _ (by simp) h
theorem Cw {l:List UInt8} {rs:List bd} {n:Int} (h:cI l=(rs,n,0)): ∃us,bh rs=some us/\ ∀p d,bJ p=true->dJ rs p d=(cM d (aF 47 p) us (aF 47 p).length 1,0):=by
 obtain⟨⟨us,hu⟩,_⟩:=vt h;refine⟨us,hu,fun p d hp=> ?_⟩;have h2:=xB h;unfold dJ;rw[if_neg (by rw[hp]; simp; omega),hu]
theorem FT {rs:List bd} {us:List (bd×List aU)} (hi: ∀p d,bJ p=true->dJ rs p d=(cM d (aF 47 p) us (aF 47 p).length 1,0)) {e f:bG} (he:bJ (bl e.path)=true) (hp:bb (bl e.path)≠[]) (hf:bl f.path=bb (bl e.path)) (hk:f.kind=2) (hn:qM rs e=false):qM rs f=false:=by
 rcases Ag he with⟨h1,_⟩ | ⟨_,h2,h3⟩
 ·exact absurd h1 hp
 ·unfold qM at *;rw[hi _ _ he]at hn;rw[hf,hi _ _ h2,h3,hk]
  cases hx:cM true (aF 47 (bl e.path)).dropLast us (aF 47 (bl e.path)).dropLast.length 1
  ·simpa using hx
  ·have:=BM (dir:=decide (e.kind=2)) (parts:=aF 47 (bl e.path)) (us:=us) hx;simp only at hn;rw[this]at hn; cases hn
theorem sG : ∀(cs:List (List UInt8)) (a:Int),0<=a->a+(cs.flatten.length:Int)<=9223372036854775807->(cs.map bP).foldl (fun a p=>wrap64 (a+p.size)) a=a+(cs.flatten.length:Int)
 | [],a,_,_=>by simp
 | c::cs,a,h0,h=>by
  rw[List.flatten_cons,List.length_append]at h ⊢;rw[List.map_cons,List.foldl_cons];have e:wrap64 (a+(bP c).size)=a+(c.length:Int):=sQ (by show 0<=a+(c.length:Int); omega) (by show a+(c.length:Int)<=_; omega);rw[e,sG cs _ (by omega) (by omega)];omega
theorem uu (c:eU) (data:List UInt8):(cE c data).flatten=data:=pT
theorem Fm {c:eU} {data:List UInt8} (h:data.length<=1048576):jo ((cE c data).map bP)=(data.length:Int):=by
 unfold jo;rw[sG _ 0 (by omega) (by rw[uu]; omega),uu]; omega
theorem kU (c:List UInt8):(jI c).size=32:=Dn c
theorem pd {c:eU} (hc:fq c=true) (data:List UInt8): ∀y∈cE c data,1<=y.length/\y.length<=c.mx.toNat:=by
 have hv:=fo.1 hc;exact fun y hy=>Al (mx:=c.mx.toNat) (by omega) (rL) y hy
theorem Cb {c:eU} (hc:fq c=true) (data:List UInt8):((cE c data).map bP).all cW=true:=by
 have hv:=fo.1 hc;rw[List.all_eq_true];intro p hp;obtain⟨y,hy,rfl⟩:=List.mem_map.1 hp;have:=pd hc data y hy
 show(decide ((jI y).size=32) && decide ((1:Int)<=(y.length:Int)) && decide ((y.length:Int)<=32768))=true
 rw[kU];simp;omega
def bare (e:bG):bG:= {e with data:=[]}
theorem DX {e:bG} (h:cC e=true):cC (bare e)=true:=by
 obtain⟨pa,kd,md,tm,da,li⟩:=e
 show cC ⟨pa,kd,md,tm,[],li⟩=true
 unfold cC iB ez at *;simp only[Bool.and_eq_true]at *;refine⟨h.1, ?_⟩;have h2:=h.2
 split at h2<;> rename_i hk
 ·rw[if_pos hk]; simp only[Bool.and_eq_true,decide_eq_true_eq,List.length_nil]at *; exact⟨by omega,h2.2⟩
 ·rw[if_neg hk]
  split at h2<;> rename_i hk2
  ·rw[if_pos hk2]; simp only[Bool.and_eq_true,decide_eq_true_eq,List.length_nil]at *; exact⟨trivial,h2.2⟩
  ·rw[if_neg hk2]
   split at h2<;> rename_i hk3
   ·rw[if_pos hk3]; simp only[Bool.and_eq_true,decide_eq_true_eq,List.length_nil]at *; exact⟨trivial,h2.2⟩
   ·cases h2
theorem mB {rs:List bd} {T:List bG} {e:bG} (h:e∈dw rs T):e∈T/\qM rs e=false:=by
 unfold dw at h;rw[List.mem_filter]at h;exact⟨h.1,by simpa using h.2⟩
theorem wR {rules:List UInt8} {rs:List bd} {n:Int} {T:List bG} (hr:cI rules=(rs,n,0)) (hT:cD T=0):cD ((dw rs T).map bare)=0:=by
 obtain⟨us,hu,hi⟩:=Cw hr;have hT:=fE.1 hT;have hs:dO ((dw rs T).map bare):=by
  unfold dO;rw[List.pairwise_map];exact hT.ord.filter _
 refine fE.2 (Fl hs (fun e he=> ?_) (fun e he=> ?_) ?_)
 ·obtain⟨x,hx,rfl⟩:=List.mem_map.1 he;exact DX (hT.val x (mB hx).1)
 ·obtain⟨x,hx,rfl⟩:=List.mem_map.1 he;obtain⟨h1,h2⟩:=mB hx
  rcases hT.has h1 with h | ⟨f,h3,h4,h5⟩
  ·exact .inl h
  ·by_cases hp:bb (bl x.path)=[]
   ·exact .inl hp
   ·refine .inr ⟨bare f,List.mem_map_of_mem ?_,h4,h5⟩;unfold dw;rw[List.mem_filter];exact⟨h3,by rw[FT hi (cB (hT.val x h1)) hp h4 h5 h2]; rfl⟩
 ·rw[List.length_map];exact Nat.le_trans (List.length_filter_le _ _) hT.len
theorem mu {e:bG} (h:cC e=true):(e.kind=1->e.data.length<=1048576)/\(e.kind≠1->e.data=[]):=by
 unfold cC ez at h;simp only[Bool.and_eq_true]at h;have h2:=h.2;refine⟨fun hk=> ?_,fun hk=> ?_⟩
 ·rw[if_pos hk]at h2; simp only[Bool.and_eq_true,decide_eq_true_eq]at h2; exact h2.1
 ·rw[if_neg hk]at h2
  split at h2
  ·simp only[Bool.and_eq_true,decide_eq_true_eq]at h2; exact List.length_eq_zero_iff.1 h2.1
  ·split at h2
   ·simp only[Bool.and_eq_true,decide_eq_true_eq]at h2; exact List.length_eq_zero_iff.1 h2.1
   ·cases h2
theorem jq {f:aw} (h:f.kind=1):cJ f=(f.parts.all cW && (decide (f.size=jo f.parts) && decide (jo f.parts<=1048576))):=by unfold cJ; rw[if_pos h]
theorem ky {f:aw} (h: ¬f.kind=1):cJ f=(decide (f.size=0) && decide (f.parts=[])):=by unfold cJ; rw[if_neg h]
theorem Eo {tm:Int} {prev:List aw} {c:eU} {e:bG} (hv:prev.all cJ=true) (hc:fq c=true) (he:cC e=true):cJ (fw tm prev c e)=true:=by
 obtain⟨h1,h2⟩:=mu he
 by_cases hk:e.kind=1
 ·have hd:=h1 hk;rw[jq (show(fw tm prev c e).kind=1 from hk)]
  show((ek tm prev c e).all cW && (decide ((e.data.length:Int)=jo (ek tm prev c e)) && decide (jo (ek tm prev c e)<=1048576)))=true
  rcases Ey (tm:=tm) (prev:=prev) hk with h | h
  ·obtain⟨f,h3,h4,h5,h6⟩:=CN (c:=c) h;have h7:=List.all_eq_true.1 hv f (iL h3).1;rw[jq h5]at h7;rw[h4,<-h6];exact h7
  ·rw[pS h,Cb hc,Fm hd]
   simp; omega
 ·rw[ky (show ¬(fw tm prev c e).kind=1 from hk)];have hp:ek tm prev c e=[]:=by unfold ek; rw[if_neg hk]
  show(decide ((e.data.length:Int)=0) && decide (ek tm prev c e=[]))=true
  rw[hp,h2 hk]; rfl
theorem FS {rules:List UInt8} {rs:List bd} {n:Int} {T:List bG} {prev:cA} {tm:Int} {c:eU} (hr:cI rules=(rs,n,0)) (hT:cD T=0) (hv:cR prev=true) (ht:prev.tm<=tm) (hc:fq c=true):
  cR ⟨tm,(dw rs T).map (fw prev.tm prev.files c)⟩=true:=by
 have hb:=wR hr hT;have hT:=fE.1 hT;unfold cR at *;simp only[Bool.and_eq_true,decide_eq_true_eq]at *;refine⟨⟨⟨by omega, ?_⟩, ?_⟩, ?_⟩
 ·rw[List.length_map]; exact Nat.le_trans (List.length_filter_le _ _) hT.len
 ·rw[List.all_eq_true];intro f hf;obtain⟨e,he,rfl⟩:=List.mem_map.1 hf;exact Eo hv.1.2 hc (hT.val e (mB he).1)
 ·rw[List.map_map];exact hb
theorem zG (f:aw):gO f f=0:=by simp[gO]
theorem uk : ∀(n:Nat) (l:List aw),jG n l l=[]
 | 0,l=>by simp[jG]
 | n+1,[]=>by simp[jG]
 | n+1,a::l=>by
  have h:cz (bl a.path) (bl a.path)=0:=(me _ _).2 rfl;simp[jG,h,zG,uk n l]
section
variable {tm later' : Int} {prev : List aw} {c : eU} {K : List bG}
end
def Ge (l:List aw):Prop:=l.Pairwise fun f g=>cz (bl f.path) (bl g.path)<0
theorem Gt {a b:ByteArray} (h:cz (bl a) (bl b)<0):a≠b:=by
 rintro rfl;rw[(me _ _).2 rfl]at h; omega
theorem Eu {x:cA} (h:cR x=true):Ge x.files:=by
 unfold cR at h;simp only[Bool.and_eq_true,decide_eq_true_eq]at h;have:=(fE.1 h.2).ord;unfold dO at this;rw[List.pairwise_map]at this;exact this
section
variable {α : Type} [DecidableEq α] {lt : α → α → Bool}
end
theorem kT {p:ByteArray} :p.size=0<->bl p=[]:=by rw[ay]; exact List.length_eq_zero_iff
def u8V (b:UInt8):Value:= .int .u8 (b.toNat:Int)
def cN (S:Nat->Prop) (w:World) (v:Value) (bs:List UInt8):Prop:=aS S w 1 v bs.length (bs.map u8V)
theorem cN.below {S:Nat->Prop} {w w':World} {v:Value} {bs:List UInt8} (h:cN S w v bs) (hb:Below w.heap.size w w'):cN S w' v bs:=aS.below h (by omega) hb
theorem cN.nil (S:Nat->Prop) (w:World):cN S w (.slice none 0 0) []:=aS.nil _ _ _
def pq (v:Value) (e:bG):Value:= .agg #[.string e.path, .int .i64 e.kind, .int .i64 e.mode, .int .i64 e.time,v, .string e.link]
def jc (v:Value) (e:bG):List Value:=[.string e.path, .int .i64 e.kind, .int .i64 e.mode, .int .i64 e.time,v, .string e.link]
structure jL (e : bG) : Prop where
 pth:e.path.size<=maxLen
 lnk:e.link.size<=maxLen
 knd:(Lit.int .i64 e.kind).wf=true
 mde:(Lit.int .i64 e.mode).wf=true
 tim:(Lit.int .i64 e.time).wf=true
def lB (S:Nat->Prop) (w:World) (c:List Value) (e:bG):Prop:= ∃v,c=jc v e/\cN S w v e.data/\jL e
theorem lB.len {S:Nat->Prop} {w:World} (c:List Value) (e:bG) (h:lB S w c e):c.length=6:=by obtain⟨v,rfl,_⟩:=h; rfl
theorem lB.below {S:Nat->Prop} {w w':World} {c:List Value} {e:bG} (h:lB S w c e) (hb:Below w.heap.size w w'):lB S w' c e:=by
 obtain⟨v,h1,h2,h3⟩:=h;exact⟨v,h1,h2.below hb,h3⟩
def cl (S:Nat->Prop) (w:World) (v:Value) (l:List bG):Prop:=aY S w 6 (lB S w) v l
theorem cl.below {S:Nat->Prop} {w w':World} {v:Value} {l:List bG} (h:cl S w v l) (hb:Below w.heap.size w w'):cl S w' v l:=
 aY.below h (by omega) hb (fun _ _ _ hr=>hr.below hb)
theorem cl.nil (S:Nat->Prop) (w:World):cl S w (.slice none 0 0) []:=aY.nil
theorem jd {S:Nat->Prop} {w:World} {a:Option Addr} {n cap:Nat} {l:List bG} (hv:cl S w (.slice a n cap) l) {k:Nat} {e:bG} (hr:l[k]? =some e):
  ∃b o v,a=some ⟨b,o,none⟩/\S b/\b<w.heap.size/\cN S w v e.data/\jL e/\n=l.length/\w.cell? ⟨b,o+k*6,none⟩=some (.string e.path)/\w.cell? ⟨b,o+k*6+1,none⟩=some (.int .i64 e.kind)/\w.cell? ⟨b,o+k*6+2,none⟩=some (.int .i64 e.mode)/\w.cell? ⟨b,o+k*6+3,none⟩=some (.int .i64 e.time)/\w.cell? ⟨b,o+k*6+4,none⟩=some v/\w.cell? ⟨b,o+k*6+5,none⟩=some (.string e.link):=by
 obtain⟨a',cap',he,hn,hm,hat⟩:=aY.shape hv lB.len;simp only[Value.slice.injEq]at he;obtain⟨rfl,rfl,rfl⟩:=he;obtain⟨b,o,c,ha,hb,⟨v,hc,hd,hok⟩,hl,hj⟩:=hat k e hr;subst hc;have hc0:=hj 0 (by omega);exact⟨b,o,v,ha,hb,aE (hc0.trans rfl),hd,hok,rfl,hc0,by have h:=hj 1 (by omega); rwa [<-Nat.add_assoc]at h,by have h:=hj 2 (by omega); rwa [<-Nat.add_assoc]at h,by have h:=hj 3 (by omega); rwa [<-Nat.add_assoc]at h,by have h:=hj 4 (by omega); rwa [<-Nat.add_assoc]at h,by have h:=hj 5 (by omega); rwa [<-Nat.add_assoc]at h⟩
open Go Go.RowKit
structure dk (p : bm) : Prop where
 sm:p.sum.size<=maxLen
 sz:(Lit.int .i64 p.size).wf=true
def mD (p:bm):List Value:=[.string p.sum, .int .i64 p.size]
def jB (p:bm):Value:= .agg #[.string p.sum, .int .i64 p.size]
def dD (c:List Value) (p:bm):Prop:=c=mD p/\dk p
theorem dD.len (c:List Value) (p:bm) (h:dD c p):c.length=2:=by rw[h.1]; rfl
def aP (S:Nat->Prop) (w:World) (v:Value) (l:List bm):Prop:=aY S w 2 dD v l
theorem aP.below {S:Nat->Prop} {w w':World} {v:Value} {l:List bm} (h:aP S w v l) (hb:Below w.heap.size w w'):aP S w' v l:=aY.below h (by omega) hb (fun _ _ _ h=>h)
theorem dz {S:Nat->Prop} {w w':World} {a:Option Addr} {n cap:Nat} {l:List bm} (hv:aP S w (.slice a n cap) l) (hb:Below w.heap.size w w') {k:Nat} {p:bm} (hr:l[k]? =some p):
  ∃b o,a=some ⟨b,o,none⟩/\S b/\b<w.heap.size/\dk p/\w'.cell? ⟨b,o+k*2,none⟩=some (.string p.sum)/\w'.cell? ⟨b,o+k*2+1,none⟩=some (.int .i64 p.size):=by
 obtain⟨a',cap',hv',_,_,hx⟩:=aY.shape hv dD.len
 cases hv'
 obtain⟨b,o,c,rfl,hS,⟨rfl,hok⟩,_,hcl⟩:=hx k p hr;have q0:=hcl 0 (by omega);have q1:=hcl 1 (by omega);have hlt:b<w.heap.size:=aE (a:=⟨b,o+(k*2+0),none⟩) (v:= .string p.sum) q0;refine⟨b,o,rfl,hS,hlt,hok, ?_, ?_⟩
 ·exact(hb.cell (p:=⟨b,o+k*2,none⟩) hlt).trans q0
 ·rw[Nat.add_assoc]; exact(hb.cell (p:=⟨b,o+(k*2+1),none⟩) hlt).trans q1
structure dj (f : aw) : Prop where
 pth:f.path.size<=maxLen
 lnk:f.link.size<=maxLen
 knd:(Lit.int .i64 f.kind).wf=true
 mde:(Lit.int .i64 f.mode).wf=true
 tim:(Lit.int .i64 f.time).wf=true
 siz:(Lit.int .i64 f.size).wf=true
def bM (v:Value) (f:aw):List Value:=[.string f.path, .int .i64 f.kind, .int .i64 f.mode, .int .i64 f.time, .int .i64 f.size, .string f.link,v]
def dU (v:Value) (f:aw):Value:= .agg #[.string f.path, .int .i64 f.kind, .int .i64 f.mode, .int .i64 f.time, .int .i64 f.size, .string f.link,v]
def dT (S:Nat->Prop) (w:World) (c:List Value) (f:aw):Prop:= ∃v,c=bM v f/\aP S w v f.parts/\dj f
theorem dT.len {S:Nat->Prop} {w:World} (c:List Value) (f:aw) (h:dT S w c f):c.length=7:=by obtain⟨v,rfl,_⟩:=h; rfl
def aT (S:Nat->Prop) (w:World) (v:Value) (l:List aw):Prop:=aY S w 7 (dT S w) v l
theorem aT.below {S:Nat->Prop} {w w':World} {v:Value} {l:List aw} (h:aT S w v l) (hb:Below w.heap.size w w'):aT S w' v l:=
 aY.below h (by omega) hb (fun _ _ _ ⟨v,h1,h2,h3⟩=>⟨v,h1,h2.below hb,h3⟩)
theorem aT.nil (S:Nat->Prop) (w:World):aT S w (.slice none 0 0) []:=aY.nil
theorem cQ {S:Nat->Prop} {w w':World} {a:Option Addr} {n cap:Nat} {l:List aw} (hv:aT S w (.slice a n cap) l) (hb:Below w.heap.size w w') {k:Nat} {f:aw} (hr:l[k]? =some f):
  ∃b o pa pc,a=some ⟨b,o,none⟩/\dj f/\aP S w' (.slice pa f.parts.length pc) f.parts/\b<w.heap.size/\S b/\ ∀j,j<7->w'.cell? ⟨b,o+k*7+j,none⟩=(bM (.slice pa f.parts.length pc) f)[j]? :=by
 obtain⟨a',cap',hv',_,_,hx⟩:=aY.shape hv dT.len
 cases hv'
 obtain⟨b,o,c,rfl,hS,⟨cv,rfl,hrf,hok⟩,_,hcl⟩:=hx k f hr;have q0:=hcl 0 (by omega);have hlt:b<w.heap.size:=aE (a:=⟨b,o+(k*7+0),none⟩) (v:= .string f.path) q0;obtain⟨ca,cc,rfl,_,_,_⟩:=aY.shape hrf dD.len;refine⟨b,o,ca,cc,rfl,hok,aP.below hrf hb,hlt,hS,fun j hj=> ?_⟩;rw[Nat.add_assoc];exact(hb.cell (p:=⟨b,o+(k*7+j),none⟩) hlt).trans (hcl j hj)
theorem sk {S:Nat->Prop} {w:World} {a:Option Addr} {n c:Nat} {l:List bm} (h:aP S w (.slice a n c) l):n=l.length/\n<=c/\c<=maxLen:=by
 obtain⟨a',cap',hv',h1,h2,_⟩:=aY.shape h dD.len
 cases hv'
 exact⟨rfl,h1,h2⟩
theorem ke {S:Nat->Prop} {w:World} {v:Value} {l:List aw} (h:aT S w v l): ∀f∈l,dj f:=by
 intro f hf;obtain⟨a,cap,rfl,-,-,-⟩:=aY.shape h dT.len;obtain⟨k,hk⟩:=List.getElem?_of_mem hf;obtain⟨_,_,_,_,_,h1,_⟩:=cQ h (Below.refl _ _) hk;exact h1
theorem pR {S:Nat->Prop} {w:World} {v:Value} {l:List bm} (h:aP S w v l): ∀p∈l,dk p:=by
 intro f hf;obtain⟨a,cap,rfl,-,-,-⟩:=aY.shape h dD.len;obtain⟨k,hk⟩:=List.getElem?_of_mem hf;obtain⟨_,_,_,_,_,h1,_⟩:=dz h (Below.refl _ _) hk;exact h1
theorem Cm {f:aw} (h:dj f):jL (fH f):=⟨h.pth,h.lnk,h.knd,h.mde,h.tim⟩
def dQ (v:Value) (tm:Int):Value:= .agg #[.int .i64 tm,v]
theorem rg (S:Nat->Prop) (f:aw) (pv:Value) (w:World) (hp:aP S w pv f.parts):Calls Tryz.prog 33 #[dU pv f] w fun e w'=>e= .returned (.bool (cJ f))/\Below w.heap.size w w':=by
 obtain⟨a,cap,rfl,hc,hm,-⟩:=aY.shape hp dD.len;unfold maxLen at hm;have HP:=ab hp;clear hp;unfold dU
 by_cases hk:f.kind=1
 ·have HK:=ab hk;have hk2:(f.kind == 1)=true:=by simp[hk]
  obtain⟨kd,hkd⟩: ∃kd,kd=f.kind:=⟨_,rfl⟩;rw[<-hkd]at hk2 hk ⊢;clear hkd;subst hk;obtain⟨n,hn⟩: ∃n,n=f.parts.length:=⟨_,rfl⟩;rw[<-hn]at hc HP ⊢;have HN:=ab hn;clear hn
  go_enter Tryz.func33,Tryz.ntmps33
  go_wp2_with fail;obtain⟨W,hW⟩: ∃W,W=w.alloc (.cells #[.string f.path, .int .i64 1, .int .i64 f.mode, .int .i64 f.time, .int .i64 f.size, .string f.link, .slice a n cap] 27):=⟨_,rfl⟩;rw[<-hW];have HBW:=ab (show Below w.heap.size w W by rw[hW]; exact(Below.refl _ _).alloc (Nat.le_refl _) _);have HBX:=ab (show W.heap[w.heap.size]? =some (.cells #[.string f.path, .int .i64 1, .int .i64 f.mode, .int .i64 f.time, .int .i64 f.size, .string f.link, .slice a n cap] 27 (0,0)) by rw[hW]; exact heap_alloc_new w _)
  have HV:=ab (show aP S W (.slice a n cap) f.parts from aP.below HP.out HBW.out);have hsz:W.heap.size=w.heap.size+1:=by rw[hW]; simp
  have HSZ:=ab hsz;clear hW hsz
  go_loopw [3,21] (fun t i wr=> ∃k:Nat,k<=n/\i= .int .i64 k/\t= .int .i64 (jo (f.parts.take k))/\(f.parts.take k).all cW=true/\Below W.heap.size W wr) (fun _ i _=>n-(intOf i).toNat)
  case atStart=>exact⟨0,Nat.zero_le _,rfl,rfl,rfl,Below.refl _ _⟩
  case round=>
   obtain⟨k,hk,rfl,rfl,hal,hb⟩:=hrel;have HB:=ab hb;have HA:=ab hal;clear hb hal
   by_cases hlt:k<n
   ·obtain⟨p,hp⟩: ∃p,f.parts[k]? =some p:=⟨_,List.getElem?_eq_getElem (show k<f.parts.length by rw[<-HN.out]; exact hlt)⟩;obtain⟨b,o,rfl,-,-,hok,q0,q1⟩:=dz HV.out HB.out hp;have HR:=ab hp;have HO:=ab hok;have hsum:=hok.sm;unfold maxLen at hsum;clear hp hok
    by_cases hv:cW p=true
    ·obtain⟨h1,h2,h3⟩:=(show p.sum.size=32/\1<=p.size/\p.size<=32768 by unfold cW at hv; simpa [and_assoc]using hv);have HVP:=ab hv;have hn2: ¬p.size<1:=by omega
     have hn3: ¬32768<p.size:=by omega
     clear hv;go_wp2_with fail
     go_roundw
     case rel=>
      refine⟨k+1,by omega,rfl, ?_,jP HA.out HR.out HVP.out,ak HB.out ((Below.refl _ _).alloc (Nat.le_refl _) _)⟩;rw[aX HR.out,sF]
     case measure=>simp only[intOf,Int.toNat_natCast]; omega
    ·have HF:=ab (show cJ f=false by
      unfold cJ;rw[if_pos HK.out,iV HR.out (by simpa using hv)]; rfl)
     have hv2:p.sum.size=32->1<=p.size-> ¬p.size<=32768:=fun h1 h2 h3=>hv (by unfold cW; simp[h1,h2,h3])
     have HV2:=ab hv2;have HE:=ab (show Below w.heap.size w (wr.alloc (.cells #[.string p.sum, .int .i64 p.size] 62))from HBW.out.trans ((ak HB.out ((Below.refl _ _).alloc (Nat.le_refl _) _)).mono (by have:=HSZ.out; omega)));clear hv hv2
     by_cases h1:p.sum.size=32
     ·by_cases h2:p.size<1
      ·go_wp2_with fail;go_ret;exact⟨az (by rw[HF.out]),HE.out⟩
      ·have h3:32768<p.size:=by have:=HV2.out h1 (by omega); omega
       go_wp2_with fail;go_ret;exact⟨az (by rw[HF.out]),HE.out⟩
     ·have h1': ¬(p.sum.size:Int)=32:=by omega
      go_wp2_with fail;go_ret;exact⟨az (by rw[HF.out]),HE.out⟩
   ·have hall:f.parts.all cW=true:=by
     have:=HA.out
     rwa [List.take_of_length_le (by rw[<-HN.out]; omega)]at this
    have htk:f.parts.take k=f.parts:=List.take_of_length_le (by rw[<-HN.out]; omega);rw[htk];have HALL:=ab hall;have HBXr:=ab ((HB.out.block w.heap.size (by have:=HSZ.out; omega)).trans HBX.out);have c4:=ai (k:=4) HBXr.out;simp only[eE]at c4;obtain⟨t,ht⟩: ∃t,t=jo f.parts:=⟨_,rfl⟩;rw[<-ht];have HT:=ab ht;have HEND:=ab (show Below w.heap.size w wr from HBW.out.trans (HB.out.mono (by have:=HSZ.out; omega)))
    clear hall htk ht
    by_cases he:f.size=t
    ·have HE:=ab he;have he1:(f.size == t)=true:=by simp[he]
     go_wp2_with fail;go_ret;refine⟨az ?_,HEND.out⟩;unfold cJ;rw[if_pos HK.out,HALL.out,<-HT.out];simp[HE.out]
    ·have HE:=ab he;have he1:(f.size == t)=false:=by simp[he]
     go_wp2_with fail;go_ret;refine⟨az ?_,HEND.out⟩;unfold cJ;rw[if_pos HK.out,HALL.out,<-HT.out];simp[HE.out]
 ·have HK:=ab hk;have hk2:(f.kind == 1)=false:=by simp[hk]
  go_enter Tryz.func33,Tryz.ntmps33
  by_cases hs:f.size=0
  ·have hs2:(f.size == 0)=true:=by simp[hs]
   go_wp2_with fail;go_ret;refine⟨az ?_,(Below.refl _ _).alloc (Nat.le_refl _) _⟩;unfold cJ;rw[if_neg HK.out]
   cases f.parts with
   | nil=>simp[hs]
   | cons p l=>simp[hs]; omega
  ·have hs2:(f.size == 0)=false:=by simp[hs]
   go_wp2_with fail;go_ret;refine⟨az ?_,(Below.refl _ _).alloc (Nat.le_refl _) _⟩;unfold cJ;rw[if_neg HK.out];simp[hs]
theorem wl (S:Nat->Prop) (tm:Int) (f:aw) (pv dv:Value) (e:bG) (w:World) (hf:dj f) (hp:aP S w pv f.parts) (hd:cN S w dv e.data) (he:jL e):
  Calls Tryz.prog 15 #[.int .i64 tm,dU pv f,pq dv e] w fun x w'=>x= .returned (.bool (gq tm f e))/\Below w.heap.size w w':=by
 obtain⟨pa,pc,rfl,-,-,-⟩:=aY.shape hp dD.len;obtain⟨_,da,dc,rfl,hdc,hdm,-⟩:=hd;unfold maxLen at hdm;have h1:=hf.pth;have h2:=he.pth;unfold maxLen at h1 h2;obtain⟨n,hn⟩: ∃n,n=e.data.length:=⟨_,rfl⟩;unfold dU pq gq;rw[<-hn]at hdc ⊢;clear hn hp
 go_enter Tryz.func15,Tryz.ntmps15
 by_cases e1:f.path=e.path
 ·by_cases e2:f.kind=1
  ·by_cases e3:e.kind=1
   ·by_cases e4:f.time=e.time
    ·by_cases e5:f.size=(n:Int)
     all_goals
      simp only[e1,e2,e3,e4,e5,decide_true,decide_false,Bool.true_and,Bool.false_and,Bool.and_false,Bool.and_true];go_wp2_with fail;go_ret;exact⟨rfl,((Below.refl _ _).alloc (Nat.le_refl _) _).alloc (by simp) _⟩
    ·simp only[e1,e2,e3,e4,decide_true,decide_false,Bool.false_and,Bool.and_false,Bool.and_true];go_wp2_with fail;go_ret;exact⟨rfl,((Below.refl _ _).alloc (Nat.le_refl _) _).alloc (by simp) _⟩
   ·simp only[e1,e2,e3,decide_true,decide_false,Bool.false_and,Bool.and_false,Bool.and_true];go_wp2_with fail;go_ret;exact⟨rfl,((Below.refl _ _).alloc (Nat.le_refl _) _).alloc (by simp) _⟩
  ·simp only[e1,e2,decide_true,decide_false,Bool.false_and,Bool.and_false];go_wp2_with fail;go_ret;exact⟨rfl,((Below.refl _ _).alloc (Nat.le_refl _) _).alloc (by simp) _⟩
 ·have e1t: ¬f.path.toList=e.path.toList:=fun h=>e1 (iY (by rw[<-bD,<-bD,h]))
  simp only[e1,decide_false,Bool.false_and];go_wp2_with fail;go_ret;exact⟨rfl,((Below.refl _ _).alloc (Nat.le_refl _) _).alloc (by simp) _⟩
open Go Go.RowKit Go.Maps Go.MapKept
open Go.ChangeMaps (modify_eq_set map_eraseIdx)
def eo (P:Program) (k:TypeId) (w:World) (b:Nat) (m:List (Value×Value)):Prop:=
 ∃es clock,w.heap[b]? =some (.map es clock)/\es.toList.map (fun e=>(e.key,e.val))=m/\Stamped es clock/\ ∀p∈m,∃l,keyOf P k p.1=some l
section
variable {P : Program} {k t e : TypeId} {w w' : World} {b : Nat} {m : List (Value × Value)} {key val z : Value}
theorem qO {es:Array MapEntry} {clock:Nat} (h:Stamped es clock):((es.toList.map (fun e=>(e.key,e.val))).map Prod.fst).Nodup:=by
 rw[List.map_map];have:=((stamped_iff es clock).1 h).2.2;unfold List.Nodup;rw[List.pairwise_map];exact this
theorem eo.is (h:eo P k w b m):eG P k w b m:=by
 obtain⟨es,clock,hb,he,hs,hk⟩:=h;exact⟨es,clock,hb,he,by rw[<-he]; exact qO hs,hk⟩
theorem eo.lt (h:eo P k w b m):b<w.heap.size:=h.is.lt
theorem eo.same (h:eo P k w b m) (hs:w'.heap[b]? =w.heap[b]?):eo P k w' b m:=by
 obtain⟨es,clock,hb,h2⟩:=h;exact⟨es,clock,hs.trans hb,h2⟩
theorem eo.made (w:World):eo P k (w.alloc (.map #[] 0)) w.heap.size []:=⟨#[],0,(MapKept.heap_alloc w _).1,rfl,stamped_empty 0,by simp⟩
theorem eo.nodup (h:eo P k w b m):(m.map Prod.fst).Nodup:=by obtain⟨_,_,_,_,hn,_⟩:=h.is; exact hn
theorem kg {w:World} {b:Nat} {x:Obj} (hb:w.heap[b]? =some x) (o:Obj):w.grownBy (ChangeMaps.setBlock w b o) (some b):=
 ⟨rfl,rfl,rfl,by simp[ChangeMaps.setBlock],fun i _ hi=>rS hb _ (fun e=>hi (by rw[e]))⟩
theorem eo.put (h:eo P k w b m) (K:Keyed P k) (ht:P.underlying t=some (.map k e)) (hkey: ∃l,keyOf P k key=some l) (hm: ∀p∈m,p.1≠key) (val:Value):
  ∃w',(Instr.mapUpdate t (.map (some b)) key val).run P w= .ok () w'/\eo P k w' b (m++[(key,val)])/\w.grownBy w' (some b):=by
 obtain⟨es,clock,hb,he,hst,hk⟩:=h;obtain⟨kl,hkl⟩:=hkey
 rcases K.find w hkl es.toList (eG.keys he hk)with⟨h1,h2⟩ | ⟨j,e0,h1,h2,h3⟩
 ·refine⟨ChangeMaps.setBlock w b (.map (es.push ⟨key,val,clock⟩) (clock+1)), ?_,⟨_,_,pC hb _, ?_,stamped_push hst h2, ?_⟩,kg hb _⟩
  ·simp[Instr.mapUpdate,run_underlying ht,MapKept.run_getObj_map hb,K.check w false hkl,h1,MapKept.run_setObj_map _ hb,Result.andThen,ChangeMaps.setBlock]
  ·simp[<-he]
  ·intro p hp
   rcases List.mem_append.1 hp with hp | hp
   ·exact hk p hp
   ·simp only[List.mem_singleton]at hp;subst hp;exact⟨kl,hkl⟩
 ·exact absurd h3 (hm (e0.key,e0.val) (by rw[<-he]; exact List.mem_map.2 ⟨e0,List.mem_of_getElem? h2,rfl⟩))
theorem eo.over {m1 m2:List (Value×Value)} {old:Value} (h:eo P k w b (m1++(key,old)::m2)) (K:Keyed P k) (ht:P.underlying t=some (.map k e)) (val:Value):
  ∃w',(Instr.mapUpdate t (.map (some b)) key val).run P w= .ok () w'/\eo P k w' b (m1++(key,val)::m2)/\w.grownBy w' (some b):=by
 have hnd:=h.nodup;obtain⟨es,clock,hb,he,hst,hk⟩:=h;obtain⟨kl,hkl⟩:=hk (key,old) (by simp)
 rcases K.find w hkl es.toList (eG.keys he hk)with⟨h1,h2⟩ | ⟨j,e0,h1,h2,h3⟩
 ·exfalso
  have:(key,old)∈es.toList.map (fun e=>(e.key,e.val)):=by rw[he]; simp
  obtain⟨x,hx,hxe⟩:=List.mem_map.1 this;exact h2 x hx (congrArg Prod.fst hxe)
 ·have hj:es[j]? =some e0:=by simpa using h2
  have hlist:(es.modify j (fun e'=> {e' with key:=key,val:=val})).toList=es.toList.set j {e0 with key:=key,val:=val} :=by rw[Array.toList_modify,modify_eq_set _ _ _ _ h2]
  have hjm:j=m1.length:=by
   have h4:(m1++(key,old)::m2)[j]? =some (e0.key,e0.val):=by rw[<-he,List.getElem?_map,h2]; rfl
   have h5:((m1++(key,old)::m2).map Prod.fst)[j]? =some key:=by rw[List.getElem?_map,h4]; simp[h3]
   have h6:((m1++(key,old)::m2).map Prod.fst)[m1.length]? =some key:=by simp
   have hjl:=(List.getElem?_eq_some_iff.1 h5).1;exact(List.getElem?_inj hjl hnd).1 (h5.trans h6.symm)
  refine⟨ChangeMaps.setBlock w b (.map (es.modify j (fun e'=> {e' with key:=key,val:=val})) clock), ?_,⟨_,_,pC hb _, ?_, ?_, ?_⟩,kg hb _⟩
  ·simp[Instr.mapUpdate,run_underlying ht,MapKept.run_getObj_map hb,K.check w false hkl,h1,hj,h3,K.stays w hkl,MapKept.run_setObj_map _ hb,Result.andThen,ChangeMaps.setBlock]
  ·rw[hlist,List.map_set,he,hjm];simp
  ·exact stamped_modify hst j _ (fun _ _=>rfl) (fun e' _ he'=>by rw[hj]at he'; cases he'; exact h3.symm)
  ·intro p hp
   rcases List.mem_append.1 hp with hp | hp
   ·exact hk p (by simp[hp])
   ·rcases List.mem_cons.1 hp with rfl | hp
    ·exact⟨kl,hkl⟩
    ·exact hk p (by simp[hp])
theorem eo.len (h:eo P k w b m) (ht:P.underlying t=some (.map k e)) (ty:TypeId):(Builtin.len_ #[t] ty #[.map (some b)]).run P w= .ok (.int .i64 (m.length:Int)) w:=by
 obtain⟨es,clock,hb,he,_⟩:=h;have:es.size=m.length:=by rw[<-he]; simp
 simp[Builtin.len_,run_underlying ht,MapKept.run_getObj_map hb,goInt,Result.andThen,this]
def mR (P:Program) (k:TypeId) (w:World) (b r:Nat) (m vis:List (Value×Value)):Prop:=
 ∃es clock since seen c0,w.heap[b]? =some (.map es clock)/\es.toList.map (fun e=>(e.key,e.val))=m/\Stamped es clock/\(∀p∈m,∃l,keyOf P k p.1=some l)/\
  w.heap[r]? =some (.mapIter (some b) since seen c0)/\(∀x∈es.toList,x.born<since)/\since<=c0/\since<=clock/\vis.Perm ((es.toList.filter fun x=>seen.contains x.born).map (fun e=>(e.key,e.val)))
theorem mR.map {r:Nat} {vis:List (Value×Value)} (h:mR P k w b r m vis):eo P k w b m:=by
 obtain⟨es,clock,_,_,_,hb,he,hs,hk,_⟩:=h;exact⟨es,clock,hb,he,hs,hk⟩
theorem mR.same {r:Nat} {vis:List (Value×Value)} (h:mR P k w b r m vis) (h1:w'.heap[b]? =w.heap[b]?) (h2:w'.heap[r]? =w.heap[r]?):mR P k w' b r m vis:=by
 obtain⟨es,clock,since,seen,c0,hb,he,hs,hk,hr,h3⟩:=h;exact⟨es,clock,since,seen,c0,h1.trans hb,he,hs,hk,h2.trans hr,h3⟩
theorem mR.ne {r:Nat} {vis:List (Value×Value)} (h:mR P k w b r m vis):r≠b:=by
 obtain⟨es,clock,since,seen,c0,hb,_,_,_,hr,_⟩:=h;intro e1;subst e1;rw[hb]at hr
 cases hr
theorem my {α:Type} (p:α->Bool): ∀(l:List α),(l.filter p).length+(l.filter fun x=> !p x).length=l.length
 | []=>rfl
 | a::l=>by
  have:=my p l
  cases h:p a<;> simp[h]<;> omega
theorem mR.left {r:Nat} {vis:List (Value×Value)} (h:mR P k w b r m vis):w.rangeLeft b r+vis.length=m.length:=by
 obtain⟨es,clock,since,seen,c0,hb,he,hs,hk,hr,_,_,_,hv⟩:=h;have h1:w.rangeLeft b r=(leftOf es seen).size:=by simp only[World.rangeLeft,hb,hr]
 have h2:(leftOf es seen).size=(es.toList.filter fun x=> !seen.contains x.born).length:=by
  unfold leftOf;rw[<-Array.toList_filter,Array.length_toList]
 have h3:=my (fun x:MapEntry=>seen.contains x.born) es.toList;rw[h1,h2,hv.length_eq,List.length_map,<-he,List.length_map];omega
theorem eo.range (h:eo P k w b m) (ht:P.underlying t=some (.map k e)):
  ∃w',(Instr.range t (.map (some b))).run P w= .ok (.pointer (some ⟨w.heap.size,0,none⟩)) w'/\mR P k w' b w.heap.size m []/\Below w.heap.size w w'/\w'.heap.size=w.heap.size+1:=by
 have hlt:=h.lt;obtain⟨es,clock,hb,he,hs,hk⟩:=h;refine⟨_,run_range_map w t k e b es clock ht hb,⟨es,clock,clock, #[],clock,((MapKept.heap_alloc w _).2 b hlt).trans hb,he,hs,hk,(MapKept.heap_alloc w _).1,((stamped_iff es clock).1 hs).1,Nat.le_refl _,Nat.le_refl _, ?_⟩,(Below.refl _ _).alloc (Nat.le_refl _) _,by simp⟩;simp
theorem DZ {es:Array MapEntry} {clock:Nat} (hs:Stamped es clock) {x y:MapEntry} (hx:x∈es.toList) (hy:y∈es.toList) (h:x.born=y.born):x=y:=born_inj ((stamped_iff es clock).1 hs).2.1 hx hy h
theorem Ak {es:List MapEntry} {seen:Array Nat} {e0:MapEntry} (hn:es.Nodup) (hinj: ∀x∈es,x.born=e0.born->x=e0) (he:e0∈es) (h0:seen.contains e0.born=false):
  ((es.filter fun x=>seen.contains x.born)++[e0]).Perm (es.filter fun x=>(seen.push e0.born).contains x.born):=by
 refine(List.perm_ext_iff_of_nodup ?_ (hn.filter _)).2 (fun x=> ?_)
 ·rw[List.nodup_append];refine⟨hn.filter _,by simp,fun a ha c hc=> ?_⟩;simp only[List.mem_singleton]at hc;subst hc;rintro rfl;rw[List.mem_filter]at ha;rw[ha.2]at h0
  cases h0
 ·simp only[List.mem_append,List.mem_filter,List.mem_singleton,contains_push,Bool.or_eq_true,beq_iff_eq]
  constructor
  ·rintro(⟨h1,h2⟩ | rfl)
   ·exact⟨h1, .inl h2⟩
   ·exact⟨he, .inr rfl⟩
  ·rintro⟨h1,h2 | h2⟩
   ·exact .inl ⟨h1,h2⟩
   ·exact .inr (hinj x h1 h2)
theorem mR.next {r:Nat} {vis:List (Value×Value)} (h:mR P k w b r m vis) (ty:TypeId):
  (vis.Perm m/\(Instr.next (.pointer (some ⟨r,0,none⟩)) false ty).run P w= .ok (.tuple #[.bool false]) w)\/
  ∃key v w',(key,v)∈m/\(∀p∈vis,p.1≠key)/\(Instr.next (.pointer (some ⟨r,0,none⟩)) false ty).run P w= .ok (.tuple #[.bool true,key,v]) w'/\
   mR P k w' b r m (vis++[(key,v)])/\w.grownBy w' (some r)/\w'.heap.size=w.heap.size/\(Instr.entry (.pointer (some ⟨r,0,none⟩))).run P w'= .ok (.tuple #[key,v]) w':=by
 have hne:=h.ne;obtain⟨es,clock,since,seen,c0,hb,he,hs,hk,hr,hold,hsc,hsk,hv⟩:=h;have hsi:=(stamped_iff es clock).1 hs
 rcases run_next_at (P:=P) w ty r b since c0 seen es clock hr hb hold hsc with⟨h0,hrun⟩ | ⟨e0,he0,w1,hal,hrun⟩
 ·refine Or.inl ⟨?_,hrun⟩;have:(es.toList.filter fun x=>seen.contains x.born)=es.toList:=by
   rw[List.filter_eq_self];intro x hx;exact all_seen es seen h0 x hx
  rw[this,he]at hv;exact hv
 ·obtain⟨hem,hes⟩:=mem_left he0;have hr1:w1.heap[r]? =some (.mapIter (some b) since seen c0):=by rcases hal with rfl | rfl<;> exact hr
  have hb1:w1.heap[b]? =some (.map es clock):=by rcases hal with rfl | rfl<;> exact hb
  have hset:=heap_set (o':= .mapIter (some b) since (seen.push e0.born) clock) hr1;have hb':(ChangeMaps.setBlock w1 r (.mapIter (some b) since (seen.push e0.born) clock)).heap[b]? =some (.map es clock):=(hset.2 b (fun e1=>hne e1.symm)).trans hb1;have hnd:es.toList.Nodup:=by
   have:=hsi.2.1;unfold List.Nodup at this;rw[List.pairwise_map]at this;exact this.imp (fun h e=>h (by rw[e]))
  have hinj: ∀x∈es.toList,x.born=e0.born->x=e0:=fun x hx hxb=>DZ hs hx hem hxb
  have hpp:=Ak hnd hinj hem hes;refine Or.inr ⟨e0.key,e0.val,_,by rw[<-he]; exact List.mem_map.2 ⟨e0,hem,rfl⟩,fun p hp hpk=> ?_,hrun,⟨es,clock,since,seen.push e0.born,clock,hb',he,hs,hk,hset.1,hold,hsk,hsk, ?_⟩, ?_, ?_,
   run_entry_at _ r b since seen es clock e0 hset.1 hb' hem hsi.2.1⟩
  ·obtain⟨x,hx,rfl⟩:=List.mem_map.1 (hv.subset hp);obtain⟨hx1,hx2⟩:=List.mem_filter.1 hx;have:x=e0:=entry_eq_of_key hsi.2.2 hx1 hem hpk;subst this;rw[hx2]at hes
   cases hes
  ·refine(hv.append_right _).trans ?_;have:=hpp.map (fun e:MapEntry=>(e.key,e.val));rw[List.map_append]at this;exact this
  ·rcases hal with rfl | rfl<;> exact⟨rfl,rfl,rfl,by simp[ChangeMaps.setBlock],fun i _ hi=>hset.2 i (fun e1=>hi (by rw[e1]))⟩
  ·rcases hal with rfl | rfl<;> simp[ChangeMaps.setBlock]
end
section
variable {P : Program} {w : World} {ops : Array Oper} {rest : List Oper} {o : Oper} {a : Act} {Q : Exit → Act → World → Prop} {k e : TypeId}
theorem gj (K:Keyed P k) (hg:o.guard=none) (mo x v:Operand) (t:TypeId) (hop:o.op=Op.mapUpdate t mo x v) (ht:P.underlying t=some (.map k e)) (b:Nat) (m:List (Value×Value)) (h:eo P k w b m) (hmo:a.eval mo= .map (some b)) (key val:Value) (hx:a.eval x=key) (hv:a.eval v=val) (hkey: ∃l,keyOf P k key=some l) (hnew: ∀p∈m,p.1≠key)
  (hK: ∀w',eo P k w' b (m++[(key,val)])->w.grownBy w' (some b)->wpList P ops Q rest (a.put o.dst undef) w'):wpList P ops Q (o::rest) a w:=by
 refine wpList_plain hg fun K' hK'=> ?_
 obtain⟨w',hrun,r1,r2⟩:=h.put K ht hkey hnew val;unfold Oper.wp;simp[execOp,hop,hmo,hx,hv,hrun,Result.andThen];exact hK' _ _ (hK w' r1 r2)
end
end Go.Proofs.YtnjkpcalgoefhaaGreatDoor
namespace Go.Proofs.YtnjkpcalgoefhaaGreatDoor
open Go Go.RowKit Go.Maps
abbrev wG :=Value×bG
theorem dx :Keyed Tryz.prog 9:=string_keyed Tryz.underlying9
theorem dK {n:ByteArray} (h:n.size<=maxLen): ∃l,keyOf Tryz.prog 9 (.string n)=some l:=⟨.string n.data.toList,by simp[keyOf,mapKey,Tryz.underlying9,h]⟩
section
variable {S S' : Nat → Prop} {w w' : World} {mb : Nat} {xs : List wG}
end
def GD :Value:= .agg #[.string ByteArray.empty, .int .i64 0, .int .i64 0, .int .i64 0, .slice none 0 0, .string ByteArray.empty]
section
variable {S S' : Nat → Prop} {w w' : World} {tb mb : Nat} {L : List bG}
end
section
variable {S S' : Nat → Prop} {w w' : World} {tb mb : Nat} {L : List bG} {xs : List wG} {t : TypeId}
end
section
variable {P : Program} {w : World} {ops : Array Oper} {rest : List Oper} {o : Oper} {a : Act} {Q : Exit → Act → World → Prop}
theorem ly {Φ:World->Prop} (hg:o.guard=none) (mo x v:Operand) (t:TypeId) (hop:o.op=Op.mapUpdate t mo x v) (mv key val:Value) (hmo:a.eval mo=mv) (hx:a.eval x=key) (hv:a.eval v=val) (hrun: ∃w',(Instr.mapUpdate t mv key val).run P w= .ok () w'/\Φ w')
  (hK: ∀w',Φ w'->wpList P ops Q rest (a.put o.dst undef) w'):wpList P ops Q (o::rest) a w:=by
 refine wpList_plain hg fun K' hK'=> ?_
 obtain⟨w',hr,h2⟩:=hrun;unfold Oper.wp;simp[execOp,hop,hmo,hx,hv,hr,Result.andThen];exact hK' _ _ (hK w' h2)
end
end Go.Proofs.YtnjkpcalgoefhaaGreatDoor
namespace Go.Proofs.YtnjkpcalgoefhaaGreatDoor
open Go.RowKit
theorem al {w:World} {b k:Nat} {cs:Array Value} {t:TypeId} {x:Nat×Nat} (h:w.heap[b]? =some (.cells cs t x)):w.cell? ⟨b,k,none⟩=cs[k]? :=by simp[World.cell?,h]
theorem uW (s:ByteArray) (w:World):Calls Tryz.prog 128 #[.string s, .int .u8 0] w fun e w'=>e= .returned (.int .i64 (Lib.indexByte (bl s) 0))/\w=w':=
 (Tryz.strings_IndexByte s 0 w).mono fun _ _ ⟨he,hw⟩=>⟨he,hw.symm⟩
theorem rf (s:ByteArray) (w:World) (hs:s.size<=maxLen):Calls Tryz.prog 99 #[.string s] w fun e w'=>e= .returned (.bool (jp (bl s)))/\w=w':=by
 unfold maxLen at hs;have HX:=ab (show jp (bl s)=(decide (1<=s.size) && decide (s.size<=512) && !(bl s).contains 0) by unfold jp; rw[ay]);have HI:=ab (gS (bl s) 0)
 go_enter Tryz.func99,Tryz.ntmps99
 go_wp2_with (go_at_call 128; refine(uW s _).mono ?_; rintro e w3 ⟨rfl,rfl⟩)
 ·go_ret;refine⟨az ?_,rfl⟩;have z1:decide (1<=s.size)=true:=by simp; omega
  have z2:decide (s.size<=512)=true:=by simp; omega
  rw[HX.out,z1,z2,<-HI.out];rw[Bool.eq_iff_iff];simp
 ·go_ret;refine⟨az ?_,rfl⟩;have z2:decide (s.size<=512)=false:=by simp; omega
  rw[HX.out,z2];simp
 ·go_ret;refine⟨az ?_,rfl⟩;have z1:decide (1<=s.size)=false:=decide_eq_false (by omega);rw[HX.out,z1];simp
theorem lT (s:ByteArray) (b:Bool) (w:World) (he:jE w) (h:bJ (bl s)=b):Calls Tryz.prog 98 #[.string s] w fun e w'=>e= .returned (.bool b)/\Below w.heap.size w w':=by
 rw[<-h]; exact sJ s w he
theorem yi (S:Nat->Prop) (en:bG) (v:Value) (w:World) (hd:cN S w v en.data) (hok:jL en) (henv:jE w):Calls Tryz.prog 64 #[pq v en] w fun e w'=>e= .returned (.bool (cC en))/\Below w.heap.size w w':=by
 obtain⟨_,a,cap,rfl,hc,hm,-⟩:=hd;unfold maxLen at hm;have HE:=ab henv;have HO:=ab hok;have hq1:=hok.pth;have hq2:=hok.lnk;unfold maxLen at hq1 hq2;have HL:=ab (show en.link.toList.isEmpty=decide (en.link.size=0) by rw[bD,ay,Bool.eq_iff_iff]; simp);clear henv hok;unfold pq
 cases hv:bJ (bl en.path)
 ·have HVP:=ab hv;clear hv
  go_enter Tryz.func64,Tryz.ntmps64
  go_wp2_with fail;obtain⟨W,hW⟩: ∃W,W=w.alloc (.cells #[.string en.path, .int .i64 en.kind, .int .i64 en.mode, .int .i64 en.time, .slice a en.data.length cap, .string en.link] 30):=⟨_,rfl⟩;rw[<-hW];have HBW:=ab (show Below w.heap.size w W by rw[hW]; exact(Below.refl _ _).alloc (Nat.le_refl _) _);have HBX:=ab (show W.heap[w.heap.size]? =some (.cells #[.string en.path, .int .i64 en.kind, .int .i64 en.mode, .int .i64 en.time, .slice a en.data.length cap, .string en.link] 30 (0,0)) by rw[hW]; exact heap_alloc_new w _)
  clear hW;refine(lT en.path false _ (HE.out.below HBW.out) HVP.out).mono ?_;rintro e w1 ⟨rfl,hb1⟩;have HB1:=ab (ak HBW.out hb1);clear hb1;go_wp2_with fail;go_ret;exact⟨az (by simp[cC,HVP.out]),HB1.out⟩
 ·have HVP:=ab hv;clear hv
  by_cases hmt:0<=en.mode/\en.mode<=511/\0<=en.time
  ·have HH:=ab (show cC en=ez en by obtain⟨x1,x2,x3⟩:=hmt; unfold cC iB; rw[HVP.out]; simp[x1,x2,x3]);obtain⟨hm1,hm2,hm3⟩:=hmt
   go_enter Tryz.func64,Tryz.ntmps64
   go_wp2_with fail;obtain⟨W,hW⟩: ∃W,W=w.alloc (.cells #[.string en.path, .int .i64 en.kind, .int .i64 en.mode, .int .i64 en.time, .slice a en.data.length cap, .string en.link] 30):=⟨_,rfl⟩;rw[<-hW];have HBW:=ab (show Below w.heap.size w W by rw[hW]; exact(Below.refl _ _).alloc (Nat.le_refl _) _);have HBX:=ab (show W.heap[w.heap.size]? =some (.cells #[.string en.path, .int .i64 en.kind, .int .i64 en.mode, .int .i64 en.time, .slice a en.data.length cap, .string en.link] 30 (0,0)) by rw[hW]; exact heap_alloc_new w _)
   clear hW;refine(lT en.path true _ (HE.out.below HBW.out) HVP.out).mono ?_;rintro e w1 ⟨rfl,hb1⟩;have HBXr:=ab ((hb1.block w.heap.size ((Array.getElem?_eq_some_iff.1 HBX.out).1)).trans HBX.out);have HB1:=ab (ak HBW.out hb1);have hlt1:w.heap.size<w1.heap.size:=(Array.getElem?_eq_some_iff.1 HBXr.out).1;have c0:=al (k:=0) HBXr.out;have c1:=al (k:=1) HBXr.out
   have c2:=al (k:=2) HBXr.out;have c3:=al (k:=3) HBXr.out;have c4:=al (k:=4) HBXr.out;have c5:=al (k:=5) HBXr.out;simp only[eE]at c0 c1 c2 c3 c4 c5;clear hb1 HBX
   by_cases hk1:en.kind=1
   ·have e1:(en.kind == 1)=true:=by simp[hk1]
    have HK:=ab (show ez en=(decide (en.data.length<=1048576) && decide (en.link.size=0)) by unfold ez; rw[if_pos hk1]);clear hk1;go_wp2_with fail
    ·go_ret;refine⟨az ?_,HB1.out⟩;rw[HH.out,HK.out,HL.out,decide_eq_true (p:=en.data.length<=1048576) (by omega)]
     rfl
    ·go_ret;refine⟨az ?_,HB1.out⟩;rw[HH.out,HK.out,decide_eq_false (p:=en.data.length<=1048576) (by omega)]
     rfl
   ·have e1:(en.kind == 1)=false:=by simp[hk1]
    by_cases hk2:en.kind=2
    ·have e2:(en.kind == 2)=true:=by simp[hk2]
     have HK:=ab (show ez en=(decide (en.data.length=0) && decide (en.link.size=0)) by unfold ez; rw[if_neg hk1,if_pos hk2]);clear hk1 hk2;go_wp2_with fail
     ·go_ret;refine⟨az ?_,HB1.out⟩;rw[HH.out,HK.out,HL.out,decide_eq_true (p:=en.data.length=0) (by rw[show en.data=[] by assumption]; rfl)]
      rfl
     ·go_ret;refine⟨az ?_,HB1.out⟩;rw[HH.out,HK.out,decide_eq_false (p:=en.data.length=0) (fun h=>absurd (List.eq_nil_of_length_eq_zero h) (by assumption))]
      rfl
    ·have e2:(en.kind == 2)=false:=by simp[hk2]
     by_cases hk3:en.kind=3
     ·have e3:(en.kind == 3)=true:=by simp[hk3]
      have HK:=ab (show ez en=(decide (en.data.length=0) && jp (bl en.link)) by unfold ez; rw[if_neg hk1,if_neg hk2,if_pos hk3]);clear hk1 hk2 hk3;go_wp2_with (go_at_call 99; refine(rf en.link _ HO.out.lnk).mono ?_; rintro e w3 ⟨rfl,rfl⟩)
      ·go_ret;refine⟨az ?_,HB1.out⟩;rw[HH.out,HK.out,decide_eq_true (p:=en.data.length=0) (by rw[show en.data=[] by assumption]; rfl)]
       rfl
      ·go_ret;refine⟨az ?_,HB1.out⟩;rw[HH.out,HK.out,decide_eq_false (p:=en.data.length=0) (fun h=>absurd (List.eq_nil_of_length_eq_zero h) (by assumption))]
       rfl
     ·have e3:(en.kind == 3)=false:=by simp[hk3]
      have HK:=ab (show ez en=false by unfold ez; rw[if_neg hk1,if_neg hk2,if_neg hk3]);clear hk1 hk2 hk3;go_wp2_with fail;go_ret;exact⟨az (by rw[HH.out,HK.out]),HB1.out⟩
  ·have HF:=ab (show cC en=false by
    have:iB en=false:=by
     unfold iB; rw[Bool.eq_false_iff]; simp; omega
    unfold cC; rw[this]; simp)
   go_enter Tryz.func64,Tryz.ntmps64
   go_wp2_with fail;obtain⟨W,hW⟩: ∃W,W=w.alloc (.cells #[.string en.path, .int .i64 en.kind, .int .i64 en.mode, .int .i64 en.time, .slice a en.data.length cap, .string en.link] 30):=⟨_,rfl⟩;rw[<-hW];have HBW:=ab (show Below w.heap.size w W by rw[hW]; exact(Below.refl _ _).alloc (Nat.le_refl _) _);have HBX:=ab (show W.heap[w.heap.size]? =some (.cells #[.string en.path, .int .i64 en.kind, .int .i64 en.mode, .int .i64 en.time, .slice a en.data.length cap, .string en.link] 30 (0,0)) by rw[hW]; exact heap_alloc_new w _)
   clear hW;refine(lT en.path true _ (HE.out.below HBW.out) HVP.out).mono ?_;rintro e w1 ⟨rfl,hb1⟩;have HBXr:=ab ((hb1.block w.heap.size ((Array.getElem?_eq_some_iff.1 HBX.out).1)).trans HBX.out);have HB1:=ab (ak HBW.out hb1);have hlt1:w.heap.size<w1.heap.size:=(Array.getElem?_eq_some_iff.1 HBXr.out).1;have c0:=al (k:=0) HBXr.out;have c1:=al (k:=1) HBXr.out
   have c2:=al (k:=2) HBXr.out;have c3:=al (k:=3) HBXr.out;have c4:=al (k:=4) HBXr.out;have c5:=al (k:=5) HBXr.out;simp only[eE]at c0 c1 c2 c3 c4 c5;clear hb1 HBX;go_wp2_with fail
   all_goals first
    | (exfalso; omega)
    | (go_ret; exact⟨az (by rw[HF.out]),HB1.out⟩)
theorem zB (S:Nat->Prop) (v:Value) (bs:List UInt8) (w:World) (hd:cN S w v bs) (hl:bs.length<=140737488355328):Calls Tryz.prog 146 #[v] w fun e w'=> ∃v',e= .returned v'/\w'.ownsRow w.heap.size 5 1 v' bs.length (bs.map u8V)/\Below w.heap.size w w':=by
 obtain⟨_,a,cap,rfl,hn,hm,h0⟩:=hd
 cases a with
 | none=>
  have hz:bs.length=0:=by
   rcases h0 with h0 | ⟨b,o,ha,_⟩
   ·exact h0
   ·cases ha
  obtain rfl:=List.eq_nil_of_length_eq_zero hz;refine(Any.bytes_Clone_nil Tryz.laysClone _ _ w).mono ?_;rintro e w' ⟨rfl,rfl⟩;exact⟨_,rfl,World.ownsRow_nil _ _ _ _,Below.refl _ _⟩
 | some a=>
  refine(Any.bytes_Clone_at Tryz.laysClone a bs.length cap (bs.map fun b=>(b.toNat:Int)) w (by simp) hl ?_).mono ?_
  ·intro i hi
   rcases h0 with h0 | ⟨b,o,ha,_,hc⟩
   ·omega
   ·cases ha
    rw[sX];refine hc i _ ?_;simp[hi,u8V]
  ·rintro e w' ⟨v',rfl,h1,_,h2⟩;refine⟨v',rfl, ?_,h2⟩;rw[List.map_map]at h1;exact h1
theorem ci {w:World} {base base' size n:Nat} {e:TypeId} {v:Value} {xs:List Value} (h:w.ownsRow base e size v n xs) (hb:base'<=base):w.ownsRow base' e size v n xs:=
 ⟨h.1,h.2.imp id (fun⟨g,cap,cur,e1,h1,h2⟩=>⟨g,cap,cur,e1,Nat.le_trans hb h1,h2⟩)⟩
theorem uO {w:World} {b k:Nat} {cs:Array Value} {t:TypeId} (h:w.heap[b]? =some (.cells cs t (0,0))):w.frozen? ⟨b,k,none⟩=false:=by simp[World.frozen?,h]
theorem FE {w:World} {b k:Nat} {cs:Array Value} {t:TypeId} (h:w.heap[b]? =some (.cells cs t (0,0))) (x:Value):(w.setCell ⟨b,k,none⟩ x).heap[b]? =some (.cells (cs.setIfInBounds k x) t (0,0)):=by
 simp only[World.setCell,Array.getElem?_modify,if_true,h,Option.map_some]; rfl
theorem ql {w:World} {b c k:Nat} {o:Obj} (h:w.heap[b]? =some o) (hne:b≠c) (x:Value):(w.setCell ⟨c,k,none⟩ x).heap[b]? =some o:=by
 rw[Below.heap_setCell _ _ _ _ hne]; exact h
theorem gw {w:World} {b:Nat} {o:Obj} (h:w.heap[b]? =some o) (x:Obj):(w.alloc x).heap[b]? =some o:=by
 have hlt:=(Array.getElem?_eq_some_iff.1 h).1;rw[Below.heap_alloc _ _ _ hlt]; exact h
theorem ey (w:World) (x:Obj):(w.alloc x).heap[w.heap.size]? =some x:=by show(w.heap.push x)[w.heap.size]? =some x; simp
theorem xw (w:World) (x y:Obj):((w.alloc x).alloc y).heap[w.heap.size+1]? =some y:=by
 have:=ey (w.alloc x) y
 rwa [show(w.alloc x).heap.size=w.heap.size+1 by show(w.heap.push x).size=_; simp]at this
theorem fp {w:World} {b:Nat} {o:Obj} (h:w.heap[b]? =some o):b<w.heap.size:=(Array.getElem?_eq_some_iff.1 h).1
theorem ur (a:Option Addr) (c:Nat) (w:World):(convert 28 9 (.slice a 0 c)).run Tryz.prog w= .ok (.string ⟨#[]⟩) w:=by cases a<;> kernel_rfl
theorem zC {S:Nat->Prop} {w:World} {v:Value} {bs:List UInt8} (hd:cN S w v bs):(convert 28 9 v).run Tryz.prog w= .ok (.string (strOfNums (bs.map fun b=>(b.toNat:Int)))) w:=by
 obtain⟨_,a,cap,rfl,hn,hm,h0⟩:=hd
 rcases h0 with h0 | ⟨b,o,rfl,_,hc⟩
 ·obtain rfl:=List.eq_nil_of_length_eq_zero h0;exact ur a cap w
 ·exact run_convert_bytes_arg (P:=Tryz.prog) w 28 5 Tryz.underlying28 Tryz.underlying5 b o bs.length cap (bs.map fun b=>(b.toNat:Int)) (by simp) (fun i hi=>by
   rw[hc i (u8V bs[i]) (by simp[hi])];simp[u8V,List.getD,hi]) 9 Tryz.underlying9
open Go.RowKit Go.Maps
theorem gg (p q:ByteArray) (w:World) (he:jE w) (hv:bJ (bl p)=true) (hq:q=⟨(bb (bl p)).toArray⟩):
  Calls Tryz.prog 66 #[.string p] w fun e w'=>e= .returned (.tuple #[.string q, .bool true])/\Below w.heap.size w w':=by
 rw[hq]; exact xA p w he hv
theorem il (q:ByteArray):q.toList.isEmpty=decide (bl q=[]):=by rw[bD,Bool.eq_iff_iff]; simp
theorem kW (S:Nat->Prop) (en:bG) (v:Value) (b:Bool) (w:World) (hd:cN S w v en.data) (hok:jL en) (henv:jE w) (h:cC en=b):Calls Tryz.prog 64 #[pq v en] w fun e w'=>e= .returned (.bool b)/\Below w.heap.size w w':=by
 rw[<-h]; exact yi S en v w hd hok henv
open Go Go.RowKit Go.Maps
theorem Tryz.appEnts :cY Tryz.prog 45 30 6 80:=cY.mk' (z:=GD) Tryz.underlying45 (by kernel_rfl) rfl (by decide) (by decide)
def lj (ys:List wG):List Value:=ys.flatMap fun y=>jc y.1 y.2
theorem lG (ys:List wG) (y:wG):lj (ys++[y])=lj ys++jc y.1 y.2:=by simp[lj]
theorem uH {a:Option Addr} {n c:Nat} {e:bG} : ∀u∈jc (.slice a n c) e,u.oneCell'=true:=by
 intro u hu;simp only[jc,List.mem_cons,List.not_mem_nil,or_false]at hu
 rcases hu with rfl | rfl | rfl | rfl | rfl | rfl<;> rfl
theorem pt {S:Nat->Prop} {w:World} : ∀ {ys:List wG},(∀y∈ys,cN S w y.1 y.2.data/\jL y.2)->bB (lB S w) (lj ys) (ys.map Prod.snd)
 | [],_=>rfl
 | y::ys,h=>⟨jc y.1 y.2,lj ys,by simp[lj],⟨y.1,rfl,h y (by simp)⟩,pt (fun z hz=>h z (by simp[hz]))⟩
theorem cN.slice {S:Nat->Prop} {w:World} {v:Value} {bs:List UInt8} (h:cN S w v bs): ∃a c,v= .slice a bs.length c/\bs.length<=c/\c<=maxLen:=by
 obtain⟨_,a,c,rfl,h1,h2,_⟩:=h;exact⟨a,c,rfl,h1,h2⟩
theorem aV {w w':World} {B n sz:Nat} {e:TypeId} {v:Value} {xs:List Value} (h:w.ownsRow B e sz v n xs) (hb:Below w.heap.size w w'):w'.ownsRow B e sz v n xs:=by
 refine h.kept (row:=none) ⟨hb.os,hb.tape,hb.output,hb.size,fun k hk _=>hb.block k hk⟩ ?_
 cases hv:v.ownBlock
 ·exact .inl rfl
 ·exact .inr (by simp)
end Go.Proofs.YtnjkpcalgoefhaaGreatDoor
namespace Go.Proofs.YtnjkpcalgoefhaaGreatDoor
open Go.RowKit Go.Maps
theorem rt : ∀ {m pre:List bG} (r:List bG),Tr (pre++m)->iv pre (m++r)=iv (pre++m) r
 | [],pre,r,_=>by simp
 | e::m,pre,r,h=>by
  have h1:Tr (pre++[e]):=Tr.pre (M:=m) (by simpa using h);have h2:=(jS h1.pre e).2 h1;have h3:=rt (m:=m) (pre:=pre++[e]) r (by simpa using h);rw[List.cons_append,iv,if_pos h2,h3];simp
theorem ui {L:List bG} (hl:L.length<=4096) {k:Nat} (h:Tr (L.take k)):cD L=iv (L.take k) (L.drop k):=by
 have h1:=rt (m:=L.take k) (pre:=[]) (L.drop k) (by simpa using h);rw[List.take_append_drop,List.nil_append]at h1;unfold cD;rw[if_neg (by omega),h1]
theorem fG {α:Type} {L:List α} {k:Nat} {e:α} (h:L[k]? =some e):L.drop k=e::L.drop (k+1):=by
 obtain⟨h1,h2⟩:=List.getElem?_eq_some_iff.1 h;rw[List.drop_eq_getElem_cons h1,h2]
theorem dC {L:List bG} (hl:L.length<=4096) {k:Nat} (h:Tr (L.take k)) {e:bG} (he:L[k]? =some e) {x:Int} (hx:bY (L.take k) e=x) (h0:x≠0):cD L=x:=by
 rw[ui hl h,fG he,iv,hx,if_neg h0]
theorem fF {L:List bG} {k:Nat} (h:Tr (L.take k)) {e:bG} (he:L[k]? =some e) (hx:bY (L.take k) e=0):Tr (L.take (k+1)):=by
 rw[List.take_add_one,he];exact(jS h e).1 hx
theorem oO {L:List bG} (hl:L.length<=4096) (h:Tr (L.take L.length)):cD L=0:=by
 rw[ui hl h,List.drop_length]; rfl
theorem ru {L:List bG} (hl:4096<L.length):cD L=2:=by unfold cD; rw[if_pos hl]
def pF (e:bG):Value×Value:=(.string e.path, .int .i64 e.kind)
theorem iN :Tryz.prog.underlying 131=some (.map 9 3):=Tryz.underlying131
theorem xu (w:World) (n:Nat) (hn:n<=4096):(Instr.makeMap 131 (some (.int .i64 (n:Int)))).run Tryz.prog w= .ok (.map (some w.heap.size)) (w.alloc (.map #[] 0)):=by
 have h1:IntKind.i64.wrap (n:Int)=n:=by rw[IntKind.wrap_i64]; omega
 simp[Instr.makeMap,asInt,asIntOf]
theorem kK {w:World} {mb:Nat} {M:List bG} (h:eo Tryz.prog 9 w mb (M.map pF)) {p:ByteArray} (hp:p.size<=maxLen) {f:bG} (hf:ew M p=some f):
  (Instr.lookup 131 (.map (some mb)) (.string p) true).run Tryz.prog w= .ok (.tuple #[.int .i64 f.kind, .bool true]) w:=by
 obtain⟨h1,h2⟩:=lH hf;have h3:(Value.string p,Value.int .i64 f.kind)∈M.map pF:=List.mem_map.2 ⟨f,h1,by rw[<-h2]; rfl⟩;have:=h.is.hit dx iN (dK hp) h3 true
 simpa only[if_true]using this
theorem pG {w:World} {mb:Nat} {M:List bG} (h:eo Tryz.prog 9 w mb (M.map pF)) {p:ByteArray} (hp:p.size<=maxLen) (hf:ew M p=none):
  (Instr.lookup 131 (.map (some mb)) (.string p) true).run Tryz.prog w= .ok (.tuple #[.int .i64 0, .bool false]) w:=by
 have hz:(zeroValue 3).run Tryz.prog w= .ok (.int .i64 0) w:=by kernel_rfl
 have:=h.is.miss dx iN hz (dK hp) (fun q hq e=>by
  obtain⟨x,hx,rfl⟩:=List.mem_map.1 hq;simp only[pF,Value.string.injEq]at e;exact px hf x hx e) true
 simpa only[if_true]using this
theorem kL {M:List bG} {e:bG} (h:Tr (M++[e])): ∀q∈M.map pF,q.1≠Value.string e.path:=by
 intro q hq hc;obtain⟨x,hx,rfl⟩:=List.mem_map.1 hq;simp only[pF,Value.string.injEq]at hc;have hn:=h.ord.nodup;rw[List.map_append,List.nodup_append]at hn;exact hn.2.2 x.path (List.mem_map.2 ⟨x,hx,rfl⟩) e.path (by simp) hc
theorem iJ (a b:ByteArray) (o:Int) (w:World) (ha:a.size<=maxLen) (h:cz (bl a) (bl b)=o):Calls Tryz.prog 65 #[.string a, .string b] w fun e w'=>e= .returned (.int .i64 o)/\Below w.heap.size w w':=by
 rw[<-h]; exact uo a b w (by unfold maxLen at ha; omega)
theorem ua {L:List bG} {k:Nat} {f e:bG} (hf:L[k]? =some f):gJ (L.take (k+1)) e=decide (cz (bl f.path) (bl e.path)<0):=by
 have:(L.take (k+1)).getLast? =some f:=by rw[List.take_add_one,hf]; simp
 unfold gJ;rw[this]; rfl
def FI (L:List bG) (mb:Nat) (w:World) (k:Nat) (wr:World):Prop:=Tr (L.take k)/\eo Tryz.prog 9 wr mb ((L.take k).map pF)/\Below w.heap.size w wr
theorem zA (S:Nat->Prop) (L:List bG) (v:Value) (w:World) (hv:cl S w v L) (henv:jE w):Calls Tryz.prog 34 #[v] w fun e w'=>e= .returned (.int .i64 (cD L))/\Below w.heap.size w w':=by
 have HV:=ab hv;have HE:=ab henv;obtain⟨a,cap,rfl,hc,hm,-⟩:=aY.shape hv lB.len;unfold maxLen at hm;obtain⟨n,hn⟩: ∃n,n=L.length:=⟨_,rfl⟩;have HN:=ab hn;rw[<-hn]at hc HV ⊢;clear hv henv
 by_cases hbig:4096<n
 ·have hbi:(4096:Int)<(n:Int):=by omega
  have HC:=ab (ru (by rw[<-hn]; exact hbig));clear hbig hn
  go_enter Tryz.func34,Tryz.ntmps34
  go_wp2_with fail;go_ret;exact⟨bC (by rw[HC.out]),Below.refl _ _⟩
 ·have hbi:(n:Int)<=(4096:Int):=by omega
  have hmk:=xu w n (by omega);have HL4:=ab (show L.length<=4096 by omega);clear hbig hn
  go_enter Tryz.func34,Tryz.ntmps34
  go_wp2_with fail;obtain⟨W0,hW0⟩: ∃W0,W0=w.alloc (.map #[] 0):=⟨_,rfl⟩;rw[<-hW0];have HM0:=ab (show eo Tryz.prog 9 W0 w.heap.size [] by rw[hW0]; exact eo.made w);have HB0:=ab (show Below w.heap.size w W0 by rw[hW0]; exact(Below.refl _ _).alloc (Nat.le_refl _) _);clear hW0;clear hmk
  go_loopw [18] (fun i wr=> ∃k:Nat,k<=n/\i= .int .i64 k/\FI L w.heap.size w k wr) (fun i _=>n-(intOf i).toNat)
  case atStart=>exact⟨0,Nat.zero_le _,rfl,⟨List.Pairwise.nil,by simp,by simp⟩,HM0.out,HB0.out⟩
  case round=>
   obtain⟨k,hk,rfl,htr,hkm,hbr⟩:=hrel;have HTR:=ab htr;have HKM:=ab hkm;have HBR:=ab hbr;clear htr hkm hbr
   by_cases hlt:k<n
   ·obtain⟨e,he⟩: ∃e,L[k]? =some e:=⟨L[k]'(by rw[<-HN.out]; exact hlt),by simp⟩;obtain⟨b,o,dv,rfl,-,hb,hd,hok,-,q0,q1,q2,q3,q4,q5⟩:=jd (HV.out.below HBR.out) he;have HAT:=ab he;have HD:=ab hd;have HOK:=ab hok;obtain⟨a1,cap1,rfl,hd1,hd2⟩:=hd.slice;unfold maxLen at hd2;clear he hd hok
    cases hve:cC e
    ·have HVE:=ab hve;have HCA:=ab (show bY (L.take k) e=1 by unfold bY; rw[hve]; rfl);clear hve;go_wp2_with fail;obtain⟨W,hW⟩: ∃W,W=wr.alloc (.cells #[.string e.path, .int .i64 e.kind, .int .i64 e.mode, .int .i64 e.time, .slice a1 e.data.length cap1, .string e.link] 30):=⟨_,rfl⟩;rw[<-hW];have HX:=ab (show W.heap[wr.heap.size]? =some (.cells #[.string e.path, .int .i64 e.kind, .int .i64 e.mode, .int .i64 e.time, .slice a1 e.data.length cap1, .string e.link] 30 (0,0)) by rw[hW]; exact ey wr _)
     have HWL:=ab (show Below wr.heap.size wr W by rw[hW]; exact(Below.refl _ _).alloc (Nat.le_refl _) _);have HBW:=ab (ak HBR.out HWL.out);clear hW;refine(kW S e _ false _ (HD.out.below HWL.out) HOK.out (HE.out.below HBW.out) HVE.out).mono ?_;rintro e7 w7 ⟨rfl,hb7⟩;have HB9:=ab (ak HBW.out hb7);clear hb7;go_wp2_with fail;go_ret;exact⟨bC (by rw[dC HL4.out HTR.out HAT.out (x:=1) HCA.out (by decide)]),HB9.out⟩
    ·have HVE:=ab hve;obtain⟨q,hq⟩: ∃q:ByteArray,q=⟨(bb (bl e.path)).toArray⟩:=⟨_,rfl⟩;have HBQ:=ab (show bl q=bb (bl e.path) by rw[hq]; exact lY _);have HQ:=ab hq;have HQS:=ab (show q.size<=maxLen by
      have h1:=gU (cB hve);have h2:=qz (cB hve);rw[ay,HBQ.out]; unfold maxLen; omega)
     clear hve hq
     rcases Nat.eq_zero_or_pos k with hk0 | hk0
     ·have e9:decide (0<k)=false:=by simp; omega
      have e8:(k:Int)<=0:=by omega
      have HCV:=ab (show(cC e && gJ (L.take k) e)=true by rw[hk0,HVE.out]; rfl);clear hk0;go_wp2_with fail;obtain⟨W,hW⟩: ∃W,W=wr.alloc (.cells #[.string e.path, .int .i64 e.kind, .int .i64 e.mode, .int .i64 e.time, .slice a1 e.data.length cap1, .string e.link] 30):=⟨_,rfl⟩;rw[<-hW];have HX:=ab (show W.heap[wr.heap.size]? =some (.cells #[.string e.path, .int .i64 e.kind, .int .i64 e.mode, .int .i64 e.time, .slice a1 e.data.length cap1, .string e.link] 30 (0,0)) by rw[hW]; exact ey wr _)
      have HWL:=ab (show Below wr.heap.size wr W by rw[hW]; exact(Below.refl _ _).alloc (Nat.le_refl _) _);have HBW:=ab (ak HBR.out HWL.out);clear hW;refine(kW S e _ true _ (HD.out.below HWL.out) HOK.out (HE.out.below HBW.out) HVE.out).mono ?_;rintro e7 w7 ⟨rfl,hb7⟩;have HX7:=ab ((hb7.block wr.heap.size (fp HX.out)).trans HX.out);have HL7:=ab (HWL.out.trans (hb7.mono HWL.out.size))
      have c0:=al (k:=0) HX7.out;have c1:=al (k:=1) HX7.out;have c2:=al (k:=2) HX7.out;have c3:=al (k:=3) HX7.out;have c4:=al (k:=4) HX7.out;have c5:=al (k:=5) HX7.out;simp only[eE]at c0 c1 c2 c3 c4 c5;clear hb7;go_wp2_with fail;refine aA [some 11,none,some 2] (by kernel_rfl) (by kernel_rfl) (by kernel_rfl) ?_;simp only[bz,List.take_succ_cons,List.take_zero,List.drop_succ_cons,List.drop_zero]
      obtain⟨wd,hwd⟩: ∃wd:World,wd=w7.drew:=⟨_,rfl⟩;rw[<-hwd];have HLD:=ab (show Below wr.heap.size wr wd by rw[hwd]; exact HL7.out.trans ((Below.refl w7.heap.size w7).drew.mono HL7.out.size));have HXD:=ab (show wd.heap[wr.heap.size]? =some (.cells #[.string e.path, .int .i64 e.kind, .int .i64 e.mode, .int .i64 e.time, .slice a1 e.data.length cap1, .string e.link] 30 (0,0)) by rw[hwd]; exact HX7.out)
      clear hwd c0 c1 c2 c3 c4 c5;have c0:=al (k:=0) HXD.out;have c1:=al (k:=1) HXD.out;have c2:=al (k:=2) HXD.out;have c3:=al (k:=3) HXD.out;have c4:=al (k:=4) HXD.out;have c5:=al (k:=5) HXD.out;simp only[eE]at c0 c1 c2 c3 c4 c5
      repeat (first | (refine aD rfl ?_; simp only[Act.put,aH,aI,aJ]) | (refine aM rfl (fun K hK=> ?_); go_simp; refine hK _ ?_; clear hK K))
      refine aL ?_;refine iH rfl ?_;simp only[Act.put,aH,aI,aJ]
      repeat (first | (refine aD rfl ?_; simp only[Act.put,aH,aI,aJ]) | (refine aM rfl (fun K hK=> ?_); go_simp; refine hK _ ?_; clear hK K))
      refine aL ?_;clear c0 c1 c2 c3 c4 c5;have HL8:=ab HLD.out;have HX8:=ab HXD.out;have HB8:=ab (ak HBR.out HLD.out);have c0:=al (k:=0) HX8.out;have c1:=al (k:=1) HX8.out;have c2:=al (k:=2) HX8.out;have c3:=al (k:=3) HX8.out;have c4:=al (k:=4) HX8.out;have c5:=al (k:=5) HX8.out;simp only[eE]at c0 c1 c2 c3 c4 c5;go_wp2_with fail
      by_cases h0:bb (bl e.path)=[]
      ·have e1:q.toList.isEmpty=true:=by rw[il,HBQ.out,decide_eq_true h0]
       have HTN:=ab (fF HTR.out HAT.out (show bY (L.take k) e=0 by unfold bY; rw[if_pos HCV.out]; unfold gx; rw[if_pos h0]));clear h0;refine(gg e.path q _ (HE.out.below HB8.out) (cB HVE.out) HQ.out).mono ?_;rintro e9 w9 ⟨rfl,hb9⟩;have HL9:=ab (HL8.out.trans (hb9.mono HL8.out.size));have HB9:=ab (ak HB8.out hb9);have HX9:=ab ((hb9.block wr.heap.size (fp HX8.out)).trans HX8.out)
       have HK9:=ab (HKM.out.same (HL9.out.block w.heap.size HKM.out.lt));clear hb9;have c0:=al (k:=0) HX9.out;have c1:=al (k:=1) HX9.out;have c2:=al (k:=2) HX9.out;have c3:=al (k:=3) HX9.out;have c4:=al (k:=4) HX9.out;have c5:=al (k:=5) HX9.out;simp only[eE]at c0 c1 c2 c3 c4 c5;go_wp2_with (at_mapUpdate; go_must (refine gj dx rfl _ _ _ _ rfl iN w.heap.size _ HK9.out rfl (.string e.path) (.int .i64 e.kind) rfl rfl (dK HOK.out.pth) (kL (by have h1:=HTN.out; rw[List.take_add_one,HAT.out]at h1; exact h1)) ?_); intro w10 hm10 hg10)
       have HM10:=ab hm10;have HG10:=ab hg10;clear hm10 hg10 c0 c1 c2 c3 c4 c5;go_wp2_with fail
       go_roundw
       case rel=>
        refine⟨k+1,by omega,by go_num,HTN.out, ?_, ?_⟩
        ·rw[List.take_add_one,HAT.out,List.map_append]; exact HM10.out
        ·exact HB9.out.grown HG10.out HB9.out.size (fun k e=>by cases e; exact Nat.le_refl _)
       case measure=>simp[intOf]; omega
      ·have e1:q.toList.isEmpty=false:=by rw[il,HBQ.out,decide_eq_false h0]
       have HDI:=ab (show ∀x,(match ew (L.take k) q with | none=>(4:Int) | some f=>if f.kind=2 then 0 else 13)=x->bY (L.take k) e=x from fun x hx=>by unfold bY; rw[if_pos HCV.out]; unfold gx; rw[if_neg h0,<-HQ.out]; exact hx);clear h0
       cases hf:ew (L.take k) q with
       | none=>
        have HF:=ab hf;have HCA:=ab (HDI.out 4 (by rw[hf]));clear hf;refine(gg e.path q _ (HE.out.below HB8.out) (cB HVE.out) HQ.out).mono ?_;rintro e9 w9 ⟨rfl,hb9⟩;have HL9:=ab (HL8.out.trans (hb9.mono HL8.out.size));have HB9:=ab (ak HB8.out hb9);have HX9:=ab ((hb9.block wr.heap.size (fp HX8.out)).trans HX8.out);have HK9:=ab (HKM.out.same (HL9.out.block w.heap.size HKM.out.lt))
        clear hb9;have c0:=al (k:=0) HX9.out;have c1:=al (k:=1) HX9.out;have c2:=al (k:=2) HX9.out;have c3:=al (k:=3) HX9.out;have c4:=al (k:=4) HX9.out;have c5:=al (k:=5) HX9.out;simp only[eE]at c0 c1 c2 c3 c4 c5;have hlk:=pG HK9.out HQS.out HF.out;go_wp2_with fail;go_ret;exact⟨bC (by rw[dC HL4.out HTR.out HAT.out (x:=4) HCA.out (by decide)]),HB9.out⟩
       | some f=>
        have HF:=ab hf
        by_cases hk2:f.kind=2
        ·have e3:(f.kind != 2)=false:=by simp[hk2]
         have HTN:=ab (fF HTR.out HAT.out (HDI.out 0 (by rw[hf]; simp only[if_pos hk2])));clear hf hk2;refine(gg e.path q _ (HE.out.below HB8.out) (cB HVE.out) HQ.out).mono ?_;rintro e9 w9 ⟨rfl,hb9⟩;have HL9:=ab (HL8.out.trans (hb9.mono HL8.out.size));have HB9:=ab (ak HB8.out hb9);have HX9:=ab ((hb9.block wr.heap.size (fp HX8.out)).trans HX8.out);have HK9:=ab (HKM.out.same (HL9.out.block w.heap.size HKM.out.lt))
         clear hb9;have c0:=al (k:=0) HX9.out;have c1:=al (k:=1) HX9.out;have c2:=al (k:=2) HX9.out;have c3:=al (k:=3) HX9.out;have c4:=al (k:=4) HX9.out;have c5:=al (k:=5) HX9.out;simp only[eE]at c0 c1 c2 c3 c4 c5;have hlk:=kK HK9.out HQS.out HF.out;go_wp2_with (at_mapUpdate; go_must (refine gj dx rfl _ _ _ _ rfl iN w.heap.size _ HK9.out rfl (.string e.path) (.int .i64 e.kind) rfl rfl (dK HOK.out.pth) (kL (by have h1:=HTN.out; rw[List.take_add_one,HAT.out]at h1; exact h1)) ?_); intro w10 hm10 hg10)
         have HM10:=ab hm10;have HG10:=ab hg10;clear hm10 hg10 c0 c1 c2 c3 c4 c5;go_wp2_with fail
         go_roundw
         case rel=>
          refine⟨k+1,by omega,by go_num,HTN.out, ?_, ?_⟩
          ·rw[List.take_add_one,HAT.out,List.map_append]; exact HM10.out
          ·exact HB9.out.grown HG10.out HB9.out.size (fun k e=>by cases e; exact Nat.le_refl _)
         case measure=>simp[intOf]; omega
        ·have e3:(f.kind != 2)=true:=by simp[hk2]
         have HCA:=ab (HDI.out 13 (by rw[hf]; simp only[if_neg hk2]));clear hf hk2;refine(gg e.path q _ (HE.out.below HB8.out) (cB HVE.out) HQ.out).mono ?_;rintro e9 w9 ⟨rfl,hb9⟩;have HL9:=ab (HL8.out.trans (hb9.mono HL8.out.size));have HB9:=ab (ak HB8.out hb9);have HX9:=ab ((hb9.block wr.heap.size (fp HX8.out)).trans HX8.out);have HK9:=ab (HKM.out.same (HL9.out.block w.heap.size HKM.out.lt))
         clear hb9;have c0:=al (k:=0) HX9.out;have c1:=al (k:=1) HX9.out;have c2:=al (k:=2) HX9.out;have c3:=al (k:=3) HX9.out;have c4:=al (k:=4) HX9.out;have c5:=al (k:=5) HX9.out;simp only[eE]at c0 c1 c2 c3 c4 c5;have hlk:=kK HK9.out HQS.out HF.out;go_wp2_with fail;go_ret;exact⟨bC (by rw[dC HL4.out HTR.out HAT.out (x:=13) HCA.out (by decide)]),HB9.out⟩
     ·obtain⟨j,rfl⟩: ∃j,k=j+1:=⟨k-1,by omega⟩;obtain⟨f,hf⟩: ∃f,L[j]? =some f:=⟨L[j]'(by rw[<-HN.out]; omega),by simp⟩;obtain⟨b',o',dv',he',-,-,-,hokf,-,p0,-⟩:=jd (HV.out.below HBR.out) hf;simp only[Option.some.injEq,Addr.mk.injEq,and_true]at he';obtain⟨rfl,rfl⟩:=he';have HPF:=ab hokf.pth;obtain⟨c,hc⟩: ∃c,cz (bl f.path) (bl e.path)=c:=⟨_,rfl⟩
      have HC:=ab hc;have e9:decide (0<j+1)=true:=by simp
      have hjn:j<n:=by omega
      have hjn2:(j:Int)<(n:Int):=by omega
      have hjn3:decide (j<n)=true:=by simp; omega
      have hwj:IntKind.i64.wrap (j:Int)=j:=by rw[IntKind.wrap_i64]; omega
      have HAF:=ab (show gJ (L.take (j+1)) e=decide (c<0) by rw[ua hf,hc]);clear hf hokf hc hk0
      by_cases hneg:c<0
      ·have HCV:=ab (show(cC e && gJ (L.take (j+1)) e)=true by rw[HVE.out,HAF.out,decide_eq_true hneg]; rfl);have e8:decide (0<=c)=false:=by simp; omega
       go_wp2_with fail;obtain⟨W,hW⟩: ∃W,W=wr.alloc (.cells #[.string e.path, .int .i64 e.kind, .int .i64 e.mode, .int .i64 e.time, .slice a1 e.data.length cap1, .string e.link] 30):=⟨_,rfl⟩;rw[<-hW];have HX:=ab (show W.heap[wr.heap.size]? =some (.cells #[.string e.path, .int .i64 e.kind, .int .i64 e.mode, .int .i64 e.time, .slice a1 e.data.length cap1, .string e.link] 30 (0,0)) by rw[hW]; exact ey wr _)
       have HWL:=ab (show Below wr.heap.size wr W by rw[hW]; exact(Below.refl _ _).alloc (Nat.le_refl _) _);have HBW:=ab (ak HBR.out HWL.out);clear hW;refine(kW S e _ true _ (HD.out.below HWL.out) HOK.out (HE.out.below HBW.out) HVE.out).mono ?_;rintro e7 w7 ⟨rfl,hb7⟩;have HX7:=ab ((hb7.block wr.heap.size (fp HX.out)).trans HX.out);have HL7:=ab (HWL.out.trans (hb7.mono HWL.out.size))
       have c0:=al (k:=0) HX7.out;have c1:=al (k:=1) HX7.out;have c2:=al (k:=2) HX7.out;have c3:=al (k:=3) HX7.out;have c4:=al (k:=4) HX7.out;have c5:=al (k:=5) HX7.out;simp only[eE]at c0 c1 c2 c3 c4 c5;clear hb7;go_wp2_with fail;refine aA [some 11,none,some 2] (by kernel_rfl) (by kernel_rfl) (by kernel_rfl) ?_;simp only[bz,List.take_succ_cons,List.take_zero,List.drop_succ_cons,List.drop_zero]
       obtain⟨wd,hwd⟩: ∃wd:World,wd=w7.drew:=⟨_,rfl⟩;rw[<-hwd];have HLD:=ab (show Below wr.heap.size wr wd by rw[hwd]; exact HL7.out.trans ((Below.refl w7.heap.size w7).drew.mono HL7.out.size));have HXD:=ab (show wd.heap[wr.heap.size]? =some (.cells #[.string e.path, .int .i64 e.kind, .int .i64 e.mode, .int .i64 e.time, .slice a1 e.data.length cap1, .string e.link] 30 (0,0)) by rw[hwd]; exact HX7.out)
       clear hwd c0 c1 c2 c3 c4 c5;have c0:=al (k:=0) HXD.out;have c1:=al (k:=1) HXD.out;have c2:=al (k:=2) HXD.out;have c3:=al (k:=3) HXD.out;have c4:=al (k:=4) HXD.out;have c5:=al (k:=5) HXD.out;simp only[eE]at c0 c1 c2 c3 c4 c5;have y0:=(HLD.out.cell (aE p0)).trans p0
       repeat (first | (refine aD rfl ?_; simp only[Act.put,aH,aI,aJ]) | (refine aM rfl (fun K hK=> ?_); go_simp; refine hK _ ?_; clear hK K))
       refine aL ?_;refine bE rfl (fun K hK=> ?_);go_wp2_with (go_at_call 65; refine(iJ f.path e.path c _ HPF.out HC.out).mono ?_; rintro e8' w8 ⟨rfl,hb8⟩; have HL8:=ab (HLD.out.trans (hb8.mono HLD.out.size)); have HX8:=ab ((hb8.block wr.heap.size (fp HXD.out)).trans HXD.out); clear hb8 c0 c1 c2 c3 c4 c5 y0)
       repeat (first | (refine aD rfl ?_; simp only[Act.put,aH,aI,aJ]) | (refine aM rfl (fun K hK=> ?_); go_simp; refine hK _ ?_; clear hK K))
       refine aL ?_;have HB8:=ab (ak HBR.out HL8.out);have c0:=al (k:=0) HX8.out;have c1:=al (k:=1) HX8.out;have c2:=al (k:=2) HX8.out;have c3:=al (k:=3) HX8.out;have c4:=al (k:=4) HX8.out;have c5:=al (k:=5) HX8.out;simp only[eE]at c0 c1 c2 c3 c4 c5;go_wp2_with fail
       by_cases h0:bb (bl e.path)=[]
       ·have e1:q.toList.isEmpty=true:=by rw[il,HBQ.out,decide_eq_true h0]
        have HTN:=ab (fF HTR.out HAT.out (show bY (L.take (j+1)) e=0 by unfold bY; rw[if_pos HCV.out]; unfold gx; rw[if_pos h0]));clear h0;refine(gg e.path q _ (HE.out.below HB8.out) (cB HVE.out) HQ.out).mono ?_;rintro e9 w9 ⟨rfl,hb9⟩;have HL9:=ab (HL8.out.trans (hb9.mono HL8.out.size));have HB9:=ab (ak HB8.out hb9);have HX9:=ab ((hb9.block wr.heap.size (fp HX8.out)).trans HX8.out)
        have HK9:=ab (HKM.out.same (HL9.out.block w.heap.size HKM.out.lt));clear hb9;have c0:=al (k:=0) HX9.out;have c1:=al (k:=1) HX9.out;have c2:=al (k:=2) HX9.out;have c3:=al (k:=3) HX9.out;have c4:=al (k:=4) HX9.out;have c5:=al (k:=5) HX9.out;simp only[eE]at c0 c1 c2 c3 c4 c5;go_wp2_with (at_mapUpdate; go_must (refine gj dx rfl _ _ _ _ rfl iN w.heap.size _ HK9.out rfl (.string e.path) (.int .i64 e.kind) rfl rfl (dK HOK.out.pth) (kL (by have h1:=HTN.out; rw[List.take_add_one,HAT.out]at h1; exact h1)) ?_); intro w10 hm10 hg10)
        have HM10:=ab hm10;have HG10:=ab hg10;clear hm10 hg10 c0 c1 c2 c3 c4 c5;go_wp2_with fail
        go_roundw
        case rel=>
         refine⟨j+1+1,by omega,by go_num,HTN.out, ?_, ?_⟩
         ·rw[List.take_add_one,HAT.out,List.map_append]; exact HM10.out
         ·exact HB9.out.grown HG10.out HB9.out.size (fun k e=>by cases e; exact Nat.le_refl _)
        case measure=>simp[intOf]; omega
       ·have e1:q.toList.isEmpty=false:=by rw[il,HBQ.out,decide_eq_false h0]
        have HDI:=ab (show ∀x,(match ew (L.take (j+1)) q with | none=>(4:Int) | some g=>if g.kind=2 then 0 else 13)=x->bY (L.take (j+1)) e=x from fun x hx=>by unfold bY; rw[if_pos HCV.out]; unfold gx; rw[if_neg h0,<-HQ.out]; exact hx);clear h0
        cases hf:ew (L.take (j+1)) q with
        | none=>
         have HF:=ab hf;have HCA:=ab (HDI.out 4 (by rw[hf]));clear hf;refine(gg e.path q _ (HE.out.below HB8.out) (cB HVE.out) HQ.out).mono ?_;rintro e9 w9 ⟨rfl,hb9⟩;have HL9:=ab (HL8.out.trans (hb9.mono HL8.out.size));have HB9:=ab (ak HB8.out hb9);have HX9:=ab ((hb9.block wr.heap.size (fp HX8.out)).trans HX8.out);have HK9:=ab (HKM.out.same (HL9.out.block w.heap.size HKM.out.lt))
         clear hb9;have c0:=al (k:=0) HX9.out;have c1:=al (k:=1) HX9.out;have c2:=al (k:=2) HX9.out;have c3:=al (k:=3) HX9.out;have c4:=al (k:=4) HX9.out;have c5:=al (k:=5) HX9.out;simp only[eE]at c0 c1 c2 c3 c4 c5;have hlk:=pG HK9.out HQS.out HF.out;go_wp2_with fail;go_ret;exact⟨bC (by rw[dC HL4.out HTR.out HAT.out (x:=4) HCA.out (by decide)]),HB9.out⟩
        | some g=>
         have HF:=ab hf
         by_cases hk2:g.kind=2
         ·have e3:(g.kind != 2)=false:=by simp[hk2]
          have HTN:=ab (fF HTR.out HAT.out (HDI.out 0 (by rw[hf]; simp only[if_pos hk2])));clear hf hk2;refine(gg e.path q _ (HE.out.below HB8.out) (cB HVE.out) HQ.out).mono ?_;rintro e9 w9 ⟨rfl,hb9⟩;have HL9:=ab (HL8.out.trans (hb9.mono HL8.out.size));have HB9:=ab (ak HB8.out hb9);have HX9:=ab ((hb9.block wr.heap.size (fp HX8.out)).trans HX8.out);have HK9:=ab (HKM.out.same (HL9.out.block w.heap.size HKM.out.lt))
          clear hb9;have c0:=al (k:=0) HX9.out;have c1:=al (k:=1) HX9.out;have c2:=al (k:=2) HX9.out;have c3:=al (k:=3) HX9.out;have c4:=al (k:=4) HX9.out;have c5:=al (k:=5) HX9.out;simp only[eE]at c0 c1 c2 c3 c4 c5;have hlk:=kK HK9.out HQS.out HF.out;go_wp2_with (at_mapUpdate; go_must (refine gj dx rfl _ _ _ _ rfl iN w.heap.size _ HK9.out rfl (.string e.path) (.int .i64 e.kind) rfl rfl (dK HOK.out.pth) (kL (by have h1:=HTN.out; rw[List.take_add_one,HAT.out]at h1; exact h1)) ?_); intro w10 hm10 hg10)
          have HM10:=ab hm10;have HG10:=ab hg10;clear hm10 hg10 c0 c1 c2 c3 c4 c5;go_wp2_with fail
          go_roundw
          case rel=>
           refine⟨j+1+1,by omega,by go_num,HTN.out, ?_, ?_⟩
           ·rw[List.take_add_one,HAT.out,List.map_append]; exact HM10.out
           ·exact HB9.out.grown HG10.out HB9.out.size (fun k e=>by cases e; exact Nat.le_refl _)
          case measure=>simp[intOf]; omega
         ·have e3:(g.kind != 2)=true:=by simp[hk2]
          have HCA:=ab (HDI.out 13 (by rw[hf]; simp only[if_neg hk2]));clear hf hk2;refine(gg e.path q _ (HE.out.below HB8.out) (cB HVE.out) HQ.out).mono ?_;rintro e9 w9 ⟨rfl,hb9⟩;have HL9:=ab (HL8.out.trans (hb9.mono HL8.out.size));have HB9:=ab (ak HB8.out hb9);have HX9:=ab ((hb9.block wr.heap.size (fp HX8.out)).trans HX8.out);have HK9:=ab (HKM.out.same (HL9.out.block w.heap.size HKM.out.lt))
          clear hb9;have c0:=al (k:=0) HX9.out;have c1:=al (k:=1) HX9.out;have c2:=al (k:=2) HX9.out;have c3:=al (k:=3) HX9.out;have c4:=al (k:=4) HX9.out;have c5:=al (k:=5) HX9.out;simp only[eE]at c0 c1 c2 c3 c4 c5;have hlk:=kK HK9.out HQS.out HF.out;go_wp2_with fail;go_ret;exact⟨bC (by rw[dC HL4.out HTR.out HAT.out (x:=13) HCA.out (by decide)]),HB9.out⟩
      ·have HCA:=ab (show bY (L.take (j+1)) e=1 by unfold bY; rw[HAF.out,decide_eq_false hneg]; simp);have e8:decide (0<=c)=true:=by simp; omega
       have e7:0<=c:=by omega
       go_wp2_with fail;obtain⟨W,hW⟩: ∃W,W=wr.alloc (.cells #[.string e.path, .int .i64 e.kind, .int .i64 e.mode, .int .i64 e.time, .slice a1 e.data.length cap1, .string e.link] 30):=⟨_,rfl⟩;rw[<-hW];have HX:=ab (show W.heap[wr.heap.size]? =some (.cells #[.string e.path, .int .i64 e.kind, .int .i64 e.mode, .int .i64 e.time, .slice a1 e.data.length cap1, .string e.link] 30 (0,0)) by rw[hW]; exact ey wr _)
       have HWL:=ab (show Below wr.heap.size wr W by rw[hW]; exact(Below.refl _ _).alloc (Nat.le_refl _) _);have HBW:=ab (ak HBR.out HWL.out);clear hW;refine(kW S e _ true _ (HD.out.below HWL.out) HOK.out (HE.out.below HBW.out) HVE.out).mono ?_;rintro e7 w7 ⟨rfl,hb7⟩;have HX7:=ab ((hb7.block wr.heap.size (fp HX.out)).trans HX.out);have HL7:=ab (HWL.out.trans (hb7.mono HWL.out.size))
       have c0:=al (k:=0) HX7.out;have c1:=al (k:=1) HX7.out;have c2:=al (k:=2) HX7.out;have c3:=al (k:=3) HX7.out;have c4:=al (k:=4) HX7.out;have c5:=al (k:=5) HX7.out;simp only[eE]at c0 c1 c2 c3 c4 c5;clear hb7;go_wp2_with fail;refine aA [some 11,none,some 2] (by kernel_rfl) (by kernel_rfl) (by kernel_rfl) ?_;simp only[bz,List.take_succ_cons,List.take_zero,List.drop_succ_cons,List.drop_zero]
       obtain⟨wd,hwd⟩: ∃wd:World,wd=w7.drew:=⟨_,rfl⟩;rw[<-hwd];have HLD:=ab (show Below wr.heap.size wr wd by rw[hwd]; exact HL7.out.trans ((Below.refl w7.heap.size w7).drew.mono HL7.out.size));have HXD:=ab (show wd.heap[wr.heap.size]? =some (.cells #[.string e.path, .int .i64 e.kind, .int .i64 e.mode, .int .i64 e.time, .slice a1 e.data.length cap1, .string e.link] 30 (0,0)) by rw[hwd]; exact HX7.out)
       clear hwd c0 c1 c2 c3 c4 c5;have c0:=al (k:=0) HXD.out;have c1:=al (k:=1) HXD.out;have c2:=al (k:=2) HXD.out;have c3:=al (k:=3) HXD.out;have c4:=al (k:=4) HXD.out;have c5:=al (k:=5) HXD.out;simp only[eE]at c0 c1 c2 c3 c4 c5;have y0:=(HLD.out.cell (aE p0)).trans p0
       repeat (first | (refine aD rfl ?_; simp only[Act.put,aH,aI,aJ]) | (refine aM rfl (fun K hK=> ?_); go_simp; refine hK _ ?_; clear hK K))
       refine aL ?_;refine bE rfl (fun K hK=> ?_);go_wp2_with (go_at_call 65; refine(iJ f.path e.path c _ HPF.out HC.out).mono ?_; rintro e8' w8 ⟨rfl,hb8⟩; have HL8:=ab (HLD.out.trans (hb8.mono HLD.out.size)); clear hb8 c0 c1 c2 c3 c4 c5 y0)
       repeat (first | (refine aD rfl ?_; simp only[Act.put,aH,aI,aJ]) | (refine aM rfl (fun K hK=> ?_); go_simp; refine hK _ ?_; clear hK K))
       refine aL ?_;have HB9:=ab (ak HBR.out HL8.out);go_wp2_with fail;go_ret;exact⟨bC (by rw[dC HL4.out HTR.out HAT.out (x:=1) HCA.out (by decide)]),HB9.out⟩
   ·have hk2:k=n:=by omega
    subst hk2;go_wp2_with fail;go_ret;exact⟨bC (by rw[oO HL4.out (by rw[<-HN.out]; exact HTR.out)]),HBR.out⟩
open Go Go.RowKit Go.Maps
theorem fS {W:World} {b n sz:Nat} {cells:List Value} {t:TypeId} (h:W.heap[b]? =some (.cells cells.toArray t (0,0))) (hl:cells.length=n*sz) (hn:n<=maxLen):aS (fun k=>k=b) W sz (.slice (some ⟨b,0,none⟩) n n) n cells:=
 ⟨hl,some ⟨b,0,none⟩,n,rfl,Nat.le_refl _,hn, .inr ⟨b,0,rfl,rfl,fun j u hj=>by rw[ai h,Nat.zero_add,List.getElem?_toArray]; exact hj⟩⟩
theorem bw {S:Nat->Prop} {w:World} {v:Value} {bs:List UInt8} (h:bi S w v bs):(convert 28 9 v).run Tryz.prog w= .ok (.string ⟨bs.toArray⟩) w:=by
 have h1:=zC (S:=S) (w:=w) (v:=v) (bs:=bs) h;rw[qn]at h1;exact h1
theorem zQ (w:World) (n:Nat) (hn:n<=4096): ∃mc:Array Value,(Instr.makeSlice 45 (.int .i64 0) (.int .i64 (n:Int))).run Tryz.prog w= .ok (.slice (some ⟨w.heap.size,0,none⟩) 0 n) (w.alloc (.cells mc 30))/\(w.alloc (.cells mc 30)).ownsRow w.heap.size 30 6 (.slice (some ⟨w.heap.size,0,none⟩) 0 n) 0 []:=by
 obtain⟨ht,⟨i,z,h11,h12,h13,h14,h15⟩,hpos,hsm⟩:=Tryz.appEnts;have hb':(i.bytes:Int)*(n:Int)<=281474976710656:=by
  have h:i.bytes*n<=128*4096:=Nat.mul_le_mul (by omega) hn;have h2:((i.bytes*n:Nat):Int)<=281474976710656:=by omega
  rwa [Int.natCast_mul]at h2
 have hr:=run_make (P:=Tryz.prog) w _ _ i z ht h11 h12 .i64 .i64 0 n (Int.le_refl _) (by omega) hb' (by omega);simp only[Int.toNat_zero,Int.toNat_natCast]at hr;refine⟨_,hr,World.ownsRow_made w _ n (Nat.le_refl _) (by unfold maxLen; omega) ?_⟩;have:=size_madeCells z.cells (n*i.size);rw[this,h13]
theorem mN (S:Nat->Prop) (f:aw) (pv:Value) (b:Bool) (w:World) (hp:aP S w pv f.parts) (h:cJ f=b):Calls Tryz.prog 33 #[dU pv f] w fun e w'=>e= .returned (.bool b)/\Below w.heap.size w w':=by
 rw[<-h]; exact rg S f pv w hp
theorem uj (S:Nat->Prop) (L:List bG) (v:Value) (x:Int) (w:World) (hv:cl S w v L) (henv:jE w) (h:cD L=x):Calls Tryz.prog 34 #[v] w fun e w'=>e= .returned (.int .i64 x)/\Below w.heap.size w w':=by
 rw[<-h]; exact zA S L v w hv henv
abbrev oK (f:aw):wG:=(.slice none 0 0,fH f)
theorem ub (l:List aw):(l.map oK).map Prod.snd=l.map fH:=by rw[List.map_map]; rfl
theorem de (x:cA):cR x=(decide (0<=x.tm) && decide (x.files.length<=4096) && x.files.all cJ && decide (cD (x.files.map fH)=0)):=rfl
theorem tO (S:Nat->Prop) (x:cA) (fv:Value) (w:World) (hx:aT S w fv x.files) (henv:jE w):Calls Tryz.prog 12 #[dQ fv x.tm] w fun e w'=>e= .returned (.bool (cR x))/\Below w.heap.size w w':=by
 obtain⟨a,cap,rfl,hc,hm,-⟩:=aY.shape hx dT.len;unfold maxLen at hm;have HX:=ab hx;have HE:=ab henv;clear hx henv;obtain⟨n,hn⟩: ∃n,n=x.files.length:=⟨_,rfl⟩;rw[<-hn]at hc HX ⊢;have HN:=ab hn;clear hn;unfold dQ
 by_cases ht:x.tm<0
 ·have HF:=ab (show cR x=false by rw[de,show decide (0<=x.tm)=false by simp; omega]; rfl)
  go_enter Tryz.func12,Tryz.ntmps12
  go_wp2_with fail;go_ret;exact⟨az (by rw[HF.out]),(Below.refl _ _).alloc (Nat.le_refl _) _⟩
 ·by_cases hl:4096<n
  ·have HF:=ab (show cR x=false by rw[de,<-HN.out,show decide (n<=4096)=false by simp; omega]; simp);have hl2:(4096:Int)<(n:Int):=by omega
   go_enter Tryz.func12,Tryz.ntmps12
   go_wp2_with fail;go_ret;exact⟨az (by rw[HF.out]),(Below.refl _ _).alloc (Nat.le_refl _) _⟩
  ·have hl2: ¬(4096:Int)<(n:Int):=by omega
   have HTM:=ab ht;have HL:=ab hl
   go_enter Tryz.func12,Tryz.ntmps12
   go_upto_region 3 with fail
   obtain⟨W,hW⟩: ∃W,W=w.alloc (.cells #[.int .i64 x.tm, .slice a n cap] 24):=⟨_,rfl⟩;rw[<-hW];have HBW:=ab (show Below w.heap.size w W by rw[hW]; exact(Below.refl _ _).alloc (Nat.le_refl _) _);have HBX:=ab (show W.heap[w.heap.size]? =some (.cells #[.int .i64 x.tm, .slice a n cap] 24 (0,0)) by rw[hW]; exact heap_alloc_new w _);have HSZ:=ab (show W.heap.size=w.heap.size+1 by rw[hW]; simp)
   clear hW;have k0:=ai (k:=0) HBX.out;have k1:=ai (k:=1) HBX.out;simp only[eE]at k0 k1;obtain⟨mc,hmk,hmo⟩:=zQ W n (by omega);have HMO:=ab hmo;obtain⟨M,hM⟩: ∃M,M=W.alloc (.cells mc 30):=⟨_,rfl⟩;rw[<-hM]at hmk HMO;have HBM:=ab (show Below W.heap.size W M by rw[hM]; exact(Below.refl _ _).alloc (Nat.le_refl _) _);clear hM hmo;have k1m:=(HBM.out.cell (p:=⟨w.heap.size,1,none⟩) (aE k1)).trans k1
   have HV:=ab (show aT S W (.slice a n cap) x.files from aT.below HX.out HBW.out);go_wp2_with fail;clear hmk k0 k1 k1m
   go_loopw [3,22] (fun v i wr=> ∃k:Nat,k<=n/\i= .int .i64 k/\(x.files.take k).all cJ=true/\wr.ownsRow W.heap.size 30 6 v k (lj ((x.files.take k).map oK))/\Below W.heap.size W wr) (fun _ i _=>n-(intOf i).toNat)
   case atStart=>exact⟨0,Nat.zero_le _,rfl,rfl,HMO.out,HBM.out⟩
   case round=>
    obtain⟨k,hk,rfl,hal,hown,hb⟩:=hrel;have HB:=ab hb;have HA:=ab hal;have HOWN:=ab hown;obtain⟨av,cv,hsv,hvn,hvm⟩:=au hown;subst hsv;unfold maxLen at hvm;clear hb hal hown
    by_cases hlt:k<n
    ·obtain⟨f,hf⟩: ∃f,x.files[k]? =some f:=⟨_,List.getElem?_eq_getElem (show k<x.files.length by rw[<-HN.out]; exact hlt)⟩;obtain⟨b,o,pa,pc,rfl,hok,hpa,hblt,-,hcl⟩:=cQ HV.out HB.out hf;have q0:=hcl 0 (by omega);have q1:=hcl 1 (by omega);have q2:=hcl 2 (by omega);have q3:=hcl 3 (by omega);have q4:=hcl 4 (by omega);have q5:=hcl 5 (by omega);have q6:=hcl 6 (by omega)
     simp only[bM,bV,Nat.add_zero]at q0 q1 q2 q3 q4 q5 q6;have HF:=ab hf;have HPA:=ab hpa;clear hf hpa hcl hok;obtain⟨fx,hfx⟩: ∃fx:Value,fx=dU (.slice pa f.parts.length pc) f:=⟨_,rfl⟩;have HB1:=ab ((Below.refl wr.heap.size wr).alloc (Nat.le_refl _) (.cells (bM (.slice pa f.parts.length pc) f).toArray 27));have HX1:=ab (heap_alloc_new wr (.cells (bM (.slice pa f.parts.length pc) f).toArray 27))
     cases hvs:cJ f
     ·have HVS:=ab hvs;have HFF:=ab (show cR x=false by rw[de,iV HF.out HVS.out]; simp);clear hvs hfx;go_wp2_with (go_at_call 33; refine(mN S f _ false _ (aP.below HPA.out HB1.out) HVS.out).mono ?_; rintro e w1 ⟨rfl,hb1⟩; have HB2:=ab (ak HB1.out hb1); clear hb1);go_ret;exact⟨az (by rw[HFF.out]),HBW.out.trans ((ak HB.out HB2.out).mono (by have:=HSZ.out; omega))⟩
     ·have HVS:=ab hvs;clear hvs hfx;go_wp2_with (first | (go_at_call 33; refine(mN S f _ true _ (aP.below HPA.out HB1.out) HVS.out).mono ?_; rintro e w1 ⟨rfl,hb1⟩; have HB2:=ab (ak HB1.out hb1); have HX2:=ab ((hb1.block wr.heap.size (by simp)).trans HX1.out); have d0:=ai (k:=0) HX2.out; have d1:=ai (k:=1) HX2.out; have d2:=ai (k:=2) HX2.out; have d3:=ai (k:=3) HX2.out; have d5:=ai (k:=5) HX2.out; simp only[bM,List.getElem?_toArray,bV]at d0 d1 d2 d3 d5; have HAL:=ab ((Below.refl w1.heap.size w1).alloc (Nat.le_refl _) (.cells (jc (.slice none 0 0) (fH f)).toArray 30)); have HOA:=ab (aV (aV HOWN.out HB2.out) HAL.out); have HRL:=ab (fS (n:=1) (sz:=6) (cells:=jc (.slice none 0 0) (fH f)) (heap_alloc_new w1 (.cells (jc (.slice none 0 0) (fH f)).toArray 30)) rfl (by decide)); have HZ:=ab (show W.heap.size<=(w1.alloc (.cells (jc (.slice none 0 0) (fH f)).toArray 30)).heap.size by have:=HB.out.size; have:=HB2.out.size; simp; omega); clear hb1) | (at_builtin; go_must (refine bI Tryz.appEnts rfl _ _ rfl W.heap.size (.slice av k cv) k (lj ((x.files.take k).map oK)) rfl HOA.out _ 1 (jc (.slice none 0 0) (fH f)) rfl HRL.out uH (by omega) HZ.out ?_); intro v9 w9 hown9 hg9; obtain⟨a9,c9,rfl,-,-⟩:=au hown9; have HO9:=ab hown9; have HG9:=ab hg9; clear hown9 hg9))
      go_roundw
      case rel=>
       refine⟨k+1,by omega,rfl,jP HA.out HF.out HVS.out, ?_, ?_⟩
       ·rw[aX HF.out,List.map_append,List.map_singleton,lG];exact HO9.out
       ·exact aZ ((ak HB.out HB2.out).trans (HAL.out.mono (by have:=HB.out.size; have:=HB2.out.size; omega))) HOA.out HG9.out (Nat.le_refl _) HZ.out
      case measure=>simp only[intOf,Int.toNat_natCast]; omega
    ·have hkn:k=n:=by omega
     subst hkn;have htk:x.files.take k=x.files:=List.take_of_length_le (by rw[<-HN.out]; exact Nat.le_refl _);have HALL:=ab (show x.files.all cJ=true by rw[<-htk]; exact HA.out);rw[htk]at HOWN;have HEA:=ab (show cl (fun i=>W.heap.size<=i/\(Value.slice av k cv).ownBlock=some i) wr (.slice av k cv) (x.files.map fH) by
      have h1:=bp HOWN.out;have h2:=pt (S:=fun i=>W.heap.size<=i/\(Value.slice av k cv).ownBlock=some i) (w:=wr) (ys:=x.files.map oK) (fun y hy=>by
       obtain⟨f,hf,rfl⟩:=List.mem_map.1 hy;exact⟨cN.nil _ _,Cm (ke HV.out f hf)⟩)
      rw[ub]at h2;have h3:(x.files.map fH).length=k:=by rw[List.length_map,HN.out]
      exact⟨_,by rw[h3]; exact h1,h2⟩)
     obtain⟨z,hz⟩: ∃z,cD (x.files.map fH)=z:=⟨_,rfl⟩;have HZ:=ab hz;have HEB:=ab (show Below w.heap.size w wr from HBW.out.trans (HB.out.mono (by have:=HSZ.out; omega)));have HER:=ab (HE.out.below HEB.out);have HR:=ab (show cR x=decide (z=0) by
      rw[de,HALL.out,HZ.out,show decide (0<=x.tm)=true by simp; have:=HTM.out; omega,show decide (x.files.length<=4096)=true by simp; have:=HL.out; have:=HN.out; omega]
      simp)
     clear hz;go_wp2_with (go_at_call 34; refine(uj _ _ _ z _ HEA.out HER.out HZ.out).mono ?_; rintro e w1 ⟨rfl,hb1⟩; have HB2:=ab (ak HEB.out hb1); clear hb1);go_ret;exact⟨az (by rw[HR.out]; rfl),HB2.out⟩
open Go Go.RowKit Go.Maps Go.MapKept
def BN (p:ByteArray):Value×Value:=(.string p, .bool true)
def gm (w:World) (mb:Nat) (K:ByteArray->Bool):Prop:= ∃ps:List ByteArray,eo Tryz.prog 9 w mb (ps.map BN)/\(∀p∈ps,p.size<=maxLen)/\ ∀p,p∈ps<->K p=true
def BI (K:ByteArray->Bool) (p:ByteArray):ByteArray->Bool:=fun q=>decide (q=p) || K q
section
variable {w w' : World} {mb : Nat} {K : ByteArray → Bool} {t : TypeId}
theorem ud {ps:List ByteArray} {p:ByteArray} (h:p∉ps): ∀q∈ps.map BN,q.1≠Value.string p:=by
 intro q hq;obtain⟨x,hx,rfl⟩:=List.mem_map.1 hq;intro e;simp only[BN,Value.string.injEq]at e;exact h (e▸hx)
theorem gm.lt (h:gm w mb K):mb<w.heap.size:=by obtain⟨_,h,_⟩:=h; exact h.lt
theorem gm.same (h:gm w mb K) (hs:w'.heap[mb]? =w.heap[mb]?):gm w' mb K:=by obtain⟨ps,h1,h2⟩:=h; exact⟨ps,h1.same hs,h2⟩
theorem gm.below (h:gm w mb K) (hb:Below w.heap.size w w'):gm w' mb K:=h.same (hb.block mb h.lt)
theorem gm.other {nb:Nat} (h:gm w mb K) (hg:w.grownBy w' (some nb)) (hne:mb≠nb):gm w' mb K:=h.same (hg.block mb h.lt fun e=>hne (Option.some.inj e))
theorem gm.made (w:World):gm (w.alloc (.map #[] 0)) w.heap.size (fun _=>false):=⟨[],eo.made w,by simp,by simp⟩
theorem gm.get (h:gm w mb K) (ht:Tryz.prog.underlying t=some (.map 9 4)) (hz:(zeroValue 4).run Tryz.prog w= .ok (.bool false) w) {p:ByteArray} (hp:p.size<=maxLen):
  (Instr.lookup t (.map (some mb)) (.string p) false).run Tryz.prog w= .ok (.bool (K p)) w:=by
 obtain⟨ps,hm,h2,h3⟩:=h
 cases hK:K p with
 | true=>exact hm.is.hit dx ht (dK hp) (List.mem_map.2 ⟨p,(h3 p).2 hK,rfl⟩) false
 | false=>exact hm.is.miss dx ht hz (dK hp) (ud fun hc=>by rw[(h3 p).1 hc]at hK; cases hK) false
theorem gm.put (h:gm w mb K) (ht:Tryz.prog.underlying t=some (.map 9 4)) {p:ByteArray} (hp:p.size<=maxLen):
  ∃w',(Instr.mapUpdate t (.map (some mb)) (.string p) (.bool true)).run Tryz.prog w= .ok () w'/\gm w' mb (BI K p)/\w.grownBy w' (some mb):=by
 obtain⟨ps,hm,h2,h3⟩:=h
 cases hK:K p with
 | true=>
  obtain⟨a,b,rfl⟩:=List.append_of_mem ((h3 p).2 hK);rw[List.map_append,List.map_cons]at hm;obtain⟨w',h4,h5,h6⟩:=eo.over (key:= .string p) (old:= .bool true) hm dx ht (.bool true);refine⟨w',h4,⟨a++p::b,by rw[List.map_append,List.map_cons]; exact h5,h2,fun q=> ?_⟩,h6⟩;rw[h3];unfold BI
  by_cases hq:q=p
  ·subst hq; simp[hK]
  ·simp[hq]
 | false=>
  have hn:p∉ps:=fun hc=>by rw[(h3 p).1 hc]at hK; cases hK
  obtain⟨w',h4,h5,h6⟩:=hm.put dx ht (dK hp) (ud hn) (.bool true);refine⟨w',h4,⟨ps++[p],by rw[List.map_append]; exact h5,fun q hq=> ?_,fun q=> ?_⟩,h6⟩
  ·rcases List.mem_append.1 hq with hq | hq
   ·exact h2 q hq
   ·rw[List.mem_singleton.1 hq]; exact hp
  ·rw[List.mem_append,h3,List.mem_singleton];unfold BI;rw[Bool.or_eq_true,decide_eq_true_eq];exact Or.comm
end
end Go.Proofs.YtnjkpcalgoefhaaGreatDoor
namespace Go.Proofs.YtnjkpcalgoefhaaGreatDoor
open Go Go.RowKit Go.Maps
def rC (ps:List bm):List ByteArray:=ps.foldl (fun l p=>uX l p.sum) []
theorem wS (ps:List bm) (p:bm):rC (ps++[p])=uX (rC ps) p.sum:=by unfold rC; rw[List.foldl_append]; rfl
def fX (w:World) (mb:Nat) (L:List ByteArray):Prop:=gm w mb (fun q=>decide (q∈L))
theorem BO :Tryz.prog.underlying 92=some (.map 9 4):=Tryz.underlying92
theorem Gn (w:World):(zeroValue 4).run Tryz.prog w= .ok (.bool false) w:=by kernel_rfl
theorem fX.put {w:World} {mb:Nat} {L:List ByteArray} (h:fX w mb L) {p:ByteArray} (hp:p.size<=maxLen):
  ∃w',(Instr.mapUpdate 92 (.map (some mb)) (.string p) (.bool true)).run Tryz.prog w= .ok () w'/\fX w' mb (uX L p)/\w.grownBy w' (some mb):=by
 obtain⟨w',h1,h2,h3⟩:=gm.put h BO hp;have e:BI (fun q=>decide (q∈L)) p=fun q=>decide (q∈uX L p):=by
  funext q
  rw[Bool.eq_iff_iff];unfold BI;rw[Bool.or_eq_true,decide_eq_true_eq,decide_eq_true_eq,decide_eq_true_eq,Ex];exact Or.comm
 rw[e]at h2;exact⟨w',h1,h2,h3⟩
theorem fX.get {w:World} {mb:Nat} {L:List ByteArray} (h:fX w mb L) {p:ByteArray} (hp:p.size<=maxLen):
  (Instr.lookup 92 (.map (some mb)) (.string p) false).run Tryz.prog w= .ok (.bool (decide (p∈L))) w:=gm.get h BO (Gn w) hp
theorem fX.below {w w':World} {mb:Nat} {L:List ByteArray} (h:fX w mb L) (hb:Below w.heap.size w w'):fX w' mb L:=gm.below h hb
theorem fX.same {w w':World} {mb:Nat} {L:List ByteArray} (h:fX w mb L) (hs:w'.heap[mb]? =w.heap[mb]?):fX w' mb L:=gm.same h hs
theorem fX.lt {w:World} {mb:Nat} {L:List ByteArray} (h:fX w mb L):mb<w.heap.size:=gm.lt h
theorem fX.made (w:World):fX (w.alloc (.map #[] 0)) w.heap.size []:=by
 have h:=gm.made w;unfold fX;exact h
theorem Cz (w:World):(Instr.makeMap 92 none).run Tryz.prog w= .ok (.map (some w.heap.size)) (w.alloc (.map #[] 0)):=by simp[Instr.makeMap]
theorem tj (S:Nat->Prop) (x:cA) (fv:Value) (w:World) (hx:aT S w fv x.files):
  Calls Tryz.prog 39 #[dQ fv x.tm] w fun e w'=> ∃mb,e= .returned (.map (some mb))/\w.heap.size<=mb/\fX w' mb (rD x.files)/\Below w.heap.size w w':=by
 obtain⟨a,cap,rfl,hc,hm,-⟩:=aY.shape hx dT.len;unfold maxLen at hm;have HX:=ab hx;clear hx;obtain⟨n,hn⟩: ∃n,n=x.files.length:=⟨_,rfl⟩;rw[<-hn]at hc HX ⊢;have HN:=ab hn;clear hn;unfold dQ
 go_enter Tryz.func39,Tryz.ntmps39
 go_upto_region 1 with fail
 obtain⟨W,hW⟩: ∃W,W=w.alloc (.cells #[.int .i64 x.tm, .slice a n cap] 24):=⟨_,rfl⟩;rw[<-hW];have HBW:=ab (show Below w.heap.size w W by rw[hW]; exact(Below.refl _ _).alloc (Nat.le_refl _) _);have hsz:W.heap.size=w.heap.size+1:=by rw[hW]; simp
 have HSZ:=ab hsz;have HV:=ab (show aT S W (.slice a n cap) x.files from aT.below HX.out HBW.out);have HS0:=ab (fX.made W);have k1:(W.alloc (.map #[] 0)).cell? ⟨w.heap.size,1,none⟩=some (.slice a n cap):=by
  have h:=ai (k:=1) (show W.heap[w.heap.size]? =some (.cells #[.int .i64 x.tm, .slice a n cap] 24 (0,0)) by rw[hW]; exact heap_alloc_new w _);exact(((Below.refl W.heap.size W).alloc (Nat.le_refl _) (.map #[] 0)).cell (p:=⟨w.heap.size,1,none⟩) (by show w.heap.size<_; omega)).trans (h.trans rfl)
 clear hW hsz;have hmk:=Cz W;have HB0:=ab (show Below W.heap.size W (W.alloc (.map #[] 0))from(Below.refl _ _).alloc (Nat.le_refl _) _);go_wp2_with fail;clear hmk k1
 go_loopw [12] (fun i wr=> ∃k:Nat,k<=n/\i= .int .i64 k/\fX wr W.heap.size (rC ((x.files.take k).flatMap aw.parts))/\Below W.heap.size W wr) (fun i _=>n-(intOf i).toNat)
 case atStart=>exact⟨0,Nat.zero_le _,rfl,HS0.out,HB0.out⟩
 case round=>
  obtain⟨k,hk,rfl,hset,hb⟩:=hrel;have HB:=ab hb;have HS:=ab hset;clear hb hset
  by_cases hlt:k<n
  ·obtain⟨f,hf⟩: ∃f,x.files[k]? =some f:=⟨_,List.getElem?_eq_getElem (show k<x.files.length by rw[<-HN.out]; exact hlt)⟩;obtain⟨b,o,pa,pc,rfl,hok,hpa,hblt,-,hcl⟩:=cQ HV.out (Below.refl _ _) hf;have hcl: ∀j,j<7->wr.cell? ⟨b,o+k*7+j,none⟩=(bM (.slice pa f.parts.length pc) f)[j]? :=fun j hj=>(HB.out.cell (p:=⟨b,o+k*7+j,none⟩) hblt).trans (hcl j hj)
   have q0:=hcl 0 (by omega);have q1:=hcl 1 (by omega);have q2:=hcl 2 (by omega);have q3:=hcl 3 (by omega);have q4:=hcl 4 (by omega);have q5:=hcl 5 (by omega);have q6:=hcl 6 (by omega);simp only[bM,bV,Nat.add_zero]at q0 q1 q2 q3 q4 q5 q6;have HF:=ab hf;obtain⟨m,hmm⟩: ∃m,m=f.parts.length:=⟨_,rfl⟩;obtain⟨-,hmc,hpm⟩:=sk hpa;unfold maxLen at hpm;rw[<-hmm]at q6 hpa hmc
   have HPA:=ab hpa;have HM:=ab hmm;clear hf hpa hcl hok hmm;go_wp2_with fail;obtain⟨W3,hW3⟩: ∃W3,W3=wr.alloc (.cells #[.string f.path, .int .i64 f.kind, .int .i64 f.mode, .int .i64 f.time, .int .i64 f.size, .string f.link, .slice pa m pc] 27):=⟨_,rfl⟩;rw[<-hW3];have HB3:=ab (show Below W.heap.size W W3 by rw[hW3]; exact HB.out.alloc HB.out.size _);have HS3:=ab (show fX W3 W.heap.size (rC ((x.files.take k).flatMap aw.parts++f.parts.take 0)) by rw[hW3,List.take_zero,List.append_nil]; exact HS.out.below ((Below.refl _ _).alloc (Nat.le_refl _) _))
   clear hW3 q0 q1 q2 q3 q4 q5 q6
   go_loopw [19] (fun i wq=> ∃j:Nat,j<=m/\i= .int .i64 j/\fX wq W.heap.size (rC ((x.files.take k).flatMap aw.parts++f.parts.take j))/\Below W.heap.size W wq) (fun i _=>m-(intOf i).toNat)
   case atStart=>exact⟨0,Nat.zero_le _,rfl,HS3.out,HB3.out⟩
   case round=>
    obtain⟨j,hj,rfl,hset,hb⟩:=hrel;have HBQ:=ab hb;have HSQ:=ab hset;clear hb hset
    by_cases hjm:j<m
    ·obtain⟨p,hp⟩: ∃p,f.parts[j]? =some p:=⟨_,List.getElem?_eq_getElem (show j<f.parts.length by rw[<-HM.out]; exact hjm)⟩;obtain⟨b2,o2,rfl,-,-,hpok,q0,q1⟩:=dz HPA.out HBQ.out hp;have HP:=ab hp;have HPO:=ab hpok;have HAL:=ab ((Below.refl wr.heap.size wr).alloc (Nat.le_refl _) (.cells #[.string p.sum, .int .i64 p.size] 62));have HPUT:=ab (fX.put (HSQ.out.below HAL.out) hpok.sm)
     clear hp hpok;go_wp2_with (at_mapUpdate; go_must (refine ly rfl _ _ _ _ rfl _ _ _ rfl rfl rfl HPUT.out ?_); rintro V ⟨hs3,hg3⟩; have HSV:=ab hs3; have HGV:=ab hg3; clear hs3 hg3)
     go_roundw
     case rel=>
      refine⟨j+1,by omega,rfl, ?_, ?_⟩
      ·rw[aX HP.out,<-List.append_assoc,wS];exact HSV.out
      ·have h1:=ak HBQ.out HAL.out;exact h1.grown HGV.out h1.size (fun i e=>by cases e; exact Nat.le_refl _)
     case measure=>simp only[intOf,Int.toNat_natCast]; omega
    ·have hjj:f.parts.take j=f.parts:=List.take_of_length_le (by rw[<-HM.out]; omega);rw[hjj]at HSQ;clear hjj;go_wp2_with fail
     go_roundw
     case rel=>
      refine⟨k+1,by omega,rfl, ?_,HBQ.out⟩;rw[aX HF.out,List.flatMap_append,List.flatMap_singleton];exact HSQ.out
     case measure=>simp only[intOf,Int.toNat_natCast]; omega
  ·have hkk:x.files.take k=x.files:=List.take_of_length_le (by rw[<-HN.out]; omega);rw[hkk]at HS;clear hkk;go_wp2_with fail;go_ret;exact⟨_,rfl,by have:=HSZ.out; omega,HS.out,HBW.out.trans (HB.out.mono (by have:=HSZ.out; omega))⟩
abbrev jN :=Value×aw
def fmV (x:jN):Value×Value:=(.string x.2.path,dU x.1 x.2)
def dF (S:Nat->Prop) (W w:World) (mb:Nat) (fs:List aw):Prop:=
 ∃xs:List jN,xs.map Prod.snd=fs/\eo Tryz.prog 9 w mb (xs.map fmV)/\ ∀x∈xs,aP S W x.1 x.2.parts/\dj x.2
theorem dF.below {S:Nat->Prop} {W w w':World} {mb:Nat} {fs:List aw} (h:dF S W w mb fs) (hb:Below w.heap.size w w'):dF S W w' mb fs:=by
 obtain⟨xs,h1,h2,h3⟩:=h;exact⟨xs,h1,h2.same (hb.block mb h2.lt),h3⟩
theorem dF.lt {S:Nat->Prop} {W w:World} {mb:Nat} {fs:List aw} (h:dF S W w mb fs):mb<w.heap.size:=by
 obtain⟨xs,h1,h2,h3⟩:=h;exact h2.lt
theorem tB :Tryz.prog.underlying 90=some (.map 9 27):=Tryz.underlying90
def mP :Value:= .agg #[.string ⟨#[]⟩, .int .i64 0, .int .i64 0, .int .i64 0, .int .i64 0, .string ⟨#[]⟩, .slice none 0 0]
theorem zR (w:World) (n:Nat) (hn:n<=4096):(Instr.makeMap 90 (some (.int .i64 (n:Int)))).run Tryz.prog w= .ok (.map (some w.heap.size)) (w.alloc (.map #[] 0)):=by
 have h1:IntKind.i64.wrap (n:Int)=n:=by rw[IntKind.wrap_i64]; omega
 simp[Instr.makeMap,asInt,asIntOf]
theorem rP {xs:List jN} {p:ByteArray} {f:aw} (h:fg (xs.map Prod.snd) p=some f): ∃v,(v,f)∈xs/\f.path=p:=by
 obtain⟨h1,h2⟩:=iL h;obtain⟨⟨v,g⟩,hg,rfl⟩:=List.mem_map.1 h1;exact⟨v,hg,h2⟩
theorem dF.hit {S:Nat->Prop} {W w:World} {mb:Nat} {fs:List aw} (h:dF S W w mb fs) {p:ByteArray} (hp:p.size<=maxLen) {f:aw} (hf:fg fs p=some f):
  ∃v,(Instr.lookup 90 (.map (some mb)) (.string p) true).run Tryz.prog w= .ok (.tuple #[dU v f, .bool true]) w/\aP S W v f.parts/\dj f:=by
 obtain⟨xs,rfl,h2,h3⟩:=h;obtain⟨v,hv,rfl⟩:=rP hf;refine⟨v, ?_,h3 _ hv⟩;have:=h2.is.hit dx tB (dK hp) (val:=dU v f) (List.mem_map.2 ⟨(v,f),hv,rfl⟩) true
 simpa using this
theorem dF.miss {S:Nat->Prop} {W w:World} {mb:Nat} {fs:List aw} (h:dF S W w mb fs) {p:ByteArray} (hp:p.size<=maxLen) (hf:fg fs p=none):
  (Instr.lookup 90 (.map (some mb)) (.string p) true).run Tryz.prog w= .ok (.tuple #[mP, .bool false]) w:=by
 obtain⟨xs,rfl,h2,h3⟩:=h;have hz:(zeroValue 27).run Tryz.prog w= .ok mP w:=by kernel_rfl
 have:=h2.is.miss dx tB hz (dK hp) (fun q hq e=>by
  obtain⟨y,hy,rfl⟩:=List.mem_map.1 hq;simp only[fmV,Value.string.injEq]at e;have:=List.find?_eq_none.1 hf y.2 (List.mem_map_of_mem hy);simp[e]at this) true
 simpa using this
theorem uI (S:Nat->Prop) (x:cA) (fv:Value) (w:World) (hx:aT S w fv x.files) (hnd:(x.files.map aw.path).Nodup) (hl:x.files.length<=4096):
  Calls Tryz.prog 38 #[dQ fv x.tm] w fun e w'=> ∃mb,e= .returned (.map (some mb))/\w.heap.size<=mb/\dF S w w' mb x.files/\Below w.heap.size w w':=by
 obtain⟨a,cap,rfl,hc,hm,-⟩:=aY.shape hx dT.len;unfold maxLen at hm;have HX:=ab hx;have HND:=ab hnd;clear hx hnd;obtain⟨n,hn⟩: ∃n,n=x.files.length:=⟨_,rfl⟩;rw[<-hn]at hc HX hl ⊢;have HN:=ab hn;clear hn;unfold dQ
 go_enter Tryz.func38,Tryz.ntmps38
 go_upto_region 1 with fail
 obtain⟨W,hW⟩: ∃W,W=w.alloc (.cells #[.int .i64 x.tm, .slice a n cap] 24):=⟨_,rfl⟩;rw[<-hW];have HBW:=ab (show Below w.heap.size w W by rw[hW]; exact(Below.refl _ _).alloc (Nat.le_refl _) _);have hsz:W.heap.size=w.heap.size+1:=by rw[hW]; simp
 have HSZ:=ab hsz;have k0:W.cell? ⟨w.heap.size,1,none⟩=some (.slice a n cap):=by
  have h:=ai (k:=1) (show W.heap[w.heap.size]? =some (.cells #[.int .i64 x.tm, .slice a n cap] 24 (0,0)) by rw[hW]; exact heap_alloc_new w _);exact h.trans rfl
 have HB0:=ab (show Below W.heap.size W (W.alloc (.map #[] 0))from(Below.refl _ _).alloc (Nat.le_refl _) _);have k1:(W.alloc (.map #[] 0)).cell? ⟨w.heap.size,1,none⟩=some (.slice a n cap):=(HB0.out.cell (p:=⟨w.heap.size,1,none⟩) (by show w.heap.size<_; omega)).trans k0;have HM0:=ab (show dF S w (W.alloc (.map #[] 0)) W.heap.size []from⟨[],rfl,eo.made W,by simp⟩);have hmk:=zR W n hl
 clear hW hsz;go_wp2_with fail;clear hmk k1 k0
 go_loopw [13] (fun i wr=> ∃k:Nat,k<=n/\i= .int .i64 k/\dF S w wr W.heap.size (x.files.take k)/\Below W.heap.size W wr) (fun i _=>n-(intOf i).toNat)
 case atStart=>exact⟨0,Nat.zero_le _,rfl,HM0.out,HB0.out⟩
 case round=>
  obtain⟨k,hk,rfl,hset,hb⟩:=hrel;have HB:=ab hb;have HS:=ab hset;clear hb hset
  by_cases hlt:k<n
  ·obtain⟨f,hf⟩: ∃f,x.files[k]? =some f:=⟨_,List.getElem?_eq_getElem (show k<x.files.length by rw[<-HN.out]; exact hlt)⟩;obtain⟨b,o,pa,pc,rfl,hok,hpa,hblt,-,hcl⟩:=cQ HX.out (Below.refl _ _) hf;have HB2:=ab (show Below w.heap.size w wr from HBW.out.trans (HB.out.mono (by have:=HSZ.out; omega)));have hcl: ∀j,j<7->wr.cell? ⟨b,o+k*7+j,none⟩=(bM (.slice pa f.parts.length pc) f)[j]? :=fun j hj=>(HB2.out.cell (p:=⟨b,o+k*7+j,none⟩) hblt).trans (hcl j hj)
   have q0:=hcl 0 (by omega);have q1:=hcl 1 (by omega);have q2:=hcl 2 (by omega);have q3:=hcl 3 (by omega);have q4:=hcl 4 (by omega);have q5:=hcl 5 (by omega);have q6:=hcl 6 (by omega);simp only[bM,bV,Nat.add_zero]at q0 q1 q2 q3 q4 q5 q6;have HF:=ab hf;have HPA:=ab hpa;have HOK:=ab hok;obtain⟨xs,hxs,hms,hdat⟩:=HS.out;have HXS:=ab hxs;have HDAT:=ab hdat
   have HAL:=ab ((Below.refl wr.heap.size wr).alloc (Nat.le_refl _) (.cells #[.string f.path, .int .i64 f.kind, .int .i64 f.mode, .int .i64 f.time, .int .i64 f.size, .string f.link, .slice pa f.parts.length pc] 27));have HMS:=ab (hms.same (HAL.out.block _ hms.lt));have HNEW:=ab (show ∀q∈xs.map fmV,q.1≠Value.string f.path by
    intro q hq e;obtain⟨y,hy,rfl⟩:=List.mem_map.1 hq;simp only[fmV,Value.string.injEq]at e;have h1:y.2∈x.files.take k:=by rw[<-hxs]; exact List.mem_map_of_mem hy
    have h2:(x.files.take (k+1)).map aw.path=(x.files.take k).map aw.path++[f.path]:=by rw[aX hf,List.map_append]; rfl
    have h3:((x.files.take (k+1)).map aw.path).Nodup:=(HND.out.sublist (List.Sublist.map _ (List.take_sublist _ _)));rw[h2]at h3;exact(List.nodup_append.1 h3).2.2 _ (List.mem_map_of_mem h1) _ (by simp) e)
   clear hf hpa hcl hok hxs hms hdat
   go_wp2_with (at_mapUpdate; go_must (refine gj dx rfl _ _ _ _ rfl tB W.heap.size _ HMS.out rfl (.string f.path) (dU (.slice pa f.parts.length pc) f) rfl rfl (dK HOK.out.pth) HNEW.out ?_); intro w10 hm10 hg10; have HM10:=ab hm10; have HG10:=ab hg10; clear hm10 hg10)
   go_roundw
   case rel=>
    refine⟨k+1,by omega,rfl,⟨xs++[(.slice pa f.parts.length pc,f)], ?_, ?_, ?_⟩, ?_⟩
    ·rw[aX HF.out,List.map_append,HXS.out]; rfl
    ·rw[List.map_append]; exact HM10.out
    ·intro y hy
     rcases List.mem_append.1 hy with hy | hy
     ·exact HDAT.out y hy
     ·rw[List.mem_singleton.1 hy]; exact⟨HPA.out,HOK.out⟩
    ·have h1:=ak HB.out HAL.out;exact h1.grown HG10.out h1.size (fun i e=>by cases e; exact Nat.le_refl _)
   case measure=>simp only[intOf,Int.toNat_natCast]; omega
  ·have hkk:x.files.take k=x.files:=List.take_of_length_le (by rw[<-HN.out]; omega);rw[hkk]at HS;clear hkk;go_wp2_with fail;go_ret;exact⟨_,rfl,by have:=HSZ.out; omega,HS.out,HBW.out.trans (HB.out.mono (by have:=HSZ.out; omega))⟩
theorem FQ (r r':bm) (w:World):(Op.equalIn 10000 62 (jB r) (jB r')).run Tryz.prog w= .ok (decide (r=r')) w:=by
 have u1:=Tryz.underlying9;have u2:=Tryz.underlying3;have hS:Tryz.prog.underlying 62=some (.struct (Tryz.prog.fieldsOf 62)):=by kernel_rfl
 rw[show(10000:Nat)=9999+1 from rfl];unfold jB;rw[run_equalIn_struct w 9999 62 _ _ hS (by kernel_rfl)];simp only[Program.fieldsOf,Tryz.underlying62]
 go_simp
 obtain⟨n,s⟩:=r;obtain⟨n',s'⟩:=r';have hn:n.toList=n'.toList<->n=n':=⟨fun h=>iY (by rw[<-bD,<-bD,h]),fun h=>by rw[h]⟩;simp only[bm.mk.injEq,hn]
 by_cases h1:n=n'<;> by_cases h3:s=s'<;> simp[h1,h3]
theorem pu (S T:Nat->Prop) (v u:Value) (rs ss:List bm) (w:World) (hv:aP S w v rs) (hu:aP T w u ss):
  Calls Tryz.prog 120 #[v,u] w fun e w'=>e= .returned (.bool (decide (rs=ss)))/\Below w.heap.size w w':=by
 obtain⟨a,cap,rfl,hc,hm,-⟩:=aY.shape hv dD.len;obtain⟨a2,cap2,rfl,hc2,hm2,-⟩:=aY.shape hu dD.len;unfold maxLen at hm hm2;have HV:=ab hv;have HU:=ab hu;clear hv hu
 by_cases hl:rs.length=ss.length
 ·have HL:=ab hl;have hl2:ss.length=rs.length:=hl.symm;rw[hl2]at HU hc2 ⊢;clear hl hl2
  go_enter Tryz.func120,Tryz.ntmps120
  go_wp2_with fail
  go_loopw [13] (fun i wr=> ∃k:Nat,k<=rs.length/\i= .int .i64 k/\rs.take k=ss.take k/\Below w.heap.size w wr) (fun i _=>rs.length-(intOf i).toNat)
  case atStart=>exact⟨0,Nat.zero_le _,rfl,by simp,Below.refl _ _⟩
  case round=>
   obtain⟨k,hk,rfl,hn,hb⟩:=hrel;have HN:=ab hn;have HB:=ab hb;clear hn hb
   by_cases hlt:k<rs.length
   ·obtain⟨r,hr⟩: ∃r,rs[k]? =some r:=⟨rs[k],by simp[hlt]⟩;obtain⟨x,hx⟩: ∃x,ss[k]? =some x:=⟨ss[k]'(by have:=HL.out; omega),by simp⟩;have HR:=ab hr;have HX:=ab hx;have heq:=FQ r x;obtain⟨W,hW⟩: ∃W:World,W=wr.drew:=⟨_,rfl⟩;have HBW:=ab (show Below w.heap.size w W by rw[hW]; exact HB.out.drew);obtain⟨b,o,rfl,-,-,-,q0,q1⟩:=dz HV.out HBW.out hr
    obtain⟨b2,o2,rfl,-,-,-,p0,p1⟩:=dz (by have:=HU.out; rw[HL.out]at this; exact this) HBW.out hx;unfold jB at heq;clear hr hx
    by_cases hm:r=x
    ·have e1:decide (r=x)=true:=by simp[hm]
     rw[e1]at heq;have HT:=ab (show rs.take (k+1)=ss.take (k+1) by rw[aX HR.out,aX HX.out,HN.out,hm]);clear e1 hm;go_wp2_with fail;refine aA [some 9] (by kernel_rfl) (by kernel_rfl) (by kernel_rfl) ?_;simp only[bz,List.take_succ_cons,List.take_zero];rw[<-hW];clear hW
     repeat (first | (refine aD rfl ?_; simp only[Act.put,aH,aI,aJ]) | (refine aM rfl (fun K hK=> ?_); go_simp; refine hK _ ?_; clear hK K))
     refine aL ?_;go_wp2_with fail
     go_roundw
     case rel=>exact⟨k+1,by omega,rfl,HT.out,HBW.out⟩
     case measure=>simp only[intOf,Int.toNat_natCast]; omega
    ·have e1:decide (r=x)=false:=by simp[hm]
     rw[e1]at heq;have HT:=ab (show decide (rs=ss)=false by
      rw[decide_eq_false_iff_not];intro e;have h1:=HR.out;rw[e,HX.out]at h1;exact hm (Option.some.inj h1).symm)
     clear e1 hm;go_wp2_with fail;refine aA [some 9] (by kernel_rfl) (by kernel_rfl) (by kernel_rfl) ?_;simp only[bz,List.take_succ_cons,List.take_zero];rw[<-hW];clear hW
     repeat (first | (refine aD rfl ?_; simp only[Act.put,aH,aI,aJ]) | (refine aM rfl (fun K hK=> ?_); go_simp; refine hK _ ?_; clear hK K))
     refine aL ?_;go_wp2_with fail;go_ret;exact⟨az HT.out.symm,HBW.out⟩
   ·obtain rfl:k=rs.length:=by omega
    have HT:=ab (show decide (rs=ss)=true by
     have:=HN.out;rw[List.take_of_length_le (Nat.le_refl _),List.take_of_length_le (by rw[HL.out]; exact Nat.le_refl _)]at this;simp[this])
    go_wp2_with fail;go_ret;exact⟨az HT.out.symm,HB.out⟩
 ·have HT:=ab (show decide (rs=ss)=false by rw[decide_eq_false_iff_not]; intro e; exact hl (by rw[e]));have e1:((rs.length:Int) != (ss.length:Int))=true:=by simp; omega
  clear hl
  go_enter Tryz.func120,Tryz.ntmps120
  go_wp2_with fail;go_ret;exact⟨az HT.out.symm,Below.refl _ _⟩
theorem fR (S T:Nat->Prop) (v u:Value) (rs ss:List bm) (b:Bool) (w:World) (hv:aP S w v rs) (hu:aP T w u ss) (h:decide (rs=ss)=b):
  Calls Tryz.prog 120 #[v,u] w fun e w'=>e= .returned (.bool b)/\Below w.heap.size w w':=by
 rw[<-h]; exact pu S T v u rs ss w hv hu
theorem tq {f g:aw} (h: ¬(f.kind=g.kind/\f.link=g.link/\f.parts=g.parts)):gO f g=2:=by unfold gO; rw[if_neg h]
theorem yC {f g:aw} (h:f.kind=g.kind/\f.link=g.link/\f.parts=g.parts) (h2: ¬(f.mode=g.mode/\f.time=g.time)):gO f g=3:=by unfold gO; rw[if_pos h,if_neg h2]
theorem Eg {f g:aw} (h:f.kind=g.kind/\f.link=g.link/\f.parts=g.parts) (h2:f.mode=g.mode/\f.time=g.time):gO f g=0:=by unfold gO; rw[if_pos h,if_pos h2]
theorem pg (S T:Nat->Prop) (f g:aw) (pv qv:Value) (w:World) (hp:aP S w pv f.parts) (hq:aP T w qv g.parts):
  Calls Tryz.prog 78 #[dU pv f,dU qv g] w fun e w'=>e= .returned (.int .i64 (gO f g))/\Below w.heap.size w w':=by
 obtain⟨pa,pc,rfl,-,-,-⟩:=aY.shape hp dD.len;obtain⟨qa,qc,rfl,-,-,-⟩:=aY.shape hq dD.len;obtain⟨n,hn⟩: ∃n,n=f.parts.length:=⟨_,rfl⟩;obtain⟨m,hm⟩: ∃m,m=g.parts.length:=⟨_,rfl⟩;rw[<-hn]at hp ⊢;rw[<-hm]at hq ⊢;have HP:=ab hp;have HQ:=ab hq;clear hn hm hp hq;obtain⟨W,hW⟩: ∃W,W=(w.alloc (.cells (bM (.slice pa n pc) f).toArray 27)).alloc (.cells (bM (.slice qa m qc) g).toArray 27):=⟨_,rfl⟩
 have HBW:=ab (show Below w.heap.size w W by rw[hW]; exact((Below.refl _ _).alloc (Nat.le_refl _) _).alloc (by simp) _);have HX:=ab (show W.heap[w.heap.size]? =some (.cells (bM (.slice pa n pc) f).toArray 27 (0,0)) by rw[hW]; exact jQ (heap_alloc_new w _) _);have HY:=ab (show W.heap[w.heap.size+1]? =some (.cells (bM (.slice qa m qc) g).toArray 27 (0,0)) by rw[hW]; exact heap_alloc2_new w _ _)
 unfold dU
 go_enter Tryz.func78,Tryz.ntmps78
 go_upto_region 1 with fail
 change Code.wp _ _ _ _ ((w.alloc (.cells (bM (.slice pa n pc) f).toArray 27)).alloc (.cells (bM (.slice qa m qc) g).toArray 27))
 rw[<-hW];clear hW;have c1:=ai (k:=1) HX.out;have c2:=ai (k:=2) HX.out;have c3:=ai (k:=3) HX.out;have c5:=ai (k:=5) HX.out;have c6:=ai (k:=6) HX.out;have d1:=ai (k:=1) HY.out;have d2:=ai (k:=2) HY.out;have d3:=ai (k:=3) HY.out;have d5:=ai (k:=5) HY.out;have d6:=ai (k:=6) HY.out;simp only[bM,List.getElem?_toArray,bV]at c1 c2 c3 c5 c6 d1 d2 d3 d5 d6
 by_cases hk:f.kind=g.kind
 ·by_cases hl:f.link=g.link
  ·by_cases he:f.parts=g.parts
   ·have hall:=And.intro hk (And.intro hl he);have HEQ:=ab (show decide (f.parts=g.parts)=true by simp[he]);have HPW:=ab (aP.below HP.out HBW.out);have HQW:=ab (aP.below HQ.out HBW.out);have HALL:=ab hall;clear hall he
    by_cases hmd:f.mode=g.mode
    ·by_cases htm:f.time=g.time
     ·have HD:=ab (Eg HALL.out ⟨hmd,htm⟩);go_wp2_with (go_at_call 120; refine(fR S T _ _ f.parts g.parts true _ HPW.out HQW.out HEQ.out).mono ?_; rintro e w1 ⟨rfl,hb1⟩; have HB1:=ab hb1; clear hb1; have e2:=(HB1.out.cell (p:=⟨w.heap.size,2,none⟩) (aE c2)).trans c2; have e3:=(HB1.out.cell (p:=⟨w.heap.size,3,none⟩) (aE c3)).trans c3; have g2:=(HB1.out.cell (p:=⟨w.heap.size+1,2,none⟩) (aE d2)).trans d2; have g3:=(HB1.out.cell (p:=⟨w.heap.size+1,3,none⟩) (aE d3)).trans d3)
      go_ret;exact⟨by rw[HD.out]; rfl,ak HBW.out HB1.out⟩
     ·have HD:=ab (yC HALL.out (fun h=>htm h.2));go_wp2_with (go_at_call 120; refine(fR S T _ _ f.parts g.parts true _ HPW.out HQW.out HEQ.out).mono ?_; rintro e w1 ⟨rfl,hb1⟩; have HB1:=ab hb1; clear hb1; have e2:=(HB1.out.cell (p:=⟨w.heap.size,2,none⟩) (aE c2)).trans c2; have e3:=(HB1.out.cell (p:=⟨w.heap.size,3,none⟩) (aE c3)).trans c3; have g2:=(HB1.out.cell (p:=⟨w.heap.size+1,2,none⟩) (aE d2)).trans d2; have g3:=(HB1.out.cell (p:=⟨w.heap.size+1,3,none⟩) (aE d3)).trans d3)
      go_ret;exact⟨by rw[HD.out]; rfl,ak HBW.out HB1.out⟩
    ·have HD:=ab (yC HALL.out (fun h=>hmd h.1));go_wp2_with (go_at_call 120; refine(fR S T _ _ f.parts g.parts true _ HPW.out HQW.out HEQ.out).mono ?_; rintro e w1 ⟨rfl,hb1⟩; have HB1:=ab hb1; clear hb1; have e2:=(HB1.out.cell (p:=⟨w.heap.size,2,none⟩) (aE c2)).trans c2; have e3:=(HB1.out.cell (p:=⟨w.heap.size,3,none⟩) (aE c3)).trans c3; have g2:=(HB1.out.cell (p:=⟨w.heap.size+1,2,none⟩) (aE d2)).trans d2; have g3:=(HB1.out.cell (p:=⟨w.heap.size+1,3,none⟩) (aE d3)).trans d3)
     go_ret;exact⟨by rw[HD.out]; rfl,ak HBW.out HB1.out⟩
   ·have HD:=ab (tq (f:=f) (g:=g) (fun h=>he h.2.2));have HEQ:=ab (show decide (f.parts=g.parts)=false by simp[he]);have HPW:=ab (aP.below HP.out HBW.out);have HQW:=ab (aP.below HQ.out HBW.out);clear he;go_wp2_with (go_at_call 120; refine(fR S T _ _ f.parts g.parts false _ HPW.out HQW.out HEQ.out).mono ?_; rintro e w1 ⟨rfl,hb1⟩; have HB1:=ab hb1; clear hb1)
    go_ret;exact⟨by rw[HD.out]; rfl,ak HBW.out HB1.out⟩
  ·have HD:=ab (tq (f:=f) (g:=g) (fun h=>hl h.2.1));have hl2: ¬f.link.toList=g.link.toList:=fun h=>hl (iY (by rw[<-bD,<-bD,h]))
   go_wp2_with fail;go_ret;exact⟨by rw[HD.out]; rfl,HBW.out⟩
 ·have HD:=ab (tq (f:=f) (g:=g) (fun h=>hk h.1));go_wp2_with fail;go_ret;exact⟨by rw[HD.out]; rfl,HBW.out⟩
end Go.Proofs.YtnjkpcalgoefhaaGreatDoor
