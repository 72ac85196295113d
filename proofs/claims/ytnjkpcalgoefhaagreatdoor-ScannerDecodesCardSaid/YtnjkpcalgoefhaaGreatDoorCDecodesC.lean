/- Texts of this proof, one after the other: MarkB, MarkC, ScnP, ScnQ, ScnC, TreeR, Ent, ScnM, ScnV, MapS, TreeM, TreeN, FtA, FtB, FtC, FtD, FtE, OwnE, FtP, FtQ, AwQ, ScnW, SetR, ScnS, ScnF, ScnD. -/
import Derived.Test.YtnjkpcalgoefhaaGreatDoorCDecodesB
set_option maxRecDepth 100000
set_option maxHeartbeats 8000000
namespace Go.Proofs.YtnjkpcalgoefhaaGreatDoor
open Go Go.RowKit
structure kx (seed W : Nat) (d : List UInt8) (cs : List Value) : Prop where
 tab: ∀i,i<256->cs[i]? =some (.int .u64 ((sA seed i:Nat):Int))
 rng: ∀j,j<64-> ∃b,cs[256+j]? =some (aJ b)
 win:cs[320]? =some (.int .i64 (W:Int))
 st: ∃s,s<64/\cs[321]? =some (.int .i64 (s:Int))/\ ∀j b,(iB W d)[j]? =some b->cs[256+(s+j)%64]? =some (aJ b)
 len:cs[322]? =some (.int .i64 ((min W d.length:Nat):Int))
 sum:cs[323]? =some (.int .u64 ((mT seed (iB W d):Nat):Int))
theorem kx.lt {seed W:Nat} {d:List UInt8} {cs:List Value} (h:kx seed W d cs):323<cs.length:=(List.getElem?_eq_some_iff.1 h.sum).1
theorem xY {x y:Nat} (hx:x<18446744073709551616) (hy:y<18446744073709551616):bits BinOp.xor IntKind.u64 (x:Int) (y:Int)=((x^^^y:Nat):Int):=u64_xor_nat x y hx hy
theorem bt {w:World} {b k:Nat} {cs:List Value} {ty:TypeId} (h:w.heap[b]? =some (.cells cs.toArray ty (0,0))):w.cell? ⟨b,k,none⟩=cs[k]? :=by rw[cell_of_row w _ _ _ _ _ h,List.getElem?_toArray]
theorem fq {w:World} {b k:Nat} {cs:List Value} {ty:TypeId} (h:w.heap[b]? =some (.cells cs.toArray ty (0,0))) (v:Value):(w.setCell ⟨b,k,none⟩ v).heap[b]? =some (.cells (cs.set k v).toArray ty (0,0)):=by
 rw[heap_setCell_same w _ _ _ _ _ h,List.setIfInBounds_toArray]
theorem bJ {w V:World} {rb:Nat} (h:w.grownBy V (some rb)) (k:Nat) (v:Value):w.grownBy (V.setCell ⟨rb,k,none⟩ v) (some rb):=h.trans (aB _ _ _ _)
theorem jC {w V:World} {rb:Nat} (h:w.grownBy V (some rb)):w.grownBy V.drew (some rb):=h.trans ⟨rfl,rfl,rfl,Nat.le_refl _,fun _ _ _=>rfl⟩
theorem gP {w V:World} {rb:Nat} (h:w.grownBy V (some rb)) (n:Nat):w.grownBy (V.drewN n) (some rb):=h.trans ⟨rfl,rfl,rfl,Nat.le_refl _,fun _ _ _=>rfl⟩
theorem kx.push {seed W:Nat} {d:List UInt8} {cs cs2:List Value} (h:kx seed W d cs) {b:UInt8} {q:List UInt8} {s2 n2:Nat} (heq: ∀i,i<321->cs2[i]? =cs[i]?) (hs:cs2[321]? =some (.int .i64 (s2:Int))) (hs2:s2<64) (hl:323<cs2.length)
  (hsum:cs2[323]? =some (.int .u64 ((mT seed (iB W (d++[b])):Nat):Int))) (hq:iB W (d++[b])=q++[b]) (hqn:q.length=n2) (hn:n2<W) (hW:W<=64) (hring: ∀(j:Nat) (c:UInt8),q[j]? =some c->cs2[256+(s2+j)%64]? =some (aJ c)):
  kx seed W (d++[b]) ((cs2.set (256+(s2+n2)%64) (aJ b)).set 322 (.int .i64 ((n2+1:Nat):Int))) where
 tab i hi:=by rw[List.getElem?_set_ne (by omega),List.getElem?_set_ne (by omega),heq i (by omega)]; exact h.tab i hi
 rng j hj:=by
  rw[List.getElem?_set_ne (by omega)]
  by_cases e:(s2+n2)%64=j
  ·rw[e,List.getElem?_set_self (by omega)]; exact⟨b,rfl⟩
  ·rw[List.getElem?_set_ne (by omega),heq _ (by omega)]; exact h.rng j hj
 win:=by rw[List.getElem?_set_ne (by omega),List.getElem?_set_ne (by omega),heq _ (by omega)]; exact h.win
 st:=by
  refine⟨s2,hs2,by rw[List.getElem?_set_ne (by omega),List.getElem?_set_ne (by omega)]; exact hs,fun j c hc=> ?_⟩;rw[hq]at hc;rw[List.getElem?_set_ne (by omega)]
  rcases Nat.lt_trichotomy j n2 with hj | hj | hj
  ·rw[List.getElem?_append_left (by omega)]at hc;rw[List.getElem?_set_ne (by omega)];exact hring j c hc
  ·subst hj;rw[List.getElem?_append_right (by omega),hqn,Nat.sub_self,List.getElem?_cons_zero]at hc
   cases hc
   rw[List.getElem?_set_self (by omega)]
  ·rw[List.getElem?_eq_none (by simp; omega)]at hc; cases hc
 len:=by
  rw[List.getElem?_set_self (by simpa using by omega)];have:=jU W (d++[b]);rw[hq]at this;simp only[List.length_append,List.length_cons,List.length_nil]at this ⊢;rw[<-this,hqn]
 sum:=by rw[List.getElem?_set_ne (by omega),List.getElem?_set_ne (by omega)]; exact hsum
theorem Bz (rb:Nat) (ty:TypeId) (seed W:Nat) (d:List UInt8) (b:UInt8) (cs:List Value) (w:World) (hb:w.heap[rb]? =some (.cells cs.toArray ty (0,0))) (hr:kx seed W d cs) (hW:1<=W) (hW2:W<=64):
  Calls Tryz.prog 195 #[.pointer (some ⟨rb,0,none⟩), .int .u8 (b.toNat:Int)] w fun e w'=>e= .returned (.tuple #[])/\(∃cs',w'.heap[rb]? =some (.cells cs'.toArray ty (0,0))/\kx seed W (d++[b]) cs'/\cs'.length=cs.length/\ ∀i,324<=i->cs'[i]? =cs[i]?)/\w.grownBy w' (some rb):=by
 have HB:=aa hb;have HR:=aa hr;clear hb hr;have hbt:=b.toNat_lt;have hbti:(b.toNat:Int)<256:=by omega
 obtain⟨t,ht⟩: ∃t,t=sA seed b.toNat:=⟨_,rfl⟩;obtain⟨h,hh⟩: ∃h,h=mT seed (iB W d):=⟨_,rfl⟩;have htl:t<18446744073709551616:=by rw[ht]; exact nH _ _
 have hhl:h<18446744073709551616:=by rw[hh]; exact tO _ _
 have c323:w.cell? ⟨rb,323,none⟩=some (.int .u64 (h:Int)):=by rw[bt HB.out,HR.out.sum,hh]
 have ct:w.cell? ⟨rb,b.toNat,none⟩=some (.int .u64 (t:Int)):=by rw[bt HB.out,HR.out.tab _ hbt,ht]
 have HT:=aa (And.intro ht hh);clear ht hh
 go_enter Tryz.func195,Tryz.ntmps195
 go_wp2_with fail;refine cA (fun w'=>w'.cell? ⟨rb,323,none⟩=some (.int .u64 (h:Int))/\w'.cell? ⟨rb,b.toNat,none⟩=some (.int .u64 (t:Int))) (by kernel_rfl) (by kernel_rfl) ?_;simp only[List.dropLast_cons_cons,List.dropLast_singleton,List.length_cons,List.length_nil,Nat.reduceAdd,Nat.reduceSub];obtain⟨V,hV⟩: ∃V:World,V=w.drew:=⟨_,rfl⟩;rw[<-hV];have HBV:=aa (show V.heap[rb]? =some (.cells cs.toArray ty (0,0)) by rw[hV]; exact HB.out)
 have HGV:=aa (show w.grownBy V (some rb) by rw[hV]; exact⟨rfl,rfl,rfl,Nat.le_refl _,fun _ _ _=>rfl⟩);clear c323 ct;have c323:V.cell? ⟨rb,323,none⟩=some (.int .u64 (h:Int)):=by rw[bt HBV.out,HR.out.sum,HT.out.2]
 have ct:V.cell? ⟨rb,b.toNat,none⟩=some (.int .u64 (t:Int)):=by rw[bt HBV.out,HR.out.tab _ hbt,HT.out.1]
 clear hV;refine ab 0 rfl (by kernel_rfl) (by kernel_rfl) (by kernel_rfl) (fun _ _ _ h=>h) rfl ⟨c323,ct⟩ (by rintro w' ⟨hw1,hw2⟩; go_simp; rfl) ?_;simp only[Act.put,aD,aE,aF];refine ab 1 rfl (by kernel_rfl) (by kernel_rfl) (by kernel_rfl) (fun _ _ _ h=>h) rfl ⟨c323,ct⟩ (by rintro w' ⟨hw1,hw2⟩; go_simp; rfl) ?_;simp only[Act.put,aD,aE,aF];refine ab 2 rfl (by kernel_rfl) (by kernel_rfl) (by kernel_rfl) (fun _ _ _ h=>h) rfl ⟨c323,ct⟩ (by rintro w' ⟨hw1,hw2⟩; go_simp; rfl) ?_
 simp only[Act.put,aD,aE,aF];refine ab 3 rfl (by kernel_rfl) (by kernel_rfl) (by kernel_rfl) (fun _ _ _ h=>h) rfl ⟨c323,ct⟩ (by rintro w' ⟨hw1,hw2⟩; go_simp; rfl) ?_;simp only[Act.put,aD,aE,aF];refine ab 4 rfl (by kernel_rfl) (by kernel_rfl) (by kernel_rfl) (fun _ _ _ h=>h) rfl ⟨c323,ct⟩ (by rintro w' ⟨hw1,hw2⟩; go_simp; rfl) ?_;simp only[Act.put,aD,aE,aF];refine ab 6 rfl (by kernel_rfl) (by kernel_rfl) (by kernel_rfl) (fun _ _ _ h=>h) rfl ⟨c323,ct⟩ (by rintro w' ⟨hw1,hw2⟩; go_simp; rfl) ?_
 simp only[Act.put,aD,aE,aF];refine ab 7 rfl (by kernel_rfl) (by kernel_rfl) (by kernel_rfl) (fun _ _ _ h=>h) rfl ⟨c323,ct⟩ (by rintro w' ⟨hw1,hw2⟩; go_simp; rfl) ?_;simp only[Act.put,aD,aE,aF];refine ab 8 rfl (by kernel_rfl) (by kernel_rfl) (by kernel_rfl) (fun _ _ _ h=>h) rfl ⟨c323,ct⟩ (by rintro w' ⟨hw1,hw2⟩; go_simp; rfl) ?_;simp only[Act.put,aD,aE,aF];refine ab 9 rfl (by kernel_rfl) (by kernel_rfl) (by kernel_rfl) (fun _ _ _ h=>h) rfl ⟨c323,ct⟩ (by rintro w' ⟨hw1,hw2⟩; go_simp; rfl) ?_
 simp only[Act.put,aD,aE,aF];refine ab 10 rfl (by kernel_rfl) (by kernel_rfl) (by kernel_rfl) (fun _ _ _ h=>h) rfl ⟨c323,ct⟩ (by rintro w' ⟨hw1,hw2⟩; go_simp; rfl) ?_;simp only[Act.put,aD,aE,aF];refine ab 11 rfl (by kernel_rfl) (by kernel_rfl) (by kernel_rfl) (fun _ _ _ h=>h) rfl ⟨c323,ct⟩ (by rintro w' ⟨hw1,hw2⟩; go_simp; rfl) ?_;simp only[Act.put,aD,aE,aF]
 refine ax 5 rfl (by kernel_rfl) rfl (fun K hK=> ?_);go_wp2_with fail;refine(rf h 1 V hhl (by decide)).mono ?_;rintro e w1 ⟨rfl,rfl⟩;go_wp2_with fail;refine⟨⟨c323,ct⟩, ?_⟩;refine ab 12 rfl (by kernel_rfl) (by kernel_rfl) (by kernel_rfl) (fun _ _ _ h=>h) rfl ⟨c323,ct⟩ (by rintro w' ⟨hw1,hw2⟩; go_simp; rfl) ?_;simp only[Act.put,aD,aE,aF];refine ab 13 rfl (by kernel_rfl) (by kernel_rfl) (by kernel_rfl) (fun _ _ _ h=>h) rfl ⟨c323,ct⟩ (by rintro w' ⟨hw1,hw2⟩; go_simp; rfl) ?_
 simp only[Act.put,aD,aE,aF];refine ab 14 rfl (by kernel_rfl) (by kernel_rfl) (by kernel_rfl) (fun _ _ _ h=>h) rfl ⟨c323,ct⟩ (by rintro w' ⟨hw1,hw2⟩; go_simp; rfl) ?_;simp only[Act.put,aD,aE,aF];rw[xY (iy 1 hhl) htl];obtain⟨h1,hh1⟩: ∃h1,h1=dB h 1^^^t:=⟨_,rfl⟩;rw[<-hh1];have hh1l:h1<18446744073709551616:=by rw[hh1]; exact lU (iy 1 hhl) htl
 have HH1:=aa hh1;clear hh1;have cf:V.frozen? ⟨rb,323,none⟩=false:=frozen_of_row V _ _ _ _ HBV.out;refine bh (by kernel_rfl) ?_;refine cL rfl rfl (fun K hK=> ?_);go_wp2_with fail;obtain⟨U,hU⟩: ∃U:World,U=V.setCell ⟨rb,323,none⟩ (.int .u64 (h1:Int)):=⟨_,rfl⟩;rw[<-hU];obtain⟨cs1,hc1⟩: ∃cs1,cs1=cs.set 323 (.int .u64 (h1:Int)):=⟨_,rfl⟩;have HBU:=aa (show U.heap[rb]? =some (.cells cs1.toArray ty (0,0)) by rw[hU,hc1]; exact fq HBV.out _)
 have HGU:=aa (show w.grownBy U (some rb) by rw[hU]; exact bJ HGV.out _ _);have HC1:=aa hc1;clear hU c323 ct cf hc1;obtain⟨n,hn⟩: ∃n,n=min W d.length:=⟨_,rfl⟩;obtain⟨s,hs,hsc,hsw⟩:=HR.out.st;have hl:=HR.out.lt;have c322:U.cell? ⟨rb,322,none⟩=some (.int .i64 (n:Int)):=by rw[bt HBU.out,HC1.out,List.getElem?_set_ne (by decide),HR.out.len,hn]
 have c320:U.cell? ⟨rb,320,none⟩=some (.int .i64 (W:Int)):=by rw[bt HBU.out,HC1.out,List.getElem?_set_ne (by decide),HR.out.win]
 have c321:U.cell? ⟨rb,321,none⟩=some (.int .i64 (s:Int)):=by rw[bt HBU.out,HC1.out,List.getElem?_set_ne (by decide),hsc]
 have HLN:=aa (show cs[322]? =some (.int .i64 (n:Int)) by rw[HR.out.len,hn]);have HN:=aa hn;have HSC:=aa hsc;clear hn hsc;have HSW:=aa hsw;clear hsw
 go_quiet (fail)
 have HBU1:=aa (show(U.drewN nq).heap[rb]? =some (.cells cs1.toArray ty (0,0))from HBU.out);have HGU1:=aa (show w.grownBy (U.drewN nq) (some rb)from gP HGU.out _);clear HBU HGU c322 c320 c321
 generalize U.drewN nq=U1 at *
 by_cases hf:n=W
 ·obtain⟨x,l,hxl⟩: ∃x l,iB W d=x::l:=by
   cases hw:iB W d with
   | nil=>have:=jU W d; rw[hw,<-HN.out,hf]at this; simp at this; omega
   | cons x l=>exact⟨x,l,rfl⟩
  have hll:l.length+1=W:=by have:=jU W d; rw[hxl,<-HN.out,hf]at this; simpa using this
  have hx:=HSW.out 0 x (by rw[hxl]; rfl);rw[Nat.add_zero,Nat.mod_eq_of_lt hs]at hx;have hxt:=x.toNat_lt;have hxti:(x.toNat:Int)<256:=by omega
  have hsi:(s:Int)<64:=by omega
  obtain⟨tx,htx⟩: ∃tx,tx=sA seed x.toNat:=⟨_,rfl⟩;have htxl:tx<18446744073709551616:=by rw[htx]; exact nH _ _
  have cx:=HR.out.tab _ hxt;rw[<-htx]at cx;have HX:=aa (And.intro hxl (And.intro hx (And.intro htx cx)));clear hxl hx htx cx;subst hf;go_wp2_with fail;refine cA (fun w'=>w'.cell? ⟨rb,323,none⟩=some (.int .u64 (h1:Int))/\w'.cell? ⟨rb,321,none⟩=some (.int .i64 (s:Int))/\w'.cell? ⟨rb,256+s,none⟩=some (.int .u8 (x.toNat:Int))/\w'.cell? ⟨rb,x.toNat,none⟩=some (.int .u64 (tx:Int))/\w'.cell? ⟨rb,320,none⟩=some (.int .i64 (n:Int))) (by kernel_rfl) (by kernel_rfl) ?_
  simp only[List.dropLast_cons_cons,List.dropLast_singleton,List.length_cons,List.length_nil,Nat.reduceAdd,Nat.reduceSub];obtain⟨V2,hV2⟩: ∃V2:World,V2=U1.drew:=⟨_,rfl⟩;rw[<-hV2];have HBV2:=aa (show V2.heap[rb]? =some (.cells cs1.toArray ty (0,0)) by rw[hV2]; exact HBU1.out);have HGV2:=aa (show w.grownBy V2 (some rb) by rw[hV2]; exact jC HGU1.out);clear hV2;have c323:V2.cell? ⟨rb,323,none⟩=some (.int .u64 (h1:Int)):=by rw[bt HBV2.out,HC1.out,List.getElem?_set_self (by omega)]
  have c320:V2.cell? ⟨rb,320,none⟩=some (.int .i64 (n:Int)):=by rw[bt HBV2.out,HC1.out,List.getElem?_set_ne (by decide),HR.out.win]
  have c321:V2.cell? ⟨rb,321,none⟩=some (.int .i64 (s:Int)):=by rw[bt HBV2.out,HC1.out,List.getElem?_set_ne (by decide),HSC.out]
  have cx1:V2.cell? ⟨rb,256+s,none⟩=some (.int .u8 (x.toNat:Int)):=by rw[bt HBV2.out,HC1.out,List.getElem?_set_ne (by omega),HX.out.2.1]; rfl
  have ct1:V2.cell? ⟨rb,x.toNat,none⟩=some (.int .u64 (tx:Int)):=by rw[bt HBV2.out,HC1.out,List.getElem?_set_ne (by omega),HX.out.2.2.2]
  refine ab 0 rfl (by kernel_rfl) (by kernel_rfl) (by kernel_rfl) (fun _ _ _ h=>h) rfl ⟨c323,c321,cx1,ct1,c320⟩ (by rintro w' ⟨hw1,hw2,hw3,hw4,hw5⟩; go_simp; rfl) ?_;simp only[Act.put,aD,aE,aF];refine ab 1 rfl (by kernel_rfl) (by kernel_rfl) (by kernel_rfl) (fun _ _ _ h=>h) rfl ⟨c323,c321,cx1,ct1,c320⟩ (by rintro w' ⟨hw1,hw2,hw3,hw4,hw5⟩; go_simp; rfl) ?_;simp only[Act.put,aD,aE,aF]
  refine ab 2 rfl (by kernel_rfl) (by kernel_rfl) (by kernel_rfl) (fun _ _ _ h=>h) rfl ⟨c323,c321,cx1,ct1,c320⟩ (by rintro w' ⟨hw1,hw2,hw3,hw4,hw5⟩; go_simp; rfl) ?_;simp only[Act.put,aD,aE,aF];refine ab 3 rfl (by kernel_rfl) (by kernel_rfl) (by kernel_rfl) (fun _ _ _ h=>h) rfl ⟨c323,c321,cx1,ct1,c320⟩ (by rintro w' ⟨hw1,hw2,hw3,hw4,hw5⟩; go_simp; rfl) ?_;simp only[Act.put,aD,aE,aF]
  refine ab 4 rfl (by kernel_rfl) (by kernel_rfl) (by kernel_rfl) (fun _ _ _ h=>h) rfl ⟨c323,c321,cx1,ct1,c320⟩ (by rintro w' ⟨hw1,hw2,hw3,hw4,hw5⟩; go_simp; rfl) ?_;simp only[Act.put,aD,aE,aF];refine ab 5 rfl (by kernel_rfl) (by kernel_rfl) (by kernel_rfl) (fun _ _ _ h=>h) rfl ⟨c323,c321,cx1,ct1,c320⟩ (by rintro w' ⟨hw1,hw2,hw3,hw4,hw5⟩; go_simp; rfl) ?_;simp only[Act.put,aD,aE,aF]
  refine ab 6 rfl (by kernel_rfl) (by kernel_rfl) (by kernel_rfl) (fun _ _ _ h=>h) rfl ⟨c323,c321,cx1,ct1,c320⟩ (by rintro w' ⟨hw1,hw2,hw3,hw4,hw5⟩; go_simp; rfl) ?_;simp only[Act.put,aD,aE,aF];refine ab 7 rfl (by kernel_rfl) (by kernel_rfl) (by kernel_rfl) (fun _ _ _ h=>h) rfl ⟨c323,c321,cx1,ct1,c320⟩ (by rintro w' ⟨hw1,hw2,hw3,hw4,hw5⟩; go_simp; rfl) ?_;simp only[Act.put,aD,aE,aF]
  refine ab 8 rfl (by kernel_rfl) (by kernel_rfl) (by kernel_rfl) (fun _ _ _ h=>h) rfl ⟨c323,c321,cx1,ct1,c320⟩ (by rintro w' ⟨hw1,hw2,hw3,hw4,hw5⟩; go_simp; rfl) ?_;simp only[Act.put,aD,aE,aF];refine ab 9 rfl (by kernel_rfl) (by kernel_rfl) (by kernel_rfl) (fun _ _ _ h=>h) rfl ⟨c323,c321,cx1,ct1,c320⟩ (by rintro w' ⟨hw1,hw2,hw3,hw4,hw5⟩; go_simp; rfl) ?_;simp only[Act.put,aD,aE,aF]
  refine ab 10 rfl (by kernel_rfl) (by kernel_rfl) (by kernel_rfl) (fun _ _ _ h=>h) rfl ⟨c323,c321,cx1,ct1,c320⟩ (by rintro w' ⟨hw1,hw2,hw3,hw4,hw5⟩; go_simp; rfl) ?_;simp only[Act.put,aD,aE,aF];refine ab 11 rfl (by kernel_rfl) (by kernel_rfl) (by kernel_rfl) (fun _ _ _ h=>h) rfl ⟨c323,c321,cx1,ct1,c320⟩ (by rintro w' ⟨hw1,hw2,hw3,hw4,hw5⟩; go_simp; rfl) ?_;simp only[Act.put,aD,aE,aF]
  refine ab 12 rfl (by kernel_rfl) (by kernel_rfl) (by kernel_rfl) (fun _ _ _ h=>h) rfl ⟨c323,c321,cx1,ct1,c320⟩ (by rintro w' ⟨hw1,hw2,hw3,hw4,hw5⟩; go_simp; rfl) ?_;simp only[Act.put,aD,aE,aF];refine ab 13 rfl (by kernel_rfl) (by kernel_rfl) (by kernel_rfl) (fun _ _ _ h=>h) rfl ⟨c323,c321,cx1,ct1,c320⟩ (by rintro w' ⟨hw1,hw2,hw3,hw4,hw5⟩; go_simp; rfl) ?_;simp only[Act.put,aD,aE,aF]
  refine ab 14 rfl (by kernel_rfl) (by kernel_rfl) (by kernel_rfl) (fun _ _ _ h=>h) rfl ⟨c323,c321,cx1,ct1,c320⟩ (by rintro w' ⟨hw1,hw2,hw3,hw4,hw5⟩; go_simp; rfl) ?_;simp only[Act.put,aD,aE,aF];refine ab 15 rfl (by kernel_rfl) (by kernel_rfl) (by kernel_rfl) (fun _ _ _ h=>h) rfl ⟨c323,c321,cx1,ct1,c320⟩ (by rintro w' ⟨hw1,hw2,hw3,hw4,hw5⟩; go_simp; rfl) ?_;simp only[Act.put,aD,aE,aF]
  refine ab 16 rfl (by kernel_rfl) (by kernel_rfl) (by kernel_rfl) (fun _ _ _ h=>h) rfl ⟨c323,c321,cx1,ct1,c320⟩ (by rintro w' ⟨hw1,hw2,hw3,hw4,hw5⟩; go_simp; rfl) ?_;simp only[Act.put,aD,aE,aF];refine ab 17 rfl (by kernel_rfl) (by kernel_rfl) (by kernel_rfl) (fun _ _ _ h=>h) rfl ⟨c323,c321,cx1,ct1,c320⟩ (by rintro w' ⟨hw1,hw2,hw3,hw4,hw5⟩; go_simp; rfl) ?_;simp only[Act.put,aD,aE,aF]
  refine ab 18 rfl (by kernel_rfl) (by kernel_rfl) (by kernel_rfl) (fun _ _ _ h=>h) rfl ⟨c323,c321,cx1,ct1,c320⟩ (by rintro w' ⟨hw1,hw2,hw3,hw4,hw5⟩; go_simp; rfl) ?_;simp only[Act.put,aD,aE,aF];refine ab 19 rfl (by kernel_rfl) (by kernel_rfl) (by kernel_rfl) (fun _ _ _ h=>h) rfl ⟨c323,c321,cx1,ct1,c320⟩ (by rintro w' ⟨hw1,hw2,hw3,hw4,hw5⟩; go_simp; rfl) ?_;simp only[Act.put,aD,aE,aF]
  refine ab 20 rfl (by kernel_rfl) (by kernel_rfl) (by kernel_rfl) (fun _ _ _ h=>h) rfl ⟨c323,c321,cx1,ct1,c320⟩ (by rintro w' ⟨hw1,hw2,hw3,hw4,hw5⟩; go_simp; rfl) ?_;simp only[Act.put,aD,aE,aF];refine ab 21 rfl (by kernel_rfl) (by kernel_rfl) (by kernel_rfl) (fun _ _ _ h=>h) rfl ⟨c323,c321,cx1,ct1,c320⟩ (by rintro w' ⟨hw1,hw2,hw3,hw4,hw5⟩; go_simp; rfl) ?_;simp only[Act.put,aD,aE,aF]
  refine ax 22 rfl (by kernel_rfl) rfl (fun K hK=> ?_);go_wp2_with fail;refine(rf tx n V2 htxl hW2).mono ?_;rintro e w1 ⟨rfl,rfl⟩;go_wp2_with fail;refine⟨⟨c323,c321,cx1,ct1,c320⟩, ?_⟩;refine ab 23 rfl (by kernel_rfl) (by kernel_rfl) (by kernel_rfl) (fun _ _ _ h=>h) rfl ⟨c323,c321,cx1,ct1,c320⟩ (by rintro w' ⟨hw1,hw2,hw3,hw4,hw5⟩; go_simp; rfl) ?_;simp only[Act.put,aD,aE,aF]
  refine ab 24 rfl (by kernel_rfl) (by kernel_rfl) (by kernel_rfl) (fun _ _ _ h=>h) rfl ⟨c323,c321,cx1,ct1,c320⟩ (by rintro w' ⟨hw1,hw2,hw3,hw4,hw5⟩; go_simp; rfl) ?_;simp only[Act.put,aD,aE,aF];refine ab 25 rfl (by kernel_rfl) (by kernel_rfl) (by kernel_rfl) (fun _ _ _ h=>h) rfl ⟨c323,c321,cx1,ct1,c320⟩ (by rintro w' ⟨hw1,hw2,hw3,hw4,hw5⟩; go_simp; rfl) ?_;simp only[Act.put,aD,aE,aF]
  rw[xY hh1l (iy n htxl)];obtain⟨h2,hh2⟩: ∃h2,h2=h1^^^dB tx n:=⟨_,rfl⟩;rw[<-hh2];have hh2l:h2<18446744073709551616:=by rw[hh2]; exact lU hh1l (iy n htxl)
  have HH2:=aa hh2;have cf:V2.frozen? ⟨rb,323,none⟩=false:=frozen_of_row V2 _ _ _ _ HBV2.out;have cf1:V2.frozen? ⟨rb,321,none⟩=false:=frozen_of_row V2 _ _ _ _ HBV2.out;have cf2:V2.frozen? ⟨rb,322,none⟩=false:=frozen_of_row V2 _ _ _ _ HBV2.out;have c322:V2.cell? ⟨rb,322,none⟩=some (.int .i64 (n:Int)):=by rw[bt HBV2.out,HC1.out,List.getElem?_set_ne (by decide),HLN.out]
  obtain⟨s2,hs2⟩: ∃s2,s2=(s+1)%64:=⟨_,rfl⟩;obtain⟨n2,hn2⟩: ∃n2,n2=n-1:=⟨_,rfl⟩;have hsa:IntKind.i64.wrap ((s:Int)+1)=((s+1:Nat):Int):=by rw[IntKind.wrap_i64]; omega
  have hsb:((s:Int)+1)%64=(s2:Int):=by omega
  have hna:IntKind.i64.wrap ((n:Int)-1)=(n2:Int):=by rw[IntKind.wrap_i64]; omega
  have hs264:s2<64:=by omega
  have hn264:n2<64:=by omega
  have HS2:=aa hs2;have HN2:=aa hn2;clear hh2 hs2 hn2;refine bh (by kernel_rfl) ?_;refine cL rfl rfl (fun K hK=> ?_);go_wp2_with fail;obtain⟨X,hX⟩: ∃X:World,X=((V2.setCell ⟨rb,323,none⟩ (.int .u64 (h2:Int))).setCell ⟨rb,321,none⟩ (.int .i64 (s2:Int))).setCell ⟨rb,322,none⟩ (.int .i64 (n2:Int)):=⟨_,rfl⟩;rw[<-hX];have HBX:=aa (show X.heap[rb]? =some (.cells (((cs1.set 323 (.int .u64 (h2:Int))).set 321 (.int .i64 (s2:Int))).set 322 (.int .i64 (n2:Int))).toArray ty (0,0)) by rw[hX]; exact fq (fq (fq HBV2.out _) _) _)
  have HGX:=aa (show w.grownBy X (some rb) by rw[hX]; exact bJ (bJ (bJ HGV2.out _ _) _ _) _ _);have HCX:=aa (show(((cs1.set 323 (.int .u64 (h2:Int))).set 321 (.int .i64 (s2:Int))).set 322 (.int .i64 (n2:Int)))[321]? =some (.int .i64 (s2:Int))/\(((cs1.set 323 (.int .u64 (h2:Int))).set 321 (.int .i64 (s2:Int))).set 322 (.int .i64 (n2:Int)))[322]? =some (.int .i64 (n2:Int))from⟨by rw[List.getElem?_set_ne (by decide),List.getElem?_set_self (by rw[HC1.out]; simp; omega)],by rw[List.getElem?_set_self (by rw[HC1.out]; simp; omega)]⟩)
  have HRX:=aa (show ∀j,j<64-> ∃c,(((cs1.set 323 (.int .u64 (h2:Int))).set 321 (.int .i64 (s2:Int))).set 322 (.int .i64 (n2:Int)))[256+j]? =some (aJ c)from fun j hj=>by
   rw[List.getElem?_set_ne (by omega),List.getElem?_set_ne (by omega),List.getElem?_set_ne (by omega),HC1.out,List.getElem?_set_ne (by omega)];exact HR.out.rng j hj)
  clear hX c323 c320 c321 cx1 ct1 cf cf1 cf2 c322;have hbt2:=hbt;obtain⟨j2,hj2⟩: ∃j2,j2=(s2+n2)%64:=⟨_,rfl⟩;have hj64:j2<64:=by omega
  have hj64i:(j2:Int)<64:=by omega
  have hadd:IntKind.i64.wrap ((s2:Int)+(n2:Int))=(s2:Int)+(n2:Int):=by rw[IntKind.wrap_i64]; omega
  have hmod:((s2:Int)+(n2:Int))%64=(j2:Int):=by omega
  have hmod2:Int.tmod ((s2:Int)+(n2:Int)) 64=(j2:Int):=by rw[Int.tmod_eq_emod_of_nonneg (by omega)]; omega
  have hmod3:IntKind.i64.wrap (j2:Int)=(j2:Int):=by rw[IntKind.wrap_i64]; omega
  have hinc:IntKind.i64.wrap ((n2:Int)+1)=((n2+1:Nat):Int):=by rw[IntKind.wrap_i64]; omega
  have c321:X.cell? ⟨rb,321,none⟩=some (.int .i64 (s2:Int)):=by rw[bt HBX.out,HCX.out.1]
  have c322:X.cell? ⟨rb,322,none⟩=some (.int .i64 (n2:Int)):=by rw[bt HBX.out,HCX.out.2]
  have cf1:X.frozen? ⟨rb,256+j2,none⟩=false:=frozen_of_row X _ _ _ _ HBX.out;have cf2:X.frozen? ⟨rb,322,none⟩=false:=frozen_of_row X _ _ _ _ HBX.out;obtain⟨bj,hbj⟩:=HRX.out j2 hj64;have cbj:X.cell? ⟨rb,256+j2,none⟩=some (aJ bj):=by rw[bt HBX.out,hbj]
  clear hbj;have hne1: ¬(256+j2=322):=by omega
  have hne2: ¬(322=256+j2):=by omega
  have HJ2:=aa hj2;clear hj2;refine aw [some 15,none] (by kernel_rfl) (by kernel_rfl) (by kernel_rfl) ?_;simp only[bq,List.take_succ_cons,List.take_zero,List.drop_succ_cons,List.drop_zero]
  repeat (first | (refine az rfl ?_; simp only[Act.put,aD,aE,aF]) | (refine aI rfl (fun K hK=> ?_); go_simp; refine hK _ ?_; clear hK K))
  refine aH ?_;refine bw rfl (fun K hK=> ?_);go_wp2_with fail
  go_end0
  refine⟨rfl,⟨_,fq (fq (show X.drew.heap[rb]? =_ from HBX.out) _) _, ?_, ?_, ?_⟩,bJ (bJ (jC HGX.out) _ _) _ _⟩
  ·rw[HJ2.out];have hlen:=(jU n d).symm;refine HR.out.push (b:=b) (q:=l) (s2:=s2) (n2:=n2) ?_ ?_ hs264 ?_ ?_ ?_ ?_ ?_ hW2 ?_
   ·intro i hi;rw[List.getElem?_set_ne (by omega),List.getElem?_set_ne (by omega),List.getElem?_set_ne (by omega),HC1.out,List.getElem?_set_ne (by omega)]
   ·exact HCX.out.1
   ·rw[HC1.out]; simp; omega
   ·rw[List.getElem?_set_ne (by omega),List.getElem?_set_ne (by omega),List.getElem?_set_self (by rw[HC1.out]; simp; omega),HH2.out,HH1.out,HT.out.1,HT.out.2,HX.out.2.2.1,rF hW (by have:=HN.out; omega),HX.out.1];have:=vQ (nH seed) x b l (by omega);rw[hll]at this;unfold mT;rw[this]
    rfl
   ·rw[rF hW (by have:=HN.out; omega),HX.out.1]; rfl
   ·have:=HN2.out; omega
   ·have:=HN2.out; omega
   ·intro j c hc;have hjl:=(List.getElem?_eq_some_iff.1 hc).1;rw[List.getElem?_set_ne (by omega),List.getElem?_set_ne (by omega),List.getElem?_set_ne (by omega),HC1.out,List.getElem?_set_ne (by omega)];have:=HSW.out (j+1) c (by rw[HX.out.1]; exact hc);rw[show(s2+j)%64=(s+(j+1))%64 by have:=HS2.out; omega];exact this
  ·rw[HC1.out]; simp
  ·intro i hi;have:=HJ2.out;rw[List.getElem?_set_ne (by omega),List.getElem?_set_ne (by omega),List.getElem?_set_ne (by omega),List.getElem?_set_ne (by omega),List.getElem?_set_ne (by omega),HC1.out,List.getElem?_set_ne (by omega)]
 ·go_wp2_with fail;obtain⟨X,hX⟩: ∃X:World,X=U1:=⟨_,rfl⟩;rw[<-hX];obtain⟨s2,hs2⟩: ∃s2,s2=s:=⟨_,rfl⟩;obtain⟨n2,hn2⟩: ∃n2,n2=n:=⟨_,rfl⟩;have HBX:=aa (show X.heap[rb]? =some (.cells cs1.toArray ty (0,0)) by rw[hX]; exact HBU1.out);have HGX:=aa (show w.grownBy X (some rb) by rw[hX]; exact HGU1.out);have HCX:=aa (show cs1[321]? =some (.int .i64 (s2:Int))/\cs1[322]? =some (.int .i64 (n2:Int))from⟨by rw[HC1.out,List.getElem?_set_ne (by decide),HSC.out,hs2],by rw[HC1.out,List.getElem?_set_ne (by decide),HLN.out,hn2]⟩)
  have HRX:=aa (show ∀j,j<64-> ∃c,cs1[256+j]? =some (aJ c)from fun j hj=>by
   rw[HC1.out,List.getElem?_set_ne (by omega)];exact HR.out.rng j hj)
  have hs264:s2<64:=by omega
  have hn264:n2<64:=by have:=HN.out; omega
  have HS2:=aa hs2;have HN2:=aa hn2;clear hX hs2 hn2;have hbt2:=hbt;obtain⟨j2,hj2⟩: ∃j2,j2=(s2+n2)%64:=⟨_,rfl⟩;have hj64:j2<64:=by omega
  have hj64i:(j2:Int)<64:=by omega
  have hadd:IntKind.i64.wrap ((s2:Int)+(n2:Int))=(s2:Int)+(n2:Int):=by rw[IntKind.wrap_i64]; omega
  have hmod:((s2:Int)+(n2:Int))%64=(j2:Int):=by omega
  have hmod2:Int.tmod ((s2:Int)+(n2:Int)) 64=(j2:Int):=by rw[Int.tmod_eq_emod_of_nonneg (by omega)]; omega
  have hmod3:IntKind.i64.wrap (j2:Int)=(j2:Int):=by rw[IntKind.wrap_i64]; omega
  have hinc:IntKind.i64.wrap ((n2:Int)+1)=((n2+1:Nat):Int):=by rw[IntKind.wrap_i64]; omega
  have c321:X.cell? ⟨rb,321,none⟩=some (.int .i64 (s2:Int)):=by rw[bt HBX.out,HCX.out.1]
  have c322:X.cell? ⟨rb,322,none⟩=some (.int .i64 (n2:Int)):=by rw[bt HBX.out,HCX.out.2]
  have cf1:X.frozen? ⟨rb,256+j2,none⟩=false:=frozen_of_row X _ _ _ _ HBX.out;have cf2:X.frozen? ⟨rb,322,none⟩=false:=frozen_of_row X _ _ _ _ HBX.out;obtain⟨bj,hbj⟩:=HRX.out j2 hj64;have cbj:X.cell? ⟨rb,256+j2,none⟩=some (aJ bj):=by rw[bt HBX.out,hbj]
  clear hbj;have hne1: ¬(256+j2=322):=by omega
  have hne2: ¬(322=256+j2):=by omega
  have HJ2:=aa hj2;clear hj2;refine aw [some 15,none] (by kernel_rfl) (by kernel_rfl) (by kernel_rfl) ?_;simp only[bq,List.take_succ_cons,List.take_zero,List.drop_succ_cons,List.drop_zero]
  repeat (first | (refine az rfl ?_; simp only[Act.put,aD,aE,aF]) | (refine aI rfl (fun K hK=> ?_); go_simp; refine hK _ ?_; clear hK K))
  refine aH ?_;refine bw rfl (fun K hK=> ?_);go_wp2_with fail
  go_end0
  have hdl:d.length<W:=by have:=HN.out; omega
  refine⟨rfl,⟨_,fq (fq (show X.drew.heap[rb]? =_ from HBX.out) _) _, ?_, ?_, ?_⟩,bJ (bJ (jC HGX.out) _ _) _ _⟩
  ·rw[HJ2.out];refine HR.out.push (b:=b) (q:=iB W d) (s2:=s2) (n2:=n2) ?_ ?_ hs264 ?_ ?_ (rE hdl b) ?_ ?_ hW2 ?_
   ·intro i hi;rw[HC1.out,List.getElem?_set_ne (by omega)]
   ·exact HCX.out.1
   ·rw[HC1.out]; simp; omega
   ·rw[HC1.out,List.getElem?_set_self (by omega),HH1.out,HT.out.1,HT.out.2,rE hdl];unfold mT;rw[gA]
   ·rw[jU,<-HN.out,HN2.out]
   ·have:=HN2.out; have:=HN.out; omega
   ·intro j c hc;rw[HC1.out,List.getElem?_set_ne (by omega),HS2.out];exact HSW.out j c hc
  ·rw[HC1.out]; simp
  ·intro i hi;have:=HJ2.out;rw[List.getElem?_set_ne (by omega),List.getElem?_set_ne (by omega),HC1.out,List.getElem?_set_ne (by omega)]
structure sP (w : World) : Prop where
 tab:TabAt 5 Lib.deBruijn64tab w
 lt:5<w.heap.size
theorem sP.block {w w':World} (h:sP w) (hb:w'.heap[5]? =w.heap[5]?) (hs:w.heap.size<=w'.heap.size):sP w':=
 ⟨fun j hj=>by rw[<-h.tab j hj]; exact World.cell?_of_block hb,Nat.lt_of_lt_of_le h.lt hs⟩
theorem sP.below {w0 w w':World} (h:sP w) (hb:Below w0.heap.size w w') (hlt:5<w0.heap.size):sP w':=h.block (hb.block _ hlt) hb.size
theorem sP.grown {w w':World} {r:Option Nat} (h:sP w) (hg:w.grownBy w' r) (hr:r≠some 5):sP w':=h.block (hg.block _ h.lt (fun e=>hr e.symm)) hg.size
theorem jJ (rb n:Nat) (w:World) (h:w.cell? ⟨rb,322,none⟩=some (.int .i64 (n:Int))):Calls Tryz.prog 196 #[.pointer (some ⟨rb,0,none⟩)] w fun e w'=>e= .returned (.int .i64 (n:Int))/\w=w':=by
 go_enter Tryz.func196,Tryz.ntmps196
 go_wp2_with fail;go_ret;exact⟨rfl,rfl⟩
theorem jK (rb n:Nat) (w:World) (h:w.cell? ⟨rb,323,none⟩=some (.int .u64 (n:Int))):Calls Tryz.prog 198 #[.pointer (some ⟨rb,0,none⟩)] w fun e w'=>e= .returned (.int .u64 (n:Int))/\w=w':=by
 go_enter Tryz.func198,Tryz.ntmps198
 go_wp2_with fail;go_ret;exact⟨rfl,rfl⟩
theorem zZ (x:Nat) (w:World) (hx:x<18446744073709551616) (hT:sP w):Calls Tryz.prog 197 #[.int .u64 (x:Int)] w fun e w'=>e= .returned (.int .i64 ((Lib.ctz 64 x:Nat):Int))/\w=w':=by
 go_enter Tryz.func197,Tryz.ntmps197
 go_wp2_with fail;refine(Tryz.bits_TrailingZeros64 x hx w (fun _=>hT.tab)).mono ?_;rintro e w' ⟨rfl,rfl⟩;go_wp2_with fail;go_ret;exact⟨rfl,rfl⟩
def su (c:eE) (data:List UInt8) (p:Nat):Bool:=Eb c.seed c.win.toNat c.bits.toNat (data.take p)
structure mL (c : eE) (data : List UInt8) (p : Nat) (cs : List Value) : Prop where
 roll:kx c.seed c.win.toNat (data.take p) cs
 len:cs.length=331
 cut: ∀i,i<5->cs[324+i]? =(cF c)[i]?
 pos:cs[329]? =some (.int .i64 (p:Int))
 last:cs[330]? =some (.int .i64 (jb (su c data) c.mn.toNat p))
theorem ub (mk:Nat->Bool) (mn p:Nat): -(mn:Int)<=jb mk mn p/\jb mk mn p<=(p:Int):=by
 rcases vZ (mk:=mk) (mn:=mn) p with⟨h,_⟩ | ⟨L,h,h1,h2,_⟩<;> rw[h]<;> omega
theorem BU (c:eE) (data:List UInt8) (p:Nat) (b:UInt8) (mb:Nat) (ty:TypeId) (cs:List Value) (w:World) (hc:eT c=true) (hb:data[p]? =some b) (hp:data.length<=1048576) (hbox:w.heap[mb]? =some (.cells cs.toArray ty (0,0))) (hm:mL c data p cs) (hT:sP w) (hmb:mb≠5):
  Calls Tryz.prog 176 #[.pointer (some ⟨mb,0,none⟩), .int .u8 (b.toNat:Int)] w fun e w'=>e= .returned (.bool (pf (su c data) c.mn.toNat (p+1)))/\(∃cs',w'.heap[mb]? =some (.cells cs'.toArray ty (0,0))/\mL c data (p+1) cs')/\w.grownBy w' (some mb):=by
 have hv:=eR.1 hc;have HV:=aa hv;have HM:=aa hm;have HBX:=aa hbox;have HT:=aa hT;have hpl:=(List.getElem?_eq_some_iff.1 hb).1;have htk:data.take (p+1)=data.take p++[b]:=by rw[List.take_add_one,hb]; rfl
 have HTK:=aa htk;obtain⟨W,hW⟩: ∃W,W=c.win.toNat:=⟨_,rfl⟩;obtain⟨B,hB⟩: ∃B,B=c.bits.toNat:=⟨_,rfl⟩;obtain⟨mn,hmn⟩: ∃mn,mn=c.mn.toNat:=⟨_,rfl⟩;have hWi:c.win=(W:Int):=by omega
 have hBi:c.bits=(B:Int):=by omega
 have hmi:c.mn=(mn:Int):=by omega
 have hW1:1<=W:=by omega
 have hW2:W<=64:=by omega
 have HI:=aa (And.intro hW (And.intro hB (And.intro hmn (And.intro hWi (And.intro hBi hmi)))));clear hc hm hbox hT hb htk hv hW hB hmn hWi hBi hmi
 go_enter Tryz.func176,Tryz.ntmps176
 go_wp2_with fail;refine(Bz mb ty c.seed W (data.take p) b cs w HBX.out (by have:=HM.out.roll; rw[<-HI.out.1]at this; exact this) hW1 hW2).mono ?_;rintro e w1 ⟨rfl,⟨cs1,hb1,hr1,hl1,hk1⟩,hg1⟩;have HB1:=aa hb1;have HR1:=aa hr1;have HK1:=aa hk1;have HL1:=aa (hl1.trans HM.out.len);have HG1:=aa hg1;have HT1:=aa (HT.out.grown hg1 (fun e=>hmb (Option.some.inj e)));clear hb1 hr1 hk1 hl1 hg1
 have c329:w1.cell? ⟨mb,329,none⟩=some (.int .i64 (p:Int)):=by rw[bt HB1.out,HK1.out _ (by decide),HM.out.pos]
 have cf:w1.frozen? ⟨mb,329,none⟩=false:=frozen_of_row w1 _ _ _ _ HB1.out;have hinc:IntKind.i64.wrap ((p:Int)+1)=((p+1:Nat):Int):=by rw[IntKind.wrap_i64]; omega
 go_wp2_with fail;obtain⟨cs2,hcs2⟩: ∃cs2,cs2=cs1.set 329 (.int .i64 (((p:Nat):Int)+1)):=⟨_,rfl⟩;obtain⟨U,hU⟩: ∃U:World,U=w1.setCell ⟨mb,329,none⟩ (.int .i64 (((p:Nat):Int)+1)):=⟨_,rfl⟩;rw[<-hU];have HBU:=aa (show U.heap[mb]? =some (.cells cs2.toArray ty (0,0)) by rw[hU,hcs2]; exact fq HB1.out _);have HGU:=aa (show w.grownBy U (some mb) by rw[hU]; exact bJ HG1.out _ _)
 have HTU:=aa (show sP U by rw[hU]; exact HT1.out.grown (aB _ _ _ _) (fun e=>hmb (Option.some.inj e)));have HC2:=aa hcs2;have HL2:=aa (show cs2.length=331 by rw[hcs2,List.length_set]; exact HL1.out);clear hU hcs2 c329 cf hinc;obtain⟨n,hn⟩: ∃n,n=min W (p+1):=⟨_,rfl⟩;obtain⟨h,hh⟩: ∃h,h=mT c.seed (iB W (data.take (p+1))):=⟨_,rfl⟩;have hhl:h<18446744073709551616:=by rw[hh]; exact tO _ _
 obtain⟨z,hz⟩: ∃z,z=Lib.ctz 64 h:=⟨_,rfl⟩;obtain⟨la,hla⟩: ∃la,la=jb (su c data) mn p:=⟨_,rfl⟩;have hlr: -(mn:Int)<=la/\la<=(p:Int):=by rw[hla]; exact ub _ _ _
 have c322:U.cell? ⟨mb,322,none⟩=some (.int .i64 (n:Int)):=by
  rw[bt HBU.out,HC2.out,List.getElem?_set_ne (by decide),HR1.out.len,hn,List.length_append,List.length_take,List.length_cons,List.length_nil,Nat.min_eq_left (by omega:p<=data.length)]
 have c323:U.cell? ⟨mb,323,none⟩=some (.int .u64 (h:Int)):=by
  rw[bt HBU.out,HC2.out,List.getElem?_set_ne (by decide),HR1.out.sum,hh,HTK.out]
 have c324:U.cell? ⟨mb,324,none⟩=some (.int .i64 (mn:Int)):=by
  rw[bt HBU.out,HC2.out,List.getElem?_set_ne (by decide),HK1.out _ (by decide),HM.out.cut 0 (by decide),<-HI.out.2.2.2.2.2]; rfl
 have c326:U.cell? ⟨mb,326,none⟩=some (.int .i64 (W:Int)):=by
  rw[bt HBU.out,HC2.out,List.getElem?_set_ne (by decide),HK1.out _ (by decide),HM.out.cut 2 (by decide),<-HI.out.2.2.2.1]; rfl
 have c327:U.cell? ⟨mb,327,none⟩=some (.int .i64 (B:Int)):=by
  rw[bt HBU.out,HC2.out,List.getElem?_set_ne (by decide),HK1.out _ (by decide),HM.out.cut 3 (by decide),<-HI.out.2.2.2.2.1]; rfl
 have c329:U.cell? ⟨mb,329,none⟩=some (.int .i64 ((p:Int)+1)):=by
  rw[bt HBU.out,HC2.out,List.getElem?_set_self (by rw[HL1.out]; decide)]
 have c330:U.cell? ⟨mb,330,none⟩=some (.int .i64 la):=by
  rw[bt HBU.out,HC2.out,List.getElem?_set_ne (by decide),HK1.out _ (by decide),HM.out.last,hla,HI.out.2.2.1]
 have hmk:su c data (p+1)=(decide (W<=n) && decide (B<=z)):=by
  unfold su Eb;rw[<-HI.out.1,<-HI.out.2.1,hz,hh]
  congr 1
  rw[decide_eq_decide,List.length_take]; omega
 have HMK:=aa hmk;have HH:=aa (And.intro hn (And.intro hh (And.intro hz hla)));have HDQ:=aa (show ∀n,sP (U.drewN n)from fun n=>HTU.out.block rfl (Nat.le_refl _));clear hn hh hz hla hmk;have HZ:=aa (show ∀m,Calls Tryz.prog 197 #[.int .u64 (h:Int)] (U.drewN m) fun e w'=>e= .returned (.int .i64 (z:Int))/\U.drewN m=w' from fun m=>by rw[HH.out.2.2.1]; exact zZ h (U.drewN m) hhl (HDQ.out m))
 have HRO:=aa (show kx c.seed c.win.toNat (data.take (p+1)) cs2 by
  rw[<-HI.out.1,HTK.out,HC2.out];have h:=HR1.out;refine⟨fun i hi=> ?_,fun j hj=> ?_, ?_, ?_, ?_, ?_⟩
  ·rw[List.getElem?_set_ne (by omega)]; exact h.tab i hi
  ·rw[List.getElem?_set_ne (by omega)]; exact h.rng j hj
  ·rw[List.getElem?_set_ne (by omega)]; exact h.win
  ·obtain⟨s,h1,h2,h3⟩:=h.st;refine⟨s,h1,by rw[List.getElem?_set_ne (by omega)]; exact h2,fun j b hb=>by rw[List.getElem?_set_ne (by omega)]; exact h3 j b hb⟩
  ·rw[List.getElem?_set_ne (by omega)]; exact h.len
  ·rw[List.getElem?_set_ne (by omega)]; exact h.sum)
 have HCU:=aa (show ∀i,i<5->cs2[324+i]? =(cF c)[i]? from fun i hi=>by
  rw[HC2.out,List.getElem?_set_ne (by omega),HK1.out _ (by omega)]; exact HM.out.cut i hi)
 have HPO:=aa (show cs2[329]? =some (.int .i64 ((p+1:Nat):Int)) by rw[HC2.out,List.getElem?_set_self (by rw[HL1.out]; decide)]; rfl);have HLA:=aa (show cs2[330]? =some (.int .i64 la) by rw[HC2.out,List.getElem?_set_ne (by decide),HK1.out _ (by decide),HM.out.last,HH.out.2.2.2,HI.out.2.2.1]);have HNO:=aa (show su c data (p+1)=false->(pf (su c data) c.mn.toNat (p+1)=false/\mL c data (p+1) cs2)from fun h0=>⟨by rw[pf,h0]; rfl,{
  roll:=HRO.out
  len:=HL2.out
  cut:=HCU.out
  pos:=HPO.out
  last:=by rw[jb,if_neg (by rw[h0]; decide),<-HI.out.2.2.1,<-HH.out.2.2.2]; exact HLA.out}⟩)
 by_cases h1:n<W
 ·have h1i:(n:Int)<(W:Int):=by omega
  go_quiet ((first | (go_at_call 196; refine ei (jJ mb n _ c322)) | (go_at_call 198; refine ei (jK mb h _ c323)) | (go_at_call 197; refine ei (HZ.out _))))
  go_wp2_with fail;go_ret;have hno:=HNO.out (by rw[HMK.out,decide_eq_false (by omega)]; rfl);exact⟨au hno.1.symm,⟨cs2,HBU.out,hno.2⟩,gP HGU.out _⟩
 ·have h1i:(W:Int)<=(n:Int):=by omega
  have h1j: ¬(n:Int)<(W:Int):=by omega
  by_cases h2:z<B
  ·have h2i:(z:Int)<(B:Int):=by omega
   go_quiet ((first | (go_at_call 196; refine ei (jJ mb n _ c322)) | (go_at_call 198; refine ei (jK mb h _ c323)) | (go_at_call 197; refine ei (HZ.out _))))
   go_wp2_with fail;go_ret;have hno:=HNO.out (by rw[HMK.out,decide_eq_false (by omega: ¬B<=z),Bool.and_false]);exact⟨au hno.1.symm,⟨cs2,HBU.out,hno.2⟩,gP HGU.out _⟩
  ·have h2i:(B:Int)<=(z:Int):=by omega
   have h2j: ¬(z:Int)<(B:Int):=by omega
   go_quiet ((first | (go_at_call 196; refine ei (jJ mb n _ c322)) | (go_at_call 198; refine ei (jK mb h _ c323)) | (go_at_call 197; refine ei (HZ.out _))))
   go_wp2_with fail;have cf:U.frozen? ⟨mb,330,none⟩=false:=frozen_of_row U _ _ _ _ HBU.out;have hsub:IntKind.i64.wrap ((p:Int)+1-la)=(p:Int)+1-la:=by have:=HV.out; have:=HI.out; rw[IntKind.wrap_i64]; omega
   go_quiet (fail)
   go_wp2_with fail;go_ret;have hyes:su c data (p+1)=true:=by rw[HMK.out,decide_eq_true (by omega:W<=n),decide_eq_true (by omega:B<=z)]; rfl
   refine⟨au ?_,⟨cs2.set 330 (.int .i64 ((p:Int)+1)),fq (show(U.drewN _).heap[mb]? =_ from HBU.out) _, ?_⟩,bJ (gP HGU.out _) _ _⟩
   ·rw[pf,hyes,Bool.true_and,<-HI.out.2.2.1,<-HH.out.2.2.2,decide_eq_decide]; simp
   ·have h:=HRO.out;have hcu:=HCU.out;refine⟨⟨fun i hi=> ?_,fun j hj=> ?_, ?_, ?_, ?_, ?_⟩,by rw[List.length_set]; exact HL2.out,fun i hi=> ?_, ?_, ?_⟩
    ·rw[List.getElem?_set_ne (by omega)]; exact h.tab i hi
    ·rw[List.getElem?_set_ne (by omega)]; exact h.rng j hj
    ·rw[List.getElem?_set_ne (by omega)]; exact h.win
    ·obtain⟨s,h1,h2,h3⟩:=h.st;refine⟨s,h1,by rw[List.getElem?_set_ne (by omega)]; exact h2,fun j b hb=>by rw[List.getElem?_set_ne (by omega)]; exact h3 j b hb⟩
    ·rw[List.getElem?_set_ne (by omega)]; exact h.len
    ·rw[List.getElem?_set_ne (by omega)]; exact h.sum
    ·rw[List.getElem?_set_ne (by omega)]; exact hcu i hi
    ·rw[List.getElem?_set_ne (by omega)]; exact HPO.out
    ·rw[List.getElem?_set_self (by rw[HL2.out]; decide),jb,if_pos hyes]; rfl
end Go.Proofs.YtnjkpcalgoefhaaGreatDoor
namespace Go.Proofs.YtnjkpcalgoefhaaGreatDoor
open Go.RowKit
structure bd where
 sum:ByteArray
 size:Int
deriving DecidableEq
structure al where
 path:ByteArray
 kind:Int
 mode:Int
 time:Int
 size:Int
 link:ByteArray
 parts:List bd
deriving DecidableEq
structure dh where
 tm:Int
 files:List al
def eM (f:al):bu:=⟨f.path,f.kind,f.mode,f.time,[],f.link⟩
def iP (l:List bd):Int:=l.foldl (fun a p=>wrap64 (a+p.size)) 0
theorem ry (l:List bd) (p:bd):iP (l++[p])=wrap64 (iP l+p.size):=by unfold iP; rw[List.foldl_append]; rfl
def cP (p:bd):Bool:=decide (p.sum.size=32) && decide (1<=p.size) && decide (p.size<=32768)
def cj (f:al):Bool:=if f.kind=1 then f.parts.all cP && (decide (f.size=iP f.parts) && decide (iP f.parts<=1048576))else decide (f.size=0) && decide (f.parts=[])
def di (x:dh):Bool:=decide (0<=x.tm) && decide (x.files.length<=4096) && x.files.all cj && decide (bZ (x.files.map eM)=0)
def jh (c:List UInt8):ByteArray:=⟨(wK c).toArray⟩
def bF (c:List UInt8):bd:=⟨jh c,(c.length:Int)⟩
def fW (tm:Int) (f:al) (e:bu):Bool:=decide (f.path=e.path) && decide (f.kind=1) && decide (e.kind=1) && (decide (f.time=e.time) && decide (f.size=(e.data.length:Int)) && decide (e.time<tm))
def eN (l:List al) (p:ByteArray):Option al:=l.find? fun f=>decide (f.path=p)
def pD (tm:Int) (prev:List al) (e:bu):Bool:=decide (e.kind=1) && (match eN prev e.path with | some f=>fW tm f e | none=>false)
def re (tm:Int) (prev:List al) (e:bu):Bool:=decide (e.kind=1) && !pD tm prev e
def cg (c:eE) (data:List UInt8):List (List UInt8):=dS data 0 (tE (su c data) c.mn.toNat c.mx.toNat data.length)
def dN (tm:Int) (prev:List al) (c:eE) (e:bu):List bd:=
 if e.kind=1 then(match eN prev e.path with | some f=>if fW tm f e=true then f.parts else(cg c e.data).map bF | none=>(cg c e.data).map bF)else []
def eW (tm:Int) (prev:List al) (c:eE) (e:bu):al:=⟨e.path,e.kind,e.mode,e.time,(e.data.length:Int),e.link,dN tm prev c e⟩
instance decMemB (x : ByteArray) (l : List ByteArray) : Decidable (x ∈ l) := decidable_of_iff (∃ y ∈ l, y = x) ⟨fun ⟨_, h, e⟩ => e ▸ h, fun h => ⟨x, h, rfl⟩⟩
def tW (l:List ByteArray) (x:ByteArray):List ByteArray:=if x∈l then l else l++[x]
def qy (fs:List al):List ByteArray:=(fs.flatMap al.parts).foldl (fun l p=>tW l p.sum) []
def bE (s:List ByteArray×List (List UInt8)) (c:List UInt8):List ByteArray×List (List UInt8):=if jh c∈s.1 then s else(s.1++[jh c],s.2++[c])
def pV (rs:List aU) (e:bu):Bool:=(dq rs (bl e.path) (decide (e.kind=2))).1
def cW (rs:List aU) (T:List bu):List bu:=T.filter fun e=> !pV rs e
structure kw where
 files:List al
 known:List ByteArray
 news:List (List UInt8)
 read:Nat
 kept:Nat
def dA (tm:Int) (prev:List al) (c:eE) (K:List bu):kw:=
 ⟨K.map (eW tm prev c),(((K.filter (re tm prev)).flatMap fun e=>cg c e.data).foldl bE (qy prev,[])).1,(((K.filter (re tm prev)).flatMap fun e=>cg c e.data).foldl bE (qy prev,[])).2,(K.filter (re tm prev)).length,(K.filter (pD tm prev)).length⟩
def gy (f g:al):Int:=if f.kind=g.kind/\f.link=g.link/\f.parts=g.parts then(if f.mode=g.mode/\f.time=g.time then 0 else 3)else 2
def jf :Nat->List al->List al->List (ByteArray×Int)
 | 0,_,_=>[]
 | _+1,[],[]=>[]
 | n+1,a::ar,[]=>(a.path,4)::jf n ar []
 | n+1,[],b::br=>(b.path,1)::jf n [] br
 | n+1,a::ar,b::br=>
  if bV (bl a.path) (bl b.path)<0 then(a.path,4)::jf n ar (b::br)
  else if 0<bV (bl a.path) (bl b.path)then(b.path,1)::jf n (a::ar) br
  else if gy a b=0 then jf n ar br else(b.path,gy a b)::jf n ar br
def pO (a b:List al):List (ByteArray×Int):=jf (a.length+b.length) a b
structure Am where
 idx:dh
 chg:List (ByteArray×Int)
 news:List (List UInt8)
 read:Nat
 kept:Nat
def eQ (prev:dh) (at':Int) (tree:List bu) (rules:List UInt8) (c:eE):Except Int Am:=
 if di prev=true/\prev.tm<=at'/\eT c=true then
  (if(cz rules).2.2=0 then
   (if bZ tree=0 then
    .ok ⟨⟨at',(dA prev.tm prev.files c (cW (cz rules).1 tree)).files⟩,pO prev.files (dA prev.tm prev.files c (cW (cz rules).1 tree)).files,
     (dA prev.tm prev.files c (cW (cz rules).1 tree)).news,(dA prev.tm prev.files c (cW (cz rules).1 tree)).read,(dA prev.tm prev.files c (cW (cz rules).1 tree)).kept⟩
   else .error (bZ tree))
  else .error (cz rules).2.2)
 else .error 1
theorem EA {tm:Int} {prev:List al} {e:bu} (h:pD tm prev e=true):re tm prev e=false:=by unfold re; rw[h]; simp
theorem zE {tm:Int} {prev:List al} {c:eE} {K:List bu} {e:bu} (h:pD tm prev e=true):
  dA tm prev c (K++[e])=⟨(dA tm prev c K).files++[eW tm prev c e],(dA tm prev c K).known,(dA tm prev c K).news,(dA tm prev c K).read,(dA tm prev c K).kept+1⟩:=by
 simp[dA,List.filter_append,h,EA h]
theorem zG {tm:Int} {prev:List al} {c:eE} {K:List bu} {e:bu} (h:re tm prev e=true):
  dA tm prev c (K++[e])=⟨(dA tm prev c K).files++[eW tm prev c e],((cg c e.data).foldl bE ((dA tm prev c K).known,(dA tm prev c K).news)).1,((cg c e.data).foldl bE ((dA tm prev c K).known,(dA tm prev c K).news)).2,(dA tm prev c K).read+1,(dA tm prev c K).kept⟩:=by
 have h2:pD tm prev e=false:=by
  unfold re at h; rw[Bool.and_eq_true]at h; simpa using h.2
 simp[dA,List.filter_append,h,h2,List.foldl_append]
theorem zF {tm:Int} {prev:List al} {c:eE} {K:List bu} {e:bu} (h:e.kind≠1):
  dA tm prev c (K++[e])=⟨(dA tm prev c K).files++[eW tm prev c e],(dA tm prev c K).known,(dA tm prev c K).news,(dA tm prev c K).read,(dA tm prev c K).kept⟩:=by
 have h1:re tm prev e=false:=by unfold re; simp[h]
 have h2:pD tm prev e=false:=by unfold pD; simp[h]
 simp[dA,List.filter_append,h1,h2]
theorem yy {rs:List aU} {T:List bu} {e:bu} (h:pV rs e=true):cW rs (T++[e])=cW rs T:=by simp[cW,List.filter_append,h]
theorem yz {rs:List aU} {T:List bu} {e:bu} (h:pV rs e=false):cW rs (T++[e])=cW rs T++[e]:=by simp[cW,List.filter_append,h]
theorem Dc {l:List ByteArray} {x y:ByteArray} :y∈tW l x<->y∈l\/y=x:=by
 unfold tW; split
 ·rename_i h;exact⟨.inl,fun h2=>h2.elim id (fun e=>by rw[e]; exact h)⟩
 ·simp
theorem ir {l:List al} {p:ByteArray} {f:al} (h:eN l p=some f):f∈l/\f.path=p:=
 ⟨List.mem_of_find?_eq_some h,by have:=List.find?_some h; simpa using this⟩
theorem DS {tm:Int} {prev:List al} {e:bu} :pD tm prev e=true<->e.kind=1/\ ∃f,eN prev e.path=some f/\f.kind=1/\f.time=e.time/\f.size=(e.data.length:Int)/\e.time<tm:=by
 unfold pD fW
 cases h:eN prev e.path with
 | none=>simp
 | some f=>
  have:=(ir h).2;simp[this,and_assoc];exact fun h _ _ _ _=>h
theorem Bt {tm:Int} {prev:List al} {c:eE} {e:bu} (h:pD tm prev e=true): ∃f,eN prev e.path=some f/\dN tm prev c e=f.parts/\f.kind=1/\f.size=(e.data.length:Int):=by
 obtain⟨h1,f,h2,h3,h4,h5,h6⟩:=DS.1 h;refine⟨f,h2, ?_,h3,h5⟩;unfold dN fW;rw[if_pos h1,h2];simp[(ir h2).2,h1,h3,h4,h5,h6]
theorem oZ {tm:Int} {prev:List al} {c:eE} {e:bu} (h:re tm prev e=true):dN tm prev c e=(cg c e.data).map bF:=by
 unfold re at h;rw[Bool.and_eq_true,decide_eq_true_eq]at h;have h2:=h.2;unfold pD at h2;unfold dN;rw[if_pos h.1]
 cases hf:eN prev e.path with
 | none=>rfl
 | some f=>
  rw[hf]at h2;simp[h.1]at h2;simp[h2]
theorem Dd {tm:Int} {prev:List al} {e:bu} (h:e.kind=1):pD tm prev e=true\/re tm prev e=true:=by
 unfold re
 cases pD tm prev e<;> simp[h]
theorem rI {n:Int} (h0:0<=n) (h1:n<=9223372036854775807):wrap64 n=n:=IntWalk.wrap64_in n ⟨by omega,h1⟩
theorem mr : ∀(ls:List (List UInt8)) (i:Nat) (acc rs:List aU) (n:Int),acc.length<=256->cS ls i acc=(rs,n,0)->rs.length<=256
 | [],i,acc,rs,n,ha,h=>by
  simp only[cS,Prod.mk.injEq]at h;rw[<-h.1]; exact ha
 | l::ls,i,acc,rs,n,ha,h=>by
  simp only[cS]at h
  split at h
  ·exact mr ls _ _ _ _ ha h
  ·split at h
   ·simp at h
   ·split at h
    ·simp at h
    ·rename_i hne;exact mr ls _ _ _ _ (by simp; omega) h
theorem ws {l:List UInt8} {rs:List aU} {n:Int} (h:cz l=(rs,n,0)):rs.length<=256:=by
 unfold cz at h
 split at h
 ·simp at h
 ·exact mr _ _ _ _ _ (by simp) h
theorem Bc {l:List UInt8} {rs:List aU} {n:Int} (h:cz l=(rs,n,0)): ∃us,aW rs=some us/\ ∀p d,bB p=true->dq rs p d=(cB d (aA 47 p) us (aA 47 p).length 1,0):=by
 obtain⟨⟨us,hu⟩,_⟩:=un h;refine⟨us,hu,fun p d hp=> ?_⟩;have h2:=ws h;unfold dq;rw[if_neg (by rw[hp]; simp; omega),hu]
theorem Er {rs:List aU} {us:List (aU×List aP)} (hi: ∀p d,bB p=true->dq rs p d=(cB d (aA 47 p) us (aA 47 p).length 1,0)) {e f:bu} (he:bB (bl e.path)=true) (hp:aS (bl e.path)≠[]) (hf:bl f.path=aS (bl e.path)) (hk:f.kind=2) (hn:pV rs e=false):pV rs f=false:=by
 rcases yO he with⟨h1,_⟩ | ⟨_,h2,h3⟩
 ·exact absurd h1 hp
 ·unfold pV at *;rw[hi _ _ he]at hn;rw[hf,hi _ _ h2,h3,hk]
  cases hx:cB true (aA 47 (bl e.path)).dropLast us (aA 47 (bl e.path)).dropLast.length 1
  ·simpa using hx
  ·have:=Au (dir:=decide (e.kind=2)) (parts:=aA 47 (bl e.path)) (us:=us) hx;simp only at hn;rw[this]at hn; cases hn
theorem rz : ∀(cs:List (List UInt8)) (a:Int),0<=a->a+(cs.flatten.length:Int)<=9223372036854775807->(cs.map bF).foldl (fun a p=>wrap64 (a+p.size)) a=a+(cs.flatten.length:Int)
 | [],a,_,_=>by simp
 | c::cs,a,h0,h=>by
  rw[List.flatten_cons,List.length_append]at h ⊢;rw[List.map_cons,List.foldl_cons];have e:wrap64 (a+(bF c).size)=a+(c.length:Int):=rI (by show 0<=a+(c.length:Int); omega) (by show a+(c.length:Int)<=_; omega);rw[e,rz cs _ (by omega) (by omega)];omega
theorem tp (c:eE) (data:List UInt8):(cg c data).flatten=data:=pd
theorem DQ {c:eE} {data:List UInt8} (h:data.length<=1048576):iP ((cg c data).map bF)=(data.length:Int):=by
 unfold iP;rw[rz _ 0 (by omega) (by rw[tp]; omega),tp]; omega
theorem kt (c:List UInt8):(jh c).size=32:=BR c
theorem oh {c:eE} (hc:eT c=true) (data:List UInt8): ∀y∈cg c data,1<=y.length/\y.length<=c.mx.toNat:=by
 have hv:=eR.1 hc;exact fun y hy=>yT (mx:=c.mx.toNat) (by omega) (qG) y hy
theorem AG {c:eE} (hc:eT c=true) (data:List UInt8):((cg c data).map bF).all cP=true:=by
 have hv:=eR.1 hc;rw[List.all_eq_true];intro p hp;obtain⟨y,hy,rfl⟩:=List.mem_map.1 hp;have:=oh hc data y hy
 show(decide ((jh y).size=32) && decide ((1:Int)<=(y.length:Int)) && decide ((y.length:Int)<=32768))=true
 rw[kt];simp;omega
def CA (e:bu):bu:= {e with data:=[]}
theorem CB {e:bu} (h:bW e=true):bW (CA e)=true:=by
 obtain⟨pa,kd,md,tm,da,li⟩:=e
 show bW ⟨pa,kd,md,tm,[],li⟩=true
 unfold bW gZ dZ at *;simp only[Bool.and_eq_true]at *;refine⟨h.1, ?_⟩;have h2:=h.2
 split at h2<;> rename_i hk
 ·rw[if_pos hk]; simp only[Bool.and_eq_true,decide_eq_true_eq,List.length_nil]at *; exact⟨by omega,h2.2⟩
 ·rw[if_neg hk]
  split at h2<;> rename_i hk2
  ·rw[if_pos hk2]; simp only[Bool.and_eq_true,decide_eq_true_eq,List.length_nil]at *; exact⟨trivial,h2.2⟩
  ·rw[if_neg hk2]
   split at h2<;> rename_i hk3
   ·rw[if_pos hk3]; simp only[Bool.and_eq_true,decide_eq_true_eq,List.length_nil]at *; exact⟨trivial,h2.2⟩
   ·cases h2
theorem lG {rs:List aU} {T:List bu} {e:bu} (h:e∈cW rs T):e∈T/\pV rs e=false:=by
 unfold cW at h;rw[List.mem_filter]at h;exact⟨h.1,by simpa using h.2⟩
theorem vD {rules:List UInt8} {rs:List aU} {n:Int} {T:List bu} (hr:cz rules=(rs,n,0)) (hT:bZ T=0):bZ ((cW rs T).map CA)=0:=by
 obtain⟨us,hu,hi⟩:=Bc hr;have hT:=fd.1 hT;have hs:dx ((cW rs T).map CA):=by
  unfold dx;rw[List.pairwise_map];exact hT.ord.filter _
 refine fd.2 (DP hs (fun e he=> ?_) (fun e he=> ?_) ?_)
 ·obtain⟨x,hx,rfl⟩:=List.mem_map.1 he;exact CB (hT.val x (lG hx).1)
 ·obtain⟨x,hx,rfl⟩:=List.mem_map.1 he;obtain⟨h1,h2⟩:=lG hx
  rcases hT.has h1 with h | ⟨f,h3,h4,h5⟩
  ·exact .inl h
  ·by_cases hp:aS (bl x.path)=[]
   ·exact .inl hp
   ·refine .inr ⟨CA f,List.mem_map_of_mem ?_,h4,h5⟩;unfold cW;rw[List.mem_filter];exact⟨h3,by rw[Er hi (bY (hT.val x h1)) hp h4 h5 h2]; rfl⟩
 ·rw[List.length_map];exact Nat.le_trans (List.length_filter_le _ _) hT.len
theorem lC {e:bu} (h:bW e=true):(e.kind=1->e.data.length<=1048576)/\(e.kind≠1->e.data=[]):=by
 unfold bW dZ at h;simp only[Bool.and_eq_true]at h;have h2:=h.2;refine⟨fun hk=> ?_,fun hk=> ?_⟩
 ·rw[if_pos hk]at h2; simp only[Bool.and_eq_true,decide_eq_true_eq]at h2; exact h2.1
 ·rw[if_neg hk]at h2
  split at h2
  ·simp only[Bool.and_eq_true,decide_eq_true_eq]at h2; exact List.length_eq_zero_iff.1 h2.1
  ·split at h2
   ·simp only[Bool.and_eq_true,decide_eq_true_eq]at h2; exact List.length_eq_zero_iff.1 h2.1
   ·cases h2
theorem iR {f:al} (h:f.kind=1):cj f=(f.parts.all cP && (decide (f.size=iP f.parts) && decide (iP f.parts<=1048576))):=by unfold cj; rw[if_pos h]
theorem jT {f:al} (h: ¬f.kind=1):cj f=(decide (f.size=0) && decide (f.parts=[])):=by unfold cj; rw[if_neg h]
theorem CV {tm:Int} {prev:List al} {c:eE} {e:bu} (hv:prev.all cj=true) (hc:eT c=true) (he:bW e=true):cj (eW tm prev c e)=true:=by
 obtain⟨h1,h2⟩:=lC he
 by_cases hk:e.kind=1
 ·have hd:=h1 hk;rw[iR (show(eW tm prev c e).kind=1 from hk)]
  show((dN tm prev c e).all cP && (decide ((e.data.length:Int)=iP (dN tm prev c e)) && decide (iP (dN tm prev c e)<=1048576)))=true
  rcases Dd (tm:=tm) (prev:=prev) hk with h | h
  ·obtain⟨f,h3,h4,h5,h6⟩:=Bt (c:=c) h;have h7:=List.all_eq_true.1 hv f (ir h3).1;rw[iR h5]at h7;rw[h4,<-h6];exact h7
  ·rw[oZ h,AG hc,DQ hd]
   simp; omega
 ·rw[jT (show ¬(eW tm prev c e).kind=1 from hk)];have hp:dN tm prev c e=[]:=by unfold dN; rw[if_neg hk]
  show(decide ((e.data.length:Int)=0) && decide (dN tm prev c e=[]))=true
  rw[hp,h2 hk]; rfl
theorem Ep {rules:List UInt8} {rs:List aU} {n:Int} {T:List bu} {prev:dh} {tm:Int} {c:eE} (hr:cz rules=(rs,n,0)) (hT:bZ T=0) (hv:di prev=true) (ht:prev.tm<=tm) (hc:eT c=true):
  di ⟨tm,(cW rs T).map (eW prev.tm prev.files c)⟩=true:=by
 have hb:=vD hr hT;have hT:=fd.1 hT;unfold di at *;simp only[Bool.and_eq_true,decide_eq_true_eq]at *;refine⟨⟨⟨by omega, ?_⟩, ?_⟩, ?_⟩
 ·rw[List.length_map]; exact Nat.le_trans (List.length_filter_le _ _) hT.len
 ·rw[List.all_eq_true];intro f hf;obtain⟨e,he,rfl⟩:=List.mem_map.1 hf;exact CV hv.1.2 hc (hT.val e (lG he).1)
 ·rw[List.map_map];exact hb
theorem yq (f:al):gy f f=0:=by simp[gy]
theorem te : ∀(n:Nat) (l:List al),jf n l l=[]
 | 0,l=>by simp[jf]
 | n+1,[]=>by simp[jf]
 | n+1,a::l=>by
  have h:bV (bl a.path) (bl a.path)=0:=(lp _ _).2 rfl;simp[jf,h,yq,te n l]
section
variable {tm later' : Int} {prev : List al} {c : eE} {K : List bu}
end
def EB (l:List al):Prop:=l.Pairwise fun f g=>bV (bl f.path) (bl g.path)<0
theorem EO {a b:ByteArray} (h:bV (bl a) (bl b)<0):a≠b:=by
 rintro rfl;rw[(lp _ _).2 rfl]at h; omega
theorem CZ {x:dh} (h:di x=true):EB x.files:=by
 unfold di at h;simp only[Bool.and_eq_true,decide_eq_true_eq]at h;have:=(fd.1 h.2).ord;unfold dx at this;rw[List.pairwise_map]at this;exact this
section
variable {α : Type} [DecidableEq α] {lt : α → α → Bool}
end
theorem ks {p:ByteArray} :p.size=0<->bl p=[]:=by rw[am]; exact List.length_eq_zero_iff
def u8V (b:UInt8):Value:= .int .u8 (b.toNat:Int)
def cl (S:Nat->Prop) (w:World) (v:Value) (bs:List UInt8):Prop:=aO S w 1 v bs.length (bs.map u8V)
theorem cl.below {S:Nat->Prop} {w w':World} {v:Value} {bs:List UInt8} (h:cl S w v bs) (hb:Below w.heap.size w w'):cl S w' v bs:=aO.below h (by omega) hb
theorem cl.nil (S:Nat->Prop) (w:World):cl S w (.slice none 0 0) []:=aO.nil _ _ _
def ox (v:Value) (e:bu):Value:= .agg #[.string e.path, .int .i64 e.kind, .int .i64 e.mode, .int .i64 e.time,v, .string e.link]
def iH (v:Value) (e:bu):List Value:=[.string e.path, .int .i64 e.kind, .int .i64 e.mode, .int .i64 e.time,v, .string e.link]
structure jk (e : bu) : Prop where
 pth:e.path.size<=maxLen
 lnk:e.link.size<=maxLen
 knd:(Lit.int .i64 e.kind).wf=true
 mde:(Lit.int .i64 e.mode).wf=true
 tim:(Lit.int .i64 e.time).wf=true
def kJ (S:Nat->Prop) (w:World) (c:List Value) (e:bu):Prop:= ∃v,c=iH v e/\cl S w v e.data/\jk e
theorem kJ.len {S:Nat->Prop} {w:World} (c:List Value) (e:bu) (h:kJ S w c e):c.length=6:=by obtain⟨v,rfl,_⟩:=h; rfl
theorem kJ.below {S:Nat->Prop} {w w':World} {c:List Value} {e:bu} (h:kJ S w c e) (hb:Below w.heap.size w w'):kJ S w' c e:=by
 obtain⟨v,h1,h2,h3⟩:=h;exact⟨v,h1,h2.below hb,h3⟩
def bR (S:Nat->Prop) (w:World) (v:Value) (l:List bu):Prop:=aY S w 6 (kJ S w) v l
theorem bR.below {S:Nat->Prop} {w w':World} {v:Value} {l:List bu} (h:bR S w v l) (hb:Below w.heap.size w w'):bR S w' v l:=
 aY.below h (by omega) hb (fun _ _ _ hr=>hr.below hb)
theorem bR.nil (S:Nat->Prop) (w:World):bR S w (.slice none 0 0) []:=aY.nil
theorem iI {S:Nat->Prop} {w:World} {a:Option Addr} {n cap:Nat} {l:List bu} (hv:bR S w (.slice a n cap) l) {k:Nat} {e:bu} (hr:l[k]? =some e):
  ∃b o v,a=some ⟨b,o,none⟩/\S b/\b<w.heap.size/\cl S w v e.data/\jk e/\n=l.length/\w.cell? ⟨b,o+k*6,none⟩=some (.string e.path)/\w.cell? ⟨b,o+k*6+1,none⟩=some (.int .i64 e.kind)/\w.cell? ⟨b,o+k*6+2,none⟩=some (.int .i64 e.mode)/\w.cell? ⟨b,o+k*6+3,none⟩=some (.int .i64 e.time)/\w.cell? ⟨b,o+k*6+4,none⟩=some v/\w.cell? ⟨b,o+k*6+5,none⟩=some (.string e.link):=by
 obtain⟨a',cap',he,hn,hm,hat⟩:=aY.shape hv kJ.len;simp only[Value.slice.injEq]at he;obtain⟨rfl,rfl,rfl⟩:=he;obtain⟨b,o,c,ha,hb,⟨v,hc,hd,hok⟩,hl,hj⟩:=hat k e hr;subst hc;have hc0:=hj 0 (by omega);exact⟨b,o,v,ha,hb,ay (hc0.trans rfl),hd,hok,rfl,hc0,by have h:=hj 1 (by omega); rwa [<-Nat.add_assoc]at h,by have h:=hj 2 (by omega); rwa [<-Nat.add_assoc]at h,by have h:=hj 3 (by omega); rwa [<-Nat.add_assoc]at h,by have h:=hj 4 (by omega); rwa [<-Nat.add_assoc]at h,by have h:=hj 5 (by omega); rwa [<-Nat.add_assoc]at h⟩
open Go Go.RowKit
structure de (p : bd) : Prop where
 sm:p.sum.size<=maxLen
 sz:(Lit.int .i64 p.size).wf=true
def lI (p:bd):List Value:=[.string p.sum, .int .i64 p.size]
def nf (p:bd):Value:= .agg #[.string p.sum, .int .i64 p.size]
def el (c:List Value) (p:bd):Prop:=c=lI p/\de p
theorem el.len (c:List Value) (p:bd) (h:el c p):c.length=2:=by rw[h.1]; rfl
def aM (S:Nat->Prop) (w:World) (v:Value) (l:List bd):Prop:=aY S w 2 el v l
theorem aM.below {S:Nat->Prop} {w w':World} {v:Value} {l:List bd} (h:aM S w v l) (hb:Below w.heap.size w w'):aM S w' v l:=aY.below h (by omega) hb (fun _ _ _ h=>h)
theorem dO {S:Nat->Prop} {w w':World} {a:Option Addr} {n cap:Nat} {l:List bd} (hv:aM S w (.slice a n cap) l) (hb:Below w.heap.size w w') {k:Nat} {p:bd} (hr:l[k]? =some p):
  ∃b o,a=some ⟨b,o,none⟩/\S b/\b<w.heap.size/\de p/\w'.cell? ⟨b,o+k*2,none⟩=some (.string p.sum)/\w'.cell? ⟨b,o+k*2+1,none⟩=some (.int .i64 p.size):=by
 obtain⟨a',cap',hv',_,_,hx⟩:=aY.shape hv el.len
 cases hv'
 obtain⟨b,o,c,rfl,hS,⟨rfl,hok⟩,_,hcl⟩:=hx k p hr;have q0:=hcl 0 (by omega);have q1:=hcl 1 (by omega);have hlt:b<w.heap.size:=ay (a:=⟨b,o+(k*2+0),none⟩) (v:= .string p.sum) q0;refine⟨b,o,rfl,hS,hlt,hok, ?_, ?_⟩
 ·exact(hb.cell (p:=⟨b,o+k*2,none⟩) hlt).trans q0
 ·rw[Nat.add_assoc]; exact(hb.cell (p:=⟨b,o+(k*2+1),none⟩) hlt).trans q1
structure cQ (f : al) : Prop where
 pth:f.path.size<=maxLen
 lnk:f.link.size<=maxLen
 knd:(Lit.int .i64 f.kind).wf=true
 mde:(Lit.int .i64 f.mode).wf=true
 tim:(Lit.int .i64 f.time).wf=true
 siz:(Lit.int .i64 f.size).wf=true
def bQ (v:Value) (f:al):List Value:=[.string f.path, .int .i64 f.kind, .int .i64 f.mode, .int .i64 f.time, .int .i64 f.size, .string f.link,v]
def dV (v:Value) (f:al):Value:= .agg #[.string f.path, .int .i64 f.kind, .int .i64 f.mode, .int .i64 f.time, .int .i64 f.size, .string f.link,v]
def fF (S:Nat->Prop) (w:World) (c:List Value) (f:al):Prop:= ∃v,c=bQ v f/\aM S w v f.parts/\cQ f
theorem fF.len {S:Nat->Prop} {w:World} (c:List Value) (f:al) (h:fF S w c f):c.length=7:=by obtain⟨v,rfl,_⟩:=h; rfl
def aZ (S:Nat->Prop) (w:World) (v:Value) (l:List al):Prop:=aY S w 7 (fF S w) v l
theorem aZ.below {S:Nat->Prop} {w w':World} {v:Value} {l:List al} (h:aZ S w v l) (hb:Below w.heap.size w w'):aZ S w' v l:=
 aY.below h (by omega) hb (fun _ _ _ ⟨v,h1,h2,h3⟩=>⟨v,h1,h2.below hb,h3⟩)
theorem aZ.nil (S:Nat->Prop) (w:World):aZ S w (.slice none 0 0) []:=aY.nil
theorem dK {S:Nat->Prop} {w w':World} {a:Option Addr} {n cap:Nat} {l:List al} (hv:aZ S w (.slice a n cap) l) (hb:Below w.heap.size w w') {k:Nat} {f:al} (hr:l[k]? =some f):
  ∃b o pa pc,a=some ⟨b,o,none⟩/\cQ f/\aM S w' (.slice pa f.parts.length pc) f.parts/\b<w.heap.size/\S b/\ ∀j,j<7->w'.cell? ⟨b,o+k*7+j,none⟩=(bQ (.slice pa f.parts.length pc) f)[j]? :=by
 obtain⟨a',cap',hv',_,_,hx⟩:=aY.shape hv fF.len
 cases hv'
 obtain⟨b,o,c,rfl,hS,⟨cv,rfl,hrf,hok⟩,_,hcl⟩:=hx k f hr;have q0:=hcl 0 (by omega);have hlt:b<w.heap.size:=ay (a:=⟨b,o+(k*7+0),none⟩) (v:= .string f.path) q0;obtain⟨ca,cc,rfl,_,_,_⟩:=aY.shape hrf el.len;refine⟨b,o,ca,cc,rfl,hok,aM.below hrf hb,hlt,hS,fun j hj=> ?_⟩;rw[Nat.add_assoc];exact(hb.cell (p:=⟨b,o+(k*7+j),none⟩) hlt).trans (hcl j hj)
theorem qY {S:Nat->Prop} {w:World} {a:Option Addr} {n c:Nat} {l:List bd} (h:aM S w (.slice a n c) l):n=l.length/\n<=c/\c<=maxLen:=by
 obtain⟨a',cap',hv',h1,h2,_⟩:=aY.shape h el.len
 cases hv'
 exact⟨rfl,h1,h2⟩
theorem oD {S:Nat->Prop} {w:World} {v:Value} {l:List al} (h:aZ S w v l): ∀f∈l,cQ f:=by
 intro f hf;obtain⟨a,cap,rfl,-,-,-⟩:=aY.shape h fF.len;obtain⟨k,hk⟩:=List.getElem?_of_mem hf;obtain⟨_,_,_,_,_,h1,_⟩:=dK h (Below.refl _ _) hk;exact h1
theorem ur {S:Nat->Prop} {w:World} {v:Value} {l:List bd} (h:aM S w v l): ∀p∈l,de p:=by
 intro f hf;obtain⟨a,cap,rfl,-,-,-⟩:=aY.shape h el.len;obtain⟨k,hk⟩:=List.getElem?_of_mem hf;obtain⟨_,_,_,_,_,h1,_⟩:=dO h (Below.refl _ _) hk;exact h1
theorem AU {f:al} (h:cQ f):jk (eM f):=⟨h.pth,h.lnk,h.knd,h.mde,h.tim⟩
def gd (v:Value) (tm:Int):Value:= .agg #[.int .i64 tm,v]
theorem qk (S:Nat->Prop) (f:al) (pv:Value) (w:World) (hp:aM S w pv f.parts):Calls Tryz.prog 33 #[dV pv f] w fun e w'=>e= .returned (.bool (cj f))/\Below w.heap.size w w':=by
 obtain⟨a,cap,rfl,hc,hm,-⟩:=aY.shape hp el.len;unfold maxLen at hm;have HP:=aa hp;clear hp;unfold dV
 by_cases hk:f.kind=1
 ·have HK:=aa hk;have hk2:(f.kind == 1)=true:=by simp[hk]
  obtain⟨kd,hkd⟩: ∃kd,kd=f.kind:=⟨_,rfl⟩;rw[<-hkd]at hk2 hk ⊢;clear hkd;subst hk;obtain⟨n,hn⟩: ∃n,n=f.parts.length:=⟨_,rfl⟩;rw[<-hn]at hc HP ⊢;have HN:=aa hn;clear hn
  go_enter Tryz.func33,Tryz.ntmps33
  go_wp2_with fail;obtain⟨W,hW⟩: ∃W,W=w.alloc (.cells #[.string f.path, .int .i64 1, .int .i64 f.mode, .int .i64 f.time, .int .i64 f.size, .string f.link, .slice a n cap] 27):=⟨_,rfl⟩;rw[<-hW];have HBW:=aa (show Below w.heap.size w W by rw[hW]; exact(Below.refl _ _).alloc (Nat.le_refl _) _);have HBX:=aa (show W.heap[w.heap.size]? =some (.cells #[.string f.path, .int .i64 1, .int .i64 f.mode, .int .i64 f.time, .int .i64 f.size, .string f.link, .slice a n cap] 27 (0,0)) by rw[hW]; exact heap_alloc_new w _)
  have HV:=aa (show aM S W (.slice a n cap) f.parts from aM.below HP.out HBW.out);have hsz:W.heap.size=w.heap.size+1:=by rw[hW]; simp
  have HSZ:=aa hsz;clear hW hsz
  go_loopw [3,21] (fun t i wr=> ∃k:Nat,k<=n/\i= .int .i64 k/\t= .int .i64 (iP (f.parts.take k))/\(f.parts.take k).all cP=true/\Below W.heap.size W wr) (fun _ i _=>n-(intOf i).toNat)
  case atStart=>exact⟨0,Nat.zero_le _,rfl,rfl,rfl,Below.refl _ _⟩
  case round=>
   obtain⟨k,hk,rfl,rfl,hal,hb⟩:=hrel;have HB:=aa hb;have HA:=aa hal;clear hb hal
   by_cases hlt:k<n
   ·obtain⟨p,hp⟩: ∃p,f.parts[k]? =some p:=⟨_,List.getElem?_eq_getElem (show k<f.parts.length by rw[<-HN.out]; exact hlt)⟩;obtain⟨b,o,rfl,-,-,hok,q0,q1⟩:=dO HV.out HB.out hp;have HR:=aa hp;have HO:=aa hok;have hsum:=hok.sm;unfold maxLen at hsum;clear hp hok
    by_cases hv:cP p=true
    ·obtain⟨h1,h2,h3⟩:=(show p.sum.size=32/\1<=p.size/\p.size<=32768 by unfold cP at hv; simpa [and_assoc]using hv);have HVP:=aa hv;have hn2: ¬p.size<1:=by omega
     have hn3: ¬32768<p.size:=by omega
     clear hv;go_wp2_with fail
     go_roundw
     case rel=>
      refine⟨k+1,by omega,rfl, ?_,jp HA.out HR.out HVP.out,ag HB.out ((Below.refl _ _).alloc (Nat.le_refl _) _)⟩;rw[bc HR.out,ry]
     case measure=>simp only[intOf,Int.toNat_natCast]; omega
    ·have HF:=aa (show cj f=false by
      unfold cj;rw[if_pos HK.out,iD HR.out (by simpa using hv)]; rfl)
     have hv2:p.sum.size=32->1<=p.size-> ¬p.size<=32768:=fun h1 h2 h3=>hv (by unfold cP; simp[h1,h2,h3])
     have HV2:=aa hv2;have HE:=aa (show Below w.heap.size w (wr.alloc (.cells #[.string p.sum, .int .i64 p.size] 62))from HBW.out.trans ((ag HB.out ((Below.refl _ _).alloc (Nat.le_refl _) _)).mono (by have:=HSZ.out; omega)));clear hv hv2
     by_cases h1:p.sum.size=32
     ·by_cases h2:p.size<1
      ·go_wp2_with fail;go_ret;exact⟨au (by rw[HF.out]),HE.out⟩
      ·have h3:32768<p.size:=by have:=HV2.out h1 (by omega); omega
       go_wp2_with fail;go_ret;exact⟨au (by rw[HF.out]),HE.out⟩
     ·have h1': ¬(p.sum.size:Int)=32:=by omega
      go_wp2_with fail;go_ret;exact⟨au (by rw[HF.out]),HE.out⟩
   ·have hall:f.parts.all cP=true:=by
     have:=HA.out
     rwa [List.take_of_length_le (by rw[<-HN.out]; omega)]at this
    have htk:f.parts.take k=f.parts:=List.take_of_length_le (by rw[<-HN.out]; omega);rw[htk];have HALL:=aa hall;have HBXr:=aa ((HB.out.block w.heap.size (by have:=HSZ.out; omega)).trans HBX.out);have c4:=ah (k:=4) HBXr.out;simp only[eB]at c4;obtain⟨t,ht⟩: ∃t,t=iP f.parts:=⟨_,rfl⟩;rw[<-ht];have HT:=aa ht;have HEND:=aa (show Below w.heap.size w wr from HBW.out.trans (HB.out.mono (by have:=HSZ.out; omega)))
    clear hall htk ht
    by_cases he:f.size=t
    ·have HE:=aa he;have he1:(f.size == t)=true:=by simp[he]
     go_wp2_with fail;go_ret;refine⟨au ?_,HEND.out⟩;unfold cj;rw[if_pos HK.out,HALL.out,<-HT.out];simp[HE.out]
    ·have HE:=aa he;have he1:(f.size == t)=false:=by simp[he]
     go_wp2_with fail;go_ret;refine⟨au ?_,HEND.out⟩;unfold cj;rw[if_pos HK.out,HALL.out,<-HT.out];simp[HE.out]
 ·have HK:=aa hk;have hk2:(f.kind == 1)=false:=by simp[hk]
  go_enter Tryz.func33,Tryz.ntmps33
  by_cases hs:f.size=0
  ·have hs2:(f.size == 0)=true:=by simp[hs]
   go_wp2_with fail;go_ret;refine⟨au ?_,(Below.refl _ _).alloc (Nat.le_refl _) _⟩;unfold cj;rw[if_neg HK.out]
   cases f.parts with
   | nil=>simp[hs]
   | cons p l=>simp[hs]; omega
  ·have hs2:(f.size == 0)=false:=by simp[hs]
   go_wp2_with fail;go_ret;refine⟨au ?_,(Below.refl _ _).alloc (Nat.le_refl _) _⟩;unfold cj;rw[if_neg HK.out];simp[hs]
theorem uV (S:Nat->Prop) (tm:Int) (f:al) (pv dv:Value) (e:bu) (w:World) (hf:cQ f) (hp:aM S w pv f.parts) (hd:cl S w dv e.data) (he:jk e):
  Calls Tryz.prog 15 #[.int .i64 tm,dV pv f,ox dv e] w fun x w'=>x= .returned (.bool (fW tm f e))/\Below w.heap.size w w':=by
 obtain⟨pa,pc,rfl,-,-,-⟩:=aY.shape hp el.len;obtain⟨_,da,dc,rfl,hdc,hdm,-⟩:=hd;unfold maxLen at hdm;have h1:=hf.pth;have h2:=he.pth;unfold maxLen at h1 h2;obtain⟨n,hn⟩: ∃n,n=e.data.length:=⟨_,rfl⟩;unfold dV ox fW;rw[<-hn]at hdc ⊢;clear hn hp
 go_enter Tryz.func15,Tryz.ntmps15
 by_cases e1:f.path=e.path
 ·by_cases e2:f.kind=1
  ·by_cases e3:e.kind=1
   ·by_cases e4:f.time=e.time
    ·by_cases e5:f.size=(n:Int)
     all_goals
      simp only[e1,e2,e3,e4,e5,decide_true,decide_false,Bool.true_and,Bool.false_and,Bool.and_false,Bool.and_true];go_wp2_with fail;go_ret;exact⟨rfl,((Below.refl _ _).alloc (Nat.le_refl _) _).alloc (by simp) _⟩
    ·simp only[e1,e2,e3,e4,decide_true,decide_false,Bool.false_and,Bool.and_false,Bool.and_true];go_wp2_with fail;go_ret;exact⟨rfl,((Below.refl _ _).alloc (Nat.le_refl _) _).alloc (by simp) _⟩
   ·simp only[e1,e2,e3,decide_true,decide_false,Bool.false_and,Bool.and_false,Bool.and_true];go_wp2_with fail;go_ret;exact⟨rfl,((Below.refl _ _).alloc (Nat.le_refl _) _).alloc (by simp) _⟩
  ·simp only[e1,e2,decide_true,decide_false,Bool.false_and,Bool.and_false];go_wp2_with fail;go_ret;exact⟨rfl,((Below.refl _ _).alloc (Nat.le_refl _) _).alloc (by simp) _⟩
 ·have e1t: ¬f.path.toList=e.path.toList:=fun h=>e1 (jr (by rw[<-bA,<-bA,h]))
  simp only[e1,decide_false,Bool.false_and];go_wp2_with fail;go_ret;exact⟨rfl,((Below.refl _ _).alloc (Nat.le_refl _) _).alloc (by simp) _⟩
open Go Go.RowKit Go.Maps Go.MapKept
open Go.ChangeMaps (modify_eq_set map_eraseIdx)
def dQ (P:Program) (k:TypeId) (w:World) (b:Nat) (m:List (Value×Value)):Prop:=
 ∃es clock,w.heap[b]? =some (.map es clock)/\es.toList.map (fun e=>(e.key,e.val))=m/\Stamped es clock/\ ∀p∈m,∃l,keyOf P k p.1=some l
section
variable {P : Program} {k t e : TypeId} {w w' : World} {b : Nat} {m : List (Value × Value)} {key val z : Value}
theorem pX {es:Array MapEntry} {clock:Nat} (h:Stamped es clock):((es.toList.map (fun e=>(e.key,e.val))).map Prod.fst).Nodup:=by
 rw[List.map_map];have:=((stamped_iff es clock).1 h).2.2;unfold List.Nodup;rw[List.pairwise_map];exact this
theorem dQ.is (h:dQ P k w b m):ek P k w b m:=by
 obtain⟨es,clock,hb,he,hs,hk⟩:=h;exact⟨es,clock,hb,he,by rw[<-he]; exact pX hs,hk⟩
theorem dQ.lt (h:dQ P k w b m):b<w.heap.size:=h.is.lt
theorem dQ.same (h:dQ P k w b m) (hs:w'.heap[b]? =w.heap[b]?):dQ P k w' b m:=by
 obtain⟨es,clock,hb,h2⟩:=h;exact⟨es,clock,hs.trans hb,h2⟩
theorem dQ.made (w:World):dQ P k (w.alloc (.map #[] 0)) w.heap.size []:=⟨#[],0,(MapKept.heap_alloc w _).1,rfl,stamped_empty 0,by simp⟩
theorem dQ.nodup (h:dQ P k w b m):(m.map Prod.fst).Nodup:=by obtain⟨_,_,_,_,hn,_⟩:=h.is; exact hn
theorem jD {w:World} {b:Nat} {x:Obj} (hb:w.heap[b]? =some x) (o:Obj):w.grownBy (ChangeMaps.setBlock w b o) (some b):=
 ⟨rfl,rfl,rfl,by simp[ChangeMaps.setBlock],fun i _ hi=>qN hb _ (fun e=>hi (by rw[e]))⟩
theorem dQ.put (h:dQ P k w b m) (K:Keyed P k) (ht:P.underlying t=some (.map k e)) (hkey: ∃l,keyOf P k key=some l) (hm: ∀p∈m,p.1≠key) (val:Value):
  ∃w',(Instr.mapUpdate t (.map (some b)) key val).run P w= .ok () w'/\dQ P k w' b (m++[(key,val)])/\w.grownBy w' (some b):=by
 obtain⟨es,clock,hb,he,hst,hk⟩:=h;obtain⟨kl,hkl⟩:=hkey
 rcases K.find w hkl es.toList (ek.keys he hk)with⟨h1,h2⟩ | ⟨j,e0,h1,h2,h3⟩
 ·refine⟨ChangeMaps.setBlock w b (.map (es.push ⟨key,val,clock⟩) (clock+1)), ?_,⟨_,_,oH hb _, ?_,stamped_push hst h2, ?_⟩,jD hb _⟩
  ·simp[Instr.mapUpdate,run_underlying ht,MapKept.run_getObj_map hb,K.check w false hkl,h1,MapKept.run_setObj_map _ hb,Result.andThen,ChangeMaps.setBlock]
  ·simp[<-he]
  ·intro p hp
   rcases List.mem_append.1 hp with hp | hp
   ·exact hk p hp
   ·simp only[List.mem_singleton]at hp;subst hp;exact⟨kl,hkl⟩
 ·exact absurd h3 (hm (e0.key,e0.val) (by rw[<-he]; exact List.mem_map.2 ⟨e0,List.mem_of_getElem? h2,rfl⟩))
theorem dQ.over {m1 m2:List (Value×Value)} {old:Value} (h:dQ P k w b (m1++(key,old)::m2)) (K:Keyed P k) (ht:P.underlying t=some (.map k e)) (val:Value):
  ∃w',(Instr.mapUpdate t (.map (some b)) key val).run P w= .ok () w'/\dQ P k w' b (m1++(key,val)::m2)/\w.grownBy w' (some b):=by
 have hnd:=h.nodup;obtain⟨es,clock,hb,he,hst,hk⟩:=h;obtain⟨kl,hkl⟩:=hk (key,old) (by simp)
 rcases K.find w hkl es.toList (ek.keys he hk)with⟨h1,h2⟩ | ⟨j,e0,h1,h2,h3⟩
 ·exfalso
  have:(key,old)∈es.toList.map (fun e=>(e.key,e.val)):=by rw[he]; simp
  obtain⟨x,hx,hxe⟩:=List.mem_map.1 this;exact h2 x hx (congrArg Prod.fst hxe)
 ·have hj:es[j]? =some e0:=by simpa using h2
  have hlist:(es.modify j (fun e'=> {e' with key:=key,val:=val})).toList=es.toList.set j {e0 with key:=key,val:=val} :=by rw[Array.toList_modify,modify_eq_set _ _ _ _ h2]
  have hjm:j=m1.length:=by
   have h4:(m1++(key,old)::m2)[j]? =some (e0.key,e0.val):=by rw[<-he,List.getElem?_map,h2]; rfl
   have h5:((m1++(key,old)::m2).map Prod.fst)[j]? =some key:=by rw[List.getElem?_map,h4]; simp[h3]
   have h6:((m1++(key,old)::m2).map Prod.fst)[m1.length]? =some key:=by simp
   have hjl:=(List.getElem?_eq_some_iff.1 h5).1;exact(List.getElem?_inj hjl hnd).1 (h5.trans h6.symm)
  refine⟨ChangeMaps.setBlock w b (.map (es.modify j (fun e'=> {e' with key:=key,val:=val})) clock), ?_,⟨_,_,oH hb _, ?_, ?_, ?_⟩,jD hb _⟩
  ·simp[Instr.mapUpdate,run_underlying ht,MapKept.run_getObj_map hb,K.check w false hkl,h1,hj,h3,K.stays w hkl,MapKept.run_setObj_map _ hb,Result.andThen,ChangeMaps.setBlock]
  ·rw[hlist,List.map_set,he,hjm];simp
  ·exact stamped_modify hst j _ (fun _ _=>rfl) (fun e' _ he'=>by rw[hj]at he'; cases he'; exact h3.symm)
  ·intro p hp
   rcases List.mem_append.1 hp with hp | hp
   ·exact hk p (by simp[hp])
   ·rcases List.mem_cons.1 hp with rfl | hp
    ·exact⟨kl,hkl⟩
    ·exact hk p (by simp[hp])
theorem dQ.len (h:dQ P k w b m) (ht:P.underlying t=some (.map k e)) (ty:TypeId):(Builtin.len_ #[t] ty #[.map (some b)]).run P w= .ok (.int .i64 (m.length:Int)) w:=by
 obtain⟨es,clock,hb,he,_⟩:=h;have:es.size=m.length:=by rw[<-he]; simp
 simp[Builtin.len_,run_underlying ht,MapKept.run_getObj_map hb,goInt,Result.andThen,this]
def lY (P:Program) (k:TypeId) (w:World) (b r:Nat) (m vis:List (Value×Value)):Prop:=
 ∃es clock since seen c0,w.heap[b]? =some (.map es clock)/\es.toList.map (fun e=>(e.key,e.val))=m/\Stamped es clock/\(∀p∈m,∃l,keyOf P k p.1=some l)/\
  w.heap[r]? =some (.mapIter (some b) since seen c0)/\(∀x∈es.toList,x.born<since)/\since<=c0/\since<=clock/\vis.Perm ((es.toList.filter fun x=>seen.contains x.born).map (fun e=>(e.key,e.val)))
theorem lY.map {r:Nat} {vis:List (Value×Value)} (h:lY P k w b r m vis):dQ P k w b m:=by
 obtain⟨es,clock,_,_,_,hb,he,hs,hk,_⟩:=h;exact⟨es,clock,hb,he,hs,hk⟩
theorem lY.same {r:Nat} {vis:List (Value×Value)} (h:lY P k w b r m vis) (h1:w'.heap[b]? =w.heap[b]?) (h2:w'.heap[r]? =w.heap[r]?):lY P k w' b r m vis:=by
 obtain⟨es,clock,since,seen,c0,hb,he,hs,hk,hr,h3⟩:=h;exact⟨es,clock,since,seen,c0,h1.trans hb,he,hs,hk,h2.trans hr,h3⟩
theorem lY.ne {r:Nat} {vis:List (Value×Value)} (h:lY P k w b r m vis):r≠b:=by
 obtain⟨es,clock,since,seen,c0,hb,_,_,_,hr,_⟩:=h;intro e1;subst e1;rw[hb]at hr
 cases hr
theorem lD {α:Type} (p:α->Bool): ∀(l:List α),(l.filter p).length+(l.filter fun x=> !p x).length=l.length
 | []=>rfl
 | a::l=>by
  have:=lD p l
  cases h:p a<;> simp[h]<;> omega
theorem lY.left {r:Nat} {vis:List (Value×Value)} (h:lY P k w b r m vis):w.rangeLeft b r+vis.length=m.length:=by
 obtain⟨es,clock,since,seen,c0,hb,he,hs,hk,hr,_,_,_,hv⟩:=h;have h1:w.rangeLeft b r=(leftOf es seen).size:=by simp only[World.rangeLeft,hb,hr]
 have h2:(leftOf es seen).size=(es.toList.filter fun x=> !seen.contains x.born).length:=by
  unfold leftOf;rw[<-Array.toList_filter,Array.length_toList]
 have h3:=lD (fun x:MapEntry=>seen.contains x.born) es.toList;rw[h1,h2,hv.length_eq,List.length_map,<-he,List.length_map];omega
theorem dQ.range (h:dQ P k w b m) (ht:P.underlying t=some (.map k e)):
  ∃w',(Instr.range t (.map (some b))).run P w= .ok (.pointer (some ⟨w.heap.size,0,none⟩)) w'/\lY P k w' b w.heap.size m []/\Below w.heap.size w w'/\w'.heap.size=w.heap.size+1:=by
 have hlt:=h.lt;obtain⟨es,clock,hb,he,hs,hk⟩:=h;refine⟨_,run_range_map w t k e b es clock ht hb,⟨es,clock,clock, #[],clock,((MapKept.heap_alloc w _).2 b hlt).trans hb,he,hs,hk,(MapKept.heap_alloc w _).1,((stamped_iff es clock).1 hs).1,Nat.le_refl _,Nat.le_refl _, ?_⟩,(Below.refl _ _).alloc (Nat.le_refl _) _,by simp⟩;simp
theorem CD {es:Array MapEntry} {clock:Nat} (hs:Stamped es clock) {x y:MapEntry} (hx:x∈es.toList) (hy:y∈es.toList) (h:x.born=y.born):x=y:=born_inj ((stamped_iff es clock).1 hs).2.1 hx hy h
theorem yS {es:List MapEntry} {seen:Array Nat} {e0:MapEntry} (hn:es.Nodup) (hinj: ∀x∈es,x.born=e0.born->x=e0) (he:e0∈es) (h0:seen.contains e0.born=false):
  ((es.filter fun x=>seen.contains x.born)++[e0]).Perm (es.filter fun x=>(seen.push e0.born).contains x.born):=by
 refine(List.perm_ext_iff_of_nodup ?_ (hn.filter _)).2 (fun x=> ?_)
 ·rw[List.nodup_append];refine⟨hn.filter _,by simp,fun a ha c hc=> ?_⟩;simp only[List.mem_singleton]at hc;subst hc;rintro rfl;rw[List.mem_filter]at ha;rw[ha.2]at h0
  cases h0
 ·simp only[List.mem_append,List.mem_filter,List.mem_singleton,contains_push,Bool.or_eq_true,beq_iff_eq]
  constructor
  ·rintro(⟨h1,h2⟩ | rfl)
   ·exact⟨h1, .inl h2⟩
   ·exact⟨he, .inr rfl⟩
  ·rintro⟨h1,h2 | h2⟩
   ·exact .inl ⟨h1,h2⟩
   ·exact .inr (hinj x h1 h2)
theorem lY.next {r:Nat} {vis:List (Value×Value)} (h:lY P k w b r m vis) (ty:TypeId):
  (vis.Perm m/\(Instr.next (.pointer (some ⟨r,0,none⟩)) false ty).run P w= .ok (.tuple #[.bool false]) w)\/
  ∃key v w',(key,v)∈m/\(∀p∈vis,p.1≠key)/\(Instr.next (.pointer (some ⟨r,0,none⟩)) false ty).run P w= .ok (.tuple #[.bool true,key,v]) w'/\
   lY P k w' b r m (vis++[(key,v)])/\w.grownBy w' (some r)/\w'.heap.size=w.heap.size/\(Instr.entry (.pointer (some ⟨r,0,none⟩))).run P w'= .ok (.tuple #[key,v]) w':=by
 have hne:=h.ne;obtain⟨es,clock,since,seen,c0,hb,he,hs,hk,hr,hold,hsc,hsk,hv⟩:=h;have hsi:=(stamped_iff es clock).1 hs
 rcases run_next_at (P:=P) w ty r b since c0 seen es clock hr hb hold hsc with⟨h0,hrun⟩ | ⟨e0,he0,w1,hal,hrun⟩
 ·refine Or.inl ⟨?_,hrun⟩;have:(es.toList.filter fun x=>seen.contains x.born)=es.toList:=by
   rw[List.filter_eq_self];intro x hx;exact all_seen es seen h0 x hx
  rw[this,he]at hv;exact hv
 ·obtain⟨hem,hes⟩:=mem_left he0;have hr1:w1.heap[r]? =some (.mapIter (some b) since seen c0):=by rcases hal with rfl | rfl<;> exact hr
  have hb1:w1.heap[b]? =some (.map es clock):=by rcases hal with rfl | rfl<;> exact hb
  have hset:=heap_set (o':= .mapIter (some b) since (seen.push e0.born) clock) hr1;have hb':(ChangeMaps.setBlock w1 r (.mapIter (some b) since (seen.push e0.born) clock)).heap[b]? =some (.map es clock):=(hset.2 b (fun e1=>hne e1.symm)).trans hb1;have hnd:es.toList.Nodup:=by
   have:=hsi.2.1;unfold List.Nodup at this;rw[List.pairwise_map]at this;exact this.imp (fun h e=>h (by rw[e]))
  have hinj: ∀x∈es.toList,x.born=e0.born->x=e0:=fun x hx hxb=>CD hs hx hem hxb
  have hpp:=yS hnd hinj hem hes;refine Or.inr ⟨e0.key,e0.val,_,by rw[<-he]; exact List.mem_map.2 ⟨e0,hem,rfl⟩,fun p hp hpk=> ?_,hrun,⟨es,clock,since,seen.push e0.born,clock,hb',he,hs,hk,hset.1,hold,hsk,hsk, ?_⟩, ?_, ?_,
   run_entry_at _ r b since seen es clock e0 hset.1 hb' hem hsi.2.1⟩
  ·obtain⟨x,hx,rfl⟩:=List.mem_map.1 (hv.subset hp);obtain⟨hx1,hx2⟩:=List.mem_filter.1 hx;have:x=e0:=entry_eq_of_key hsi.2.2 hx1 hem hpk;subst this;rw[hx2]at hes
   cases hes
  ·refine(hv.append_right _).trans ?_;have:=hpp.map (fun e:MapEntry=>(e.key,e.val));rw[List.map_append]at this;exact this
  ·rcases hal with rfl | rfl<;> exact⟨rfl,rfl,rfl,by simp[ChangeMaps.setBlock],fun i _ hi=>hset.2 i (fun e1=>hi (by rw[e1]))⟩
  ·rcases hal with rfl | rfl<;> simp[ChangeMaps.setBlock]
end
section
variable {P : Program} {w : World} {ops : Array Oper} {rest : List Oper} {o : Oper} {a : Act} {Q : Exit → Act → World → Prop} {k e : TypeId}
theorem fN (K:Keyed P k) (hg:o.guard=none) (mo x v:Operand) (t:TypeId) (hop:o.op=Op.mapUpdate t mo x v) (ht:P.underlying t=some (.map k e)) (b:Nat) (m:List (Value×Value)) (h:dQ P k w b m) (hmo:a.eval mo= .map (some b)) (key val:Value) (hx:a.eval x=key) (hv:a.eval v=val) (hkey: ∃l,keyOf P k key=some l) (hnew: ∀p∈m,p.1≠key)
  (hK: ∀w',dQ P k w' b (m++[(key,val)])->w.grownBy w' (some b)->wpList P ops Q rest (a.put o.dst undef) w'):wpList P ops Q (o::rest) a w:=by
 refine wpList_plain hg fun K' hK'=> ?_
 obtain⟨w',hrun,r1,r2⟩:=h.put K ht hkey hnew val;unfold Oper.wp;simp[execOp,hop,hmo,hx,hv,hrun,Result.andThen];exact hK' _ _ (hK w' r1 r2)
end
end Go.Proofs.YtnjkpcalgoefhaaGreatDoor
namespace Go.Proofs.YtnjkpcalgoefhaaGreatDoor
open Go Go.RowKit Go.Maps
abbrev vq :=Value×bu
theorem cX :Keyed Tryz.prog 9:=string_keyed Tryz.underlying9
theorem dr {n:ByteArray} (h:n.size<=maxLen): ∃l,keyOf Tryz.prog 9 (.string n)=some l:=⟨.string n.data.toList,by simp[keyOf,mapKey,Tryz.underlying9,h]⟩
section
variable {S S' : Nat → Prop} {w w' : World} {mb : Nat} {xs : List vq}
end
def EX :Value:= .agg #[.string ByteArray.empty, .int .i64 0, .int .i64 0, .int .i64 0, .slice none 0 0, .string ByteArray.empty]
section
variable {S S' : Nat → Prop} {w w' : World} {tb mb : Nat} {L : List bu}
end
section
variable {S S' : Nat → Prop} {w w' : World} {tb mb : Nat} {L : List bu} {xs : List vq} {t : TypeId}
end
section
variable {P : Program} {w : World} {ops : Array Oper} {rest : List Oper} {o : Oper} {a : Act} {Q : Exit → Act → World → Prop}
theorem kH {Φ:World->Prop} (hg:o.guard=none) (mo x v:Operand) (t:TypeId) (hop:o.op=Op.mapUpdate t mo x v) (mv key val:Value) (hmo:a.eval mo=mv) (hx:a.eval x=key) (hv:a.eval v=val) (hrun: ∃w',(Instr.mapUpdate t mv key val).run P w= .ok () w'/\Φ w')
  (hK: ∀w',Φ w'->wpList P ops Q rest (a.put o.dst undef) w'):wpList P ops Q (o::rest) a w:=by
 refine wpList_plain hg fun K' hK'=> ?_
 obtain⟨w',hr,h2⟩:=hrun;unfold Oper.wp;simp[execOp,hop,hmo,hx,hv,hr,Result.andThen];exact hK' _ _ (hK w' h2)
end
end Go.Proofs.YtnjkpcalgoefhaaGreatDoor
namespace Go.Proofs.YtnjkpcalgoefhaaGreatDoor
open Go.RowKit
theorem ai {w:World} {b k:Nat} {cs:Array Value} {t:TypeId} {x:Nat×Nat} (h:w.heap[b]? =some (.cells cs t x)):w.cell? ⟨b,k,none⟩=cs[k]? :=by simp[World.cell?,h]
theorem tV (s:ByteArray) (w:World):Calls Tryz.prog 128 #[.string s, .int .u8 0] w fun e w'=>e= .returned (.int .i64 (Lib.indexByte (bl s) 0))/\w=w':=
 (Tryz.strings_IndexByte s 0 w).mono fun _ _ ⟨he,hw⟩=>⟨he,hw.symm⟩
theorem qj (s:ByteArray) (w:World) (hs:s.size<=maxLen):Calls Tryz.prog 99 #[.string s] w fun e w'=>e= .returned (.bool (iQ (bl s)))/\w=w':=by
 unfold maxLen at hs;have HX:=aa (show iQ (bl s)=(decide (1<=s.size) && decide (s.size<=512) && !(bl s).contains 0) by unfold iQ; rw[am]);have HI:=aa (gB (bl s) 0)
 go_enter Tryz.func99,Tryz.ntmps99
 go_wp2_with (go_at_call 128; refine(tV s _).mono ?_; rintro e w3 ⟨rfl,rfl⟩)
 ·go_ret;refine⟨au ?_,rfl⟩;have z1:decide (1<=s.size)=true:=by simp; omega
  have z2:decide (s.size<=512)=true:=by simp; omega
  rw[HX.out,z1,z2,<-HI.out];rw[Bool.eq_iff_iff];simp
 ·go_ret;refine⟨au ?_,rfl⟩;have z2:decide (s.size<=512)=false:=by simp; omega
  rw[HX.out,z2];simp
 ·go_ret;refine⟨au ?_,rfl⟩;have z1:decide (1<=s.size)=false:=decide_eq_false (by omega);rw[HX.out,z1];simp
theorem lc (s:ByteArray) (b:Bool) (w:World) (he:jl w) (h:bB (bl s)=b):Calls Tryz.prog 98 #[.string s] w fun e w'=>e= .returned (.bool b)/\Below w.heap.size w w':=by
 rw[<-h]; exact rC s w he
theorem wY (S:Nat->Prop) (en:bu) (v:Value) (w:World) (hd:cl S w v en.data) (hok:jk en) (henv:jl w):Calls Tryz.prog 64 #[ox v en] w fun e w'=>e= .returned (.bool (bW en))/\Below w.heap.size w w':=by
 obtain⟨_,a,cap,rfl,hc,hm,-⟩:=hd;unfold maxLen at hm;have HE:=aa henv;have HO:=aa hok;have hq1:=hok.pth;have hq2:=hok.lnk;unfold maxLen at hq1 hq2;have HL:=aa (show en.link.toList.isEmpty=decide (en.link.size=0) by rw[bA,am,Bool.eq_iff_iff]; simp);clear henv hok;unfold ox
 cases hv:bB (bl en.path)
 ·have HVP:=aa hv;clear hv
  go_enter Tryz.func64,Tryz.ntmps64
  go_wp2_with fail;obtain⟨W,hW⟩: ∃W,W=w.alloc (.cells #[.string en.path, .int .i64 en.kind, .int .i64 en.mode, .int .i64 en.time, .slice a en.data.length cap, .string en.link] 30):=⟨_,rfl⟩;rw[<-hW];have HBW:=aa (show Below w.heap.size w W by rw[hW]; exact(Below.refl _ _).alloc (Nat.le_refl _) _);have HBX:=aa (show W.heap[w.heap.size]? =some (.cells #[.string en.path, .int .i64 en.kind, .int .i64 en.mode, .int .i64 en.time, .slice a en.data.length cap, .string en.link] 30 (0,0)) by rw[hW]; exact heap_alloc_new w _)
  clear hW;refine(lc en.path false _ (HE.out.below HBW.out) HVP.out).mono ?_;rintro e w1 ⟨rfl,hb1⟩;have HB1:=aa (ag HBW.out hb1);clear hb1;go_wp2_with fail;go_ret;exact⟨au (by simp[bW,HVP.out]),HB1.out⟩
 ·have HVP:=aa hv;clear hv
  by_cases hmt:0<=en.mode/\en.mode<=511/\0<=en.time
  ·have HH:=aa (show bW en=dZ en by obtain⟨x1,x2,x3⟩:=hmt; unfold bW gZ; rw[HVP.out]; simp[x1,x2,x3]);obtain⟨hm1,hm2,hm3⟩:=hmt
   go_enter Tryz.func64,Tryz.ntmps64
   go_wp2_with fail;obtain⟨W,hW⟩: ∃W,W=w.alloc (.cells #[.string en.path, .int .i64 en.kind, .int .i64 en.mode, .int .i64 en.time, .slice a en.data.length cap, .string en.link] 30):=⟨_,rfl⟩;rw[<-hW];have HBW:=aa (show Below w.heap.size w W by rw[hW]; exact(Below.refl _ _).alloc (Nat.le_refl _) _);have HBX:=aa (show W.heap[w.heap.size]? =some (.cells #[.string en.path, .int .i64 en.kind, .int .i64 en.mode, .int .i64 en.time, .slice a en.data.length cap, .string en.link] 30 (0,0)) by rw[hW]; exact heap_alloc_new w _)
   clear hW;refine(lc en.path true _ (HE.out.below HBW.out) HVP.out).mono ?_;rintro e w1 ⟨rfl,hb1⟩;have HBXr:=aa ((hb1.block w.heap.size ((Array.getElem?_eq_some_iff.1 HBX.out).1)).trans HBX.out);have HB1:=aa (ag HBW.out hb1);have hlt1:w.heap.size<w1.heap.size:=(Array.getElem?_eq_some_iff.1 HBXr.out).1;have c0:=ai (k:=0) HBXr.out;have c1:=ai (k:=1) HBXr.out
   have c2:=ai (k:=2) HBXr.out;have c3:=ai (k:=3) HBXr.out;have c4:=ai (k:=4) HBXr.out;have c5:=ai (k:=5) HBXr.out;simp only[eB]at c0 c1 c2 c3 c4 c5;clear hb1 HBX
   by_cases hk1:en.kind=1
   ·have e1:(en.kind == 1)=true:=by simp[hk1]
    have HK:=aa (show dZ en=(decide (en.data.length<=1048576) && decide (en.link.size=0)) by unfold dZ; rw[if_pos hk1]);clear hk1;go_wp2_with fail
    ·go_ret;refine⟨au ?_,HB1.out⟩;rw[HH.out,HK.out,HL.out,decide_eq_true (p:=en.data.length<=1048576) (by omega)]
     rfl
    ·go_ret;refine⟨au ?_,HB1.out⟩;rw[HH.out,HK.out,decide_eq_false (p:=en.data.length<=1048576) (by omega)]
     rfl
   ·have e1:(en.kind == 1)=false:=by simp[hk1]
    by_cases hk2:en.kind=2
    ·have e2:(en.kind == 2)=true:=by simp[hk2]
     have HK:=aa (show dZ en=(decide (en.data.length=0) && decide (en.link.size=0)) by unfold dZ; rw[if_neg hk1,if_pos hk2]);clear hk1 hk2;go_wp2_with fail
     ·go_ret;refine⟨au ?_,HB1.out⟩;rw[HH.out,HK.out,HL.out,decide_eq_true (p:=en.data.length=0) (by rw[show en.data=[] by assumption]; rfl)]
      rfl
     ·go_ret;refine⟨au ?_,HB1.out⟩;rw[HH.out,HK.out,decide_eq_false (p:=en.data.length=0) (fun h=>absurd (List.eq_nil_of_length_eq_zero h) (by assumption))]
      rfl
    ·have e2:(en.kind == 2)=false:=by simp[hk2]
     by_cases hk3:en.kind=3
     ·have e3:(en.kind == 3)=true:=by simp[hk3]
      have HK:=aa (show dZ en=(decide (en.data.length=0) && iQ (bl en.link)) by unfold dZ; rw[if_neg hk1,if_neg hk2,if_pos hk3]);clear hk1 hk2 hk3;go_wp2_with (go_at_call 99; refine(qj en.link _ HO.out.lnk).mono ?_; rintro e w3 ⟨rfl,rfl⟩)
      ·go_ret;refine⟨au ?_,HB1.out⟩;rw[HH.out,HK.out,decide_eq_true (p:=en.data.length=0) (by rw[show en.data=[] by assumption]; rfl)]
       rfl
      ·go_ret;refine⟨au ?_,HB1.out⟩;rw[HH.out,HK.out,decide_eq_false (p:=en.data.length=0) (fun h=>absurd (List.eq_nil_of_length_eq_zero h) (by assumption))]
       rfl
     ·have e3:(en.kind == 3)=false:=by simp[hk3]
      have HK:=aa (show dZ en=false by unfold dZ; rw[if_neg hk1,if_neg hk2,if_neg hk3]);clear hk1 hk2 hk3;go_wp2_with fail;go_ret;exact⟨au (by rw[HH.out,HK.out]),HB1.out⟩
  ·have HF:=aa (show bW en=false by
    have:gZ en=false:=by
     unfold gZ; rw[Bool.eq_false_iff]; simp; omega
    unfold bW; rw[this]; simp)
   go_enter Tryz.func64,Tryz.ntmps64
   go_wp2_with fail;obtain⟨W,hW⟩: ∃W,W=w.alloc (.cells #[.string en.path, .int .i64 en.kind, .int .i64 en.mode, .int .i64 en.time, .slice a en.data.length cap, .string en.link] 30):=⟨_,rfl⟩;rw[<-hW];have HBW:=aa (show Below w.heap.size w W by rw[hW]; exact(Below.refl _ _).alloc (Nat.le_refl _) _);have HBX:=aa (show W.heap[w.heap.size]? =some (.cells #[.string en.path, .int .i64 en.kind, .int .i64 en.mode, .int .i64 en.time, .slice a en.data.length cap, .string en.link] 30 (0,0)) by rw[hW]; exact heap_alloc_new w _)
   clear hW;refine(lc en.path true _ (HE.out.below HBW.out) HVP.out).mono ?_;rintro e w1 ⟨rfl,hb1⟩;have HBXr:=aa ((hb1.block w.heap.size ((Array.getElem?_eq_some_iff.1 HBX.out).1)).trans HBX.out);have HB1:=aa (ag HBW.out hb1);have hlt1:w.heap.size<w1.heap.size:=(Array.getElem?_eq_some_iff.1 HBXr.out).1;have c0:=ai (k:=0) HBXr.out;have c1:=ai (k:=1) HBXr.out
   have c2:=ai (k:=2) HBXr.out;have c3:=ai (k:=3) HBXr.out;have c4:=ai (k:=4) HBXr.out;have c5:=ai (k:=5) HBXr.out;simp only[eB]at c0 c1 c2 c3 c4 c5;clear hb1 HBX;go_wp2_with fail
   all_goals first
    | (exfalso; omega)
    | (go_ret; exact⟨au (by rw[HF.out]),HB1.out⟩)
theorem yl (S:Nat->Prop) (v:Value) (bs:List UInt8) (w:World) (hd:cl S w v bs) (hl:bs.length<=140737488355328):Calls Tryz.prog 146 #[v] w fun e w'=> ∃v',e= .returned v'/\w'.ownsRow w.heap.size 5 1 v' bs.length (bs.map u8V)/\Below w.heap.size w w':=by
 obtain⟨_,a,cap,rfl,hn,hm,h0⟩:=hd
 cases a with
 | none=>
  have hz:bs.length=0:=by
   rcases h0 with h0 | ⟨b,o,ha,_⟩
   ·exact h0
   ·cases ha
  obtain rfl:=List.eq_nil_of_length_eq_zero hz;refine(Any.bytes_Clone_nil Tryz.laysClone _ _ w).mono ?_;rintro e w' ⟨rfl,rfl⟩;exact⟨_,rfl,World.ownsRow_nil _ _ _ _,Below.refl _ _⟩
 | some a=>
  refine(Any.bytes_Clone_at Tryz.laysClone a bs.length cap (bs.map fun b=>(b.toNat:Int)) w (by simp) hl ?_).mono ?_
  ·intro i hi
   rcases h0 with h0 | ⟨b,o,ha,_,hc⟩
   ·omega
   ·cases ha
    rw[rN];refine hc i _ ?_;simp[hi,u8V]
  ·rintro e w' ⟨v',rfl,h1,_,h2⟩;refine⟨v',rfl, ?_,h2⟩;rw[List.map_map]at h1;exact h1
theorem bP {w:World} {base base' size n:Nat} {e:TypeId} {v:Value} {xs:List Value} (h:w.ownsRow base e size v n xs) (hb:base'<=base):w.ownsRow base' e size v n xs:=
 ⟨h.1,h.2.imp id (fun⟨g,cap,cur,e1,h1,h2⟩=>⟨g,cap,cur,e1,Nat.le_trans hb h1,h2⟩)⟩
theorem tN {w:World} {b k:Nat} {cs:Array Value} {t:TypeId} (h:w.heap[b]? =some (.cells cs t (0,0))):w.frozen? ⟨b,k,none⟩=false:=by simp[World.frozen?,h]
theorem Ee {w:World} {b k:Nat} {cs:Array Value} {t:TypeId} (h:w.heap[b]? =some (.cells cs t (0,0))) (x:Value):(w.setCell ⟨b,k,none⟩ x).heap[b]? =some (.cells (cs.setIfInBounds k x) t (0,0)):=by
 simp only[World.setCell,Array.getElem?_modify,if_true,h,Option.map_some]; rfl
theorem px {w:World} {b c k:Nat} {o:Obj} (h:w.heap[b]? =some o) (hne:b≠c) (x:Value):(w.setCell ⟨c,k,none⟩ x).heap[b]? =some o:=by
 rw[Below.heap_setCell _ _ _ _ hne]; exact h
theorem gb {w:World} {b:Nat} {o:Obj} (h:w.heap[b]? =some o) (x:Obj):(w.alloc x).heap[b]? =some o:=by
 have hlt:=(Array.getElem?_eq_some_iff.1 h).1;rw[Below.heap_alloc _ _ _ hlt]; exact h
theorem dY (w:World) (x:Obj):(w.alloc x).heap[w.heap.size]? =some x:=by show(w.heap.push x)[w.heap.size]? =some x; simp
theorem wh (w:World) (x y:Obj):((w.alloc x).alloc y).heap[w.heap.size+1]? =some y:=by
 have:=dY (w.alloc x) y
 rwa [show(w.alloc x).heap.size=w.heap.size+1 by show(w.heap.push x).size=_; simp]at this
theorem eS {w:World} {b:Nat} {o:Obj} (h:w.heap[b]? =some o):b<w.heap.size:=(Array.getElem?_eq_some_iff.1 h).1
theorem tk (a:Option Addr) (c:Nat) (w:World):(convert 28 9 (.slice a 0 c)).run Tryz.prog w= .ok (.string ⟨#[]⟩) w:=by cases a<;> kernel_rfl
theorem ym {S:Nat->Prop} {w:World} {v:Value} {bs:List UInt8} (hd:cl S w v bs):(convert 28 9 v).run Tryz.prog w= .ok (.string (strOfNums (bs.map fun b=>(b.toNat:Int)))) w:=by
 obtain⟨_,a,cap,rfl,hn,hm,h0⟩:=hd
 rcases h0 with h0 | ⟨b,o,rfl,_,hc⟩
 ·obtain rfl:=List.eq_nil_of_length_eq_zero h0;exact tk a cap w
 ·exact run_convert_bytes_arg (P:=Tryz.prog) w 28 5 Tryz.underlying28 Tryz.underlying5 b o bs.length cap (bs.map fun b=>(b.toNat:Int)) (by simp) (fun i hi=>by
   rw[hc i (u8V bs[i]) (by simp[hi])];simp[u8V,List.getD,hi]) 9 Tryz.underlying9
open Go.RowKit Go.Maps
theorem fK (p q:ByteArray) (w:World) (he:jl w) (hv:bB (bl p)=true) (hq:q=⟨(aS (bl p)).toArray⟩):
  Calls Tryz.prog 66 #[.string p] w fun e w'=>e= .returned (.tuple #[.string q, .bool true])/\Below w.heap.size w w':=by
 rw[hq]; exact wn p w he hv
theorem gN (q:ByteArray):q.toList.isEmpty=decide (bl q=[]):=by rw[bA,Bool.eq_iff_iff]; simp
theorem ku (S:Nat->Prop) (en:bu) (v:Value) (b:Bool) (w:World) (hd:cl S w v en.data) (hok:jk en) (henv:jl w) (h:bW en=b):Calls Tryz.prog 64 #[ox v en] w fun e w'=>e= .returned (.bool b)/\Below w.heap.size w w':=by
 rw[<-h]; exact wY S en v w hd hok henv
open Go Go.RowKit Go.Maps
theorem Tryz.appEnts :cJ Tryz.prog 45 30 6 80:=cJ.mk' (z:=EX) Tryz.underlying45 (by kernel_rfl) rfl (by decide) (by decide)
def kA (ys:List vq):List Value:=ys.flatMap fun y=>iH y.1 y.2
theorem kO (ys:List vq) (y:vq):kA (ys++[y])=kA ys++iH y.1 y.2:=by simp[kA]
theorem tF {a:Option Addr} {n c:Nat} {e:bu} : ∀u∈iH (.slice a n c) e,u.oneCell'=true:=by
 intro u hu;simp only[iH,List.mem_cons,List.not_mem_nil,or_false]at hu
 rcases hu with rfl | rfl | rfl | rfl | rfl | rfl<;> rfl
theorem oy {S:Nat->Prop} {w:World} : ∀ {ys:List vq},(∀y∈ys,cl S w y.1 y.2.data/\jk y.2)->bo (kJ S w) (kA ys) (ys.map Prod.snd)
 | [],_=>rfl
 | y::ys,h=>⟨iH y.1 y.2,kA ys,by simp[kA],⟨y.1,rfl,h y (by simp)⟩,oy (fun z hz=>h z (by simp[hz]))⟩
theorem cl.slice {S:Nat->Prop} {w:World} {v:Value} {bs:List UInt8} (h:cl S w v bs): ∃a c,v= .slice a bs.length c/\bs.length<=c/\c<=maxLen:=by
 obtain⟨_,a,c,rfl,h1,h2,_⟩:=h;exact⟨a,c,rfl,h1,h2⟩
theorem aT {w w':World} {B n sz:Nat} {e:TypeId} {v:Value} {xs:List Value} (h:w.ownsRow B e sz v n xs) (hb:Below w.heap.size w w'):w'.ownsRow B e sz v n xs:=by
 refine h.kept (row:=none) ⟨hb.os,hb.tape,hb.output,hb.size,fun k hk _=>hb.block k hk⟩ ?_
 cases hv:v.ownBlock
 ·exact .inl rfl
 ·exact .inr (by simp)
end Go.Proofs.YtnjkpcalgoefhaaGreatDoor
namespace Go.Proofs.YtnjkpcalgoefhaaGreatDoor
open Go.RowKit Go.Maps
theorem qp : ∀ {m pre:List bu} (r:List bu),Tr (pre++m)->gU pre (m++r)=gU (pre++m) r
 | [],pre,r,_=>by simp
 | e::m,pre,r,h=>by
  have h1:Tr (pre++[e]):=Tr.pre (M:=m) (by simpa using h);have h2:=(js h1.pre e).2 h1;have h3:=qp (m:=m) (pre:=pre++[e]) r (by simpa using h);rw[List.cons_append,gU,if_pos h2,h3];simp
theorem sY {L:List bu} (hl:L.length<=4096) {k:Nat} (h:Tr (L.take k)):bZ L=gU (L.take k) (L.drop k):=by
 have h1:=qp (m:=L.take k) (pre:=[]) (L.drop k) (by simpa using h);rw[List.take_append_drop,List.nil_append]at h1;unfold bZ;rw[if_neg (by omega),h1]
theorem fg {α:Type} {L:List α} {k:Nat} {e:α} (h:L[k]? =some e):L.drop k=e::L.drop (k+1):=by
 obtain⟨h1,h2⟩:=List.getElem?_eq_some_iff.1 h;rw[List.drop_eq_getElem_cons h1,h2]
theorem dg {L:List bu} (hl:L.length<=4096) {k:Nat} (h:Tr (L.take k)) {e:bu} (he:L[k]? =some e) {x:Int} (hx:bM (L.take k) e=x) (h0:x≠0):bZ L=x:=by
 rw[sY hl h,fg he,gU,hx,if_neg h0]
theorem ff {L:List bu} {k:Nat} (h:Tr (L.take k)) {e:bu} (he:L[k]? =some e) (hx:bM (L.take k) e=0):Tr (L.take (k+1)):=by
 rw[List.take_add_one,he];exact(js h e).1 hx
theorem nT {L:List bu} (hl:L.length<=4096) (h:Tr (L.take L.length)):bZ L=0:=by
 rw[sY hl h,List.drop_length]; rfl
theorem qq {L:List bu} (hl:4096<L.length):bZ L=2:=by unfold bZ; rw[if_pos hl]
def oK (e:bu):Value×Value:=(.string e.path, .int .i64 e.kind)
theorem iv :Tryz.prog.underlying 131=some (.map 9 3):=Tryz.underlying131
theorem wg (w:World) (n:Nat) (hn:n<=4096):(Instr.makeMap 131 (some (.int .i64 (n:Int)))).run Tryz.prog w= .ok (.map (some w.heap.size)) (w.alloc (.map #[] 0)):=by
 have h1:IntKind.i64.wrap (n:Int)=n:=by rw[IntKind.wrap_i64]; omega
 simp[Instr.makeMap,asInt,asIntOf]
theorem kh {w:World} {mb:Nat} {M:List bu} (h:dQ Tryz.prog 9 w mb (M.map oK)) {p:ByteArray} (hp:p.size<=maxLen) {f:bu} (hf:dW M p=some f):
  (Instr.lookup 131 (.map (some mb)) (.string p) true).run Tryz.prog w= .ok (.tuple #[.int .i64 f.kind, .bool true]) w:=by
 obtain⟨h1,h2⟩:=kP hf;have h3:(Value.string p,Value.int .i64 f.kind)∈M.map oK:=List.mem_map.2 ⟨f,h1,by rw[<-h2]; rfl⟩;have:=h.is.hit cX iv (dr hp) h3 true
 simpa only[if_true]using this
theorem oL {w:World} {mb:Nat} {M:List bu} (h:dQ Tryz.prog 9 w mb (M.map oK)) {p:ByteArray} (hp:p.size<=maxLen) (hf:dW M p=none):
  (Instr.lookup 131 (.map (some mb)) (.string p) true).run Tryz.prog w= .ok (.tuple #[.int .i64 0, .bool false]) w:=by
 have hz:(zeroValue 3).run Tryz.prog w= .ok (.int .i64 0) w:=by kernel_rfl
 have:=h.is.miss cX iv hz (dr hp) (fun q hq e=>by
  obtain⟨x,hx,rfl⟩:=List.mem_map.1 hq;simp only[oK,Value.string.injEq]at e;exact oE hf x hx e) true
 simpa only[if_true]using this
theorem ki {M:List bu} {e:bu} (h:Tr (M++[e])): ∀q∈M.map oK,q.1≠Value.string e.path:=by
 intro q hq hc;obtain⟨x,hx,rfl⟩:=List.mem_map.1 hq;simp only[oK,Value.string.injEq]at hc;have hn:=h.ord.nodup;rw[List.map_append,List.nodup_append]at hn;exact hn.2.2 x.path (List.mem_map.2 ⟨x,hx,rfl⟩) e.path (by simp) hc
theorem iq (a b:ByteArray) (o:Int) (w:World) (ha:a.size<=maxLen) (h:bV (bl a) (bl b)=o):Calls Tryz.prog 65 #[.string a, .string b] w fun e w'=>e= .returned (.int .i64 o)/\Below w.heap.size w w':=by
 rw[<-h]; exact ti a b w (by unfold maxLen at ha; omega)
theorem sS {L:List bu} {k:Nat} {f e:bu} (hf:L[k]? =some f):gt (L.take (k+1)) e=decide (bV (bl f.path) (bl e.path)<0):=by
 have:(L.take (k+1)).getLast? =some f:=by rw[List.take_add_one,hf]; simp
 unfold gt;rw[this]; rfl
def Eh (L:List bu) (mb:Nat) (w:World) (k:Nat) (wr:World):Prop:=Tr (L.take k)/\dQ Tryz.prog 9 wr mb ((L.take k).map oK)/\Below w.heap.size w wr
theorem yk (S:Nat->Prop) (L:List bu) (v:Value) (w:World) (hv:bR S w v L) (henv:jl w):Calls Tryz.prog 34 #[v] w fun e w'=>e= .returned (.int .i64 (bZ L))/\Below w.heap.size w w':=by
 have HV:=aa hv;have HE:=aa henv;obtain⟨a,cap,rfl,hc,hm,-⟩:=aY.shape hv kJ.len;unfold maxLen at hm;obtain⟨n,hn⟩: ∃n,n=L.length:=⟨_,rfl⟩;have HN:=aa hn;rw[<-hn]at hc HV ⊢;clear hv henv
 by_cases hbig:4096<n
 ·have hbi:(4096:Int)<(n:Int):=by omega
  have HC:=aa (qq (by rw[<-hn]; exact hbig));clear hbig hn
  go_enter Tryz.func34,Tryz.ntmps34
  go_wp2_with fail;go_ret;exact⟨bp (by rw[HC.out]),Below.refl _ _⟩
 ·have hbi:(n:Int)<=(4096:Int):=by omega
  have hmk:=wg w n (by omega);have HL4:=aa (show L.length<=4096 by omega);clear hbig hn
  go_enter Tryz.func34,Tryz.ntmps34
  go_wp2_with fail;obtain⟨W0,hW0⟩: ∃W0,W0=w.alloc (.map #[] 0):=⟨_,rfl⟩;rw[<-hW0];have HM0:=aa (show dQ Tryz.prog 9 W0 w.heap.size [] by rw[hW0]; exact dQ.made w);have HB0:=aa (show Below w.heap.size w W0 by rw[hW0]; exact(Below.refl _ _).alloc (Nat.le_refl _) _);clear hW0;clear hmk
  go_loopw [18] (fun i wr=> ∃k:Nat,k<=n/\i= .int .i64 k/\Eh L w.heap.size w k wr) (fun i _=>n-(intOf i).toNat)
  case atStart=>exact⟨0,Nat.zero_le _,rfl,⟨List.Pairwise.nil,by simp,by simp⟩,HM0.out,HB0.out⟩
  case round=>
   obtain⟨k,hk,rfl,htr,hkm,hbr⟩:=hrel;have HTR:=aa htr;have HKM:=aa hkm;have HBR:=aa hbr;clear htr hkm hbr
   by_cases hlt:k<n
   ·obtain⟨e,he⟩: ∃e,L[k]? =some e:=⟨L[k]'(by rw[<-HN.out]; exact hlt),by simp⟩;obtain⟨b,o,dv,rfl,-,hb,hd,hok,-,q0,q1,q2,q3,q4,q5⟩:=iI (HV.out.below HBR.out) he;have HAT:=aa he;have HD:=aa hd;have HOK:=aa hok;obtain⟨a1,cap1,rfl,hd1,hd2⟩:=hd.slice;unfold maxLen at hd2;clear he hd hok
    cases hve:bW e
    ·have HVE:=aa hve;have HCA:=aa (show bM (L.take k) e=1 by unfold bM; rw[hve]; rfl);clear hve;go_wp2_with fail;obtain⟨W,hW⟩: ∃W,W=wr.alloc (.cells #[.string e.path, .int .i64 e.kind, .int .i64 e.mode, .int .i64 e.time, .slice a1 e.data.length cap1, .string e.link] 30):=⟨_,rfl⟩;rw[<-hW];have HX:=aa (show W.heap[wr.heap.size]? =some (.cells #[.string e.path, .int .i64 e.kind, .int .i64 e.mode, .int .i64 e.time, .slice a1 e.data.length cap1, .string e.link] 30 (0,0)) by rw[hW]; exact dY wr _)
     have HWL:=aa (show Below wr.heap.size wr W by rw[hW]; exact(Below.refl _ _).alloc (Nat.le_refl _) _);have HBW:=aa (ag HBR.out HWL.out);clear hW;refine(ku S e _ false _ (HD.out.below HWL.out) HOK.out (HE.out.below HBW.out) HVE.out).mono ?_;rintro e7 w7 ⟨rfl,hb7⟩;have HB9:=aa (ag HBW.out hb7);clear hb7;go_wp2_with fail;go_ret;exact⟨bp (by rw[dg HL4.out HTR.out HAT.out (x:=1) HCA.out (by decide)]),HB9.out⟩
    ·have HVE:=aa hve;obtain⟨q,hq⟩: ∃q:ByteArray,q=⟨(aS (bl e.path)).toArray⟩:=⟨_,rfl⟩;have HBQ:=aa (show bl q=aS (bl e.path) by rw[hq]; exact io _);have HQ:=aa hq;have HQS:=aa (show q.size<=maxLen by
      have h1:=gD (bY hve);have h2:=pI (bY hve);rw[am,HBQ.out]; unfold maxLen; omega)
     clear hve hq
     rcases Nat.eq_zero_or_pos k with hk0 | hk0
     ·have e9:decide (0<k)=false:=by simp; omega
      have e8:(k:Int)<=0:=by omega
      have HCV:=aa (show(bW e && gt (L.take k) e)=true by rw[hk0,HVE.out]; rfl);clear hk0;go_wp2_with fail;obtain⟨W,hW⟩: ∃W,W=wr.alloc (.cells #[.string e.path, .int .i64 e.kind, .int .i64 e.mode, .int .i64 e.time, .slice a1 e.data.length cap1, .string e.link] 30):=⟨_,rfl⟩;rw[<-hW];have HX:=aa (show W.heap[wr.heap.size]? =some (.cells #[.string e.path, .int .i64 e.kind, .int .i64 e.mode, .int .i64 e.time, .slice a1 e.data.length cap1, .string e.link] 30 (0,0)) by rw[hW]; exact dY wr _)
      have HWL:=aa (show Below wr.heap.size wr W by rw[hW]; exact(Below.refl _ _).alloc (Nat.le_refl _) _);have HBW:=aa (ag HBR.out HWL.out);clear hW;refine(ku S e _ true _ (HD.out.below HWL.out) HOK.out (HE.out.below HBW.out) HVE.out).mono ?_;rintro e7 w7 ⟨rfl,hb7⟩;have HX7:=aa ((hb7.block wr.heap.size (eS HX.out)).trans HX.out);have HL7:=aa (HWL.out.trans (hb7.mono HWL.out.size))
      have c0:=ai (k:=0) HX7.out;have c1:=ai (k:=1) HX7.out;have c2:=ai (k:=2) HX7.out;have c3:=ai (k:=3) HX7.out;have c4:=ai (k:=4) HX7.out;have c5:=ai (k:=5) HX7.out;simp only[eB]at c0 c1 c2 c3 c4 c5;clear hb7;go_wp2_with fail;refine aw [some 11,none,some 2] (by kernel_rfl) (by kernel_rfl) (by kernel_rfl) ?_;simp only[bq,List.take_succ_cons,List.take_zero,List.drop_succ_cons,List.drop_zero]
      obtain⟨wd,hwd⟩: ∃wd:World,wd=w7.drew:=⟨_,rfl⟩;rw[<-hwd];have HLD:=aa (show Below wr.heap.size wr wd by rw[hwd]; exact HL7.out.trans ((Below.refl w7.heap.size w7).drew.mono HL7.out.size));have HXD:=aa (show wd.heap[wr.heap.size]? =some (.cells #[.string e.path, .int .i64 e.kind, .int .i64 e.mode, .int .i64 e.time, .slice a1 e.data.length cap1, .string e.link] 30 (0,0)) by rw[hwd]; exact HX7.out)
      clear hwd c0 c1 c2 c3 c4 c5;have c0:=ai (k:=0) HXD.out;have c1:=ai (k:=1) HXD.out;have c2:=ai (k:=2) HXD.out;have c3:=ai (k:=3) HXD.out;have c4:=ai (k:=4) HXD.out;have c5:=ai (k:=5) HXD.out;simp only[eB]at c0 c1 c2 c3 c4 c5
      repeat (first | (refine az rfl ?_; simp only[Act.put,aD,aE,aF]) | (refine aI rfl (fun K hK=> ?_); go_simp; refine hK _ ?_; clear hK K))
      refine aH ?_;refine im rfl ?_;simp only[Act.put,aD,aE,aF]
      repeat (first | (refine az rfl ?_; simp only[Act.put,aD,aE,aF]) | (refine aI rfl (fun K hK=> ?_); go_simp; refine hK _ ?_; clear hK K))
      refine aH ?_;clear c0 c1 c2 c3 c4 c5;have HL8:=aa HLD.out;have HX8:=aa HXD.out;have HB8:=aa (ag HBR.out HLD.out);have c0:=ai (k:=0) HX8.out;have c1:=ai (k:=1) HX8.out;have c2:=ai (k:=2) HX8.out;have c3:=ai (k:=3) HX8.out;have c4:=ai (k:=4) HX8.out;have c5:=ai (k:=5) HX8.out;simp only[eB]at c0 c1 c2 c3 c4 c5;go_wp2_with fail
      by_cases h0:aS (bl e.path)=[]
      ·have e1:q.toList.isEmpty=true:=by rw[gN,HBQ.out,decide_eq_true h0]
       have HTN:=aa (ff HTR.out HAT.out (show bM (L.take k) e=0 by unfold bM; rw[if_pos HCV.out]; unfold gc; rw[if_pos h0]));clear h0;refine(fK e.path q _ (HE.out.below HB8.out) (bY HVE.out) HQ.out).mono ?_;rintro e9 w9 ⟨rfl,hb9⟩;have HL9:=aa (HL8.out.trans (hb9.mono HL8.out.size));have HB9:=aa (ag HB8.out hb9);have HX9:=aa ((hb9.block wr.heap.size (eS HX8.out)).trans HX8.out)
       have HK9:=aa (HKM.out.same (HL9.out.block w.heap.size HKM.out.lt));clear hb9;have c0:=ai (k:=0) HX9.out;have c1:=ai (k:=1) HX9.out;have c2:=ai (k:=2) HX9.out;have c3:=ai (k:=3) HX9.out;have c4:=ai (k:=4) HX9.out;have c5:=ai (k:=5) HX9.out;simp only[eB]at c0 c1 c2 c3 c4 c5;go_wp2_with (at_mapUpdate; go_must (refine fN cX rfl _ _ _ _ rfl iv w.heap.size _ HK9.out rfl (.string e.path) (.int .i64 e.kind) rfl rfl (dr HOK.out.pth) (ki (by have h1:=HTN.out; rw[List.take_add_one,HAT.out]at h1; exact h1)) ?_); intro w10 hm10 hg10)
       have HM10:=aa hm10;have HG10:=aa hg10;clear hm10 hg10 c0 c1 c2 c3 c4 c5;go_wp2_with fail
       go_roundw
       case rel=>
        refine⟨k+1,by omega,by go_num,HTN.out, ?_, ?_⟩
        ·rw[List.take_add_one,HAT.out,List.map_append]; exact HM10.out
        ·exact HB9.out.grown HG10.out HB9.out.size (fun k e=>by cases e; exact Nat.le_refl _)
       case measure=>simp[intOf]; omega
      ·have e1:q.toList.isEmpty=false:=by rw[gN,HBQ.out,decide_eq_false h0]
       have HDI:=aa (show ∀x,(match dW (L.take k) q with | none=>(4:Int) | some f=>if f.kind=2 then 0 else 13)=x->bM (L.take k) e=x from fun x hx=>by unfold bM; rw[if_pos HCV.out]; unfold gc; rw[if_neg h0,<-HQ.out]; exact hx);clear h0
       cases hf:dW (L.take k) q with
       | none=>
        have HF:=aa hf;have HCA:=aa (HDI.out 4 (by rw[hf]));clear hf;refine(fK e.path q _ (HE.out.below HB8.out) (bY HVE.out) HQ.out).mono ?_;rintro e9 w9 ⟨rfl,hb9⟩;have HL9:=aa (HL8.out.trans (hb9.mono HL8.out.size));have HB9:=aa (ag HB8.out hb9);have HX9:=aa ((hb9.block wr.heap.size (eS HX8.out)).trans HX8.out);have HK9:=aa (HKM.out.same (HL9.out.block w.heap.size HKM.out.lt))
        clear hb9;have c0:=ai (k:=0) HX9.out;have c1:=ai (k:=1) HX9.out;have c2:=ai (k:=2) HX9.out;have c3:=ai (k:=3) HX9.out;have c4:=ai (k:=4) HX9.out;have c5:=ai (k:=5) HX9.out;simp only[eB]at c0 c1 c2 c3 c4 c5;have hlk:=oL HK9.out HQS.out HF.out;go_wp2_with fail;go_ret;exact⟨bp (by rw[dg HL4.out HTR.out HAT.out (x:=4) HCA.out (by decide)]),HB9.out⟩
       | some f=>
        have HF:=aa hf
        by_cases hk2:f.kind=2
        ·have e3:(f.kind != 2)=false:=by simp[hk2]
         have HTN:=aa (ff HTR.out HAT.out (HDI.out 0 (by rw[hf]; simp only[if_pos hk2])));clear hf hk2;refine(fK e.path q _ (HE.out.below HB8.out) (bY HVE.out) HQ.out).mono ?_;rintro e9 w9 ⟨rfl,hb9⟩;have HL9:=aa (HL8.out.trans (hb9.mono HL8.out.size));have HB9:=aa (ag HB8.out hb9);have HX9:=aa ((hb9.block wr.heap.size (eS HX8.out)).trans HX8.out);have HK9:=aa (HKM.out.same (HL9.out.block w.heap.size HKM.out.lt))
         clear hb9;have c0:=ai (k:=0) HX9.out;have c1:=ai (k:=1) HX9.out;have c2:=ai (k:=2) HX9.out;have c3:=ai (k:=3) HX9.out;have c4:=ai (k:=4) HX9.out;have c5:=ai (k:=5) HX9.out;simp only[eB]at c0 c1 c2 c3 c4 c5;have hlk:=kh HK9.out HQS.out HF.out;go_wp2_with (at_mapUpdate; go_must (refine fN cX rfl _ _ _ _ rfl iv w.heap.size _ HK9.out rfl (.string e.path) (.int .i64 e.kind) rfl rfl (dr HOK.out.pth) (ki (by have h1:=HTN.out; rw[List.take_add_one,HAT.out]at h1; exact h1)) ?_); intro w10 hm10 hg10)
         have HM10:=aa hm10;have HG10:=aa hg10;clear hm10 hg10 c0 c1 c2 c3 c4 c5;go_wp2_with fail
         go_roundw
         case rel=>
          refine⟨k+1,by omega,by go_num,HTN.out, ?_, ?_⟩
          ·rw[List.take_add_one,HAT.out,List.map_append]; exact HM10.out
          ·exact HB9.out.grown HG10.out HB9.out.size (fun k e=>by cases e; exact Nat.le_refl _)
         case measure=>simp[intOf]; omega
        ·have e3:(f.kind != 2)=true:=by simp[hk2]
         have HCA:=aa (HDI.out 13 (by rw[hf]; simp only[if_neg hk2]));clear hf hk2;refine(fK e.path q _ (HE.out.below HB8.out) (bY HVE.out) HQ.out).mono ?_;rintro e9 w9 ⟨rfl,hb9⟩;have HL9:=aa (HL8.out.trans (hb9.mono HL8.out.size));have HB9:=aa (ag HB8.out hb9);have HX9:=aa ((hb9.block wr.heap.size (eS HX8.out)).trans HX8.out);have HK9:=aa (HKM.out.same (HL9.out.block w.heap.size HKM.out.lt))
         clear hb9;have c0:=ai (k:=0) HX9.out;have c1:=ai (k:=1) HX9.out;have c2:=ai (k:=2) HX9.out;have c3:=ai (k:=3) HX9.out;have c4:=ai (k:=4) HX9.out;have c5:=ai (k:=5) HX9.out;simp only[eB]at c0 c1 c2 c3 c4 c5;have hlk:=kh HK9.out HQS.out HF.out;go_wp2_with fail;go_ret;exact⟨bp (by rw[dg HL4.out HTR.out HAT.out (x:=13) HCA.out (by decide)]),HB9.out⟩
     ·obtain⟨j,rfl⟩: ∃j,k=j+1:=⟨k-1,by omega⟩;obtain⟨f,hf⟩: ∃f,L[j]? =some f:=⟨L[j]'(by rw[<-HN.out]; omega),by simp⟩;obtain⟨b',o',dv',he',-,-,-,hokf,-,p0,-⟩:=iI (HV.out.below HBR.out) hf;simp only[Option.some.injEq,Addr.mk.injEq,and_true]at he';obtain⟨rfl,rfl⟩:=he';have HPF:=aa hokf.pth;obtain⟨c,hc⟩: ∃c,bV (bl f.path) (bl e.path)=c:=⟨_,rfl⟩
      have HC:=aa hc;have e9:decide (0<j+1)=true:=by simp
      have hjn:j<n:=by omega
      have hjn2:(j:Int)<(n:Int):=by omega
      have hjn3:decide (j<n)=true:=by simp; omega
      have hwj:IntKind.i64.wrap (j:Int)=j:=by rw[IntKind.wrap_i64]; omega
      have HAF:=aa (show gt (L.take (j+1)) e=decide (c<0) by rw[sS hf,hc]);clear hf hokf hc hk0
      by_cases hneg:c<0
      ·have HCV:=aa (show(bW e && gt (L.take (j+1)) e)=true by rw[HVE.out,HAF.out,decide_eq_true hneg]; rfl);have e8:decide (0<=c)=false:=by simp; omega
       go_wp2_with fail;obtain⟨W,hW⟩: ∃W,W=wr.alloc (.cells #[.string e.path, .int .i64 e.kind, .int .i64 e.mode, .int .i64 e.time, .slice a1 e.data.length cap1, .string e.link] 30):=⟨_,rfl⟩;rw[<-hW];have HX:=aa (show W.heap[wr.heap.size]? =some (.cells #[.string e.path, .int .i64 e.kind, .int .i64 e.mode, .int .i64 e.time, .slice a1 e.data.length cap1, .string e.link] 30 (0,0)) by rw[hW]; exact dY wr _)
       have HWL:=aa (show Below wr.heap.size wr W by rw[hW]; exact(Below.refl _ _).alloc (Nat.le_refl _) _);have HBW:=aa (ag HBR.out HWL.out);clear hW;refine(ku S e _ true _ (HD.out.below HWL.out) HOK.out (HE.out.below HBW.out) HVE.out).mono ?_;rintro e7 w7 ⟨rfl,hb7⟩;have HX7:=aa ((hb7.block wr.heap.size (eS HX.out)).trans HX.out);have HL7:=aa (HWL.out.trans (hb7.mono HWL.out.size))
       have c0:=ai (k:=0) HX7.out;have c1:=ai (k:=1) HX7.out;have c2:=ai (k:=2) HX7.out;have c3:=ai (k:=3) HX7.out;have c4:=ai (k:=4) HX7.out;have c5:=ai (k:=5) HX7.out;simp only[eB]at c0 c1 c2 c3 c4 c5;clear hb7;go_wp2_with fail;refine aw [some 11,none,some 2] (by kernel_rfl) (by kernel_rfl) (by kernel_rfl) ?_;simp only[bq,List.take_succ_cons,List.take_zero,List.drop_succ_cons,List.drop_zero]
       obtain⟨wd,hwd⟩: ∃wd:World,wd=w7.drew:=⟨_,rfl⟩;rw[<-hwd];have HLD:=aa (show Below wr.heap.size wr wd by rw[hwd]; exact HL7.out.trans ((Below.refl w7.heap.size w7).drew.mono HL7.out.size));have HXD:=aa (show wd.heap[wr.heap.size]? =some (.cells #[.string e.path, .int .i64 e.kind, .int .i64 e.mode, .int .i64 e.time, .slice a1 e.data.length cap1, .string e.link] 30 (0,0)) by rw[hwd]; exact HX7.out)
       clear hwd c0 c1 c2 c3 c4 c5;have c0:=ai (k:=0) HXD.out;have c1:=ai (k:=1) HXD.out;have c2:=ai (k:=2) HXD.out;have c3:=ai (k:=3) HXD.out;have c4:=ai (k:=4) HXD.out;have c5:=ai (k:=5) HXD.out;simp only[eB]at c0 c1 c2 c3 c4 c5;have y0:=(HLD.out.cell (ay p0)).trans p0
       repeat (first | (refine az rfl ?_; simp only[Act.put,aD,aE,aF]) | (refine aI rfl (fun K hK=> ?_); go_simp; refine hK _ ?_; clear hK K))
       refine aH ?_;refine bw rfl (fun K hK=> ?_);go_wp2_with (go_at_call 65; refine(iq f.path e.path c _ HPF.out HC.out).mono ?_; rintro e8' w8 ⟨rfl,hb8⟩; have HL8:=aa (HLD.out.trans (hb8.mono HLD.out.size)); have HX8:=aa ((hb8.block wr.heap.size (eS HXD.out)).trans HXD.out); clear hb8 c0 c1 c2 c3 c4 c5 y0)
       repeat (first | (refine az rfl ?_; simp only[Act.put,aD,aE,aF]) | (refine aI rfl (fun K hK=> ?_); go_simp; refine hK _ ?_; clear hK K))
       refine aH ?_;have HB8:=aa (ag HBR.out HL8.out);have c0:=ai (k:=0) HX8.out;have c1:=ai (k:=1) HX8.out;have c2:=ai (k:=2) HX8.out;have c3:=ai (k:=3) HX8.out;have c4:=ai (k:=4) HX8.out;have c5:=ai (k:=5) HX8.out;simp only[eB]at c0 c1 c2 c3 c4 c5;go_wp2_with fail
       by_cases h0:aS (bl e.path)=[]
       ·have e1:q.toList.isEmpty=true:=by rw[gN,HBQ.out,decide_eq_true h0]
        have HTN:=aa (ff HTR.out HAT.out (show bM (L.take (j+1)) e=0 by unfold bM; rw[if_pos HCV.out]; unfold gc; rw[if_pos h0]));clear h0;refine(fK e.path q _ (HE.out.below HB8.out) (bY HVE.out) HQ.out).mono ?_;rintro e9 w9 ⟨rfl,hb9⟩;have HL9:=aa (HL8.out.trans (hb9.mono HL8.out.size));have HB9:=aa (ag HB8.out hb9);have HX9:=aa ((hb9.block wr.heap.size (eS HX8.out)).trans HX8.out)
        have HK9:=aa (HKM.out.same (HL9.out.block w.heap.size HKM.out.lt));clear hb9;have c0:=ai (k:=0) HX9.out;have c1:=ai (k:=1) HX9.out;have c2:=ai (k:=2) HX9.out;have c3:=ai (k:=3) HX9.out;have c4:=ai (k:=4) HX9.out;have c5:=ai (k:=5) HX9.out;simp only[eB]at c0 c1 c2 c3 c4 c5;go_wp2_with (at_mapUpdate; go_must (refine fN cX rfl _ _ _ _ rfl iv w.heap.size _ HK9.out rfl (.string e.path) (.int .i64 e.kind) rfl rfl (dr HOK.out.pth) (ki (by have h1:=HTN.out; rw[List.take_add_one,HAT.out]at h1; exact h1)) ?_); intro w10 hm10 hg10)
        have HM10:=aa hm10;have HG10:=aa hg10;clear hm10 hg10 c0 c1 c2 c3 c4 c5;go_wp2_with fail
        go_roundw
        case rel=>
         refine⟨j+1+1,by omega,by go_num,HTN.out, ?_, ?_⟩
         ·rw[List.take_add_one,HAT.out,List.map_append]; exact HM10.out
         ·exact HB9.out.grown HG10.out HB9.out.size (fun k e=>by cases e; exact Nat.le_refl _)
        case measure=>simp[intOf]; omega
       ·have e1:q.toList.isEmpty=false:=by rw[gN,HBQ.out,decide_eq_false h0]
        have HDI:=aa (show ∀x,(match dW (L.take (j+1)) q with | none=>(4:Int) | some g=>if g.kind=2 then 0 else 13)=x->bM (L.take (j+1)) e=x from fun x hx=>by unfold bM; rw[if_pos HCV.out]; unfold gc; rw[if_neg h0,<-HQ.out]; exact hx);clear h0
        cases hf:dW (L.take (j+1)) q with
        | none=>
         have HF:=aa hf;have HCA:=aa (HDI.out 4 (by rw[hf]));clear hf;refine(fK e.path q _ (HE.out.below HB8.out) (bY HVE.out) HQ.out).mono ?_;rintro e9 w9 ⟨rfl,hb9⟩;have HL9:=aa (HL8.out.trans (hb9.mono HL8.out.size));have HB9:=aa (ag HB8.out hb9);have HX9:=aa ((hb9.block wr.heap.size (eS HX8.out)).trans HX8.out);have HK9:=aa (HKM.out.same (HL9.out.block w.heap.size HKM.out.lt))
         clear hb9;have c0:=ai (k:=0) HX9.out;have c1:=ai (k:=1) HX9.out;have c2:=ai (k:=2) HX9.out;have c3:=ai (k:=3) HX9.out;have c4:=ai (k:=4) HX9.out;have c5:=ai (k:=5) HX9.out;simp only[eB]at c0 c1 c2 c3 c4 c5;have hlk:=oL HK9.out HQS.out HF.out;go_wp2_with fail;go_ret;exact⟨bp (by rw[dg HL4.out HTR.out HAT.out (x:=4) HCA.out (by decide)]),HB9.out⟩
        | some g=>
         have HF:=aa hf
         by_cases hk2:g.kind=2
         ·have e3:(g.kind != 2)=false:=by simp[hk2]
          have HTN:=aa (ff HTR.out HAT.out (HDI.out 0 (by rw[hf]; simp only[if_pos hk2])));clear hf hk2;refine(fK e.path q _ (HE.out.below HB8.out) (bY HVE.out) HQ.out).mono ?_;rintro e9 w9 ⟨rfl,hb9⟩;have HL9:=aa (HL8.out.trans (hb9.mono HL8.out.size));have HB9:=aa (ag HB8.out hb9);have HX9:=aa ((hb9.block wr.heap.size (eS HX8.out)).trans HX8.out);have HK9:=aa (HKM.out.same (HL9.out.block w.heap.size HKM.out.lt))
          clear hb9;have c0:=ai (k:=0) HX9.out;have c1:=ai (k:=1) HX9.out;have c2:=ai (k:=2) HX9.out;have c3:=ai (k:=3) HX9.out;have c4:=ai (k:=4) HX9.out;have c5:=ai (k:=5) HX9.out;simp only[eB]at c0 c1 c2 c3 c4 c5;have hlk:=kh HK9.out HQS.out HF.out;go_wp2_with (at_mapUpdate; go_must (refine fN cX rfl _ _ _ _ rfl iv w.heap.size _ HK9.out rfl (.string e.path) (.int .i64 e.kind) rfl rfl (dr HOK.out.pth) (ki (by have h1:=HTN.out; rw[List.take_add_one,HAT.out]at h1; exact h1)) ?_); intro w10 hm10 hg10)
          have HM10:=aa hm10;have HG10:=aa hg10;clear hm10 hg10 c0 c1 c2 c3 c4 c5;go_wp2_with fail
          go_roundw
          case rel=>
           refine⟨j+1+1,by omega,by go_num,HTN.out, ?_, ?_⟩
           ·rw[List.take_add_one,HAT.out,List.map_append]; exact HM10.out
           ·exact HB9.out.grown HG10.out HB9.out.size (fun k e=>by cases e; exact Nat.le_refl _)
          case measure=>simp[intOf]; omega
         ·have e3:(g.kind != 2)=true:=by simp[hk2]
          have HCA:=aa (HDI.out 13 (by rw[hf]; simp only[if_neg hk2]));clear hf hk2;refine(fK e.path q _ (HE.out.below HB8.out) (bY HVE.out) HQ.out).mono ?_;rintro e9 w9 ⟨rfl,hb9⟩;have HL9:=aa (HL8.out.trans (hb9.mono HL8.out.size));have HB9:=aa (ag HB8.out hb9);have HX9:=aa ((hb9.block wr.heap.size (eS HX8.out)).trans HX8.out);have HK9:=aa (HKM.out.same (HL9.out.block w.heap.size HKM.out.lt))
          clear hb9;have c0:=ai (k:=0) HX9.out;have c1:=ai (k:=1) HX9.out;have c2:=ai (k:=2) HX9.out;have c3:=ai (k:=3) HX9.out;have c4:=ai (k:=4) HX9.out;have c5:=ai (k:=5) HX9.out;simp only[eB]at c0 c1 c2 c3 c4 c5;have hlk:=kh HK9.out HQS.out HF.out;go_wp2_with fail;go_ret;exact⟨bp (by rw[dg HL4.out HTR.out HAT.out (x:=13) HCA.out (by decide)]),HB9.out⟩
      ·have HCA:=aa (show bM (L.take (j+1)) e=1 by unfold bM; rw[HAF.out,decide_eq_false hneg]; simp);have e8:decide (0<=c)=true:=by simp; omega
       have e7:0<=c:=by omega
       go_wp2_with fail;obtain⟨W,hW⟩: ∃W,W=wr.alloc (.cells #[.string e.path, .int .i64 e.kind, .int .i64 e.mode, .int .i64 e.time, .slice a1 e.data.length cap1, .string e.link] 30):=⟨_,rfl⟩;rw[<-hW];have HX:=aa (show W.heap[wr.heap.size]? =some (.cells #[.string e.path, .int .i64 e.kind, .int .i64 e.mode, .int .i64 e.time, .slice a1 e.data.length cap1, .string e.link] 30 (0,0)) by rw[hW]; exact dY wr _)
       have HWL:=aa (show Below wr.heap.size wr W by rw[hW]; exact(Below.refl _ _).alloc (Nat.le_refl _) _);have HBW:=aa (ag HBR.out HWL.out);clear hW;refine(ku S e _ true _ (HD.out.below HWL.out) HOK.out (HE.out.below HBW.out) HVE.out).mono ?_;rintro e7 w7 ⟨rfl,hb7⟩;have HX7:=aa ((hb7.block wr.heap.size (eS HX.out)).trans HX.out);have HL7:=aa (HWL.out.trans (hb7.mono HWL.out.size))
       have c0:=ai (k:=0) HX7.out;have c1:=ai (k:=1) HX7.out;have c2:=ai (k:=2) HX7.out;have c3:=ai (k:=3) HX7.out;have c4:=ai (k:=4) HX7.out;have c5:=ai (k:=5) HX7.out;simp only[eB]at c0 c1 c2 c3 c4 c5;clear hb7;go_wp2_with fail;refine aw [some 11,none,some 2] (by kernel_rfl) (by kernel_rfl) (by kernel_rfl) ?_;simp only[bq,List.take_succ_cons,List.take_zero,List.drop_succ_cons,List.drop_zero]
       obtain⟨wd,hwd⟩: ∃wd:World,wd=w7.drew:=⟨_,rfl⟩;rw[<-hwd];have HLD:=aa (show Below wr.heap.size wr wd by rw[hwd]; exact HL7.out.trans ((Below.refl w7.heap.size w7).drew.mono HL7.out.size));have HXD:=aa (show wd.heap[wr.heap.size]? =some (.cells #[.string e.path, .int .i64 e.kind, .int .i64 e.mode, .int .i64 e.time, .slice a1 e.data.length cap1, .string e.link] 30 (0,0)) by rw[hwd]; exact HX7.out)
       clear hwd c0 c1 c2 c3 c4 c5;have c0:=ai (k:=0) HXD.out;have c1:=ai (k:=1) HXD.out;have c2:=ai (k:=2) HXD.out;have c3:=ai (k:=3) HXD.out;have c4:=ai (k:=4) HXD.out;have c5:=ai (k:=5) HXD.out;simp only[eB]at c0 c1 c2 c3 c4 c5;have y0:=(HLD.out.cell (ay p0)).trans p0
       repeat (first | (refine az rfl ?_; simp only[Act.put,aD,aE,aF]) | (refine aI rfl (fun K hK=> ?_); go_simp; refine hK _ ?_; clear hK K))
       refine aH ?_;refine bw rfl (fun K hK=> ?_);go_wp2_with (go_at_call 65; refine(iq f.path e.path c _ HPF.out HC.out).mono ?_; rintro e8' w8 ⟨rfl,hb8⟩; have HL8:=aa (HLD.out.trans (hb8.mono HLD.out.size)); clear hb8 c0 c1 c2 c3 c4 c5 y0)
       repeat (first | (refine az rfl ?_; simp only[Act.put,aD,aE,aF]) | (refine aI rfl (fun K hK=> ?_); go_simp; refine hK _ ?_; clear hK K))
       refine aH ?_;have HB9:=aa (ag HBR.out HL8.out);go_wp2_with fail;go_ret;exact⟨bp (by rw[dg HL4.out HTR.out HAT.out (x:=1) HCA.out (by decide)]),HB9.out⟩
   ·have hk2:k=n:=by omega
    subst hk2;go_wp2_with fail;go_ret;exact⟨bp (by rw[nT HL4.out (by rw[<-HN.out]; exact HTR.out)]),HBR.out⟩
open Go Go.RowKit Go.Maps
theorem fy {W:World} {b n sz:Nat} {cells:List Value} {t:TypeId} (h:W.heap[b]? =some (.cells cells.toArray t (0,0))) (hl:cells.length=n*sz) (hn:n<=maxLen):aO (fun k=>k=b) W sz (.slice (some ⟨b,0,none⟩) n n) n cells:=
 ⟨hl,some ⟨b,0,none⟩,n,rfl,Nat.le_refl _,hn, .inr ⟨b,0,rfl,rfl,fun j u hj=>by rw[ah h,Nat.zero_add,List.getElem?_toArray]; exact hj⟩⟩
theorem cr {S:Nat->Prop} {w:World} {v:Value} {bs:List UInt8} (h:aX S w v bs):(convert 28 9 v).run Tryz.prog w= .ok (.string ⟨bs.toArray⟩) w:=by
 have h1:=ym (S:=S) (w:=w) (v:=v) (bs:=bs) h;rw[pA]at h1;exact h1
theorem yA (w:World) (n:Nat) (hn:n<=4096): ∃mc:Array Value,(Instr.makeSlice 45 (.int .i64 0) (.int .i64 (n:Int))).run Tryz.prog w= .ok (.slice (some ⟨w.heap.size,0,none⟩) 0 n) (w.alloc (.cells mc 30))/\(w.alloc (.cells mc 30)).ownsRow w.heap.size 30 6 (.slice (some ⟨w.heap.size,0,none⟩) 0 n) 0 []:=by
 obtain⟨ht,⟨i,z,h11,h12,h13,h14,h15⟩,hpos,hsm⟩:=Tryz.appEnts;have hb':(i.bytes:Int)*(n:Int)<=281474976710656:=by
  have h:i.bytes*n<=128*4096:=Nat.mul_le_mul (by omega) hn;have h2:((i.bytes*n:Nat):Int)<=281474976710656:=by omega
  rwa [Int.natCast_mul]at h2
 have hr:=run_make (P:=Tryz.prog) w _ _ i z ht h11 h12 .i64 .i64 0 n (Int.le_refl _) (by omega) hb' (by omega);simp only[Int.toNat_zero,Int.toNat_natCast]at hr;refine⟨_,hr,World.ownsRow_made w _ n (Nat.le_refl _) (by unfold maxLen; omega) ?_⟩;have:=size_madeCells z.cells (n*i.size);rw[this,h13]
theorem lT (S:Nat->Prop) (f:al) (pv:Value) (b:Bool) (w:World) (hp:aM S w pv f.parts) (h:cj f=b):Calls Tryz.prog 33 #[dV pv f] w fun e w'=>e= .returned (.bool b)/\Below w.heap.size w w':=by
 rw[<-h]; exact qk S f pv w hp
theorem sZ (S:Nat->Prop) (L:List bu) (v:Value) (x:Int) (w:World) (hv:bR S w v L) (henv:jl w) (h:bZ L=x):Calls Tryz.prog 34 #[v] w fun e w'=>e= .returned (.int .i64 x)/\Below w.heap.size w w':=by
 rw[<-h]; exact yk S L v w hv henv
abbrev nQ (f:al):vq:=(.slice none 0 0,eM f)
theorem sT (l:List al):(l.map nQ).map Prod.snd=l.map eM:=by rw[List.map_map]; rfl
theorem cM (x:dh):di x=(decide (0<=x.tm) && decide (x.files.length<=4096) && x.files.all cj && decide (bZ (x.files.map eM)=0)):=rfl
theorem sG (S:Nat->Prop) (x:dh) (fv:Value) (w:World) (hx:aZ S w fv x.files) (henv:jl w):Calls Tryz.prog 12 #[gd fv x.tm] w fun e w'=>e= .returned (.bool (di x))/\Below w.heap.size w w':=by
 obtain⟨a,cap,rfl,hc,hm,-⟩:=aY.shape hx fF.len;unfold maxLen at hm;have HX:=aa hx;have HE:=aa henv;clear hx henv;obtain⟨n,hn⟩: ∃n,n=x.files.length:=⟨_,rfl⟩;rw[<-hn]at hc HX ⊢;have HN:=aa hn;clear hn;unfold gd
 by_cases ht:x.tm<0
 ·have HF:=aa (show di x=false by rw[cM,show decide (0<=x.tm)=false by simp; omega]; rfl)
  go_enter Tryz.func12,Tryz.ntmps12
  go_wp2_with fail;go_ret;exact⟨au (by rw[HF.out]),(Below.refl _ _).alloc (Nat.le_refl _) _⟩
 ·by_cases hl:4096<n
  ·have HF:=aa (show di x=false by rw[cM,<-HN.out,show decide (n<=4096)=false by simp; omega]; simp);have hl2:(4096:Int)<(n:Int):=by omega
   go_enter Tryz.func12,Tryz.ntmps12
   go_wp2_with fail;go_ret;exact⟨au (by rw[HF.out]),(Below.refl _ _).alloc (Nat.le_refl _) _⟩
  ·have hl2: ¬(4096:Int)<(n:Int):=by omega
   have HTM:=aa ht;have HL:=aa hl
   go_enter Tryz.func12,Tryz.ntmps12
   go_upto_region 3 with fail
   obtain⟨W,hW⟩: ∃W,W=w.alloc (.cells #[.int .i64 x.tm, .slice a n cap] 24):=⟨_,rfl⟩;rw[<-hW];have HBW:=aa (show Below w.heap.size w W by rw[hW]; exact(Below.refl _ _).alloc (Nat.le_refl _) _);have HBX:=aa (show W.heap[w.heap.size]? =some (.cells #[.int .i64 x.tm, .slice a n cap] 24 (0,0)) by rw[hW]; exact heap_alloc_new w _);have HSZ:=aa (show W.heap.size=w.heap.size+1 by rw[hW]; simp)
   clear hW;have k0:=ah (k:=0) HBX.out;have k1:=ah (k:=1) HBX.out;simp only[eB]at k0 k1;obtain⟨mc,hmk,hmo⟩:=yA W n (by omega);have HMO:=aa hmo;obtain⟨M,hM⟩: ∃M,M=W.alloc (.cells mc 30):=⟨_,rfl⟩;rw[<-hM]at hmk HMO;have HBM:=aa (show Below W.heap.size W M by rw[hM]; exact(Below.refl _ _).alloc (Nat.le_refl _) _);clear hM hmo;have k1m:=(HBM.out.cell (p:=⟨w.heap.size,1,none⟩) (ay k1)).trans k1
   have HV:=aa (show aZ S W (.slice a n cap) x.files from aZ.below HX.out HBW.out);go_wp2_with fail;clear hmk k0 k1 k1m
   go_loopw [3,22] (fun v i wr=> ∃k:Nat,k<=n/\i= .int .i64 k/\(x.files.take k).all cj=true/\wr.ownsRow W.heap.size 30 6 v k (kA ((x.files.take k).map nQ))/\Below W.heap.size W wr) (fun _ i _=>n-(intOf i).toNat)
   case atStart=>exact⟨0,Nat.zero_le _,rfl,rfl,HMO.out,HBM.out⟩
   case round=>
    obtain⟨k,hk,rfl,hal,hown,hb⟩:=hrel;have HB:=aa hb;have HA:=aa hal;have HOWN:=aa hown;obtain⟨av,cv,hsv,hvn,hvm⟩:=ak hown;subst hsv;unfold maxLen at hvm;clear hb hal hown
    by_cases hlt:k<n
    ·obtain⟨f,hf⟩: ∃f,x.files[k]? =some f:=⟨_,List.getElem?_eq_getElem (show k<x.files.length by rw[<-HN.out]; exact hlt)⟩;obtain⟨b,o,pa,pc,rfl,hok,hpa,hblt,-,hcl⟩:=dK HV.out HB.out hf;have q0:=hcl 0 (by omega);have q1:=hcl 1 (by omega);have q2:=hcl 2 (by omega);have q3:=hcl 3 (by omega);have q4:=hcl 4 (by omega);have q5:=hcl 5 (by omega);have q6:=hcl 6 (by omega)
     simp only[bQ,ci,Nat.add_zero]at q0 q1 q2 q3 q4 q5 q6;have HF:=aa hf;have HPA:=aa hpa;clear hf hpa hcl hok;obtain⟨fx,hfx⟩: ∃fx:Value,fx=dV (.slice pa f.parts.length pc) f:=⟨_,rfl⟩;have HB1:=aa ((Below.refl wr.heap.size wr).alloc (Nat.le_refl _) (.cells (bQ (.slice pa f.parts.length pc) f).toArray 27));have HX1:=aa (heap_alloc_new wr (.cells (bQ (.slice pa f.parts.length pc) f).toArray 27))
     cases hvs:cj f
     ·have HVS:=aa hvs;have HFF:=aa (show di x=false by rw[cM,iD HF.out HVS.out]; simp);clear hvs hfx;go_wp2_with (go_at_call 33; refine(lT S f _ false _ (aM.below HPA.out HB1.out) HVS.out).mono ?_; rintro e w1 ⟨rfl,hb1⟩; have HB2:=aa (ag HB1.out hb1); clear hb1);go_ret;exact⟨au (by rw[HFF.out]),HBW.out.trans ((ag HB.out HB2.out).mono (by have:=HSZ.out; omega))⟩
     ·have HVS:=aa hvs;clear hvs hfx;go_wp2_with (first | (go_at_call 33; refine(lT S f _ true _ (aM.below HPA.out HB1.out) HVS.out).mono ?_; rintro e w1 ⟨rfl,hb1⟩; have HB2:=aa (ag HB1.out hb1); have HX2:=aa ((hb1.block wr.heap.size (by simp)).trans HX1.out); have d0:=ah (k:=0) HX2.out; have d1:=ah (k:=1) HX2.out; have d2:=ah (k:=2) HX2.out; have d3:=ah (k:=3) HX2.out; have d5:=ah (k:=5) HX2.out; simp only[bQ,List.getElem?_toArray,ci]at d0 d1 d2 d3 d5; have HAL:=aa ((Below.refl w1.heap.size w1).alloc (Nat.le_refl _) (.cells (iH (.slice none 0 0) (eM f)).toArray 30)); have HOA:=aa (aT (aT HOWN.out HB2.out) HAL.out); have HRL:=aa (fy (n:=1) (sz:=6) (cells:=iH (.slice none 0 0) (eM f)) (heap_alloc_new w1 (.cells (iH (.slice none 0 0) (eM f)).toArray 30)) rfl (by decide)); have HZ:=aa (show W.heap.size<=(w1.alloc (.cells (iH (.slice none 0 0) (eM f)).toArray 30)).heap.size by have:=HB.out.size; have:=HB2.out.size; simp; omega); clear hb1) | (at_builtin; go_must (refine bG Tryz.appEnts rfl _ _ rfl W.heap.size (.slice av k cv) k (kA ((x.files.take k).map nQ)) rfl HOA.out _ 1 (iH (.slice none 0 0) (eM f)) rfl HRL.out tF (by omega) HZ.out ?_); intro v9 w9 hown9 hg9; obtain⟨a9,c9,rfl,-,-⟩:=ak hown9; have HO9:=aa hown9; have HG9:=aa hg9; clear hown9 hg9))
      go_roundw
      case rel=>
       refine⟨k+1,by omega,rfl,jp HA.out HF.out HVS.out, ?_, ?_⟩
       ·rw[bc HF.out,List.map_append,List.map_singleton,kO];exact HO9.out
       ·exact aR ((ag HB.out HB2.out).trans (HAL.out.mono (by have:=HB.out.size; have:=HB2.out.size; omega))) HOA.out HG9.out (Nat.le_refl _) HZ.out
      case measure=>simp only[intOf,Int.toNat_natCast]; omega
    ·have hkn:k=n:=by omega
     subst hkn;have htk:x.files.take k=x.files:=List.take_of_length_le (by rw[<-HN.out]; exact Nat.le_refl _);have HALL:=aa (show x.files.all cj=true by rw[<-htk]; exact HA.out);rw[htk]at HOWN;have HEA:=aa (show bR (fun i=>W.heap.size<=i/\(Value.slice av k cv).ownBlock=some i) wr (.slice av k cv) (x.files.map eM) by
      have h1:=bi HOWN.out;have h2:=oy (S:=fun i=>W.heap.size<=i/\(Value.slice av k cv).ownBlock=some i) (w:=wr) (ys:=x.files.map nQ) (fun y hy=>by
       obtain⟨f,hf,rfl⟩:=List.mem_map.1 hy;exact⟨cl.nil _ _,AU (oD HV.out f hf)⟩)
      rw[sT]at h2;have h3:(x.files.map eM).length=k:=by rw[List.length_map,HN.out]
      exact⟨_,by rw[h3]; exact h1,h2⟩)
     obtain⟨z,hz⟩: ∃z,bZ (x.files.map eM)=z:=⟨_,rfl⟩;have HZ:=aa hz;have HEB:=aa (show Below w.heap.size w wr from HBW.out.trans (HB.out.mono (by have:=HSZ.out; omega)));have HER:=aa (HE.out.below HEB.out);have HR:=aa (show di x=decide (z=0) by
      rw[cM,HALL.out,HZ.out,show decide (0<=x.tm)=true by simp; have:=HTM.out; omega,show decide (x.files.length<=4096)=true by simp; have:=HL.out; have:=HN.out; omega]
      simp)
     clear hz;go_wp2_with (go_at_call 34; refine(sZ _ _ _ z _ HEA.out HER.out HZ.out).mono ?_; rintro e w1 ⟨rfl,hb1⟩; have HB2:=aa (ag HEB.out hb1); clear hb1);go_ret;exact⟨au (by rw[HR.out]; rfl),HB2.out⟩
open Go Go.RowKit Go.Maps Go.MapKept
def Av (p:ByteArray):Value×Value:=(.string p, .bool true)
def fQ (w:World) (mb:Nat) (K:ByteArray->Bool):Prop:= ∃ps:List ByteArray,dQ Tryz.prog 9 w mb (ps.map Av)/\(∀p∈ps,p.size<=maxLen)/\ ∀p,p∈ps<->K p=true
def Aq (K:ByteArray->Bool) (p:ByteArray):ByteArray->Bool:=fun q=>decide (q=p) || K q
section
variable {w w' : World} {mb : Nat} {K : ByteArray → Bool} {t : TypeId}
theorem sV {ps:List ByteArray} {p:ByteArray} (h:p∉ps): ∀q∈ps.map Av,q.1≠Value.string p:=by
 intro q hq;obtain⟨x,hx,rfl⟩:=List.mem_map.1 hq;intro e;simp only[Av,Value.string.injEq]at e;exact h (e▸hx)
theorem fQ.lt (h:fQ w mb K):mb<w.heap.size:=by obtain⟨_,h,_⟩:=h; exact h.lt
theorem fQ.same (h:fQ w mb K) (hs:w'.heap[mb]? =w.heap[mb]?):fQ w' mb K:=by obtain⟨ps,h1,h2⟩:=h; exact⟨ps,h1.same hs,h2⟩
theorem fQ.below (h:fQ w mb K) (hb:Below w.heap.size w w'):fQ w' mb K:=h.same (hb.block mb h.lt)
theorem fQ.other {nb:Nat} (h:fQ w mb K) (hg:w.grownBy w' (some nb)) (hne:mb≠nb):fQ w' mb K:=h.same (hg.block mb h.lt fun e=>hne (Option.some.inj e))
theorem fQ.made (w:World):fQ (w.alloc (.map #[] 0)) w.heap.size (fun _=>false):=⟨[],dQ.made w,by simp,by simp⟩
theorem fQ.get (h:fQ w mb K) (ht:Tryz.prog.underlying t=some (.map 9 4)) (hz:(zeroValue 4).run Tryz.prog w= .ok (.bool false) w) {p:ByteArray} (hp:p.size<=maxLen):
  (Instr.lookup t (.map (some mb)) (.string p) false).run Tryz.prog w= .ok (.bool (K p)) w:=by
 obtain⟨ps,hm,h2,h3⟩:=h
 cases hK:K p with
 | true=>exact hm.is.hit cX ht (dr hp) (List.mem_map.2 ⟨p,(h3 p).2 hK,rfl⟩) false
 | false=>exact hm.is.miss cX ht hz (dr hp) (sV fun hc=>by rw[(h3 p).1 hc]at hK; cases hK) false
theorem fQ.put (h:fQ w mb K) (ht:Tryz.prog.underlying t=some (.map 9 4)) {p:ByteArray} (hp:p.size<=maxLen):
  ∃w',(Instr.mapUpdate t (.map (some mb)) (.string p) (.bool true)).run Tryz.prog w= .ok () w'/\fQ w' mb (Aq K p)/\w.grownBy w' (some mb):=by
 obtain⟨ps,hm,h2,h3⟩:=h
 cases hK:K p with
 | true=>
  obtain⟨a,b,rfl⟩:=List.append_of_mem ((h3 p).2 hK);rw[List.map_append,List.map_cons]at hm;obtain⟨w',h4,h5,h6⟩:=dQ.over (key:= .string p) (old:= .bool true) hm cX ht (.bool true);refine⟨w',h4,⟨a++p::b,by rw[List.map_append,List.map_cons]; exact h5,h2,fun q=> ?_⟩,h6⟩;rw[h3];unfold Aq
  by_cases hq:q=p
  ·subst hq; simp[hK]
  ·simp[hq]
 | false=>
  have hn:p∉ps:=fun hc=>by rw[(h3 p).1 hc]at hK; cases hK
  obtain⟨w',h4,h5,h6⟩:=hm.put cX ht (dr hp) (sV hn) (.bool true);refine⟨w',h4,⟨ps++[p],by rw[List.map_append]; exact h5,fun q hq=> ?_,fun q=> ?_⟩,h6⟩
  ·rcases List.mem_append.1 hq with hq | hq
   ·exact h2 q hq
   ·rw[List.mem_singleton.1 hq]; exact hp
  ·rw[List.mem_append,h3,List.mem_singleton];unfold Aq;rw[Bool.or_eq_true,decide_eq_true_eq];exact Or.comm
end
end Go.Proofs.YtnjkpcalgoefhaaGreatDoor
namespace Go.Proofs.YtnjkpcalgoefhaaGreatDoor
open Go Go.RowKit Go.Maps
def qx (ps:List bd):List ByteArray:=ps.foldl (fun l p=>tW l p.sum) []
theorem vE (ps:List bd) (p:bd):qx (ps++[p])=tW (qx ps) p.sum:=by unfold qx; rw[List.foldl_append]; rfl
def fG (w:World) (mb:Nat) (L:List ByteArray):Prop:=fQ w mb (fun q=>decide (q∈L))
theorem Aw :Tryz.prog.underlying 92=some (.map 9 4):=Tryz.underlying92
theorem EK (w:World):(zeroValue 4).run Tryz.prog w= .ok (.bool false) w:=by kernel_rfl
theorem fG.put {w:World} {mb:Nat} {L:List ByteArray} (h:fG w mb L) {p:ByteArray} (hp:p.size<=maxLen):
  ∃w',(Instr.mapUpdate 92 (.map (some mb)) (.string p) (.bool true)).run Tryz.prog w= .ok () w'/\fG w' mb (tW L p)/\w.grownBy w' (some mb):=by
 obtain⟨w',h1,h2,h3⟩:=fQ.put h Aw hp;have e:Aq (fun q=>decide (q∈L)) p=fun q=>decide (q∈tW L p):=by
  funext q
  rw[Bool.eq_iff_iff];unfold Aq;rw[Bool.or_eq_true,decide_eq_true_eq,decide_eq_true_eq,decide_eq_true_eq,Dc];exact Or.comm
 rw[e]at h2;exact⟨w',h1,h2,h3⟩
theorem fG.get {w:World} {mb:Nat} {L:List ByteArray} (h:fG w mb L) {p:ByteArray} (hp:p.size<=maxLen):
  (Instr.lookup 92 (.map (some mb)) (.string p) false).run Tryz.prog w= .ok (.bool (decide (p∈L))) w:=fQ.get h Aw (EK w) hp
theorem fG.below {w w':World} {mb:Nat} {L:List ByteArray} (h:fG w mb L) (hb:Below w.heap.size w w'):fG w' mb L:=fQ.below h hb
theorem fG.same {w w':World} {mb:Nat} {L:List ByteArray} (h:fG w mb L) (hs:w'.heap[mb]? =w.heap[mb]?):fG w' mb L:=fQ.same h hs
theorem fG.lt {w:World} {mb:Nat} {L:List ByteArray} (h:fG w mb L):mb<w.heap.size:=fQ.lt h
theorem fG.made (w:World):fG (w.alloc (.map #[] 0)) w.heap.size []:=by
 have h:=fQ.made w;unfold fG;exact h
theorem Bf (w:World):(Instr.makeMap 92 none).run Tryz.prog w= .ok (.map (some w.heap.size)) (w.alloc (.map #[] 0)):=by simp[Instr.makeMap]
theorem rX (S:Nat->Prop) (x:dh) (fv:Value) (w:World) (hx:aZ S w fv x.files):
  Calls Tryz.prog 39 #[gd fv x.tm] w fun e w'=> ∃mb,e= .returned (.map (some mb))/\w.heap.size<=mb/\fG w' mb (qy x.files)/\Below w.heap.size w w':=by
 obtain⟨a,cap,rfl,hc,hm,-⟩:=aY.shape hx fF.len;unfold maxLen at hm;have HX:=aa hx;clear hx;obtain⟨n,hn⟩: ∃n,n=x.files.length:=⟨_,rfl⟩;rw[<-hn]at hc HX ⊢;have HN:=aa hn;clear hn;unfold gd
 go_enter Tryz.func39,Tryz.ntmps39
 go_upto_region 1 with fail
 obtain⟨W,hW⟩: ∃W,W=w.alloc (.cells #[.int .i64 x.tm, .slice a n cap] 24):=⟨_,rfl⟩;rw[<-hW];have HBW:=aa (show Below w.heap.size w W by rw[hW]; exact(Below.refl _ _).alloc (Nat.le_refl _) _);have hsz:W.heap.size=w.heap.size+1:=by rw[hW]; simp
 have HSZ:=aa hsz;have HV:=aa (show aZ S W (.slice a n cap) x.files from aZ.below HX.out HBW.out);have HS0:=aa (fG.made W);have k1:(W.alloc (.map #[] 0)).cell? ⟨w.heap.size,1,none⟩=some (.slice a n cap):=by
  have h:=ah (k:=1) (show W.heap[w.heap.size]? =some (.cells #[.int .i64 x.tm, .slice a n cap] 24 (0,0)) by rw[hW]; exact heap_alloc_new w _);exact(((Below.refl W.heap.size W).alloc (Nat.le_refl _) (.map #[] 0)).cell (p:=⟨w.heap.size,1,none⟩) (by show w.heap.size<_; omega)).trans (h.trans rfl)
 clear hW hsz;have hmk:=Bf W;have HB0:=aa (show Below W.heap.size W (W.alloc (.map #[] 0))from(Below.refl _ _).alloc (Nat.le_refl _) _);go_wp2_with fail;clear hmk k1
 go_loopw [12] (fun i wr=> ∃k:Nat,k<=n/\i= .int .i64 k/\fG wr W.heap.size (qx ((x.files.take k).flatMap al.parts))/\Below W.heap.size W wr) (fun i _=>n-(intOf i).toNat)
 case atStart=>exact⟨0,Nat.zero_le _,rfl,HS0.out,HB0.out⟩
 case round=>
  obtain⟨k,hk,rfl,hset,hb⟩:=hrel;have HB:=aa hb;have HS:=aa hset;clear hb hset
  by_cases hlt:k<n
  ·obtain⟨f,hf⟩: ∃f,x.files[k]? =some f:=⟨_,List.getElem?_eq_getElem (show k<x.files.length by rw[<-HN.out]; exact hlt)⟩;obtain⟨b,o,pa,pc,rfl,hok,hpa,hblt,-,hcl⟩:=dK HV.out (Below.refl _ _) hf;have hcl: ∀j,j<7->wr.cell? ⟨b,o+k*7+j,none⟩=(bQ (.slice pa f.parts.length pc) f)[j]? :=fun j hj=>(HB.out.cell (p:=⟨b,o+k*7+j,none⟩) hblt).trans (hcl j hj)
   have q0:=hcl 0 (by omega);have q1:=hcl 1 (by omega);have q2:=hcl 2 (by omega);have q3:=hcl 3 (by omega);have q4:=hcl 4 (by omega);have q5:=hcl 5 (by omega);have q6:=hcl 6 (by omega);simp only[bQ,ci,Nat.add_zero]at q0 q1 q2 q3 q4 q5 q6;have HF:=aa hf;obtain⟨m,hmm⟩: ∃m,m=f.parts.length:=⟨_,rfl⟩;obtain⟨-,hmc,hpm⟩:=qY hpa;unfold maxLen at hpm;rw[<-hmm]at q6 hpa hmc
   have HPA:=aa hpa;have HM:=aa hmm;clear hf hpa hcl hok hmm;go_wp2_with fail;obtain⟨W3,hW3⟩: ∃W3,W3=wr.alloc (.cells #[.string f.path, .int .i64 f.kind, .int .i64 f.mode, .int .i64 f.time, .int .i64 f.size, .string f.link, .slice pa m pc] 27):=⟨_,rfl⟩;rw[<-hW3];have HB3:=aa (show Below W.heap.size W W3 by rw[hW3]; exact HB.out.alloc HB.out.size _);have HS3:=aa (show fG W3 W.heap.size (qx ((x.files.take k).flatMap al.parts++f.parts.take 0)) by rw[hW3,List.take_zero,List.append_nil]; exact HS.out.below ((Below.refl _ _).alloc (Nat.le_refl _) _))
   clear hW3 q0 q1 q2 q3 q4 q5 q6
   go_loopw [19] (fun i wq=> ∃j:Nat,j<=m/\i= .int .i64 j/\fG wq W.heap.size (qx ((x.files.take k).flatMap al.parts++f.parts.take j))/\Below W.heap.size W wq) (fun i _=>m-(intOf i).toNat)
   case atStart=>exact⟨0,Nat.zero_le _,rfl,HS3.out,HB3.out⟩
   case round=>
    obtain⟨j,hj,rfl,hset,hb⟩:=hrel;have HBQ:=aa hb;have HSQ:=aa hset;clear hb hset
    by_cases hjm:j<m
    ·obtain⟨p,hp⟩: ∃p,f.parts[j]? =some p:=⟨_,List.getElem?_eq_getElem (show j<f.parts.length by rw[<-HM.out]; exact hjm)⟩;obtain⟨b2,o2,rfl,-,-,hpok,q0,q1⟩:=dO HPA.out HBQ.out hp;have HP:=aa hp;have HPO:=aa hpok;have HAL:=aa ((Below.refl wr.heap.size wr).alloc (Nat.le_refl _) (.cells #[.string p.sum, .int .i64 p.size] 62));have HPUT:=aa (fG.put (HSQ.out.below HAL.out) hpok.sm)
     clear hp hpok;go_wp2_with (at_mapUpdate; go_must (refine kH rfl _ _ _ _ rfl _ _ _ rfl rfl rfl HPUT.out ?_); rintro V ⟨hs3,hg3⟩; have HSV:=aa hs3; have HGV:=aa hg3; clear hs3 hg3)
     go_roundw
     case rel=>
      refine⟨j+1,by omega,rfl, ?_, ?_⟩
      ·rw[bc HP.out,<-List.append_assoc,vE];exact HSV.out
      ·have h1:=ag HBQ.out HAL.out;exact h1.grown HGV.out h1.size (fun i e=>by cases e; exact Nat.le_refl _)
     case measure=>simp only[intOf,Int.toNat_natCast]; omega
    ·have hjj:f.parts.take j=f.parts:=List.take_of_length_le (by rw[<-HM.out]; omega);rw[hjj]at HSQ;clear hjj;go_wp2_with fail
     go_roundw
     case rel=>
      refine⟨k+1,by omega,rfl, ?_,HBQ.out⟩;rw[bc HF.out,List.flatMap_append,List.flatMap_singleton];exact HSQ.out
     case measure=>simp only[intOf,Int.toNat_natCast]; omega
  ·have hkk:x.files.take k=x.files:=List.take_of_length_le (by rw[<-HN.out]; omega);rw[hkk]at HS;clear hkk;go_wp2_with fail;go_ret;exact⟨_,rfl,by have:=HSZ.out; omega,HS.out,HBW.out.trans (HB.out.mono (by have:=HSZ.out; omega))⟩
abbrev jn :=Value×al
def fmV (x:jn):Value×Value:=(.string x.2.path,dV x.1 x.2)
def dk (S:Nat->Prop) (W w:World) (mb:Nat) (fs:List al):Prop:=
 ∃xs:List jn,xs.map Prod.snd=fs/\dQ Tryz.prog 9 w mb (xs.map fmV)/\ ∀x∈xs,aM S W x.1 x.2.parts/\cQ x.2
theorem dk.below {S:Nat->Prop} {W w w':World} {mb:Nat} {fs:List al} (h:dk S W w mb fs) (hb:Below w.heap.size w w'):dk S W w' mb fs:=by
 obtain⟨xs,h1,h2,h3⟩:=h;exact⟨xs,h1,h2.same (hb.block mb h2.lt),h3⟩
theorem dk.lt {S:Nat->Prop} {W w:World} {mb:Nat} {fs:List al} (h:dk S W w mb fs):mb<w.heap.size:=by
 obtain⟨xs,h1,h2,h3⟩:=h;exact h2.lt
theorem so :Tryz.prog.underlying 90=some (.map 9 27):=Tryz.underlying90
def lV :Value:= .agg #[.string ⟨#[]⟩, .int .i64 0, .int .i64 0, .int .i64 0, .int .i64 0, .string ⟨#[]⟩, .slice none 0 0]
theorem yB (w:World) (n:Nat) (hn:n<=4096):(Instr.makeMap 90 (some (.int .i64 (n:Int)))).run Tryz.prog w= .ok (.map (some w.heap.size)) (w.alloc (.map #[] 0)):=by
 have h1:IntKind.i64.wrap (n:Int)=n:=by rw[IntKind.wrap_i64]; omega
 simp[Instr.makeMap,asInt,asIntOf]
theorem qK {xs:List jn} {p:ByteArray} {f:al} (h:eN (xs.map Prod.snd) p=some f): ∃v,(v,f)∈xs/\f.path=p:=by
 obtain⟨h1,h2⟩:=ir h;obtain⟨⟨v,g⟩,hg,rfl⟩:=List.mem_map.1 h1;exact⟨v,hg,h2⟩
theorem dk.hit {S:Nat->Prop} {W w:World} {mb:Nat} {fs:List al} (h:dk S W w mb fs) {p:ByteArray} (hp:p.size<=maxLen) {f:al} (hf:eN fs p=some f):
  ∃v,(Instr.lookup 90 (.map (some mb)) (.string p) true).run Tryz.prog w= .ok (.tuple #[dV v f, .bool true]) w/\aM S W v f.parts/\cQ f:=by
 obtain⟨xs,rfl,h2,h3⟩:=h;obtain⟨v,hv,rfl⟩:=qK hf;refine⟨v, ?_,h3 _ hv⟩;have:=h2.is.hit cX so (dr hp) (val:=dV v f) (List.mem_map.2 ⟨(v,f),hv,rfl⟩) true
 simpa using this
theorem dk.miss {S:Nat->Prop} {W w:World} {mb:Nat} {fs:List al} (h:dk S W w mb fs) {p:ByteArray} (hp:p.size<=maxLen) (hf:eN fs p=none):
  (Instr.lookup 90 (.map (some mb)) (.string p) true).run Tryz.prog w= .ok (.tuple #[lV, .bool false]) w:=by
 obtain⟨xs,rfl,h2,h3⟩:=h;have hz:(zeroValue 27).run Tryz.prog w= .ok lV w:=by kernel_rfl
 have:=h2.is.miss cX so hz (dr hp) (fun q hq e=>by
  obtain⟨y,hy,rfl⟩:=List.mem_map.1 hq;simp only[fmV,Value.string.injEq]at e;have:=List.find?_eq_none.1 hf y.2 (List.mem_map_of_mem hy);simp[e]at this) true
 simpa using this
theorem tH (S:Nat->Prop) (x:dh) (fv:Value) (w:World) (hx:aZ S w fv x.files) (hnd:(x.files.map al.path).Nodup) (hl:x.files.length<=4096):
  Calls Tryz.prog 38 #[gd fv x.tm] w fun e w'=> ∃mb,e= .returned (.map (some mb))/\w.heap.size<=mb/\dk S w w' mb x.files/\Below w.heap.size w w':=by
 obtain⟨a,cap,rfl,hc,hm,-⟩:=aY.shape hx fF.len;unfold maxLen at hm;have HX:=aa hx;have HND:=aa hnd;clear hx hnd;obtain⟨n,hn⟩: ∃n,n=x.files.length:=⟨_,rfl⟩;rw[<-hn]at hc HX hl ⊢;have HN:=aa hn;clear hn;unfold gd
 go_enter Tryz.func38,Tryz.ntmps38
 go_upto_region 1 with fail
 obtain⟨W,hW⟩: ∃W,W=w.alloc (.cells #[.int .i64 x.tm, .slice a n cap] 24):=⟨_,rfl⟩;rw[<-hW];have HBW:=aa (show Below w.heap.size w W by rw[hW]; exact(Below.refl _ _).alloc (Nat.le_refl _) _);have hsz:W.heap.size=w.heap.size+1:=by rw[hW]; simp
 have HSZ:=aa hsz;have k0:W.cell? ⟨w.heap.size,1,none⟩=some (.slice a n cap):=by
  have h:=ah (k:=1) (show W.heap[w.heap.size]? =some (.cells #[.int .i64 x.tm, .slice a n cap] 24 (0,0)) by rw[hW]; exact heap_alloc_new w _);exact h.trans rfl
 have HB0:=aa (show Below W.heap.size W (W.alloc (.map #[] 0))from(Below.refl _ _).alloc (Nat.le_refl _) _);have k1:(W.alloc (.map #[] 0)).cell? ⟨w.heap.size,1,none⟩=some (.slice a n cap):=(HB0.out.cell (p:=⟨w.heap.size,1,none⟩) (by show w.heap.size<_; omega)).trans k0;have HM0:=aa (show dk S w (W.alloc (.map #[] 0)) W.heap.size []from⟨[],rfl,dQ.made W,by simp⟩);have hmk:=yB W n hl
 clear hW hsz;go_wp2_with fail;clear hmk k1 k0
 go_loopw [13] (fun i wr=> ∃k:Nat,k<=n/\i= .int .i64 k/\dk S w wr W.heap.size (x.files.take k)/\Below W.heap.size W wr) (fun i _=>n-(intOf i).toNat)
 case atStart=>exact⟨0,Nat.zero_le _,rfl,HM0.out,HB0.out⟩
 case round=>
  obtain⟨k,hk,rfl,hset,hb⟩:=hrel;have HB:=aa hb;have HS:=aa hset;clear hb hset
  by_cases hlt:k<n
  ·obtain⟨f,hf⟩: ∃f,x.files[k]? =some f:=⟨_,List.getElem?_eq_getElem (show k<x.files.length by rw[<-HN.out]; exact hlt)⟩;obtain⟨b,o,pa,pc,rfl,hok,hpa,hblt,-,hcl⟩:=dK HX.out (Below.refl _ _) hf;have HB2:=aa (show Below w.heap.size w wr from HBW.out.trans (HB.out.mono (by have:=HSZ.out; omega)));have hcl: ∀j,j<7->wr.cell? ⟨b,o+k*7+j,none⟩=(bQ (.slice pa f.parts.length pc) f)[j]? :=fun j hj=>(HB2.out.cell (p:=⟨b,o+k*7+j,none⟩) hblt).trans (hcl j hj)
   have q0:=hcl 0 (by omega);have q1:=hcl 1 (by omega);have q2:=hcl 2 (by omega);have q3:=hcl 3 (by omega);have q4:=hcl 4 (by omega);have q5:=hcl 5 (by omega);have q6:=hcl 6 (by omega);simp only[bQ,ci,Nat.add_zero]at q0 q1 q2 q3 q4 q5 q6;have HF:=aa hf;have HPA:=aa hpa;have HOK:=aa hok;obtain⟨xs,hxs,hms,hdat⟩:=HS.out;have HXS:=aa hxs;have HDAT:=aa hdat
   have HAL:=aa ((Below.refl wr.heap.size wr).alloc (Nat.le_refl _) (.cells #[.string f.path, .int .i64 f.kind, .int .i64 f.mode, .int .i64 f.time, .int .i64 f.size, .string f.link, .slice pa f.parts.length pc] 27));have HMS:=aa (hms.same (HAL.out.block _ hms.lt));have HNEW:=aa (show ∀q∈xs.map fmV,q.1≠Value.string f.path by
    intro q hq e;obtain⟨y,hy,rfl⟩:=List.mem_map.1 hq;simp only[fmV,Value.string.injEq]at e;have h1:y.2∈x.files.take k:=by rw[<-hxs]; exact List.mem_map_of_mem hy
    have h2:(x.files.take (k+1)).map al.path=(x.files.take k).map al.path++[f.path]:=by rw[bc hf,List.map_append]; rfl
    have h3:((x.files.take (k+1)).map al.path).Nodup:=(HND.out.sublist (List.Sublist.map _ (List.take_sublist _ _)));rw[h2]at h3;exact(List.nodup_append.1 h3).2.2 _ (List.mem_map_of_mem h1) _ (by simp) e)
   clear hf hpa hcl hok hxs hms hdat
   go_wp2_with (at_mapUpdate; go_must (refine fN cX rfl _ _ _ _ rfl so W.heap.size _ HMS.out rfl (.string f.path) (dV (.slice pa f.parts.length pc) f) rfl rfl (dr HOK.out.pth) HNEW.out ?_); intro w10 hm10 hg10; have HM10:=aa hm10; have HG10:=aa hg10; clear hm10 hg10)
   go_roundw
   case rel=>
    refine⟨k+1,by omega,rfl,⟨xs++[(.slice pa f.parts.length pc,f)], ?_, ?_, ?_⟩, ?_⟩
    ·rw[bc HF.out,List.map_append,HXS.out]; rfl
    ·rw[List.map_append]; exact HM10.out
    ·intro y hy
     rcases List.mem_append.1 hy with hy | hy
     ·exact HDAT.out y hy
     ·rw[List.mem_singleton.1 hy]; exact⟨HPA.out,HOK.out⟩
    ·have h1:=ag HB.out HAL.out;exact h1.grown HG10.out h1.size (fun i e=>by cases e; exact Nat.le_refl _)
   case measure=>simp only[intOf,Int.toNat_natCast]; omega
  ·have hkk:x.files.take k=x.files:=List.take_of_length_le (by rw[<-HN.out]; omega);rw[hkk]at HS;clear hkk;go_wp2_with fail;go_ret;exact⟨_,rfl,by have:=HSZ.out; omega,HS.out,HBW.out.trans (HB.out.mono (by have:=HSZ.out; omega))⟩
theorem Em (r r':bd) (w:World):(Op.equalIn 10000 62 (nf r) (nf r')).run Tryz.prog w= .ok (decide (r=r')) w:=by
 have u1:=Tryz.underlying9;have u2:=Tryz.underlying3;have hS:Tryz.prog.underlying 62=some (.struct (Tryz.prog.fieldsOf 62)):=by kernel_rfl
 rw[show(10000:Nat)=9999+1 from rfl];unfold nf;rw[run_equalIn_struct w 9999 62 _ _ hS (by kernel_rfl)];simp only[Program.fieldsOf,Tryz.underlying62]
 go_simp
 obtain⟨n,s⟩:=r;obtain⟨n',s'⟩:=r';have hn:n.toList=n'.toList<->n=n':=⟨fun h=>jr (by rw[<-bA,<-bA,h]),fun h=>by rw[h]⟩;simp only[bd.mk.injEq,hn]
 by_cases h1:n=n'<;> by_cases h3:s=s'<;> simp[h1,h3]
theorem oz (S T:Nat->Prop) (v u:Value) (rs ss:List bd) (w:World) (hv:aM S w v rs) (hu:aM T w u ss):
  Calls Tryz.prog 120 #[v,u] w fun e w'=>e= .returned (.bool (decide (rs=ss)))/\Below w.heap.size w w':=by
 obtain⟨a,cap,rfl,hc,hm,-⟩:=aY.shape hv el.len;obtain⟨a2,cap2,rfl,hc2,hm2,-⟩:=aY.shape hu el.len;unfold maxLen at hm hm2;have HV:=aa hv;have HU:=aa hu;clear hv hu
 by_cases hl:rs.length=ss.length
 ·have HL:=aa hl;have hl2:ss.length=rs.length:=hl.symm;rw[hl2]at HU hc2 ⊢;clear hl hl2
  go_enter Tryz.func120,Tryz.ntmps120
  go_wp2_with fail
  go_loopw [13] (fun i wr=> ∃k:Nat,k<=rs.length/\i= .int .i64 k/\rs.take k=ss.take k/\Below w.heap.size w wr) (fun i _=>rs.length-(intOf i).toNat)
  case atStart=>exact⟨0,Nat.zero_le _,rfl,by simp,Below.refl _ _⟩
  case round=>
   obtain⟨k,hk,rfl,hn,hb⟩:=hrel;have HN:=aa hn;have HB:=aa hb;clear hn hb
   by_cases hlt:k<rs.length
   ·obtain⟨r,hr⟩: ∃r,rs[k]? =some r:=⟨rs[k],by simp[hlt]⟩;obtain⟨x,hx⟩: ∃x,ss[k]? =some x:=⟨ss[k]'(by have:=HL.out; omega),by simp⟩;have HR:=aa hr;have HX:=aa hx;have heq:=Em r x;obtain⟨W,hW⟩: ∃W:World,W=wr.drew:=⟨_,rfl⟩;have HBW:=aa (show Below w.heap.size w W by rw[hW]; exact HB.out.drew);obtain⟨b,o,rfl,-,-,-,q0,q1⟩:=dO HV.out HBW.out hr
    obtain⟨b2,o2,rfl,-,-,-,p0,p1⟩:=dO (by have:=HU.out; rw[HL.out]at this; exact this) HBW.out hx;unfold nf at heq;clear hr hx
    by_cases hm:r=x
    ·have e1:decide (r=x)=true:=by simp[hm]
     rw[e1]at heq;have HT:=aa (show rs.take (k+1)=ss.take (k+1) by rw[bc HR.out,bc HX.out,HN.out,hm]);clear e1 hm;go_wp2_with fail;refine aw [some 9] (by kernel_rfl) (by kernel_rfl) (by kernel_rfl) ?_;simp only[bq,List.take_succ_cons,List.take_zero];rw[<-hW];clear hW
     repeat (first | (refine az rfl ?_; simp only[Act.put,aD,aE,aF]) | (refine aI rfl (fun K hK=> ?_); go_simp; refine hK _ ?_; clear hK K))
     refine aH ?_;go_wp2_with fail
     go_roundw
     case rel=>exact⟨k+1,by omega,rfl,HT.out,HBW.out⟩
     case measure=>simp only[intOf,Int.toNat_natCast]; omega
    ·have e1:decide (r=x)=false:=by simp[hm]
     rw[e1]at heq;have HT:=aa (show decide (rs=ss)=false by
      rw[decide_eq_false_iff_not];intro e;have h1:=HR.out;rw[e,HX.out]at h1;exact hm (Option.some.inj h1).symm)
     clear e1 hm;go_wp2_with fail;refine aw [some 9] (by kernel_rfl) (by kernel_rfl) (by kernel_rfl) ?_;simp only[bq,List.take_succ_cons,List.take_zero];rw[<-hW];clear hW
     repeat (first | (refine az rfl ?_; simp only[Act.put,aD,aE,aF]) | (refine aI rfl (fun K hK=> ?_); go_simp; refine hK _ ?_; clear hK K))
     refine aH ?_;go_wp2_with fail;go_ret;exact⟨au HT.out.symm,HBW.out⟩
   ·obtain rfl:k=rs.length:=by omega
    have HT:=aa (show decide (rs=ss)=true by
     have:=HN.out;rw[List.take_of_length_le (Nat.le_refl _),List.take_of_length_le (by rw[HL.out]; exact Nat.le_refl _)]at this;simp[this])
    go_wp2_with fail;go_ret;exact⟨au HT.out.symm,HB.out⟩
 ·have HT:=aa (show decide (rs=ss)=false by rw[decide_eq_false_iff_not]; intro e; exact hl (by rw[e]));have e1:((rs.length:Int) != (ss.length:Int))=true:=by simp; omega
  clear hl
  go_enter Tryz.func120,Tryz.ntmps120
  go_wp2_with fail;go_ret;exact⟨au HT.out.symm,Below.refl _ _⟩
theorem fw (S T:Nat->Prop) (v u:Value) (rs ss:List bd) (b:Bool) (w:World) (hv:aM S w v rs) (hu:aM T w u ss) (h:decide (rs=ss)=b):
  Calls Tryz.prog 120 #[v,u] w fun e w'=>e= .returned (.bool b)/\Below w.heap.size w w':=by
 rw[<-h]; exact oz S T v u rs ss w hv hu
theorem si {f g:al} (h: ¬(f.kind=g.kind/\f.link=g.link/\f.parts=g.parts)):gy f g=2:=by unfold gy; rw[if_neg h]
theorem xw {f g:al} (h:f.kind=g.kind/\f.link=g.link/\f.parts=g.parts) (h2: ¬(f.mode=g.mode/\f.time=g.time)):gy f g=3:=by unfold gy; rw[if_pos h,if_neg h2]
theorem CN {f g:al} (h:f.kind=g.kind/\f.link=g.link/\f.parts=g.parts) (h2:f.mode=g.mode/\f.time=g.time):gy f g=0:=by unfold gy; rw[if_pos h,if_pos h2]
theorem om (S T:Nat->Prop) (f g:al) (pv qv:Value) (w:World) (hp:aM S w pv f.parts) (hq:aM T w qv g.parts):
  Calls Tryz.prog 78 #[dV pv f,dV qv g] w fun e w'=>e= .returned (.int .i64 (gy f g))/\Below w.heap.size w w':=by
 obtain⟨pa,pc,rfl,-,-,-⟩:=aY.shape hp el.len;obtain⟨qa,qc,rfl,-,-,-⟩:=aY.shape hq el.len;obtain⟨n,hn⟩: ∃n,n=f.parts.length:=⟨_,rfl⟩;obtain⟨m,hm⟩: ∃m,m=g.parts.length:=⟨_,rfl⟩;rw[<-hn]at hp ⊢;rw[<-hm]at hq ⊢;have HP:=aa hp;have HQ:=aa hq;clear hn hm hp hq;obtain⟨W,hW⟩: ∃W,W=(w.alloc (.cells (bQ (.slice pa n pc) f).toArray 27)).alloc (.cells (bQ (.slice qa m qc) g).toArray 27):=⟨_,rfl⟩
 have HBW:=aa (show Below w.heap.size w W by rw[hW]; exact((Below.refl _ _).alloc (Nat.le_refl _) _).alloc (by simp) _);have HX:=aa (show W.heap[w.heap.size]? =some (.cells (bQ (.slice pa n pc) f).toArray 27 (0,0)) by rw[hW]; exact lZ (heap_alloc_new w _) _);have HY:=aa (show W.heap[w.heap.size+1]? =some (.cells (bQ (.slice qa m qc) g).toArray 27 (0,0)) by rw[hW]; exact heap_alloc2_new w _ _)
 unfold dV
 go_enter Tryz.func78,Tryz.ntmps78
 go_upto_region 1 with fail
 change Code.wp _ _ _ _ ((w.alloc (.cells (bQ (.slice pa n pc) f).toArray 27)).alloc (.cells (bQ (.slice qa m qc) g).toArray 27))
 rw[<-hW];clear hW;have c1:=ah (k:=1) HX.out;have c2:=ah (k:=2) HX.out;have c3:=ah (k:=3) HX.out;have c5:=ah (k:=5) HX.out;have c6:=ah (k:=6) HX.out;have d1:=ah (k:=1) HY.out;have d2:=ah (k:=2) HY.out;have d3:=ah (k:=3) HY.out;have d5:=ah (k:=5) HY.out;have d6:=ah (k:=6) HY.out;simp only[bQ,List.getElem?_toArray,ci]at c1 c2 c3 c5 c6 d1 d2 d3 d5 d6
 by_cases hk:f.kind=g.kind
 ·by_cases hl:f.link=g.link
  ·by_cases he:f.parts=g.parts
   ·have hall:=And.intro hk (And.intro hl he);have HEQ:=aa (show decide (f.parts=g.parts)=true by simp[he]);have HPW:=aa (aM.below HP.out HBW.out);have HQW:=aa (aM.below HQ.out HBW.out);have HALL:=aa hall;clear hall he
    by_cases hmd:f.mode=g.mode
    ·by_cases htm:f.time=g.time
     ·have HD:=aa (CN HALL.out ⟨hmd,htm⟩);go_wp2_with (go_at_call 120; refine(fw S T _ _ f.parts g.parts true _ HPW.out HQW.out HEQ.out).mono ?_; rintro e w1 ⟨rfl,hb1⟩; have HB1:=aa hb1; clear hb1; have e2:=(HB1.out.cell (p:=⟨w.heap.size,2,none⟩) (ay c2)).trans c2; have e3:=(HB1.out.cell (p:=⟨w.heap.size,3,none⟩) (ay c3)).trans c3; have g2:=(HB1.out.cell (p:=⟨w.heap.size+1,2,none⟩) (ay d2)).trans d2; have g3:=(HB1.out.cell (p:=⟨w.heap.size+1,3,none⟩) (ay d3)).trans d3)
      go_ret;exact⟨by rw[HD.out]; rfl,ag HBW.out HB1.out⟩
     ·have HD:=aa (xw HALL.out (fun h=>htm h.2));go_wp2_with (go_at_call 120; refine(fw S T _ _ f.parts g.parts true _ HPW.out HQW.out HEQ.out).mono ?_; rintro e w1 ⟨rfl,hb1⟩; have HB1:=aa hb1; clear hb1; have e2:=(HB1.out.cell (p:=⟨w.heap.size,2,none⟩) (ay c2)).trans c2; have e3:=(HB1.out.cell (p:=⟨w.heap.size,3,none⟩) (ay c3)).trans c3; have g2:=(HB1.out.cell (p:=⟨w.heap.size+1,2,none⟩) (ay d2)).trans d2; have g3:=(HB1.out.cell (p:=⟨w.heap.size+1,3,none⟩) (ay d3)).trans d3)
      go_ret;exact⟨by rw[HD.out]; rfl,ag HBW.out HB1.out⟩
    ·have HD:=aa (xw HALL.out (fun h=>hmd h.1));go_wp2_with (go_at_call 120; refine(fw S T _ _ f.parts g.parts true _ HPW.out HQW.out HEQ.out).mono ?_; rintro e w1 ⟨rfl,hb1⟩; have HB1:=aa hb1; clear hb1; have e2:=(HB1.out.cell (p:=⟨w.heap.size,2,none⟩) (ay c2)).trans c2; have e3:=(HB1.out.cell (p:=⟨w.heap.size,3,none⟩) (ay c3)).trans c3; have g2:=(HB1.out.cell (p:=⟨w.heap.size+1,2,none⟩) (ay d2)).trans d2; have g3:=(HB1.out.cell (p:=⟨w.heap.size+1,3,none⟩) (ay d3)).trans d3)
     go_ret;exact⟨by rw[HD.out]; rfl,ag HBW.out HB1.out⟩
   ·have HD:=aa (si (f:=f) (g:=g) (fun h=>he h.2.2));have HEQ:=aa (show decide (f.parts=g.parts)=false by simp[he]);have HPW:=aa (aM.below HP.out HBW.out);have HQW:=aa (aM.below HQ.out HBW.out);clear he;go_wp2_with (go_at_call 120; refine(fw S T _ _ f.parts g.parts false _ HPW.out HQW.out HEQ.out).mono ?_; rintro e w1 ⟨rfl,hb1⟩; have HB1:=aa hb1; clear hb1)
    go_ret;exact⟨by rw[HD.out]; rfl,ag HBW.out HB1.out⟩
  ·have HD:=aa (si (f:=f) (g:=g) (fun h=>hl h.2.1));have hl2: ¬f.link.toList=g.link.toList:=fun h=>hl (jr (by rw[<-bA,<-bA,h]))
   go_wp2_with fail;go_ret;exact⟨by rw[HD.out]; rfl,HBW.out⟩
 ·have HD:=aa (si (f:=f) (g:=g) (fun h=>hk h.1));go_wp2_with fail;go_ret;exact⟨by rw[HD.out]; rfl,HBW.out⟩
end Go.Proofs.YtnjkpcalgoefhaaGreatDoor
