/- Texts of this proof, one after the other: MarkB, MarkC, Rng, RngP, EndA, MapS, Glob, OrdP, RefP, TreeP, TreeQ, Ent, TreeM, FtA, FtB, EndB, RoundR, OwnE, EndC, BuildP, WrA, WrB, ItemF. -/
import Derived.Test.YtpffpjbkbaleiaaGreatDoorCNeedsC
set_option maxRecDepth 100000
set_option maxHeartbeats 8000000
namespace Go.Proofs.YtpffpjbkbaleiaaGreatDoor
open Go Go.RowKit
structure kJ (seed W : Nat) (d : List UInt8) (cs : List Value) : Prop where
 tab: ∀i,i<256->cs[i]? =some (.int .u64 ((tA seed i:Nat):Int))
 rng: ∀j,j<64-> ∃b,cs[256+j]? =some (au b)
 win:cs[320]? =some (.int .i64 (W:Int))
 st: ∃s,s<64/\cs[321]? =some (.int .i64 (s:Int))/\ ∀j b,(jd W d)[j]? =some b->cs[256+(s+j)%64]? =some (au b)
 len:cs[322]? =some (.int .i64 ((min W d.length:Nat):Int))
 sum:cs[323]? =some (.int .u64 ((nh seed (jd W d):Nat):Int))
theorem kJ.lt {seed W:Nat} {d:List UInt8} {cs:List Value} (h:kJ seed W d cs):323<cs.length:=(List.getElem?_eq_some_iff.1 h.sum).1
theorem zo {x y:Nat} (hx:x<18446744073709551616) (hy:y<18446744073709551616):bits BinOp.xor IntKind.u64 (x:Int) (y:Int)=((x^^^y:Nat):Int):=u64_xor_nat x y hx hy
theorem bu {w:World} {b k:Nat} {cs:List Value} {ty:TypeId} (h:w.heap[b]? =some (.cells cs.toArray ty (0,0))):w.cell? ⟨b,k,none⟩=cs[k]? :=by rw[cell_of_row w _ _ _ _ _ h,List.getElem?_toArray]
theorem fC {w:World} {b k:Nat} {cs:List Value} {ty:TypeId} (h:w.heap[b]? =some (.cells cs.toArray ty (0,0))) (v:Value):(w.setCell ⟨b,k,none⟩ v).heap[b]? =some (.cells (cs.set k v).toArray ty (0,0)):=by
 rw[heap_setCell_same w _ _ _ _ _ h,List.setIfInBounds_toArray]
theorem bF {w V:World} {rb:Nat} (h:w.grownBy V (some rb)) (k:Nat) (v:Value):w.grownBy (V.setCell ⟨rb,k,none⟩ v) (some rb):=h.trans (aF _ _ _ _)
theorem lj {w V:World} {rb:Nat} (h:w.grownBy V (some rb)):w.grownBy V.drew (some rb):=h.trans ⟨rfl,rfl,rfl,Nat.le_refl _,fun _ _ _=>rfl⟩
theorem ie {w V:World} {rb:Nat} (h:w.grownBy V (some rb)) (n:Nat):w.grownBy (V.drewN n) (some rb):=h.trans ⟨rfl,rfl,rfl,Nat.le_refl _,fun _ _ _=>rfl⟩
theorem kJ.push {seed W:Nat} {d:List UInt8} {cs cs2:List Value} (h:kJ seed W d cs) {b:UInt8} {q:List UInt8} {s2 n2:Nat} (heq: ∀i,i<321->cs2[i]? =cs[i]?) (hs:cs2[321]? =some (.int .i64 (s2:Int))) (hs2:s2<64) (hl:323<cs2.length)
  (hsum:cs2[323]? =some (.int .u64 ((nh seed (jd W (d++[b])):Nat):Int))) (hq:jd W (d++[b])=q++[b]) (hqn:q.length=n2) (hn:n2<W) (hW:W<=64) (hring: ∀(j:Nat) (c:UInt8),q[j]? =some c->cs2[256+(s2+j)%64]? =some (au c)):
  kJ seed W (d++[b]) ((cs2.set (256+(s2+n2)%64) (au b)).set 322 (.int .i64 ((n2+1:Nat):Int))) where
 tab i hi:=by rw[List.getElem?_set_ne (by omega),List.getElem?_set_ne (by omega),heq i (by omega)]; exact h.tab i hi
 rng j hj:=by
  rw[List.getElem?_set_ne (by omega)]
  by_cases e:(s2+n2)%64=j
  ·rw[e,List.getElem?_set_self (by omega)]; exact⟨b,rfl⟩
  ·rw[List.getElem?_set_ne (by omega),heq _ (by omega)]; exact h.rng j hj
 win:=by rw[List.getElem?_set_ne (by omega),List.getElem?_set_ne (by omega),heq _ (by omega)]; exact h.win
 st:=by
  refine⟨s2,hs2,by rw[List.getElem?_set_ne (by omega),List.getElem?_set_ne (by omega)]; exact hs,fun j c hc=> ?_⟩;rw[hq]at hc;rw[List.getElem?_set_ne (by omega)]
  rcases Nat.lt_trichotomy j n2 with hj | hj | hj
  ·rw[List.getElem?_append_left (by omega)]at hc;rw[List.getElem?_set_ne (by omega)];exact hring j c hc
  ·subst hj;rw[List.getElem?_append_right (by omega),hqn,Nat.sub_self,List.getElem?_cons_zero]at hc
   cases hc
   rw[List.getElem?_set_self (by omega)]
  ·rw[List.getElem?_eq_none (by simp; omega)]at hc; cases hc
 len:=by
  rw[List.getElem?_set_self (by simpa using by omega)];have:=ko W (d++[b]);rw[hq]at this;simp only[List.length_append,List.length_cons,List.length_nil]at this ⊢;rw[<-this,hqn]
 sum:=by rw[List.getElem?_set_ne (by omega),List.getElem?_set_ne (by omega)]; exact hsum
theorem Dc (rb:Nat) (ty:TypeId) (seed W:Nat) (d:List UInt8) (b:UInt8) (cs:List Value) (w:World) (hb:w.heap[rb]? =some (.cells cs.toArray ty (0,0))) (hr:kJ seed W d cs) (hW:1<=W) (hW2:W<=64):
  Calls Tryz.prog 200 #[.pointer (some ⟨rb,0,none⟩), .int .u8 (b.toNat:Int)] w fun e w'=>e= .returned (.tuple #[])/\(∃cs',w'.heap[rb]? =some (.cells cs'.toArray ty (0,0))/\kJ seed W (d++[b]) cs'/\cs'.length=cs.length/\ ∀i,324<=i->cs'[i]? =cs[i]?)/\w.grownBy w' (some rb):=by
 have HB:=ab hb;have HR:=ab hr;clear hb hr;have hbt:=b.toNat_lt;have hbti:(b.toNat:Int)<256:=by omega
 obtain⟨t,ht⟩: ∃t,t=tA seed b.toNat:=⟨_,rfl⟩;obtain⟨h,hh⟩: ∃h,h=nh seed (jd W d):=⟨_,rfl⟩;have htl:t<18446744073709551616:=by rw[ht]; exact nZ _ _
 have hhl:h<18446744073709551616:=by rw[hh]; exact uL _ _
 have c323:w.cell? ⟨rb,323,none⟩=some (.int .u64 (h:Int)):=by rw[bu HB.out,HR.out.sum,hh]
 have ct:w.cell? ⟨rb,b.toNat,none⟩=some (.int .u64 (t:Int)):=by rw[bu HB.out,HR.out.tab _ hbt,ht]
 have HT:=ab (And.intro ht hh);clear ht hh
 go_enter Tryz.func200,Tryz.ntmps200
 go_wp2_with fail;refine bP (fun w'=>w'.cell? ⟨rb,323,none⟩=some (.int .u64 (h:Int))/\w'.cell? ⟨rb,b.toNat,none⟩=some (.int .u64 (t:Int))) (by kernel_rfl) (by kernel_rfl) ?_;simp only[List.dropLast_cons_cons,List.dropLast_singleton,List.length_cons,List.length_nil,Nat.reduceAdd,Nat.reduceSub];obtain⟨V,hV⟩: ∃V:World,V=w.drew:=⟨_,rfl⟩;rw[<-hV];have HBV:=ab (show V.heap[rb]? =some (.cells cs.toArray ty (0,0)) by rw[hV]; exact HB.out)
 have HGV:=ab (show w.grownBy V (some rb) by rw[hV]; exact⟨rfl,rfl,rfl,Nat.le_refl _,fun _ _ _=>rfl⟩);clear c323 ct;have c323:V.cell? ⟨rb,323,none⟩=some (.int .u64 (h:Int)):=by rw[bu HBV.out,HR.out.sum,HT.out.2]
 have ct:V.cell? ⟨rb,b.toNat,none⟩=some (.int .u64 (t:Int)):=by rw[bu HBV.out,HR.out.tab _ hbt,HT.out.1]
 clear hV;refine af 0 rfl (by kernel_rfl) (by kernel_rfl) (by kernel_rfl) (fun _ _ _ h=>h) rfl ⟨c323,ct⟩ (by rintro w' ⟨hw1,hw2⟩; go_simp; rfl) ?_;simp only[Act.put,aA,aB,aC];refine af 1 rfl (by kernel_rfl) (by kernel_rfl) (by kernel_rfl) (fun _ _ _ h=>h) rfl ⟨c323,ct⟩ (by rintro w' ⟨hw1,hw2⟩; go_simp; rfl) ?_;simp only[Act.put,aA,aB,aC];refine af 2 rfl (by kernel_rfl) (by kernel_rfl) (by kernel_rfl) (fun _ _ _ h=>h) rfl ⟨c323,ct⟩ (by rintro w' ⟨hw1,hw2⟩; go_simp; rfl) ?_
 simp only[Act.put,aA,aB,aC];refine af 3 rfl (by kernel_rfl) (by kernel_rfl) (by kernel_rfl) (fun _ _ _ h=>h) rfl ⟨c323,ct⟩ (by rintro w' ⟨hw1,hw2⟩; go_simp; rfl) ?_;simp only[Act.put,aA,aB,aC];refine af 4 rfl (by kernel_rfl) (by kernel_rfl) (by kernel_rfl) (fun _ _ _ h=>h) rfl ⟨c323,ct⟩ (by rintro w' ⟨hw1,hw2⟩; go_simp; rfl) ?_;simp only[Act.put,aA,aB,aC];refine af 6 rfl (by kernel_rfl) (by kernel_rfl) (by kernel_rfl) (fun _ _ _ h=>h) rfl ⟨c323,ct⟩ (by rintro w' ⟨hw1,hw2⟩; go_simp; rfl) ?_
 simp only[Act.put,aA,aB,aC];refine af 7 rfl (by kernel_rfl) (by kernel_rfl) (by kernel_rfl) (fun _ _ _ h=>h) rfl ⟨c323,ct⟩ (by rintro w' ⟨hw1,hw2⟩; go_simp; rfl) ?_;simp only[Act.put,aA,aB,aC];refine af 8 rfl (by kernel_rfl) (by kernel_rfl) (by kernel_rfl) (fun _ _ _ h=>h) rfl ⟨c323,ct⟩ (by rintro w' ⟨hw1,hw2⟩; go_simp; rfl) ?_;simp only[Act.put,aA,aB,aC];refine af 9 rfl (by kernel_rfl) (by kernel_rfl) (by kernel_rfl) (fun _ _ _ h=>h) rfl ⟨c323,ct⟩ (by rintro w' ⟨hw1,hw2⟩; go_simp; rfl) ?_
 simp only[Act.put,aA,aB,aC];refine af 10 rfl (by kernel_rfl) (by kernel_rfl) (by kernel_rfl) (fun _ _ _ h=>h) rfl ⟨c323,ct⟩ (by rintro w' ⟨hw1,hw2⟩; go_simp; rfl) ?_;simp only[Act.put,aA,aB,aC];refine af 11 rfl (by kernel_rfl) (by kernel_rfl) (by kernel_rfl) (fun _ _ _ h=>h) rfl ⟨c323,ct⟩ (by rintro w' ⟨hw1,hw2⟩; go_simp; rfl) ?_;simp only[Act.put,aA,aB,aC]
 refine ar 5 rfl (by kernel_rfl) rfl (fun K hK=> ?_);go_wp2_with fail;refine(sj h 1 V hhl (by decide)).mono ?_;rintro e w1 ⟨rfl,rfl⟩;go_wp2_with fail;refine⟨⟨c323,ct⟩, ?_⟩;refine af 12 rfl (by kernel_rfl) (by kernel_rfl) (by kernel_rfl) (fun _ _ _ h=>h) rfl ⟨c323,ct⟩ (by rintro w' ⟨hw1,hw2⟩; go_simp; rfl) ?_;simp only[Act.put,aA,aB,aC];refine af 13 rfl (by kernel_rfl) (by kernel_rfl) (by kernel_rfl) (fun _ _ _ h=>h) rfl ⟨c323,ct⟩ (by rintro w' ⟨hw1,hw2⟩; go_simp; rfl) ?_
 simp only[Act.put,aA,aB,aC];refine af 14 rfl (by kernel_rfl) (by kernel_rfl) (by kernel_rfl) (fun _ _ _ h=>h) rfl ⟨c323,ct⟩ (by rintro w' ⟨hw1,hw2⟩; go_simp; rfl) ?_;simp only[Act.put,aA,aB,aC];rw[zo (ja 1 hhl) htl];obtain⟨h1,hh1⟩: ∃h1,h1=dT h 1^^^t:=⟨_,rfl⟩;rw[<-hh1];have hh1l:h1<18446744073709551616:=by rw[hh1]; exact ms (ja 1 hhl) htl
 have HH1:=ab hh1;clear hh1;have cf:V.frozen? ⟨rb,323,none⟩=false:=frozen_of_row V _ _ _ _ HBV.out;refine aV (by kernel_rfl) ?_;refine bX rfl rfl (fun K hK=> ?_);go_wp2_with fail;obtain⟨U,hU⟩: ∃U:World,U=V.setCell ⟨rb,323,none⟩ (.int .u64 (h1:Int)):=⟨_,rfl⟩;rw[<-hU];obtain⟨cs1,hc1⟩: ∃cs1,cs1=cs.set 323 (.int .u64 (h1:Int)):=⟨_,rfl⟩;have HBU:=ab (show U.heap[rb]? =some (.cells cs1.toArray ty (0,0)) by rw[hU,hc1]; exact fC HBV.out _)
 have HGU:=ab (show w.grownBy U (some rb) by rw[hU]; exact bF HGV.out _ _);have HC1:=ab hc1;clear hU c323 ct cf hc1;obtain⟨n,hn⟩: ∃n,n=min W d.length:=⟨_,rfl⟩;obtain⟨s,hs,hsc,hsw⟩:=HR.out.st;have hl:=HR.out.lt;have c322:U.cell? ⟨rb,322,none⟩=some (.int .i64 (n:Int)):=by rw[bu HBU.out,HC1.out,List.getElem?_set_ne (by decide),HR.out.len,hn]
 have c320:U.cell? ⟨rb,320,none⟩=some (.int .i64 (W:Int)):=by rw[bu HBU.out,HC1.out,List.getElem?_set_ne (by decide),HR.out.win]
 have c321:U.cell? ⟨rb,321,none⟩=some (.int .i64 (s:Int)):=by rw[bu HBU.out,HC1.out,List.getElem?_set_ne (by decide),hsc]
 have HLN:=ab (show cs[322]? =some (.int .i64 (n:Int)) by rw[HR.out.len,hn]);have HN:=ab hn;have HSC:=ab hsc;clear hn hsc;have HSW:=ab hsw;clear hsw
 go_quiet (fail)
 have HBU1:=ab (show(U.drewN nq).heap[rb]? =some (.cells cs1.toArray ty (0,0))from HBU.out);have HGU1:=ab (show w.grownBy (U.drewN nq) (some rb)from ie HGU.out _);clear HBU HGU c322 c320 c321
 generalize U.drewN nq=U1 at *
 by_cases hf:n=W
 ·obtain⟨x,l,hxl⟩: ∃x l,jd W d=x::l:=by
   cases hw:jd W d with
   | nil=>have:=ko W d; rw[hw,<-HN.out,hf]at this; simp at this; omega
   | cons x l=>exact⟨x,l,rfl⟩
  have hll:l.length+1=W:=by have:=ko W d; rw[hxl,<-HN.out,hf]at this; simpa using this
  have hx:=HSW.out 0 x (by rw[hxl]; rfl);rw[Nat.add_zero,Nat.mod_eq_of_lt hs]at hx;have hxt:=x.toNat_lt;have hxti:(x.toNat:Int)<256:=by omega
  have hsi:(s:Int)<64:=by omega
  obtain⟨tx,htx⟩: ∃tx,tx=tA seed x.toNat:=⟨_,rfl⟩;have htxl:tx<18446744073709551616:=by rw[htx]; exact nZ _ _
  have cx:=HR.out.tab _ hxt;rw[<-htx]at cx;have HX:=ab (And.intro hxl (And.intro hx (And.intro htx cx)));clear hxl hx htx cx;subst hf;go_wp2_with fail;refine bP (fun w'=>w'.cell? ⟨rb,323,none⟩=some (.int .u64 (h1:Int))/\w'.cell? ⟨rb,321,none⟩=some (.int .i64 (s:Int))/\w'.cell? ⟨rb,256+s,none⟩=some (.int .u8 (x.toNat:Int))/\w'.cell? ⟨rb,x.toNat,none⟩=some (.int .u64 (tx:Int))/\w'.cell? ⟨rb,320,none⟩=some (.int .i64 (n:Int))) (by kernel_rfl) (by kernel_rfl) ?_
  simp only[List.dropLast_cons_cons,List.dropLast_singleton,List.length_cons,List.length_nil,Nat.reduceAdd,Nat.reduceSub];obtain⟨V2,hV2⟩: ∃V2:World,V2=U1.drew:=⟨_,rfl⟩;rw[<-hV2];have HBV2:=ab (show V2.heap[rb]? =some (.cells cs1.toArray ty (0,0)) by rw[hV2]; exact HBU1.out);have HGV2:=ab (show w.grownBy V2 (some rb) by rw[hV2]; exact lj HGU1.out);clear hV2;have c323:V2.cell? ⟨rb,323,none⟩=some (.int .u64 (h1:Int)):=by rw[bu HBV2.out,HC1.out,List.getElem?_set_self (by omega)]
  have c320:V2.cell? ⟨rb,320,none⟩=some (.int .i64 (n:Int)):=by rw[bu HBV2.out,HC1.out,List.getElem?_set_ne (by decide),HR.out.win]
  have c321:V2.cell? ⟨rb,321,none⟩=some (.int .i64 (s:Int)):=by rw[bu HBV2.out,HC1.out,List.getElem?_set_ne (by decide),HSC.out]
  have cx1:V2.cell? ⟨rb,256+s,none⟩=some (.int .u8 (x.toNat:Int)):=by rw[bu HBV2.out,HC1.out,List.getElem?_set_ne (by omega),HX.out.2.1]; rfl
  have ct1:V2.cell? ⟨rb,x.toNat,none⟩=some (.int .u64 (tx:Int)):=by rw[bu HBV2.out,HC1.out,List.getElem?_set_ne (by omega),HX.out.2.2.2]
  refine af 0 rfl (by kernel_rfl) (by kernel_rfl) (by kernel_rfl) (fun _ _ _ h=>h) rfl ⟨c323,c321,cx1,ct1,c320⟩ (by rintro w' ⟨hw1,hw2,hw3,hw4,hw5⟩; go_simp; rfl) ?_;simp only[Act.put,aA,aB,aC];refine af 1 rfl (by kernel_rfl) (by kernel_rfl) (by kernel_rfl) (fun _ _ _ h=>h) rfl ⟨c323,c321,cx1,ct1,c320⟩ (by rintro w' ⟨hw1,hw2,hw3,hw4,hw5⟩; go_simp; rfl) ?_;simp only[Act.put,aA,aB,aC]
  refine af 2 rfl (by kernel_rfl) (by kernel_rfl) (by kernel_rfl) (fun _ _ _ h=>h) rfl ⟨c323,c321,cx1,ct1,c320⟩ (by rintro w' ⟨hw1,hw2,hw3,hw4,hw5⟩; go_simp; rfl) ?_;simp only[Act.put,aA,aB,aC];refine af 3 rfl (by kernel_rfl) (by kernel_rfl) (by kernel_rfl) (fun _ _ _ h=>h) rfl ⟨c323,c321,cx1,ct1,c320⟩ (by rintro w' ⟨hw1,hw2,hw3,hw4,hw5⟩; go_simp; rfl) ?_;simp only[Act.put,aA,aB,aC]
  refine af 4 rfl (by kernel_rfl) (by kernel_rfl) (by kernel_rfl) (fun _ _ _ h=>h) rfl ⟨c323,c321,cx1,ct1,c320⟩ (by rintro w' ⟨hw1,hw2,hw3,hw4,hw5⟩; go_simp; rfl) ?_;simp only[Act.put,aA,aB,aC];refine af 5 rfl (by kernel_rfl) (by kernel_rfl) (by kernel_rfl) (fun _ _ _ h=>h) rfl ⟨c323,c321,cx1,ct1,c320⟩ (by rintro w' ⟨hw1,hw2,hw3,hw4,hw5⟩; go_simp; rfl) ?_;simp only[Act.put,aA,aB,aC]
  refine af 6 rfl (by kernel_rfl) (by kernel_rfl) (by kernel_rfl) (fun _ _ _ h=>h) rfl ⟨c323,c321,cx1,ct1,c320⟩ (by rintro w' ⟨hw1,hw2,hw3,hw4,hw5⟩; go_simp; rfl) ?_;simp only[Act.put,aA,aB,aC];refine af 7 rfl (by kernel_rfl) (by kernel_rfl) (by kernel_rfl) (fun _ _ _ h=>h) rfl ⟨c323,c321,cx1,ct1,c320⟩ (by rintro w' ⟨hw1,hw2,hw3,hw4,hw5⟩; go_simp; rfl) ?_;simp only[Act.put,aA,aB,aC]
  refine af 8 rfl (by kernel_rfl) (by kernel_rfl) (by kernel_rfl) (fun _ _ _ h=>h) rfl ⟨c323,c321,cx1,ct1,c320⟩ (by rintro w' ⟨hw1,hw2,hw3,hw4,hw5⟩; go_simp; rfl) ?_;simp only[Act.put,aA,aB,aC];refine af 9 rfl (by kernel_rfl) (by kernel_rfl) (by kernel_rfl) (fun _ _ _ h=>h) rfl ⟨c323,c321,cx1,ct1,c320⟩ (by rintro w' ⟨hw1,hw2,hw3,hw4,hw5⟩; go_simp; rfl) ?_;simp only[Act.put,aA,aB,aC]
  refine af 10 rfl (by kernel_rfl) (by kernel_rfl) (by kernel_rfl) (fun _ _ _ h=>h) rfl ⟨c323,c321,cx1,ct1,c320⟩ (by rintro w' ⟨hw1,hw2,hw3,hw4,hw5⟩; go_simp; rfl) ?_;simp only[Act.put,aA,aB,aC];refine af 11 rfl (by kernel_rfl) (by kernel_rfl) (by kernel_rfl) (fun _ _ _ h=>h) rfl ⟨c323,c321,cx1,ct1,c320⟩ (by rintro w' ⟨hw1,hw2,hw3,hw4,hw5⟩; go_simp; rfl) ?_;simp only[Act.put,aA,aB,aC]
  refine af 12 rfl (by kernel_rfl) (by kernel_rfl) (by kernel_rfl) (fun _ _ _ h=>h) rfl ⟨c323,c321,cx1,ct1,c320⟩ (by rintro w' ⟨hw1,hw2,hw3,hw4,hw5⟩; go_simp; rfl) ?_;simp only[Act.put,aA,aB,aC];refine af 13 rfl (by kernel_rfl) (by kernel_rfl) (by kernel_rfl) (fun _ _ _ h=>h) rfl ⟨c323,c321,cx1,ct1,c320⟩ (by rintro w' ⟨hw1,hw2,hw3,hw4,hw5⟩; go_simp; rfl) ?_;simp only[Act.put,aA,aB,aC]
  refine af 14 rfl (by kernel_rfl) (by kernel_rfl) (by kernel_rfl) (fun _ _ _ h=>h) rfl ⟨c323,c321,cx1,ct1,c320⟩ (by rintro w' ⟨hw1,hw2,hw3,hw4,hw5⟩; go_simp; rfl) ?_;simp only[Act.put,aA,aB,aC];refine af 15 rfl (by kernel_rfl) (by kernel_rfl) (by kernel_rfl) (fun _ _ _ h=>h) rfl ⟨c323,c321,cx1,ct1,c320⟩ (by rintro w' ⟨hw1,hw2,hw3,hw4,hw5⟩; go_simp; rfl) ?_;simp only[Act.put,aA,aB,aC]
  refine af 16 rfl (by kernel_rfl) (by kernel_rfl) (by kernel_rfl) (fun _ _ _ h=>h) rfl ⟨c323,c321,cx1,ct1,c320⟩ (by rintro w' ⟨hw1,hw2,hw3,hw4,hw5⟩; go_simp; rfl) ?_;simp only[Act.put,aA,aB,aC];refine af 17 rfl (by kernel_rfl) (by kernel_rfl) (by kernel_rfl) (fun _ _ _ h=>h) rfl ⟨c323,c321,cx1,ct1,c320⟩ (by rintro w' ⟨hw1,hw2,hw3,hw4,hw5⟩; go_simp; rfl) ?_;simp only[Act.put,aA,aB,aC]
  refine af 18 rfl (by kernel_rfl) (by kernel_rfl) (by kernel_rfl) (fun _ _ _ h=>h) rfl ⟨c323,c321,cx1,ct1,c320⟩ (by rintro w' ⟨hw1,hw2,hw3,hw4,hw5⟩; go_simp; rfl) ?_;simp only[Act.put,aA,aB,aC];refine af 19 rfl (by kernel_rfl) (by kernel_rfl) (by kernel_rfl) (fun _ _ _ h=>h) rfl ⟨c323,c321,cx1,ct1,c320⟩ (by rintro w' ⟨hw1,hw2,hw3,hw4,hw5⟩; go_simp; rfl) ?_;simp only[Act.put,aA,aB,aC]
  refine af 20 rfl (by kernel_rfl) (by kernel_rfl) (by kernel_rfl) (fun _ _ _ h=>h) rfl ⟨c323,c321,cx1,ct1,c320⟩ (by rintro w' ⟨hw1,hw2,hw3,hw4,hw5⟩; go_simp; rfl) ?_;simp only[Act.put,aA,aB,aC];refine af 21 rfl (by kernel_rfl) (by kernel_rfl) (by kernel_rfl) (fun _ _ _ h=>h) rfl ⟨c323,c321,cx1,ct1,c320⟩ (by rintro w' ⟨hw1,hw2,hw3,hw4,hw5⟩; go_simp; rfl) ?_;simp only[Act.put,aA,aB,aC]
  refine ar 22 rfl (by kernel_rfl) rfl (fun K hK=> ?_);go_wp2_with fail;refine(sj tx n V2 htxl hW2).mono ?_;rintro e w1 ⟨rfl,rfl⟩;go_wp2_with fail;refine⟨⟨c323,c321,cx1,ct1,c320⟩, ?_⟩;refine af 23 rfl (by kernel_rfl) (by kernel_rfl) (by kernel_rfl) (fun _ _ _ h=>h) rfl ⟨c323,c321,cx1,ct1,c320⟩ (by rintro w' ⟨hw1,hw2,hw3,hw4,hw5⟩; go_simp; rfl) ?_;simp only[Act.put,aA,aB,aC]
  refine af 24 rfl (by kernel_rfl) (by kernel_rfl) (by kernel_rfl) (fun _ _ _ h=>h) rfl ⟨c323,c321,cx1,ct1,c320⟩ (by rintro w' ⟨hw1,hw2,hw3,hw4,hw5⟩; go_simp; rfl) ?_;simp only[Act.put,aA,aB,aC];refine af 25 rfl (by kernel_rfl) (by kernel_rfl) (by kernel_rfl) (fun _ _ _ h=>h) rfl ⟨c323,c321,cx1,ct1,c320⟩ (by rintro w' ⟨hw1,hw2,hw3,hw4,hw5⟩; go_simp; rfl) ?_;simp only[Act.put,aA,aB,aC]
  rw[zo hh1l (ja n htxl)];obtain⟨h2,hh2⟩: ∃h2,h2=h1^^^dT tx n:=⟨_,rfl⟩;rw[<-hh2];have hh2l:h2<18446744073709551616:=by rw[hh2]; exact ms hh1l (ja n htxl)
  have HH2:=ab hh2;have cf:V2.frozen? ⟨rb,323,none⟩=false:=frozen_of_row V2 _ _ _ _ HBV2.out;have cf1:V2.frozen? ⟨rb,321,none⟩=false:=frozen_of_row V2 _ _ _ _ HBV2.out;have cf2:V2.frozen? ⟨rb,322,none⟩=false:=frozen_of_row V2 _ _ _ _ HBV2.out;have c322:V2.cell? ⟨rb,322,none⟩=some (.int .i64 (n:Int)):=by rw[bu HBV2.out,HC1.out,List.getElem?_set_ne (by decide),HLN.out]
  obtain⟨s2,hs2⟩: ∃s2,s2=(s+1)%64:=⟨_,rfl⟩;obtain⟨n2,hn2⟩: ∃n2,n2=n-1:=⟨_,rfl⟩;have hsa:IntKind.i64.wrap ((s:Int)+1)=((s+1:Nat):Int):=by rw[IntKind.wrap_i64]; omega
  have hsb:((s:Int)+1)%64=(s2:Int):=by omega
  have hna:IntKind.i64.wrap ((n:Int)-1)=(n2:Int):=by rw[IntKind.wrap_i64]; omega
  have hs264:s2<64:=by omega
  have hn264:n2<64:=by omega
  have HS2:=ab hs2;have HN2:=ab hn2;clear hh2 hs2 hn2;refine aV (by kernel_rfl) ?_;refine bX rfl rfl (fun K hK=> ?_);go_wp2_with fail;obtain⟨X,hX⟩: ∃X:World,X=((V2.setCell ⟨rb,323,none⟩ (.int .u64 (h2:Int))).setCell ⟨rb,321,none⟩ (.int .i64 (s2:Int))).setCell ⟨rb,322,none⟩ (.int .i64 (n2:Int)):=⟨_,rfl⟩;rw[<-hX];have HBX:=ab (show X.heap[rb]? =some (.cells (((cs1.set 323 (.int .u64 (h2:Int))).set 321 (.int .i64 (s2:Int))).set 322 (.int .i64 (n2:Int))).toArray ty (0,0)) by rw[hX]; exact fC (fC (fC HBV2.out _) _) _)
  have HGX:=ab (show w.grownBy X (some rb) by rw[hX]; exact bF (bF (bF HGV2.out _ _) _ _) _ _);have HCX:=ab (show(((cs1.set 323 (.int .u64 (h2:Int))).set 321 (.int .i64 (s2:Int))).set 322 (.int .i64 (n2:Int)))[321]? =some (.int .i64 (s2:Int))/\(((cs1.set 323 (.int .u64 (h2:Int))).set 321 (.int .i64 (s2:Int))).set 322 (.int .i64 (n2:Int)))[322]? =some (.int .i64 (n2:Int))from⟨by rw[List.getElem?_set_ne (by decide),List.getElem?_set_self (by rw[HC1.out]; simp; omega)],by rw[List.getElem?_set_self (by rw[HC1.out]; simp; omega)]⟩)
  have HRX:=ab (show ∀j,j<64-> ∃c,(((cs1.set 323 (.int .u64 (h2:Int))).set 321 (.int .i64 (s2:Int))).set 322 (.int .i64 (n2:Int)))[256+j]? =some (au c)from fun j hj=>by
   rw[List.getElem?_set_ne (by omega),List.getElem?_set_ne (by omega),List.getElem?_set_ne (by omega),HC1.out,List.getElem?_set_ne (by omega)];exact HR.out.rng j hj)
  clear hX c323 c320 c321 cx1 ct1 cf cf1 cf2 c322;have hbt2:=hbt;obtain⟨j2,hj2⟩: ∃j2,j2=(s2+n2)%64:=⟨_,rfl⟩;have hj64:j2<64:=by omega
  have hj64i:(j2:Int)<64:=by omega
  have hadd:IntKind.i64.wrap ((s2:Int)+(n2:Int))=(s2:Int)+(n2:Int):=by rw[IntKind.wrap_i64]; omega
  have hmod:((s2:Int)+(n2:Int))%64=(j2:Int):=by omega
  have hmod2:Int.tmod ((s2:Int)+(n2:Int)) 64=(j2:Int):=by rw[Int.tmod_eq_emod_of_nonneg (by omega)]; omega
  have hmod3:IntKind.i64.wrap (j2:Int)=(j2:Int):=by rw[IntKind.wrap_i64]; omega
  have hinc:IntKind.i64.wrap ((n2:Int)+1)=((n2+1:Nat):Int):=by rw[IntKind.wrap_i64]; omega
  have c321:X.cell? ⟨rb,321,none⟩=some (.int .i64 (s2:Int)):=by rw[bu HBX.out,HCX.out.1]
  have c322:X.cell? ⟨rb,322,none⟩=some (.int .i64 (n2:Int)):=by rw[bu HBX.out,HCX.out.2]
  have cf1:X.frozen? ⟨rb,256+j2,none⟩=false:=frozen_of_row X _ _ _ _ HBX.out;have cf2:X.frozen? ⟨rb,322,none⟩=false:=frozen_of_row X _ _ _ _ HBX.out;obtain⟨bj,hbj⟩:=HRX.out j2 hj64;have cbj:X.cell? ⟨rb,256+j2,none⟩=some (au bj):=by rw[bu HBX.out,hbj]
  clear hbj;have hne1: ¬(256+j2=322):=by omega
  have hne2: ¬(322=256+j2):=by omega
  have HJ2:=ab hj2;clear hj2;refine am [some 15,none] (by kernel_rfl) (by kernel_rfl) (by kernel_rfl) ?_;simp only[aZ,List.take_succ_cons,List.take_zero,List.drop_succ_cons,List.drop_zero]
  repeat (first | (refine aw rfl ?_; simp only[Act.put,aA,aB,aC]) | (refine aJ rfl (fun K hK=> ?_); go_simp; refine hK _ ?_; clear hK K))
  refine aI ?_;refine bw rfl (fun K hK=> ?_);go_wp2_with fail
  go_end0
  refine⟨rfl,⟨_,fC (fC (show X.drew.heap[rb]? =_ from HBX.out) _) _, ?_, ?_, ?_⟩,bF (bF (lj HGX.out) _ _) _ _⟩
  ·rw[HJ2.out];have hlen:=(ko n d).symm;refine HR.out.push (b:=b) (q:=l) (s2:=s2) (n2:=n2) ?_ ?_ hs264 ?_ ?_ ?_ ?_ ?_ hW2 ?_
   ·intro i hi;rw[List.getElem?_set_ne (by omega),List.getElem?_set_ne (by omega),List.getElem?_set_ne (by omega),HC1.out,List.getElem?_set_ne (by omega)]
   ·exact HCX.out.1
   ·rw[HC1.out]; simp; omega
   ·rw[List.getElem?_set_ne (by omega),List.getElem?_set_ne (by omega),List.getElem?_set_self (by rw[HC1.out]; simp; omega),HH2.out,HH1.out,HT.out.1,HT.out.2,HX.out.2.2.1,sJ hW (by have:=HN.out; omega),HX.out.1];have:=wZ (nZ seed) x b l (by omega);rw[hll]at this;unfold nh;rw[this]
    rfl
   ·rw[sJ hW (by have:=HN.out; omega),HX.out.1]; rfl
   ·have:=HN2.out; omega
   ·have:=HN2.out; omega
   ·intro j c hc;have hjl:=(List.getElem?_eq_some_iff.1 hc).1;rw[List.getElem?_set_ne (by omega),List.getElem?_set_ne (by omega),List.getElem?_set_ne (by omega),HC1.out,List.getElem?_set_ne (by omega)];have:=HSW.out (j+1) c (by rw[HX.out.1]; exact hc);rw[show(s2+j)%64=(s+(j+1))%64 by have:=HS2.out; omega];exact this
  ·rw[HC1.out]; simp
  ·intro i hi;have:=HJ2.out;rw[List.getElem?_set_ne (by omega),List.getElem?_set_ne (by omega),List.getElem?_set_ne (by omega),List.getElem?_set_ne (by omega),List.getElem?_set_ne (by omega),HC1.out,List.getElem?_set_ne (by omega)]
 ·go_wp2_with fail;obtain⟨X,hX⟩: ∃X:World,X=U1:=⟨_,rfl⟩;rw[<-hX];obtain⟨s2,hs2⟩: ∃s2,s2=s:=⟨_,rfl⟩;obtain⟨n2,hn2⟩: ∃n2,n2=n:=⟨_,rfl⟩;have HBX:=ab (show X.heap[rb]? =some (.cells cs1.toArray ty (0,0)) by rw[hX]; exact HBU1.out);have HGX:=ab (show w.grownBy X (some rb) by rw[hX]; exact HGU1.out);have HCX:=ab (show cs1[321]? =some (.int .i64 (s2:Int))/\cs1[322]? =some (.int .i64 (n2:Int))from⟨by rw[HC1.out,List.getElem?_set_ne (by decide),HSC.out,hs2],by rw[HC1.out,List.getElem?_set_ne (by decide),HLN.out,hn2]⟩)
  have HRX:=ab (show ∀j,j<64-> ∃c,cs1[256+j]? =some (au c)from fun j hj=>by
   rw[HC1.out,List.getElem?_set_ne (by omega)];exact HR.out.rng j hj)
  have hs264:s2<64:=by omega
  have hn264:n2<64:=by have:=HN.out; omega
  have HS2:=ab hs2;have HN2:=ab hn2;clear hX hs2 hn2;have hbt2:=hbt;obtain⟨j2,hj2⟩: ∃j2,j2=(s2+n2)%64:=⟨_,rfl⟩;have hj64:j2<64:=by omega
  have hj64i:(j2:Int)<64:=by omega
  have hadd:IntKind.i64.wrap ((s2:Int)+(n2:Int))=(s2:Int)+(n2:Int):=by rw[IntKind.wrap_i64]; omega
  have hmod:((s2:Int)+(n2:Int))%64=(j2:Int):=by omega
  have hmod2:Int.tmod ((s2:Int)+(n2:Int)) 64=(j2:Int):=by rw[Int.tmod_eq_emod_of_nonneg (by omega)]; omega
  have hmod3:IntKind.i64.wrap (j2:Int)=(j2:Int):=by rw[IntKind.wrap_i64]; omega
  have hinc:IntKind.i64.wrap ((n2:Int)+1)=((n2+1:Nat):Int):=by rw[IntKind.wrap_i64]; omega
  have c321:X.cell? ⟨rb,321,none⟩=some (.int .i64 (s2:Int)):=by rw[bu HBX.out,HCX.out.1]
  have c322:X.cell? ⟨rb,322,none⟩=some (.int .i64 (n2:Int)):=by rw[bu HBX.out,HCX.out.2]
  have cf1:X.frozen? ⟨rb,256+j2,none⟩=false:=frozen_of_row X _ _ _ _ HBX.out;have cf2:X.frozen? ⟨rb,322,none⟩=false:=frozen_of_row X _ _ _ _ HBX.out;obtain⟨bj,hbj⟩:=HRX.out j2 hj64;have cbj:X.cell? ⟨rb,256+j2,none⟩=some (au bj):=by rw[bu HBX.out,hbj]
  clear hbj;have hne1: ¬(256+j2=322):=by omega
  have hne2: ¬(322=256+j2):=by omega
  have HJ2:=ab hj2;clear hj2;refine am [some 15,none] (by kernel_rfl) (by kernel_rfl) (by kernel_rfl) ?_;simp only[aZ,List.take_succ_cons,List.take_zero,List.drop_succ_cons,List.drop_zero]
  repeat (first | (refine aw rfl ?_; simp only[Act.put,aA,aB,aC]) | (refine aJ rfl (fun K hK=> ?_); go_simp; refine hK _ ?_; clear hK K))
  refine aI ?_;refine bw rfl (fun K hK=> ?_);go_wp2_with fail
  go_end0
  have hdl:d.length<W:=by have:=HN.out; omega
  refine⟨rfl,⟨_,fC (fC (show X.drew.heap[rb]? =_ from HBX.out) _) _, ?_, ?_, ?_⟩,bF (bF (lj HGX.out) _ _) _ _⟩
  ·rw[HJ2.out];refine HR.out.push (b:=b) (q:=jd W d) (s2:=s2) (n2:=n2) ?_ ?_ hs264 ?_ ?_ (sI hdl b) ?_ ?_ hW2 ?_
   ·intro i hi;rw[HC1.out,List.getElem?_set_ne (by omega)]
   ·exact HCX.out.1
   ·rw[HC1.out]; simp; omega
   ·rw[HC1.out,List.getElem?_set_self (by omega),HH1.out,HT.out.1,HT.out.2,sI hdl];unfold nh;rw[gD]
   ·rw[ko,<-HN.out,HN2.out]
   ·have:=HN2.out; have:=HN.out; omega
   ·intro j c hc;rw[HC1.out,List.getElem?_set_ne (by omega),HS2.out];exact HSW.out j c hc
  ·rw[HC1.out]; simp
  ·intro i hi;have:=HJ2.out;rw[List.getElem?_set_ne (by omega),List.getElem?_set_ne (by omega),HC1.out,List.getElem?_set_ne (by omega)]
structure ua (w : World) : Prop where
 tab:TabAt 6 Lib.deBruijn64tab w
 lt:6<w.heap.size
theorem ua.block {w w':World} (h:ua w) (hb:w'.heap[6]? =w.heap[6]?) (hs:w.heap.size<=w'.heap.size):ua w':=
 ⟨fun j hj=>by rw[<-h.tab j hj]; exact World.cell?_of_block hb,Nat.lt_of_lt_of_le h.lt hs⟩
theorem ua.below {w0 w w':World} (h:ua w) (hb:Below w0.heap.size w w') (hlt:6<w0.heap.size):ua w':=h.block (hb.block _ hlt) hb.size
theorem ua.grown {w w':World} {r:Option Nat} (h:ua w) (hg:w.grownBy w' r) (hr:r≠some 6):ua w':=h.block (hg.block _ h.lt (fun e=>hr e.symm)) hg.size
theorem kg (rb n:Nat) (w:World) (h:w.cell? ⟨rb,322,none⟩=some (.int .i64 (n:Int))):Calls Tryz.prog 201 #[.pointer (some ⟨rb,0,none⟩)] w fun e w'=>e= .returned (.int .i64 (n:Int))/\w=w':=by
 go_enter Tryz.func201,Tryz.ntmps201
 go_wp2_with fail;go_ret;exact⟨rfl,rfl⟩
theorem kh (rb n:Nat) (w:World) (h:w.cell? ⟨rb,323,none⟩=some (.int .u64 (n:Int))):Calls Tryz.prog 203 #[.pointer (some ⟨rb,0,none⟩)] w fun e w'=>e= .returned (.int .u64 (n:Int))/\w=w':=by
 go_enter Tryz.func203,Tryz.ntmps203
 go_wp2_with fail;go_ret;exact⟨rfl,rfl⟩
theorem Bv (x:Nat) (w:World) (hx:x<18446744073709551616) (hT:ua w):Calls Tryz.prog 202 #[.int .u64 (x:Int)] w fun e w'=>e= .returned (.int .i64 ((Lib.ctz 64 x:Nat):Int))/\w=w':=by
 go_enter Tryz.func202,Tryz.ntmps202
 go_wp2_with fail;refine(Tryz.bits_TrailingZeros64 x hx w (fun _=>hT.tab)).mono ?_;rintro e w' ⟨rfl,rfl⟩;go_wp2_with fail;go_ret;exact⟨rfl,rfl⟩
def tt (c:dN) (data:List UInt8) (p:Nat):Bool:=Fu c.seed c.win.toNat c.bits.toNat (data.take p)
structure mU (c : dN) (data : List UInt8) (p : Nat) (cs : List Value) : Prop where
 roll:kJ c.seed c.win.toNat (data.take p) cs
 len:cs.length=331
 cut: ∀i,i<5->cs[324+i]? =(dA c)[i]?
 pos:cs[329]? =some (.int .i64 (p:Int))
 last:cs[330]? =some (.int .i64 (jE (tt c data) c.mn.toNat p))
theorem vn (mk:Nat->Bool) (mn p:Nat): -(mn:Int)<=jE mk mn p/\jE mk mn p<=(p:Int):=by
 rcases xA (mk:=mk) (mn:=mn) p with⟨h,_⟩ | ⟨L,h,h1,h2,_⟩<;> rw[h]<;> omega
theorem Dy (c:dN) (data:List UInt8) (p:Nat) (b:UInt8) (mb:Nat) (ty:TypeId) (cs:List Value) (w:World) (hc:iI c=true) (hb:data[p]? =some b) (hp:data.length<=1048576) (hbox:w.heap[mb]? =some (.cells cs.toArray ty (0,0))) (hm:mU c data p cs) (hT:ua w) (hmb:mb≠6):
  Calls Tryz.prog 188 #[.pointer (some ⟨mb,0,none⟩), .int .u8 (b.toNat:Int)] w fun e w'=>e= .returned (.bool (pP (tt c data) c.mn.toNat (p+1)))/\(∃cs',w'.heap[mb]? =some (.cells cs'.toArray ty (0,0))/\mU c data (p+1) cs')/\w.grownBy w' (some mb):=by
 have hv:=km.1 hc;have HV:=ab hv;have HM:=ab hm;have HBX:=ab hbox;have HT:=ab hT;have hpl:=(List.getElem?_eq_some_iff.1 hb).1;have htk:data.take (p+1)=data.take p++[b]:=by rw[List.take_add_one,hb]; rfl
 have HTK:=ab htk;obtain⟨W,hW⟩: ∃W,W=c.win.toNat:=⟨_,rfl⟩;obtain⟨B,hB⟩: ∃B,B=c.bits.toNat:=⟨_,rfl⟩;obtain⟨mn,hmn⟩: ∃mn,mn=c.mn.toNat:=⟨_,rfl⟩;have hWi:c.win=(W:Int):=by omega
 have hBi:c.bits=(B:Int):=by omega
 have hmi:c.mn=(mn:Int):=by omega
 have hW1:1<=W:=by omega
 have hW2:W<=64:=by omega
 have HI:=ab (And.intro hW (And.intro hB (And.intro hmn (And.intro hWi (And.intro hBi hmi)))));clear hc hm hbox hT hb htk hv hW hB hmn hWi hBi hmi
 go_enter Tryz.func188,Tryz.ntmps188
 go_wp2_with fail;refine(Dc mb ty c.seed W (data.take p) b cs w HBX.out (by have:=HM.out.roll; rw[<-HI.out.1]at this; exact this) hW1 hW2).mono ?_;rintro e w1 ⟨rfl,⟨cs1,hb1,hr1,hl1,hk1⟩,hg1⟩;have HB1:=ab hb1;have HR1:=ab hr1;have HK1:=ab hk1;have HL1:=ab (hl1.trans HM.out.len);have HG1:=ab hg1;have HT1:=ab (HT.out.grown hg1 (fun e=>hmb (Option.some.inj e)));clear hb1 hr1 hk1 hl1 hg1
 have c329:w1.cell? ⟨mb,329,none⟩=some (.int .i64 (p:Int)):=by rw[bu HB1.out,HK1.out _ (by decide),HM.out.pos]
 have cf:w1.frozen? ⟨mb,329,none⟩=false:=frozen_of_row w1 _ _ _ _ HB1.out;have hinc:IntKind.i64.wrap ((p:Int)+1)=((p+1:Nat):Int):=by rw[IntKind.wrap_i64]; omega
 go_wp2_with fail;obtain⟨cs2,hcs2⟩: ∃cs2,cs2=cs1.set 329 (.int .i64 (((p:Nat):Int)+1)):=⟨_,rfl⟩;obtain⟨U,hU⟩: ∃U:World,U=w1.setCell ⟨mb,329,none⟩ (.int .i64 (((p:Nat):Int)+1)):=⟨_,rfl⟩;rw[<-hU];have HBU:=ab (show U.heap[mb]? =some (.cells cs2.toArray ty (0,0)) by rw[hU,hcs2]; exact fC HB1.out _);have HGU:=ab (show w.grownBy U (some mb) by rw[hU]; exact bF HG1.out _ _)
 have HTU:=ab (show ua U by rw[hU]; exact HT1.out.grown (aF _ _ _ _) (fun e=>hmb (Option.some.inj e)));have HC2:=ab hcs2;have HL2:=ab (show cs2.length=331 by rw[hcs2,List.length_set]; exact HL1.out);clear hU hcs2 c329 cf hinc;obtain⟨n,hn⟩: ∃n,n=min W (p+1):=⟨_,rfl⟩;obtain⟨h,hh⟩: ∃h,h=nh c.seed (jd W (data.take (p+1))):=⟨_,rfl⟩;have hhl:h<18446744073709551616:=by rw[hh]; exact uL _ _
 obtain⟨z,hz⟩: ∃z,z=Lib.ctz 64 h:=⟨_,rfl⟩;obtain⟨la,hla⟩: ∃la,la=jE (tt c data) mn p:=⟨_,rfl⟩;have hlr: -(mn:Int)<=la/\la<=(p:Int):=by rw[hla]; exact vn _ _ _
 have c322:U.cell? ⟨mb,322,none⟩=some (.int .i64 (n:Int)):=by
  rw[bu HBU.out,HC2.out,List.getElem?_set_ne (by decide),HR1.out.len,hn,List.length_append,List.length_take,List.length_cons,List.length_nil,Nat.min_eq_left (by omega:p<=data.length)]
 have c323:U.cell? ⟨mb,323,none⟩=some (.int .u64 (h:Int)):=by
  rw[bu HBU.out,HC2.out,List.getElem?_set_ne (by decide),HR1.out.sum,hh,HTK.out]
 have c324:U.cell? ⟨mb,324,none⟩=some (.int .i64 (mn:Int)):=by
  rw[bu HBU.out,HC2.out,List.getElem?_set_ne (by decide),HK1.out _ (by decide),HM.out.cut 0 (by decide),<-HI.out.2.2.2.2.2]; rfl
 have c326:U.cell? ⟨mb,326,none⟩=some (.int .i64 (W:Int)):=by
  rw[bu HBU.out,HC2.out,List.getElem?_set_ne (by decide),HK1.out _ (by decide),HM.out.cut 2 (by decide),<-HI.out.2.2.2.1]; rfl
 have c327:U.cell? ⟨mb,327,none⟩=some (.int .i64 (B:Int)):=by
  rw[bu HBU.out,HC2.out,List.getElem?_set_ne (by decide),HK1.out _ (by decide),HM.out.cut 3 (by decide),<-HI.out.2.2.2.2.1]; rfl
 have c329:U.cell? ⟨mb,329,none⟩=some (.int .i64 ((p:Int)+1)):=by
  rw[bu HBU.out,HC2.out,List.getElem?_set_self (by rw[HL1.out]; decide)]
 have c330:U.cell? ⟨mb,330,none⟩=some (.int .i64 la):=by
  rw[bu HBU.out,HC2.out,List.getElem?_set_ne (by decide),HK1.out _ (by decide),HM.out.last,hla,HI.out.2.2.1]
 have hmk:tt c data (p+1)=(decide (W<=n) && decide (B<=z)):=by
  unfold tt Fu;rw[<-HI.out.1,<-HI.out.2.1,hz,hh]
  congr 1
  rw[decide_eq_decide,List.length_take]; omega
 have HMK:=ab hmk;have HH:=ab (And.intro hn (And.intro hh (And.intro hz hla)));have HDQ:=ab (show ∀n,ua (U.drewN n)from fun n=>HTU.out.block rfl (Nat.le_refl _));clear hn hh hz hla hmk;have HZ:=ab (show ∀m,Calls Tryz.prog 202 #[.int .u64 (h:Int)] (U.drewN m) fun e w'=>e= .returned (.int .i64 (z:Int))/\U.drewN m=w' from fun m=>by rw[HH.out.2.2.1]; exact Bv h (U.drewN m) hhl (HDQ.out m))
 have HRO:=ab (show kJ c.seed c.win.toNat (data.take (p+1)) cs2 by
  rw[<-HI.out.1,HTK.out,HC2.out];have h:=HR1.out;refine⟨fun i hi=> ?_,fun j hj=> ?_, ?_, ?_, ?_, ?_⟩
  ·rw[List.getElem?_set_ne (by omega)]; exact h.tab i hi
  ·rw[List.getElem?_set_ne (by omega)]; exact h.rng j hj
  ·rw[List.getElem?_set_ne (by omega)]; exact h.win
  ·obtain⟨s,h1,h2,h3⟩:=h.st;refine⟨s,h1,by rw[List.getElem?_set_ne (by omega)]; exact h2,fun j b hb=>by rw[List.getElem?_set_ne (by omega)]; exact h3 j b hb⟩
  ·rw[List.getElem?_set_ne (by omega)]; exact h.len
  ·rw[List.getElem?_set_ne (by omega)]; exact h.sum)
 have HCU:=ab (show ∀i,i<5->cs2[324+i]? =(dA c)[i]? from fun i hi=>by
  rw[HC2.out,List.getElem?_set_ne (by omega),HK1.out _ (by omega)]; exact HM.out.cut i hi)
 have HPO:=ab (show cs2[329]? =some (.int .i64 ((p+1:Nat):Int)) by rw[HC2.out,List.getElem?_set_self (by rw[HL1.out]; decide)]; rfl);have HLA:=ab (show cs2[330]? =some (.int .i64 la) by rw[HC2.out,List.getElem?_set_ne (by decide),HK1.out _ (by decide),HM.out.last,HH.out.2.2.2,HI.out.2.2.1]);have HNO:=ab (show tt c data (p+1)=false->(pP (tt c data) c.mn.toNat (p+1)=false/\mU c data (p+1) cs2)from fun h0=>⟨by rw[pP,h0]; rfl,{
  roll:=HRO.out
  len:=HL2.out
  cut:=HCU.out
  pos:=HPO.out
  last:=by rw[jE,if_neg (by rw[h0]; decide),<-HI.out.2.2.1,<-HH.out.2.2.2]; exact HLA.out}⟩)
 by_cases h1:n<W
 ·have h1i:(n:Int)<(W:Int):=by omega
  go_quiet ((first | (go_at_call 201; refine gJ (kg mb n _ c322)) | (go_at_call 203; refine gJ (kh mb h _ c323)) | (go_at_call 202; refine gJ (HZ.out _))))
  go_wp2_with fail;go_ret;have hno:=HNO.out (by rw[HMK.out,decide_eq_false (by omega)]; rfl);exact⟨an hno.1.symm,⟨cs2,HBU.out,hno.2⟩,ie HGU.out _⟩
 ·have h1i:(W:Int)<=(n:Int):=by omega
  have h1j: ¬(n:Int)<(W:Int):=by omega
  by_cases h2:z<B
  ·have h2i:(z:Int)<(B:Int):=by omega
   go_quiet ((first | (go_at_call 201; refine gJ (kg mb n _ c322)) | (go_at_call 203; refine gJ (kh mb h _ c323)) | (go_at_call 202; refine gJ (HZ.out _))))
   go_wp2_with fail;go_ret;have hno:=HNO.out (by rw[HMK.out,decide_eq_false (by omega: ¬B<=z),Bool.and_false]);exact⟨an hno.1.symm,⟨cs2,HBU.out,hno.2⟩,ie HGU.out _⟩
  ·have h2i:(B:Int)<=(z:Int):=by omega
   have h2j: ¬(z:Int)<(B:Int):=by omega
   go_quiet ((first | (go_at_call 201; refine gJ (kg mb n _ c322)) | (go_at_call 203; refine gJ (kh mb h _ c323)) | (go_at_call 202; refine gJ (HZ.out _))))
   go_wp2_with fail;have cf:U.frozen? ⟨mb,330,none⟩=false:=frozen_of_row U _ _ _ _ HBU.out;have hsub:IntKind.i64.wrap ((p:Int)+1-la)=(p:Int)+1-la:=by have:=HV.out; have:=HI.out; rw[IntKind.wrap_i64]; omega
   go_quiet (fail)
   go_wp2_with fail;go_ret;have hyes:tt c data (p+1)=true:=by rw[HMK.out,decide_eq_true (by omega:W<=n),decide_eq_true (by omega:B<=z)]; rfl
   refine⟨an ?_,⟨cs2.set 330 (.int .i64 ((p:Int)+1)),fC (show(U.drewN _).heap[mb]? =_ from HBU.out) _, ?_⟩,bF (ie HGU.out _) _ _⟩
   ·rw[pP,hyes,Bool.true_and,<-HI.out.2.2.1,<-HH.out.2.2.2,decide_eq_decide]; simp
   ·have h:=HRO.out;have hcu:=HCU.out;refine⟨⟨fun i hi=> ?_,fun j hj=> ?_, ?_, ?_, ?_, ?_⟩,by rw[List.length_set]; exact HL2.out,fun i hi=> ?_, ?_, ?_⟩
    ·rw[List.getElem?_set_ne (by omega)]; exact h.tab i hi
    ·rw[List.getElem?_set_ne (by omega)]; exact h.rng j hj
    ·rw[List.getElem?_set_ne (by omega)]; exact h.win
    ·obtain⟨s,h1,h2,h3⟩:=h.st;refine⟨s,h1,by rw[List.getElem?_set_ne (by omega)]; exact h2,fun j b hb=>by rw[List.getElem?_set_ne (by omega)]; exact h3 j b hb⟩
    ·rw[List.getElem?_set_ne (by omega)]; exact h.len
    ·rw[List.getElem?_set_ne (by omega)]; exact h.sum
    ·rw[List.getElem?_set_ne (by omega)]; exact hcu i hi
    ·rw[List.getElem?_set_ne (by omega)]; exact HPO.out
    ·rw[List.getElem?_set_self (by rw[HL2.out]; decide),jE,if_pos hyes]; rfl
def Dm {α:Type} (Kp:World->World->Prop) (I:List α->World->Prop) (Ix:Code->List α->World->Prop) (xs:List α) (W:World):Exit->Act->World->Prop
 | .normal,_,B=>KeepsOthers W B/\Kp W B/\I xs B
 | .ret,_,B=>KeepsOthers W B/\Ix .ret xs B
 | .exit id,_,B=>KeepsOthers W B/\Ix (.exit id) xs B
 | .goto t,_,B=>KeepsOthers W B/\Ix (.goto t) xs B
 | .panic _,_,_=>False
 | .outgrown,_,_=>False
section
variable {P : Program} {α : Type}
theorem wM {W W':World} (h:Below W.heap.size W W'):W.grownBy W' none:=⟨h.os,h.tape,h.output,h.size,fun k hk _=>h.block k hk⟩
theorem oC {W:World} {l:Nat} {r:Loop} (h:W.heap[l]? =some (.loop r)) (o:Obj):(W.putObj l o).heap[l]? =some o:=World.putObj_heap_same (Array.getElem?_eq_some_iff.1 h).1
end
def yr {σ:Type} (mt:TypeId) (n:Nat) (I:σ->World->Prop):Prop:=
 ∀s A B row,I s A->A.grownBy B row->(∀r,row=some r->n<=r/\ ∃cs,A.heap[r]? =some (.cells cs mt (0,0)))->I s B
def Gs {α:Type} (P:Program) (g:Nat) (lb:Array Value) (encs:α->Array Value) (D:List α->α->World->Prop) (Kp:World->World->Prop) (S Sp:List α->Prop) (N:Nat) (mt:TypeId) (w:World):Prop:=
 ∀(l:Nat) (J Jx:List α->World->Prop) (W:World),Below w.heap.size w W->yr mt W.heap.size J->
  (∀pre x A,J pre A->D pre x A->pre.length<N->YieldAt Fence.wide 2 P l (encs x) A fun e B=>(e= .returned (.bool true)/\J (pre++[x]) B/\Kp A B)\/(e= .returned (.bool false)/\Jx (pre++[x]) B))->
  J [] W->
  CallsIn Fence.wide 3 P g (#[.func (.yield l) #[] #[]]++lb) W fun e B=>(∃v,e= .returned v)/\((∃xs,S xs/\J xs B)\/(∃pre,Sp pre/\Jx pre B))
section
variable {P : Program} {α : Type}
theorem Bt {g:Operand} {ps:Array Tmp} {assign body:Code} {Q:Exit->Act->World->Prop} {a:Act} {w:World} {gf:Nat} {lb:Array Value} (hg:a.eval g= .func (.func gf) #[] lb) (eg: ∀args w,(callFunc gf args).run P w= .ok (.enter gf args) w)
  {encs:α->Array Value} {D:List α->α->World->Prop} {Kp:World->World->Prop} {S Sp:List α->Prop} {N:Nat} {mt:TypeId} (hseq:Gs P gf lb encs D Kp S Sp N mt w)
  (hKt: ∀ {A B C:World},Kp A B->Kp B C->Kp A C) (hKb: ∀(W:World) (l:Nat) (o o':Obj),w.heap.size<=l->W.heap[l]? =some o->o.isCells=false->o.isWalk=false->Kp W (W.putObj l o')) (hps: ∀x,(encs x).size=ps.size)
  (I:List α->World->Prop) (Ix:Code->List α->World->Prop) (Ax:List α->α->Act->World->Prop) (hI:OwnFrom w.heap.size I) (hI2:yr mt w.heap.size I) (hIx: ∀c,OwnFrom w.heap.size (Ix c))
  (hAx:OwnFrom w.heap.size (fun(s:List α×α×Act) W=>Ax s.1 s.2.1 s.2.2 W)) (h0:I [] w)
  (hassign: ∀(l:Nat) (pre:List α) (x:α) (W:World),w.heap.size<W.heap.size->I pre W->D pre x W->pre.length<N->assign.wpIn (Fence.wide.inRound l) 2 P (Exit.then (fun a₁ B=>KeepsOthers W B/\Kp W B/\Ax pre x a₁ B) (fun _ _ _=>False)) {tmps:=(ps.zip (encs x)).foldl (fun t (p,v)=>t.setIfInBounds p v) a.tmps,defers:=[]} W)
  (hbody: ∀(l:Nat) (pre:List α) (x:α) (a₁:Act) (W:World),Ax pre x a₁ W->body.wpIn (Fence.wide.inRound l) 2 P (Dm Kp I Ix (pre++[x]) W) a₁ W)
  (hdone: ∀(Dl:Nat) (xs:List α) (W:World),w.heap.size<=Dl->S xs->I xs W->W.heap[Dl]? =some (.deferred (some []))->Q .normal {a with defers:= {target:= .collected Dl,args:= #[]} ::a.defers} W)
  (hstop: ∀(Dl:Nat) (c:Code) (pre:List α) (W:World),w.heap.size<=Dl->Sp pre->Ix c pre W->W.heap[Dl]? =some (.deferred (some []))->c.wp P Q {a with defers:= {target:= .collected Dl,args:= #[]} ::a.defers} W):
  (Code.rangeFunc g ps assign body).wp P Q a w:=by
 refine(wpIn_wide (n:=4)).1 (wpIn_rangeFunc (fun fn hfn=> ?_))
 show ∃l mark w₁ d w₁' f args w₂,_
 let rec_:LoopState->Option Code->Loop:=fun st pe=> {state:=st,pending:=pe,fn:=fn,tmps:=a.tmps,params:=ps,assign:=assign,body:=body,defers:=w.heap.size}
 obtain⟨rec,hrec⟩: ∃r,r=rec_:=⟨_,rfl⟩;have hrp: ∀st pe,(rec st pe).params=ps:=fun st pe=>by rw[hrec]
 have hrs: ∀st pe,(rec st pe).state=st:=fun st pe=>by rw[hrec]
 have hrj: ∀st pe,(rec st pe).pending=pe:=fun st pe=>by rw[hrec]
 obtain⟨L,hL⟩: ∃L,L=w.heap.size+1:=⟨_,rfl⟩;obtain⟨V,hV⟩: ∃V,(w.alloc (.deferred (some []))).alloc (.loop (rec .ready none))=V:=⟨_,rfl⟩;have hVL:V.heap[L]? =some (.loop (rec .ready none)):=by
  rw[<-hV,hL]; have:=World.alloc_heap_new (w.alloc (.deferred (some []))) (.loop (rec .ready none)); rwa [World.size_alloc]at this
 have hVD:V.heap[w.heap.size]? =some (.deferred (some [])):=by
  rw[<-hV]; exact(Below.heap_alloc _ _ _ (by simp)).trans (World.alloc_heap_new w _)
 have hVI:I [] V:=by rw[<-hV]; exact hI.alloc _ (hI.alloc _ h0)
 have hVB:Below w.heap.size w V:=by rw[<-hV]; exact((Below.refl _ w).alloc (Nat.le_refl _) _).alloc (by simp) _
 let J:List α->World->Prop:=fun pre W=>I pre W/\W.heap[L]? =some (.loop (rec .ready none))/\W.heap[w.heap.size]? =some (.deferred (some []))
 let Jx:List α->World->Prop:=fun pre W=> ∃c,Ix c pre W/\W.heap[L]? =some (.loop (rec .done (some c)))/\W.heap[w.heap.size]? =some (.deferred (some []))
 have hVs:w.heap.size+2<=V.heap.size:=by rw[<-hV]; simp
 have hJ:yr mt V.heap.size J:=by
  rintro s A B row ⟨h1,h2,h3⟩ hg hr;have hne: ∀(k:Nat) (o:Obj),A.heap[k]? =some o->o.isCells=false->row≠some k:=fun k o hk hw e=>by
   obtain⟨_,cs,ho⟩:=hr k e;rw[hk]at ho; cases ho; cases hw
  refine⟨hI2 s A B row h1 hg (fun r e=> ?_), ?_, ?_⟩
  ·obtain⟨h4,cs,ho⟩:=hr r e;exact⟨by omega,cs,ho⟩
  ·exact(hg.block _ (Array.getElem?_eq_some_iff.1 h2).1 (fun e=>hne _ _ h2 rfl e.symm)).trans h2
  ·exact(hg.block _ (Array.getElem?_eq_some_iff.1 h3).1 (fun e=>hne _ _ h3 rfl e.symm)).trans h3
 have hend: ∀(jump:Option Code) (W B:World),W.heap[L]? =some (.loop (rec .busy none))->W.heap[w.heap.size]? =some (.deferred (some []))->KeepsOthers W B->
   (Instr.endRound L jump).run P B= .ok (.bool jump.isNone) (B.putObj L (.loop (rec (if jump.isNone then .ready else .done) jump)))/\B.heap[L]? =some (.loop (rec .busy none))/\
   (B.putObj L (.loop (rec (if jump.isNone then .ready else .done) jump))).heap[L]? =some (.loop (rec (if jump.isNone then .ready else .done) jump))/\
   (B.putObj L (.loop (rec (if jump.isNone then .ready else .done) jump))).heap[w.heap.size]? =some (.deferred (some [])):=by
  intro jump W B h1 h2 hk;have hb:=hk.same _ _ h1 rfl;have hd:=hk.same _ _ h2 rfl;have:=run_endRound (P:=P) jump hb;refine⟨?_,hb,oC hb _,(World.putObj_heap_other (by omega)).trans hd⟩;rw[this,hrec]
 have hround: ∀pre x A,J pre A->D pre x A->pre.length<N->YieldAt Fence.wide 2 P L (encs x) A fun e B=>(e= .returned (.bool true)/\J (pre++[x]) B/\Kp A B)\/(e= .returned (.bool false)/\Jx (pre++[x]) B):=by
  rintro pre x A ⟨hi,hl,hk⟩ hd hN;have hlt:L<A.heap.size:=(Array.getElem?_eq_some_iff.1 hl).1;have hy:=run_yield (P:=P) (args:=encs x) hl (by rw[hrp]; exact hps x);refine⟨_,_,_,_,hy, ?_⟩;rw[hrec];refine roundIn_of_wpIn hfn (wpIn_mono (hassign L pre x A (by omega) hi hd hN) ?_);rintro e a₁ B hB
  cases e with
  | normal=>
   obtain⟨hko,hkp,hax⟩:=hB;have hl1:=hko.same _ _ hl rfl;have hk1:=hko.same _ _ hk rfl;have hbr:=run_beginRound (P:=P) hl1 (hrs _ _);refine⟨_,hbr, ?_⟩;have hbz:({rec .ready none with state:= .busy} :Loop)=rec .busy none:=by rw[hrec]
   rw[hbz];have hl2:=oC hl1 (.loop (rec .busy none));have hk2:(B.putObj L (.loop (rec .busy none))).heap[w.heap.size]? =some (.deferred (some [])):=(World.putObj_heap_other (by omega)).trans hk1;have hax2:Ax pre x a₁ (B.putObj L (.loop (rec .busy none))):=hAx.putObj (s:=(pre,x,a₁)) _ hax (by omega) hl1 rfl;have hkp2:Kp A (B.putObj L (.loop (rec .busy none))):=hKt hkp (hKb _ _ _ _ (by omega) hl1 rfl rfl)
   refine wpIn_mono (hbody L pre x a₁ _ hax2) ?_;rintro e a3 C hC
   cases e with
   | normal=>
    obtain⟨c1,c2,c3⟩:=hC;obtain⟨r1,r2,r3,r4⟩:=hend none _ C hl2 hk2 c1;exact⟨_,_,r1, .inl ⟨rfl,⟨hI.putObj _ c3 (by omega) r2 rfl,r3,r4⟩,hKt (hKt hkp2 c2) (hKb _ _ _ _ (by omega) r2 rfl rfl)⟩⟩
   | ret=>
    obtain⟨c1,c3⟩:=hC;obtain⟨r1,r2,r3,r4⟩:=hend (some .ret) _ C hl2 hk2 c1;exact⟨_,_,r1, .inr ⟨rfl,_,(hIx _).putObj _ c3 (by omega) r2 rfl,r3,r4⟩⟩
   | exit id=>
    obtain⟨c1,c3⟩:=hC;obtain⟨r1,r2,r3,r4⟩:=hend (some (.exit id)) _ C hl2 hk2 c1;exact⟨_,_,r1, .inr ⟨rfl,_,(hIx _).putObj _ c3 (by omega) r2 rfl,r3,r4⟩⟩
   | goto t=>
    obtain⟨c1,c3⟩:=hC;obtain⟨r1,r2,r3,r4⟩:=hend (some (.goto t)) _ C hl2 hk2 c1;exact⟨_,_,r1, .inr ⟨rfl,_,(hIx _).putObj _ c3 (by omega) r2 rfl,r3,r4⟩⟩
   | panic ch=>exact hC.elim
   | outgrown=>exact hC.elim
  | ret=>exact hB.elim
  | exit id=>exact hB.elim
  | goto t=>exact hB.elim
  | panic ch=>exact hB.elim
  | outgrown=>exact hB.elim
 refine⟨L,[{target:= .collected w.heap.size,args:= #[]}],V,{target:= .fn (.func gf) lb,args:= #[.func (.yield L) #[] #[]]},V,gf, #[.func (.yield L) #[] #[]]++lb,V, ?_, ?_,fun _ _=>trivial, ?_,fun _=>by omega, ?_⟩
 ·rw[<-hV,hL,hrec]; exact run_enterLoop_outer _ _ _ _ _
 ·simp only[resolve,hg];simp[go_sem]
 ·simp[invoke,go_sem,eg]
 ·refine(hseq L J Jx V hVB hJ hround ⟨hVI,hVL,hVD⟩).mono ?_;rintro e B ⟨⟨v,rfl⟩,hB⟩
  rcases hB with⟨xs,hS,hi,hl,hk⟩ | ⟨pre,hS,c,hi,hl,hk⟩
  ·have:=run_endLoop (P:=P) hl (by rw[hrs]; simp);rw[hrj]at this;exact⟨none,_,this,hdone _ xs _ (Nat.le_refl _) hS (hI.putObj _ hi (by omega) hl rfl) ((World.putObj_heap_other (by omega)).trans hk)⟩
  ·have:=run_endLoop (P:=P) hl (by rw[hrs]; simp);rw[hrj]at this;exact⟨some c,_,this,(wpIn_wide (n:=4)).2 (hstop _ c pre _ (Nat.le_refl _) hS ((hIx c).putObj _ hi (by omega) hl rfl) ((World.putObj_heap_other (by omega)).trans hk))⟩
end
attribute [local go_sem] Oper.semAt_some
def dk (t:TypeId) (A B:World):Prop:= ∀(k:Nat) (cs:Array Value),A.heap[k]? =some (.cells cs t (0,0))->B.heap[k]? =A.heap[k]?
section
variable {t : TypeId} {A B C : World} {n : Nat}
theorem dk.refl (A:World):dk t A A:=fun _ _ _=>rfl
theorem dk.trans (h:dk t A B) (k:dk t B C):dk t A C:=fun i cs hi=>(k i cs ((h i cs hi).trans hi)).trans (h i cs hi)
theorem dk.below (h:Below A.heap.size A B):dk t A B:=fun i _ hi=>h.block i (Array.getElem?_eq_some_iff.1 hi).1
theorem dk.grown {row:Option Nat} (h:A.grownBy B row) (hr: ∀r,row=some r-> ∀cs,A.heap[r]? ≠some (.cells cs t (0,0))):dk t A B:=fun i cs hi=>h.block i (Array.getElem?_eq_some_iff.1 hi).1 (fun e=>hr i e.symm cs hi)
end
theorem iF {A:World} {base sz m k:Nat} {t:TypeId} {v:Value} {xs:List Value} (h:A.ownsRow base t sz v m xs) (hk:v.ownBlock=some k):base<=k/\ ∃cur,A.heap[k]? =some (.cells cur t (0,0)):=by
 rcases h.2 with⟨rfl,_⟩ | ⟨g,cap,cur,rfl,hb,hgb,_⟩
 ·cases hk
 ·simp only[Value.ownBlock,Option.some.injEq]at hk;subst hk;exact⟨hb,cur,hgb⟩
theorem AG {seed W:Nat} :kJ seed W [] (eQ seed (List.replicate 64 0) W 0 0 0):=by
 have h0:jd W []=[]:=by unfold jd; simp
 have ht:=mh seed;have g: ∀i,256<=i->(eQ seed (List.replicate 64 0) W 0 0 0)[i]? =((List.replicate 64 (0:UInt8)).map au++[Value.int .i64 (W:Int), .int .i64 0, .int .i64 0, .int .u64 0])[i-256]? :=fun i hi=>by
  unfold eQ; rw[List.getElem?_append_right (by omega),ht]; rfl
 refine⟨fun i hi=> ?_,fun j hj=>⟨0, ?_⟩, ?_,⟨0,by decide, ?_,fun j b hb=>by rw[h0]at hb; cases hb⟩, ?_, ?_⟩
 ·unfold eQ;rw[List.getElem?_append_left (by omega)];unfold mM;rw[List.getElem?_map,List.getElem?_range hi]; rfl
 ·rw[g _ (by omega),Nat.add_sub_cancel_left,List.getElem?_append_left (by simpa using hj),List.getElem?_map,List.getElem?_replicate,if_pos hj]; rfl
 ·rw[g _ (by decide)]; rfl
 ·rw[g _ (by decide)]; rfl
 ·rw[g _ (by decide)]; simp
 ·rw[g _ (by decide),h0]; rfl
theorem Ac {c:dN} (hc:iI c=true) (data:List UInt8):mU c data 0 (kO c (eQ c.seed (List.replicate 64 0) c.win.toNat 0 0 0) 0 (-c.mn)):=by
 have hv:=km.1 hc;have hl:(eQ c.seed (List.replicate 64 0) c.win.toNat 0 0 0).length=324:=mI _ (by simp) _ _ _ _;have h:=AG (seed:=c.seed) (W:=c.win.toNat);have lo: ∀i,i<324->(kO c (eQ c.seed (List.replicate 64 0) c.win.toNat 0 0 0) 0 (-c.mn))[i]? =(eQ c.seed (List.replicate 64 0) c.win.toNat 0 0 0)[i]? :=fun i hi=>by
  unfold kO; rw[List.getElem?_append_left (by omega)]
 have hi': ∀i,(kO c (eQ c.seed (List.replicate 64 0) c.win.toNat 0 0 0) 0 (-c.mn))[324+i]? =(dA c++[Value.int .i64 0,Value.int .i64 (-c.mn)])[i]? :=fun i=>by
  unfold kO; rw[List.getElem?_append_right (by omega),hl,Nat.add_sub_cancel_left]
 refine⟨⟨fun i hi=> ?_,fun j hj=> ?_, ?_, ?_, ?_, ?_⟩,mE c hl _ _,fun i hi=> ?_, ?_, ?_⟩
 ·rw[lo _ (by omega)]; exact h.tab i hi
 ·rw[lo _ (by omega)]; exact h.rng j hj
 ·rw[lo _ (by omega)]; exact h.win
 ·obtain⟨s,h1,h2,h3⟩:=h.st;exact⟨s,h1,by rw[lo _ (by omega)]; exact h2,fun j b hb=>by rw[lo _ (by omega)]; exact h3 j b hb⟩
 ·rw[lo _ (by omega)]; exact h.len
 ·rw[lo _ (by omega)]; exact h.sum
 ·rw[hi',List.getElem?_append_left (by simpa [dA]using hi)]
 ·rw[show 329=324+5 from rfl,hi']; rfl
 ·rw[show 330=324+6 from rfl,hi',jE];have: -c.mn= -((c.mn.toNat:Nat):Int):=by omega
  rw[this]; rfl
theorem oV (mk:Nat->Bool) (mn mx len:Nat): ∀p,(eG mk mn mx len p).length<=p/\fK (eG mk mn mx len p)<=p
 | 0=>⟨by simp[eG],by simp[eG,fK]⟩
 | p+1=>by
  have:=oV mk mn mx len p;rw[eG]
  split
  ·rw[List.length_append,fz]; simp; omega
  ·omega
def eD (c:dN) (dv:Value) (b1 b2:Nat) (w:World):Prop:=w.heap[b1]? =some (.cells (dA c).toArray 45 (0,0))/\w.heap[b2]? =some (.cells #[dv] 29 (0,0))
def BO (b1 b2:Nat) (A B:World):Prop:=B.heap[b1]? =A.heap[b1]? /\B.heap[b2]? =A.heap[b2]?
theorem eD.same {c:dN} {dv:Value} {b1 b2:Nat} {A B:World} (h:eD c dv b1 b2 A) (hk:BO b1 b2 A B):eD c dv b1 b2 B:=⟨hk.1.trans h.1,hk.2.trans h.2⟩
theorem eD.below {c:dN} {dv:Value} {b1 b2:Nat} {A B:World} (h:eD c dv b1 b2 A) (hb:Below A.heap.size A B):eD c dv b1 b2 B:=h.same ⟨hb.block _ (lt_of_block h.1),hb.block _ (lt_of_block h.2)⟩
theorem eD.grown {c:dN} {dv:Value} {b1 b2 r:Nat} {A B:World} (h:eD c dv b1 b2 A) (hg:A.grownBy B (some r)) (h1:b1<r) (h2:b2<r):eD c dv b1 b2 B:=
 h.same ⟨hg.block _ (lt_of_block h.1) (fun e=>by cases e; omega),hg.block _ (lt_of_block h.2) (fun e=>by cases e; omega)⟩
theorem eD.mx {c:dN} {dv:Value} {b1 b2:Nat} {A:World} (h:eD c dv b1 b2 A):A.cell? ⟨b1,1,none⟩=some (.int .i64 c.mx):=(cell_of_row A _ 1 _ _ _ h.1).trans rfl
theorem eD.dat {c:dN} {dv:Value} {b1 b2:Nat} {A:World} (h:eD c dv b1 b2 A):A.cell? ⟨b2,0,none⟩=some dv:=(cell_of_row A _ 0 _ _ _ h.2).trans rfl
def Ee (c:dN) (data:List UInt8) (b1 b2 n₀:Nat) (w:World):Prop:=
 Gs Tryz.prog 186 #[.pointer (some ⟨b1,0,none⟩), .pointer (some ⟨b2,0,none⟩)] (fun q:Nat=> #[.int .i64 (q:Int)]) (fun pre q _=>fK pre<q/\q<=data.length)
  (fun A B=>Below n₀ A B/\dk 239 A B/\BO b1 b2 A B) (fun xs=>xs=uH (tt c data) c.mn.toNat c.mx.toNat data.length) (fun _=>True) data.length 239 w
theorem go {B b:Nat} {w0 w w':World} (hb:Below B w0 w) (h:w.grownBy w' (some b)) (h1:B<=b) (h2:B<=w.heap.size):Below B w0 w':=
 hb.trans ⟨h.os,h.tape,h.output,h.size,fun k hk=>h.block k (by omega) (fun e=>by cases e; omega)⟩
theorem od (c:dN) (data:List UInt8) (p:Nat) (b:UInt8) (pr:Bool) (mb:Nat) (ty:TypeId) (cs:List Value) (w:World) (hc:iI c=true) (hb:data[p]? =some b) (hp:data.length<=1048576) (hbox:w.heap[mb]? =some (.cells cs.toArray ty (0,0))) (hm:mU c data p cs) (hT:ua w) (hmb:mb≠6) (hpr:pr=pP (tt c data) c.mn.toNat (p+1)):
  Calls Tryz.prog 188 #[.pointer (some ⟨mb,0,none⟩), .int .u8 (b.toNat:Int)] w fun e w'=>e= .returned (.bool pr)/\(∃cs',w'.heap[mb]? =some (.cells cs'.toArray ty (0,0))/\mU c data (p+1) cs')/\w.grownBy w' (some mb):=by
 rw[hpr]; exact Dy c data p b mb ty cs w hc hb hp hbox hm hT hmb
theorem Cn (S:Nat->Prop) (c:dN) (data:List UInt8) (dv:Value) (b1 b2:Nat) (w wc:World) (hc:iI c=true) (hs:c.seed<18446744073709551616) (hx:eD c dv b1 b2 wc) (hd:aD S w dv data) (hl:data.length<=1048576) (hT:ua w) (hbc:Below w.heap.size w wc):
  Ee c data b1 b2 w.heap.size wc:=by
 intro l J Jx W hbW' hJ hY h0;have hbW:=ag hbc hbW';have HBW:=ab hbW;have HV:=ab hc;have HD:=ab hd;have HT:=ab hT;have HJ:=ab hJ;have HY:=ab hY;have H0:=ab h0;have HCP:=ab (hx.below hbW');have HCL:=ab (show b1<W.heap.size/\b2<W.heap.size from⟨lt_of_block HCP.out.1,lt_of_block HCP.out.2⟩);obtain⟨_,da,dcap,rfl,hdc,hdm,hdr⟩:=id hd;obtain⟨n,hn⟩: ∃n,n=data.length:=⟨_,rfl⟩
 rw[<-hn]at HCP hdc hl;have HN:=ab hn;have hv:=km.1 hc;obtain⟨mx,hmx⟩: ∃mx,mx=c.mx.toNat:=⟨_,rfl⟩;obtain⟨mn,hmn⟩: ∃mn,mn=c.mn.toNat:=⟨_,rfl⟩;have hmxi:c.mx=(mx:Int):=by omega
 have hmx1:mx<=32768:=by omega
 have HMX:=ab (And.intro hmx (And.intro hmxi hmn));have HCW:=ab (show c.win=(c.win.toNat:Int)/\1<=c.win.toNat/\c.win.toNat<=64/\0<=c.mn/\c.mn<=32768 by omega);have hr:=kE HCP.out.1;have HR:=ab hr;have HI5:=ab (show(Tryz.prog.info? 45).map (·.size)=some (dA c).length by kernel_rfl);clear hJ hY h0 hbW hbW' hbc hc hd hT hx hn hv hmx hmn hmxi hr;have y2:=HCP.out.dat
 refine callsIn_wide.2 ?_
 show Calls Tryz.prog 186 #[.func (.yield l) #[] #[], .pointer (some ⟨b1,0,none⟩), .pointer (some ⟨b2,0,none⟩)] W _
 go_enter Tryz.func186,Tryz.ntmps186
 go_wp2_with (first | (refine wpList_load_mid rfl 45 _ rfl b1 0 rfl (dA c) _ HR.out Tryz.underlying45 rfl HI5.out ?_) | fail);refine(qE c c.win.toNat W hs HCW.out.1 HCW.out.2.1 HCW.out.2.2.1 HCW.out.2.2.2).mono ?_;rintro e w5 ⟨rfl,hb5⟩;obtain⟨mc,hmc⟩: ∃mc,mc=kO c (eQ c.seed (List.replicate 64 0) c.win.toNat 0 0 0) 0 (-c.mn):=⟨_,rfl⟩;rw[<-hmc];have hml:mc.length=331:=by rw[hmc]; exact mE c (mI _ (by simp) _ _ _ _) _ _
 have HMC:=ab hmc;have HML:=ab (show mU c data 0 mc by rw[hmc]; exact Ac HV.out data);have HI331:=ab (show(Tryz.prog.info? 239).map (·.size)=some mc.toArray.size by rw[List.size_toArray,hml]; kernel_rfl);have HOLD:=ab (show Tryz.zeroCells239.size=mc.toArray.size by rw[show mc.toArray.size=331 from by rw[List.size_toArray]; exact hml]; kernel_rfl);have HONE:=ab (show mc.toArray.all (·.oneCell')=true from all_oneCell_toArray (by rw[hmc]; exact rR c _ _ _))
 have HB5:=ab hb5;clear hb5 hmc hml y2;have y2:=(HCP.out.below HB5.out).dat
 have HB6:=ab (show Below w5.heap.size w5 ((w5.alloc (.cells Tryz.zeroCells239 239)).setRow w5.heap.size mc.toArray)from below_setRow ((Below.refl _ _).alloc (Nat.le_refl _) _) (Nat.le_refl _) _);have HX6:=ab (show((w5.alloc (.cells Tryz.zeroCells239 239)).setRow w5.heap.size mc.toArray).heap[w5.heap.size]? =some (.cells mc.toArray 239 (0,0))from setRow_heap _ _ _ _ _ _ (heap_alloc_new w5 _))
 have y3:=(HB6.out.cell (aR y2)).trans y2;go_wp2_with (first | (refine wpList_store_row rfl 239 _ _ rfl w5.heap.size _ rfl rfl _ _ (heap_alloc_new w5 _) HI331.out HOLD.out HONE.out ?_) | fail)
 generalize (w5.alloc (.cells Tryz.zeroCells239 239)).setRow w5.heap.size mc.toArray=w6 at *
 obtain⟨mb,hmb⟩: ∃mb,mb=w5.heap.size:=⟨_,rfl⟩;have HMB:=ab (show W.heap.size<=mb/\mb≠6 by
  have h1:=HB5.out.size;have h2:=HBW.out.size;have h3:=HT.out.lt
  omega)
 have HB6w:=ab (ag HB5.out HB6.out);rw[<-hmb]at HB6 HX6 ⊢;clear hmb y2 y3
 go_loopw [13,5] (fun i s wr=> ∃(k:Nat) (pre:List Nat) (cs:List Value),k<=n/\i= .int .i64 (k:Int)/\pre=eG (tt c data) mn mx n k/\s= .int .i64 ((fK pre:Nat):Int)/\J pre wr/\Below w.heap.size w wr/\wr.heap[mb]? =some (.cells cs.toArray 239 (0,0))/\mU c data k cs/\eD c (.slice da n dcap) b1 b2 wr) (fun i _ _=>n-(intOf i).toNat)
 case atStart=>exact⟨0,[],mc,Nat.zero_le _,rfl,rfl,rfl,HJ.out _ _ _ none H0.out (wM HB6w.out) (fun r e=>by cases e),ag HBW.out HB6w.out,HX6.out,HML.out,HCP.out.below HB6w.out⟩
 case round=>
  obtain⟨k,pre,cs,hk,rfl,hpre,rfl,hJk,hbr,hbx,hml,hcr⟩:=hrel;have HCR:=ab hcr;have HPRE:=ab hpre;have HJK:=ab hJk;have HBR:=ab hbr;have HBX:=ab hbx;have HML2:=ab hml;have hpl:=oV (tt c data) mn mx n k;rw[<-hpre]at hpl;obtain⟨sn,hsn⟩: ∃sn,sn=fK pre:=⟨_,rfl⟩;rw[<-hsn]at hpl ⊢;have HSN:=ab hsn;clear hpre hJk hbr hbx hml hsn hcr
  by_cases hlt:k<n
  ·obtain⟨b,hb⟩: ∃b,data[k]? =some b:=⟨data[k]'(by rw[<-HN.out]; exact hlt),by simp⟩
   rcases hdr with hdr | ⟨db,dof,rfl,hS,hcc⟩
   ·rw[<-HN.out]at hdr; omega
   have hcell:=(HBR.out.cell (aR (hcc k (au b) (by rw[List.getElem?_map,hb]; rfl)))).trans (hcc k (au b) (by rw[List.getElem?_map,hb]; rfl));have y2:=HCR.out.dat
   have hki:(k:Int)<(n:Int):=by omega
   have hinc:IntKind.i64.wrap ((k:Int)+1)=((k+1:Nat):Int):=by rw[IntKind.wrap_i64]; omega
   have HB:=ab hb;clear hcc hb hS;unfold maxLen at hdm
   change wr.cell? ⟨db,dof+k,none⟩=some (.int .u8 (b.toNat:Int))at hcell
   obtain⟨pr,hpr⟩: ∃pr,pr=pP (tt c data) c.mn.toNat (k+1):=⟨_,rfl⟩;have HPR:=ab hpr;clear hpr;have hsub:IntKind.i64.wrap ((k:Int)+1-(sn:Int))=(k:Int)+1-(sn:Int):=by rw[IntKind.wrap_i64]; omega
   by_cases hp:pr=true
   ·subst hp;have HST:=ab (show gN (tt c data) mn mx n sn (k+1)=true by unfold gN; rw[HMX.out.2.2,<-HPR.out]; rfl)
    go_upto_region 7 with(fail)
    refine(od c data k b _ mb 239 cs _ HV.out HB.out (by rw[<-HN.out]; exact hl) HBX.out HML2.out (HT.out.block (HBR.out.block _ HT.out.lt) HBR.out.size) HMB.out.2 HPR.out).mono ?_;rintro e w7 ⟨rfl,⟨cs7,hx7,hm7⟩,hg7⟩;have HX7:=ab hx7;have HM7:=ab hm7;have HG7:=ab hg7;have HB7:=ab (go HBR.out hg7 (Nat.le_trans HBW.out.size HMB.out.1) HBR.out.size);clear hx7 hm7 hg7;have HCE:=ab (HCR.out.grown HG7.out (Nat.lt_of_lt_of_le HCL.out.1 HMB.out.1) (Nat.lt_of_lt_of_le HCL.out.2 HMB.out.1)); have z2:=HCE.out.dat
    have z1:=HCE.out.mx; rw[HMX.out.2.1]at z1
    go_upto_region 7 with(fail)
    have HJ7:=ab (HJ.out _ _ _ _ HJK.out HG7.out (fun r e=>by cases e; exact⟨HMB.out.1,cs.toArray,HBX.out⟩));have HDQ:=ab (show fK pre<k+1/\k+1<=data.length from⟨by rw[<-HSN.out]; omega,by rw[<-HN.out]; omega⟩);have HPL:=ab (show pre.length<data.length by rw[<-HN.out]; omega);obtain⟨fn,tmps,assign,body,hy,hR⟩:=HY.out pre (k+1) w7 HJ7.out HDQ.out HPL.out;rw[show(((k+1:Nat):Int))=(k:Int)+1 from rfl]at hy
    refine(wpIn_wide (n:=3)).1 ?_
    gi_wp2_with (fail)
    refine hR.mono ?_;rintro e6 w8 (⟨rfl,hj8,hk8⟩ | ⟨rfl,hj8⟩)
    ·have HJ8:=ab hj8;have HK8:=ab hk8;clear hj8 hk8 hy hR
     gi_wp2
     go_wp2_with fail
     go_roundw
     case rel=>
      refine⟨k+1,pre++[k+1],cs7,by omega,by go_num, ?_,by rw[fz]; rfl,HJ8.out,HB7.out.trans HK8.out.1,(HK8.out.2.1 mb _ HX7.out).trans HX7.out,HM7.out,HCE.out.same HK8.out.2.2⟩;rw[eG,<-HPRE.out,<-HSN.out,HST.out,if_pos rfl]
     case measure=>simp[intOf]; omega
    ·have HJ8:=ab hj8;clear hj8 hy hR
     gi_wp2
     go_wp2_with fail;refine bodyPost_ret (results_none rfl _ _ _) rfl ?_;exact⟨⟨_,rfl⟩, .inr ⟨pre++[k+1],trivial,HJ8.out⟩⟩
   ·have hp0:pr=false:=by simpa using hp
    subst hp0;clear hp
    by_cases hm:sn+mx<=k+1
    ·have hmi:(mx:Int)<=(k:Int)+1-(sn:Int):=by omega
     have hmj: ¬(k:Int)+1-(sn:Int)<(mx:Int):=by omega
     have HST:=ab (show gN (tt c data) mn mx n sn (k+1)=true by unfold gN; rw[decide_eq_true hm]; simp)
     go_upto_region 7 with(fail)
     refine(od c data k b _ mb 239 cs _ HV.out HB.out (by rw[<-HN.out]; exact hl) HBX.out HML2.out (HT.out.block (HBR.out.block _ HT.out.lt) HBR.out.size) HMB.out.2 HPR.out).mono ?_;rintro e w7 ⟨rfl,⟨cs7,hx7,hm7⟩,hg7⟩;have HX7:=ab hx7;have HM7:=ab hm7;have HG7:=ab hg7;have HB7:=ab (go HBR.out hg7 (Nat.le_trans HBW.out.size HMB.out.1) HBR.out.size);clear hx7 hm7 hg7;have HCE:=ab (HCR.out.grown HG7.out (Nat.lt_of_lt_of_le HCL.out.1 HMB.out.1) (Nat.lt_of_lt_of_le HCL.out.2 HMB.out.1)); have z2:=HCE.out.dat
     have z1:=HCE.out.mx; rw[HMX.out.2.1]at z1
     go_upto_region 7 with(fail)
     have HJ7:=ab (HJ.out _ _ _ _ HJK.out HG7.out (fun r e=>by cases e; exact⟨HMB.out.1,cs.toArray,HBX.out⟩));have HDQ:=ab (show fK pre<k+1/\k+1<=data.length from⟨by rw[<-HSN.out]; omega,by rw[<-HN.out]; omega⟩);have HPL:=ab (show pre.length<data.length by rw[<-HN.out]; omega);obtain⟨fn,tmps,assign,body,hy,hR⟩:=HY.out pre (k+1) w7 HJ7.out HDQ.out HPL.out;rw[show(((k+1:Nat):Int))=(k:Int)+1 from rfl]at hy
     refine(wpIn_wide (n:=3)).1 ?_
     gi_wp2_with (fail)
     refine hR.mono ?_;rintro e6 w8 (⟨rfl,hj8,hk8⟩ | ⟨rfl,hj8⟩)
     ·have HJ8:=ab hj8;have HK8:=ab hk8;clear hj8 hk8 hy hR
      gi_wp2
      go_wp2_with fail
      go_roundw
      case rel=>
       refine⟨k+1,pre++[k+1],cs7,by omega,by go_num, ?_,by rw[fz]; rfl,HJ8.out,HB7.out.trans HK8.out.1,(HK8.out.2.1 mb _ HX7.out).trans HX7.out,HM7.out,HCE.out.same HK8.out.2.2⟩;rw[eG,<-HPRE.out,<-HSN.out,HST.out,if_pos rfl]
      case measure=>simp[intOf]; omega
     ·have HJ8:=ab hj8;clear hj8 hy hR
      gi_wp2
      go_wp2_with fail;refine bodyPost_ret (results_none rfl _ _ _) rfl ?_;exact⟨⟨_,rfl⟩, .inr ⟨pre++[k+1],trivial,HJ8.out⟩⟩
    ·have hmi:(k:Int)+1-(sn:Int)<(mx:Int):=by omega
     by_cases he:n<=k+1
     ·have hei:(n:Int)<=(k:Int)+1:=by omega
      have hej: ¬(k:Int)+1<(n:Int):=by omega
      have HST:=ab (show gN (tt c data) mn mx n sn (k+1)=true by unfold gN; rw[decide_eq_true he]; simp)
      go_upto_region 7 with(fail)
      refine(od c data k b _ mb 239 cs _ HV.out HB.out (by rw[<-HN.out]; exact hl) HBX.out HML2.out (HT.out.block (HBR.out.block _ HT.out.lt) HBR.out.size) HMB.out.2 HPR.out).mono ?_;rintro e w7 ⟨rfl,⟨cs7,hx7,hm7⟩,hg7⟩;have HX7:=ab hx7;have HM7:=ab hm7;have HG7:=ab hg7;have HB7:=ab (go HBR.out hg7 (Nat.le_trans HBW.out.size HMB.out.1) HBR.out.size);clear hx7 hm7 hg7;have HCE:=ab (HCR.out.grown HG7.out (Nat.lt_of_lt_of_le HCL.out.1 HMB.out.1) (Nat.lt_of_lt_of_le HCL.out.2 HMB.out.1)); have z2:=HCE.out.dat
      have z1:=HCE.out.mx; rw[HMX.out.2.1]at z1
      go_upto_region 7 with(fail)
      have HJ7:=ab (HJ.out _ _ _ _ HJK.out HG7.out (fun r e=>by cases e; exact⟨HMB.out.1,cs.toArray,HBX.out⟩));have HDQ:=ab (show fK pre<k+1/\k+1<=data.length from⟨by rw[<-HSN.out]; omega,by rw[<-HN.out]; omega⟩);have HPL:=ab (show pre.length<data.length by rw[<-HN.out]; omega);obtain⟨fn,tmps,assign,body,hy,hR⟩:=HY.out pre (k+1) w7 HJ7.out HDQ.out HPL.out;rw[show(((k+1:Nat):Int))=(k:Int)+1 from rfl]at hy
      refine(wpIn_wide (n:=3)).1 ?_
      gi_wp2_with (fail)
      refine hR.mono ?_;rintro e6 w8 (⟨rfl,hj8,hk8⟩ | ⟨rfl,hj8⟩)
      ·have HJ8:=ab hj8;have HK8:=ab hk8;clear hj8 hk8 hy hR
       gi_wp2
       go_wp2_with fail
       go_roundw
       case rel=>
        refine⟨k+1,pre++[k+1],cs7,by omega,by go_num, ?_,by rw[fz]; rfl,HJ8.out,HB7.out.trans HK8.out.1,(HK8.out.2.1 mb _ HX7.out).trans HX7.out,HM7.out,HCE.out.same HK8.out.2.2⟩;rw[eG,<-HPRE.out,<-HSN.out,HST.out,if_pos rfl]
       case measure=>simp[intOf]; omega
      ·have HJ8:=ab hj8;clear hj8 hy hR
       gi_wp2
       go_wp2_with fail;refine bodyPost_ret (results_none rfl _ _ _) rfl ?_;exact⟨⟨_,rfl⟩, .inr ⟨pre++[k+1],trivial,HJ8.out⟩⟩
     ·have hei:(k:Int)+1<(n:Int):=by omega
      have HST:=ab (show gN (tt c data) mn mx n sn (k+1)=false by unfold gN; rw[decide_eq_false he,decide_eq_false hm,HMX.out.2.2,<-HPR.out]; rfl);go_wp2_with (go_at_call 188; refine(od c data k b _ mb 239 cs _ HV.out HB.out (by rw[<-HN.out]; exact hl) HBX.out HML2.out (HT.out.block (HBR.out.block _ HT.out.lt) HBR.out.size) HMB.out.2 HPR.out).mono ?_; rintro e w7 ⟨rfl,⟨cs7,hx7,hm7⟩,hg7⟩; have HX7:=ab hx7; have HM7:=ab hm7; have HG7:=ab hg7; have HB7:=ab (go HBR.out hg7 (Nat.le_trans HBW.out.size HMB.out.1) HBR.out.size); clear hx7 hm7 hg7; have HCE:=ab (HCR.out.grown HG7.out (Nat.lt_of_lt_of_le HCL.out.1 HMB.out.1) (Nat.lt_of_lt_of_le HCL.out.2 HMB.out.1)); have z2:=HCE.out.dat; have z1:=HCE.out.mx; rw[HMX.out.2.1]at z1)
      go_roundw
      case rel=>
       refine⟨k+1,pre,cs7,by omega,by go_num, ?_,by rw[HSN.out], ?_,HB7.out,HX7.out,HM7.out,HCE.out⟩
       ·rw[eG,<-HPRE.out,<-HSN.out,HST.out,if_neg (by decide)]
       ·exact HJ.out _ _ _ _ HJK.out HG7.out (fun r e=>by cases e; exact⟨HMB.out.1,cs.toArray,HBX.out⟩)
      case measure=>simp[intOf]; omega
  ·have hk2:k=n:=by omega
   go_wp2_with fail
   go_end0
   refine⟨⟨_,rfl⟩, .inl ⟨pre, ?_,HJK.out⟩⟩;rw[HPRE.out,hk2,HN.out,HMX.out.1,HMX.out.2.2]; rfl
open Go Go.RowKit Go.Maps Go.MapKept
open Go.ChangeMaps (modify_eq_set map_eraseIdx)
def cT (P:Program) (k:TypeId) (w:World) (b:Nat) (m:List (Value×Value)):Prop:=
 ∃es clock,w.heap[b]? =some (.map es clock)/\es.toList.map (fun e=>(e.key,e.val))=m/\Stamped es clock/\ ∀p∈m,∃l,keyOf P k p.1=some l
section
variable {P : Program} {k t e : TypeId} {w w' : World} {b : Nat} {m : List (Value × Value)} {key val z : Value}
theorem qB {es:Array MapEntry} {clock:Nat} (h:Stamped es clock):((es.toList.map (fun e=>(e.key,e.val))).map Prod.fst).Nodup:=by
 rw[List.map_map];have:=((stamped_iff es clock).1 h).2.2;unfold List.Nodup;rw[List.pairwise_map];exact this
theorem cT.is (h:cT P k w b m):dB P k w b m:=by
 obtain⟨es,clock,hb,he,hs,hk⟩:=h;exact⟨es,clock,hb,he,by rw[<-he]; exact qB hs,hk⟩
theorem cT.lt (h:cT P k w b m):b<w.heap.size:=h.is.lt
theorem cT.same (h:cT P k w b m) (hs:w'.heap[b]? =w.heap[b]?):cT P k w' b m:=by
 obtain⟨es,clock,hb,h2⟩:=h;exact⟨es,clock,hs.trans hb,h2⟩
theorem cT.made (w:World):cT P k (w.alloc (.map #[] 0)) w.heap.size []:=⟨#[],0,(MapKept.heap_alloc w _).1,rfl,stamped_empty 0,by simp⟩
theorem cT.nodup (h:cT P k w b m):(m.map Prod.fst).Nodup:=by obtain⟨_,_,_,_,hn,_⟩:=h.is; exact hn
theorem jQ {w:World} {b:Nat} {x:Obj} (hb:w.heap[b]? =some x) (o:Obj):w.grownBy (ChangeMaps.setBlock w b o) (some b):=
 ⟨rfl,rfl,rfl,by simp[ChangeMaps.setBlock],fun i _ hi=>rF hb _ (fun e=>hi (by rw[e]))⟩
theorem cT.put (h:cT P k w b m) (K:Keyed P k) (ht:P.underlying t=some (.map k e)) (hkey: ∃l,keyOf P k key=some l) (hm: ∀p∈m,p.1≠key) (val:Value):
  ∃w',(Instr.mapUpdate t (.map (some b)) key val).run P w= .ok () w'/\cT P k w' b (m++[(key,val)])/\w.grownBy w' (some b):=by
 obtain⟨es,clock,hb,he,hst,hk⟩:=h;obtain⟨kl,hkl⟩:=hkey
 rcases K.find w hkl es.toList (dB.keys he hk)with⟨h1,h2⟩ | ⟨j,e0,h1,h2,h3⟩
 ·refine⟨ChangeMaps.setBlock w b (.map (es.push ⟨key,val,clock⟩) (clock+1)), ?_,⟨_,_,pg hb _, ?_,stamped_push hst h2, ?_⟩,jQ hb _⟩
  ·simp[Instr.mapUpdate,run_underlying ht,MapKept.run_getObj_map hb,K.check w false hkl,h1,MapKept.run_setObj_map _ hb,Result.andThen,ChangeMaps.setBlock]
  ·simp[<-he]
  ·intro p hp
   rcases List.mem_append.1 hp with hp | hp
   ·exact hk p hp
   ·simp only[List.mem_singleton]at hp;subst hp;exact⟨kl,hkl⟩
 ·exact absurd h3 (hm (e0.key,e0.val) (by rw[<-he]; exact List.mem_map.2 ⟨e0,List.mem_of_getElem? h2,rfl⟩))
theorem cT.over {m1 m2:List (Value×Value)} {old:Value} (h:cT P k w b (m1++(key,old)::m2)) (K:Keyed P k) (ht:P.underlying t=some (.map k e)) (val:Value):
  ∃w',(Instr.mapUpdate t (.map (some b)) key val).run P w= .ok () w'/\cT P k w' b (m1++(key,val)::m2)/\w.grownBy w' (some b):=by
 have hnd:=h.nodup;obtain⟨es,clock,hb,he,hst,hk⟩:=h;obtain⟨kl,hkl⟩:=hk (key,old) (by simp)
 rcases K.find w hkl es.toList (dB.keys he hk)with⟨h1,h2⟩ | ⟨j,e0,h1,h2,h3⟩
 ·exfalso
  have:(key,old)∈es.toList.map (fun e=>(e.key,e.val)):=by rw[he]; simp
  obtain⟨x,hx,hxe⟩:=List.mem_map.1 this;exact h2 x hx (congrArg Prod.fst hxe)
 ·have hj:es[j]? =some e0:=by simpa using h2
  have hlist:(es.modify j (fun e'=> {e' with key:=key,val:=val})).toList=es.toList.set j {e0 with key:=key,val:=val} :=by rw[Array.toList_modify,modify_eq_set _ _ _ _ h2]
  have hjm:j=m1.length:=by
   have h4:(m1++(key,old)::m2)[j]? =some (e0.key,e0.val):=by rw[<-he,List.getElem?_map,h2]; rfl
   have h5:((m1++(key,old)::m2).map Prod.fst)[j]? =some key:=by rw[List.getElem?_map,h4]; simp[h3]
   have h6:((m1++(key,old)::m2).map Prod.fst)[m1.length]? =some key:=by simp
   have hjl:=(List.getElem?_eq_some_iff.1 h5).1;exact(List.getElem?_inj hjl hnd).1 (h5.trans h6.symm)
  refine⟨ChangeMaps.setBlock w b (.map (es.modify j (fun e'=> {e' with key:=key,val:=val})) clock), ?_,⟨_,_,pg hb _, ?_, ?_, ?_⟩,jQ hb _⟩
  ·simp[Instr.mapUpdate,run_underlying ht,MapKept.run_getObj_map hb,K.check w false hkl,h1,hj,h3,K.stays w hkl,MapKept.run_setObj_map _ hb,Result.andThen,ChangeMaps.setBlock]
  ·rw[hlist,List.map_set,he,hjm];simp
  ·exact stamped_modify hst j _ (fun _ _=>rfl) (fun e' _ he'=>by rw[hj]at he'; cases he'; exact h3.symm)
  ·intro p hp
   rcases List.mem_append.1 hp with hp | hp
   ·exact hk p (by simp[hp])
   ·rcases List.mem_cons.1 hp with rfl | hp
    ·exact⟨kl,hkl⟩
    ·exact hk p (by simp[hp])
theorem cT.len (h:cT P k w b m) (ht:P.underlying t=some (.map k e)) (ty:TypeId):(Builtin.len_ #[t] ty #[.map (some b)]).run P w= .ok (.int .i64 (m.length:Int)) w:=by
 obtain⟨es,clock,hb,he,_⟩:=h;have:es.size=m.length:=by rw[<-he]; simp
 simp[Builtin.len_,run_underlying ht,MapKept.run_getObj_map hb,goInt,Result.andThen,this]
def jI (P:Program) (k:TypeId) (w:World) (b r:Nat) (m vis:List (Value×Value)):Prop:=
 ∃es clock since seen c0,w.heap[b]? =some (.map es clock)/\es.toList.map (fun e=>(e.key,e.val))=m/\Stamped es clock/\(∀p∈m,∃l,keyOf P k p.1=some l)/\
  w.heap[r]? =some (.mapIter (some b) since seen c0)/\(∀x∈es.toList,x.born<since)/\since<=c0/\since<=clock/\vis.Perm ((es.toList.filter fun x=>seen.contains x.born).map (fun e=>(e.key,e.val)))
theorem jI.map {r:Nat} {vis:List (Value×Value)} (h:jI P k w b r m vis):cT P k w b m:=by
 obtain⟨es,clock,_,_,_,hb,he,hs,hk,_⟩:=h;exact⟨es,clock,hb,he,hs,hk⟩
theorem jI.same {r:Nat} {vis:List (Value×Value)} (h:jI P k w b r m vis) (h1:w'.heap[b]? =w.heap[b]?) (h2:w'.heap[r]? =w.heap[r]?):jI P k w' b r m vis:=by
 obtain⟨es,clock,since,seen,c0,hb,he,hs,hk,hr,h3⟩:=h;exact⟨es,clock,since,seen,c0,h1.trans hb,he,hs,hk,h2.trans hr,h3⟩
theorem jI.ne {r:Nat} {vis:List (Value×Value)} (h:jI P k w b r m vis):r≠b:=by
 obtain⟨es,clock,since,seen,c0,hb,_,_,_,hr,_⟩:=h;intro e1;subst e1;rw[hb]at hr
 cases hr
theorem lO {α:Type} (p:α->Bool): ∀(l:List α),(l.filter p).length+(l.filter fun x=> !p x).length=l.length
 | []=>rfl
 | a::l=>by
  have:=lO p l
  cases h:p a<;> simp[h]<;> omega
theorem jI.left {r:Nat} {vis:List (Value×Value)} (h:jI P k w b r m vis):w.rangeLeft b r+vis.length=m.length:=by
 obtain⟨es,clock,since,seen,c0,hb,he,hs,hk,hr,_,_,_,hv⟩:=h;have h1:w.rangeLeft b r=(leftOf es seen).size:=by simp only[World.rangeLeft,hb,hr]
 have h2:(leftOf es seen).size=(es.toList.filter fun x=> !seen.contains x.born).length:=by
  unfold leftOf;rw[<-Array.toList_filter,Array.length_toList]
 have h3:=lO (fun x:MapEntry=>seen.contains x.born) es.toList;rw[h1,h2,hv.length_eq,List.length_map,<-he,List.length_map];omega
theorem cT.range (h:cT P k w b m) (ht:P.underlying t=some (.map k e)):
  ∃w',(Instr.range t (.map (some b))).run P w= .ok (.pointer (some ⟨w.heap.size,0,none⟩)) w'/\jI P k w' b w.heap.size m []/\Below w.heap.size w w'/\w'.heap.size=w.heap.size+1:=by
 have hlt:=h.lt;obtain⟨es,clock,hb,he,hs,hk⟩:=h;refine⟨_,run_range_map w t k e b es clock ht hb,⟨es,clock,clock, #[],clock,((MapKept.heap_alloc w _).2 b hlt).trans hb,he,hs,hk,(MapKept.heap_alloc w _).1,((stamped_iff es clock).1 hs).1,Nat.le_refl _,Nat.le_refl _, ?_⟩,(Below.refl _ _).alloc (Nat.le_refl _) _,by simp⟩;simp
theorem Et {es:Array MapEntry} {clock:Nat} (hs:Stamped es clock) {x y:MapEntry} (hx:x∈es.toList) (hy:y∈es.toList) (h:x.born=y.born):x=y:=born_inj ((stamped_iff es clock).1 hs).2.1 hx hy h
theorem As {es:List MapEntry} {seen:Array Nat} {e0:MapEntry} (hn:es.Nodup) (hinj: ∀x∈es,x.born=e0.born->x=e0) (he:e0∈es) (h0:seen.contains e0.born=false):
  ((es.filter fun x=>seen.contains x.born)++[e0]).Perm (es.filter fun x=>(seen.push e0.born).contains x.born):=by
 refine(List.perm_ext_iff_of_nodup ?_ (hn.filter _)).2 (fun x=> ?_)
 ·rw[List.nodup_append];refine⟨hn.filter _,by simp,fun a ha c hc=> ?_⟩;simp only[List.mem_singleton]at hc;subst hc;rintro rfl;rw[List.mem_filter]at ha;rw[ha.2]at h0
  cases h0
 ·simp only[List.mem_append,List.mem_filter,List.mem_singleton,contains_push,Bool.or_eq_true,beq_iff_eq]
  constructor
  ·rintro(⟨h1,h2⟩ | rfl)
   ·exact⟨h1, .inl h2⟩
   ·exact⟨he, .inr rfl⟩
  ·rintro⟨h1,h2 | h2⟩
   ·exact .inl ⟨h1,h2⟩
   ·exact .inr (hinj x h1 h2)
theorem jI.next {r:Nat} {vis:List (Value×Value)} (h:jI P k w b r m vis) (ty:TypeId):
  (vis.Perm m/\(Instr.next (.pointer (some ⟨r,0,none⟩)) false ty).run P w= .ok (.tuple #[.bool false]) w)\/
  ∃key v w',(key,v)∈m/\(∀p∈vis,p.1≠key)/\(Instr.next (.pointer (some ⟨r,0,none⟩)) false ty).run P w= .ok (.tuple #[.bool true,key,v]) w'/\
   jI P k w' b r m (vis++[(key,v)])/\w.grownBy w' (some r)/\w'.heap.size=w.heap.size/\(Instr.entry (.pointer (some ⟨r,0,none⟩))).run P w'= .ok (.tuple #[key,v]) w':=by
 have hne:=h.ne;obtain⟨es,clock,since,seen,c0,hb,he,hs,hk,hr,hold,hsc,hsk,hv⟩:=h;have hsi:=(stamped_iff es clock).1 hs
 rcases run_next_at (P:=P) w ty r b since c0 seen es clock hr hb hold hsc with⟨h0,hrun⟩ | ⟨e0,he0,w1,hal,hrun⟩
 ·refine Or.inl ⟨?_,hrun⟩;have:(es.toList.filter fun x=>seen.contains x.born)=es.toList:=by
   rw[List.filter_eq_self];intro x hx;exact all_seen es seen h0 x hx
  rw[this,he]at hv;exact hv
 ·obtain⟨hem,hes⟩:=mem_left he0;have hr1:w1.heap[r]? =some (.mapIter (some b) since seen c0):=by rcases hal with rfl | rfl<;> exact hr
  have hb1:w1.heap[b]? =some (.map es clock):=by rcases hal with rfl | rfl<;> exact hb
  have hset:=heap_set (o':= .mapIter (some b) since (seen.push e0.born) clock) hr1;have hb':(ChangeMaps.setBlock w1 r (.mapIter (some b) since (seen.push e0.born) clock)).heap[b]? =some (.map es clock):=(hset.2 b (fun e1=>hne e1.symm)).trans hb1;have hnd:es.toList.Nodup:=by
   have:=hsi.2.1;unfold List.Nodup at this;rw[List.pairwise_map]at this;exact this.imp (fun h e=>h (by rw[e]))
  have hinj: ∀x∈es.toList,x.born=e0.born->x=e0:=fun x hx hxb=>Et hs hx hem hxb
  have hpp:=As hnd hinj hem hes;refine Or.inr ⟨e0.key,e0.val,_,by rw[<-he]; exact List.mem_map.2 ⟨e0,hem,rfl⟩,fun p hp hpk=> ?_,hrun,⟨es,clock,since,seen.push e0.born,clock,hb',he,hs,hk,hset.1,hold,hsk,hsk, ?_⟩, ?_, ?_,
   run_entry_at _ r b since seen es clock e0 hset.1 hb' hem hsi.2.1⟩
  ·obtain⟨x,hx,rfl⟩:=List.mem_map.1 (hv.subset hp);obtain⟨hx1,hx2⟩:=List.mem_filter.1 hx;have:x=e0:=entry_eq_of_key hsi.2.2 hx1 hem hpk;subst this;rw[hx2]at hes
   cases hes
  ·refine(hv.append_right _).trans ?_;have:=hpp.map (fun e:MapEntry=>(e.key,e.val));rw[List.map_append]at this;exact this
  ·rcases hal with rfl | rfl<;> exact⟨rfl,rfl,rfl,by simp[ChangeMaps.setBlock],fun i _ hi=>hset.2 i (fun e1=>hi (by rw[e1]))⟩
  ·rcases hal with rfl | rfl<;> simp[ChangeMaps.setBlock]
end
section
variable {P : Program} {w : World} {ops : Array Oper} {rest : List Oper} {o : Oper} {a : Act} {Q : Exit → Act → World → Prop} {k e : TypeId}
theorem qS (hg:o.guard=none) (mo:Operand) (t:TypeId) (hop:o.op=Op.range t mo) (ht:P.underlying t=some (.map k e)) (b:Nat) (m:List (Value×Value)) (hm:a.eval mo= .map (some b)) (h:cT P k w b m)
  (hK: ∀w',jI P k w' b w.heap.size m []->Below w.heap.size w w'->w'.heap.size=w.heap.size+1->wpList P ops Q rest (a.put o.dst (.pointer (some ⟨w.heap.size,0,none⟩))) w'):wpList P ops Q (o::rest) a w:=by
 refine wpList_plain hg fun K' hK'=> ?_
 obtain⟨w',hrun,r1,r2,r3⟩:=h.range ht;unfold Oper.wp;simp[execOp,hop,hm,hrun,Result.andThen];exact hK' _ _ (hK w' r1 r2 r3)
theorem tV (hg:o.guard=none) (it:Operand) (hop:o.op=Op.next it false) (b r:Nat) (m vis:List (Value×Value)) (hit:a.eval it= .pointer (some ⟨r,0,none⟩)) (h:jI P k w b r m vis)
  (hDone:vis.Perm m->wpList P ops Q rest (a.put o.dst (.tuple #[.bool false])) w)
  (hMore: ∀(key v:Value) (w':World),(key,v)∈m->(∀p∈vis,p.1≠key)->jI P k w' b r m (vis++[(key,v)])->w.grownBy w' (some r)->w'.heap.size=w.heap.size->
   (Instr.entry (.pointer (some ⟨r,0,none⟩))).run P w'= .ok (.tuple #[key,v]) w'->wpList P ops Q rest (a.put o.dst (.tuple #[.bool true,key,v])) w'):wpList P ops Q (o::rest) a w:=by
 refine wpList_plain hg fun K' hK'=> ?_
 unfold Oper.wp
 rcases h.next o.type with⟨h0,hrun⟩ | ⟨key,v,w',h1,h2,hrun,h3,h4,h5,h6⟩
 ·simp[execOp,hop,hit,hrun,Result.andThen];exact hK' _ _ (hDone h0)
 ·simp[execOp,hop,hit,hrun,Result.andThen];exact hK' _ _ (hMore key v w' h1 h2 h3 h4 h5 h6)
theorem eo (K:Keyed P k) (hg:o.guard=none) (mo x v:Operand) (t:TypeId) (hop:o.op=Op.mapUpdate t mo x v) (ht:P.underlying t=some (.map k e)) (b:Nat) (m:List (Value×Value)) (h:cT P k w b m) (hmo:a.eval mo= .map (some b)) (key val:Value) (hx:a.eval x=key) (hv:a.eval v=val) (hkey: ∃l,keyOf P k key=some l) (hnew: ∀p∈m,p.1≠key)
  (hK: ∀w',cT P k w' b (m++[(key,val)])->w.grownBy w' (some b)->wpList P ops Q rest (a.put o.dst undef) w'):wpList P ops Q (o::rest) a w:=by
 refine wpList_plain hg fun K' hK'=> ?_
 obtain⟨w',hrun,r1,r2⟩:=h.put K ht hkey hnew val;unfold Oper.wp;simp[execOp,hop,hmo,hx,hv,hrun,Result.andThen];exact hK' _ _ (hK w' r1 r2)
theorem jB (K:Keyed P k) (hg:o.guard=none) (mo x v:Operand) (t:TypeId) (hop:o.op=Op.mapUpdate t mo x v) (ht:P.underlying t=some (.map k e)) (b:Nat) (m1 m2:List (Value×Value)) (key val old:Value) (h:cT P k w b (m1++(key,old)::m2)) (hmo:a.eval mo= .map (some b)) (hx:a.eval x=key) (hv:a.eval v=val)
  (hK: ∀w',cT P k w' b (m1++(key,val)::m2)->w.grownBy w' (some b)->wpList P ops Q rest (a.put o.dst undef) w'):wpList P ops Q (o::rest) a w:=by
 refine wpList_plain hg fun K' hK'=> ?_
 obtain⟨w',hrun,r1,r2⟩:=h.over K ht val;unfold Oper.wp;simp[execOp,hop,hmo,hx,hv,hrun,Result.andThen];exact hK' _ _ (hK w' r1 r2)
end
end Go.Proofs.YtpffpjbkbaleiaaGreatDoor
namespace Go.Proofs.YtpffpjbkbaleiaaGreatDoor
def fj :Nat->List UInt8->List Int
 | 0,_=>[]
 | n+1,l=>if l=[]then []else((Lib.decodeL l).1:Int)::fj n (l.drop (Lib.decodeL l).2)
def mK (l:List UInt8):List Int:=fj l.length l
def BU {T:Type} (f:List T->Bool):List T->Bool
 | []=>f []
 | t::us=>f (t::us) || BU f us
def Gt {T:Type} (m:T->Bool) (f:List T->Bool):List T->Bool
 | []=>false
 | t::us=>m t && f us
def dv {P T:Type} (star:P->Bool) (m:P->T->Bool):List P->List T->Bool
 | [],ts=>ts.isEmpty
 | p::ps,ts=>if star p then BU (dv star m ps) ts else Gt (m p) (dv star m ps) ts
theorem fT (l:List UInt8) (h:l≠[]):1<=(Lib.decodeL l).2/\(Lib.decodeL l).2<=l.length:=⟨Lib.decodeL_width l,Lib.decodeL_le l h⟩
theorem lZ : ∀(n m:Nat) (l:List UInt8),l.length<=n->l.length<=m->fj n l=fj m l
 | 0,m,l,h,_=>by
  have:l=[]:=List.eq_nil_of_length_eq_zero (by omega);subst this; cases m<;> simp[fj]
 | n,0,l,_,h=>by
  have:l=[]:=List.eq_nil_of_length_eq_zero (by omega);subst this; cases n<;> simp[fj]
 | n+1,m+1,l,h1,h2=>by
  unfold fj
  split
  ·rfl
  ·rename_i hl;have:=fT l hl;rw[lZ n m (l.drop (Lib.decodeL l).2) (by rw[List.length_drop]; omega) (by rw[List.length_drop]; omega)]
theorem vW (l:List UInt8) (h:l≠[]):mK l=((Lib.decodeL l).1:Int)::mK (l.drop (Lib.decodeL l).2):=by
 have h1:=fT l h;have hl:l.length=(l.length-1)+1:=by have:=List.length_pos_iff.2 h; omega
 unfold mK;rw[hl,fj,if_neg h,lZ _ (l.drop (Lib.decodeL l).2).length (l.drop (Lib.decodeL l).2) (by rw[List.length_drop]; omega) (Nat.le_refl _)]
theorem ki : ∀(n:Nat) (l:List UInt8),(fj n l).length<=n
 | 0,_=>by simp[fj]
 | n+1,l=>by
  unfold fj
  split
  ·simp
  ·have:=ki n (l.drop (Lib.decodeL l).2); simp; omega
theorem qK (l:List UInt8):(mK l).length<=l.length:=ki _ _
theorem iZ {a b:UInt8} (h:dS a=dS b):a=b:=by
 unfold dS at h
 split at h<;> split at h
 ·simp[*]
 ·omega
 ·omega
 ·apply UInt8.toNat_inj.1; omega
theorem yE : ∀(a b:List UInt8),cU b a= -cU a b
 | [],[]=>by simp[cU]
 | [],_::_=>by simp[cU]
 | _::_,[]=>by simp[cU]
 | a::l,b::r=>by
  unfold cU
  by_cases h:a=b
  ·rw[if_pos h,if_pos h.symm]; exact yE l r
  ·rw[if_neg h,if_neg (Ne.symm h)];have:dS a≠dS b:=fun e=>h (iZ e)
   unfold Lib.compareInt
   rcases Int.lt_trichotomy (dS a) (dS b)with h1 | h1 | h1
   ·rw[if_neg (by omega),if_pos (by omega),if_pos h1]; rfl
   ·exact absurd h1 this
   ·rw[if_pos (by omega),if_neg (by omega),if_pos (by omega)]
theorem uu : ∀(a b:List UInt8),cU a b=0<->a=b
 | [],[]=>by simp[cU]
 | [],_::_=>by simp[cU]
 | _::_,[]=>by simp[cU]
 | a::l,b::r=>by
  unfold cU
  by_cases h:a=b
  ·rw[if_pos h,uu l r]; simp[h]
  ·rw[if_neg h];have:dS a≠dS b:=fun e=>h (iZ e)
   unfold Lib.compareInt
   constructor
   ·intro e; split at e
    ·omega
    ·split at e<;> omega
   ·intro e; simp at e; exact absurd e.1 h
theorem rj : ∀(a b c:List UInt8),cU a b<=0->cU b c<=0->cU a c<=0/\(cU a c=0->cU a b=0/\cU b c=0)
 | [],b,[],h1,h2=>by
  cases b with
  | nil=>simp[cU]
  | cons x b=>simp[cU]at h2
 | [],_,_::_,_,_=>by simp[cU]
 | _::_,[],_,h1,_=>by simp[cU]at h1
 | x::a,y::b,[],_,h2=>by simp[cU]at h2
 | x::a,y::b,z::c,h1,h2=>by
  unfold cU at h1 h2 ⊢
  by_cases hxy:x=y
  ·subst hxy;rw[if_pos rfl]at h1 ⊢
   by_cases hxz:x=z
   ·subst hxz;rw[if_pos rfl]at h2 ⊢;rw[if_pos rfl];exact rj a b c h1 h2
   ·rw[if_neg hxz]at h2 ⊢;rw[if_neg hxz];refine⟨h2,fun e=> ?_⟩
    exfalso
    have:dS x≠dS z:=fun e=>hxz (iZ e)
    unfold Lib.compareInt at e
    split at e
    ·omega
    ·split at e<;> omega
  ·rw[if_neg hxy]at h1 ⊢;have n1:dS x≠dS y:=fun e=>hxy (iZ e)
   have l1:dS x<dS y:=by
    unfold Lib.compareInt at h1
    split at h1
    ·assumption
    ·split at h1
     ·omega
     ·omega
   by_cases hyz:y=z
   ·subst hyz;rw[if_neg hxy];refine⟨h1,fun e=> ?_⟩
    exfalso
    unfold Lib.compareInt at e;rw[if_pos l1]at e; omega
   ·rw[if_neg hyz]at h2;have n2:dS y≠dS z:=fun e=>hyz (iZ e)
    have l2:dS y<dS z:=by
     unfold Lib.compareInt at h2
     split at h2
     ·assumption
     ·split at h2<;> omega
    have n3:x≠z:=fun e=>by subst e; omega
    rw[if_neg n3];unfold Lib.compareInt;rw[if_pos (by omega)];exact⟨by omega,fun e=>by omega⟩
theorem yD : ∀(p q:List UInt8),cU p (p++q)<=0
 | [],[]=>by simp[cU]
 | [],_::_=>by simp[cU]
 | a::p,q=>by rw[List.cons_append,cU,if_pos rfl]; exact yD p q
theorem lI (k n:Nat) (z:Int) (h:z=((k+n:Nat):Int)):UInt8.ofNat k+UInt8.ofNat n=UInt8.ofNat z.toNat:=by
 subst h; rw[Int.toNat_natCast,UInt8.ofNat_add]
theorem wX (r:Nat):(Utf8.encode (r:Int)).data.toList=Lib.encodeRune (r:Int):=by
 unfold Lib.encodeRune
 by_cases c1:r<128
 ·have v:Utf8.valid (r:Int)=true:=by simp[Utf8.valid]; omega
  rw[Lib.encodeRuneZ_one (by omega) (by omega)]; simp[Utf8.encode,v,c1]
 by_cases c2:r<2048
 ·have v:Utf8.valid (r:Int)=true:=by simp[Utf8.valid]; omega
  rw[Lib.encodeRuneZ_two (by omega) (by omega)]; simp[Utf8.encode,v,c1,c2]; exact⟨lI 192 _ _ (by omega),lI 128 _ _ (by omega)⟩
 by_cases hb:(55296<=r/\r<=57343)\/1114111<r
 ·have v:Utf8.valid (r:Int)=false:=by simp[Utf8.valid]; omega
  rw[Lib.encodeRuneZ_bad (by omega)]; simp[Utf8.encode,v,Utf8.runeError]
 by_cases c3:r<65536
 ·have v:Utf8.valid (r:Int)=true:=by simp[Utf8.valid]; omega
  rw[Lib.encodeRuneZ_three (by omega)]; simp[Utf8.encode,v,c1,c2,c3]; exact⟨lI 224 _ _ (by omega),lI 128 _ _ (by omega),lI 128 _ _ (by omega)⟩
 ·have v:Utf8.valid (r:Int)=true:=by simp[Utf8.valid]; omega
  rw[Lib.encodeRuneZ_four (by omega) (by omega)]; simp[Utf8.encode,v,c1,c2,c3]; exact⟨lI 240 _ _ (by omega),lI 128 _ _ (by omega),lI 128 _ _ (by omega),lI 128 _ _ (by omega)⟩
def tG (l:List UInt8):List UInt8:=(mK l).flatMap Lib.encodeRune
theorem tH :tG []=[]:=rfl
theorem vP (l:List UInt8) (h:l≠[]):tG l=Lib.encodeRune ((Lib.decodeL l).1:Int)++tG (l.drop (Lib.decodeL l).2):=by
 unfold tG; rw[vW l h,List.flatMap_cons]
theorem oU (r:Int):(Lib.encodeRune r).length<=4:=by
 have:=(Lib.encodeRuneZ_length r).2; simpa [Lib.encodeRune]using this
theorem yW : ∀(n:Nat) (l:List UInt8),l.length<=n->l.length<=(tG l).length/\(tG l=l<->Lib.validD l=true)
 | 0,l,h=>by
  have:l=[]:=List.eq_nil_of_length_eq_zero (by omega);subst this;exact⟨by simp,by simp[tH,Lib.validD_nil]⟩
 | n+1,l,h=>by
  by_cases hl:l=[]
  ·subst hl;exact⟨by simp,by simp[tH,Lib.validD_nil]⟩
  ·have hw:=fT l hl;obtain⟨ih1,ih2⟩:=yW n (l.drop (Lib.decodeL l).2) (by rw[List.length_drop]; omega);rw[List.length_drop]at ih1;rw[vP l hl,Lib.validD_step l hl]
   by_cases hb:(Lib.decodeL l).1=65533/\(Lib.decodeL l).2=1
   ·have e3:(Lib.encodeRune ((Lib.decodeL l).1:Int)).length=3:=by rw[hb.1]; rfl
    rw[if_pos hb];refine⟨by rw[List.length_append,e3]; omega,⟨fun e=> ?_,fun e=>by cases e⟩⟩;have:=congrArg List.length e;rw[List.length_append,e3]at this;omega
   ·rw[if_neg hb,Lib.encode_decode l hl hb];refine⟨by rw[List.length_append,List.length_take]; omega, ?_⟩;rw[<-ih2]
    constructor
    ·intro e;have h2:l.take (Lib.decodeL l).2++tG (l.drop (Lib.decodeL l).2)=l.take (Lib.decodeL l).2++l.drop (Lib.decodeL l).2:=by rw[List.take_append_drop]; exact e
     exact List.append_cancel_left h2
    ·intro e; rw[e,List.take_append_drop]
theorem Au (l:List UInt8):(tG l == l)=Lib.validD l:=by
 rw[Bool.eq_iff_iff,beq_iff_eq]; exact(yW l.length l (Nat.le_refl _)).2
theorem uv (l:List UInt8):((aU 47 l).length == 1)= !l.contains 47:=by
 by_cases h:(47:UInt8)∈l
 ·obtain⟨p,q,rfl,hp⟩:=rI l 47 h;have:=xT 47 q;rw[iH 47 p q hp];have h2:((p::aU 47 q).length == 1)=false:=by rw[beq_eq_false_iff_ne]; simp; exact jb 47 q
  rw[h2]; simp
 ·rw[eA 47 l h]; simp[h]
open Go.RowKit
structure bD where
 path:ByteArray
 kind:Int
 mode:Int
 time:Int
 data:List UInt8
 link:ByteArray
deriving DecidableEq
def mP (l:List UInt8):Bool:=decide (1<=l.length) && decide (l.length<=512) && !l.contains 0
def kn (e:bD):Bool:=
 if e.kind=1 then decide (e.data.length<=1048576) && decide (e.link.size=0)
 else if e.kind=2 then decide (e.data.length=0) && decide (e.link.size=0)
 else if e.kind=3 then decide (e.data.length=0) && mP (bl e.link)
 else false
def tT (e:bD):Bool:=decide (0<=e.mode) && decide (e.mode<=511) && decide (0<=e.time)
def iJ (e:bD):Bool:=bo (bl e.path) && tT e && kn e
def gZ (L:List bD) (p:ByteArray):Option bD:=L.find? fun e=>decide (e.path=p)
def lM (L:List bD) (p:List UInt8):Int:=if p=[]then 0 else match gZ L ⟨p.toArray⟩with
 | none=>4
 | some e=>if e.kind=2 then 0 else 13
def kX (a b:bD):Int:=cU (bl a.path) (bl b.path)
def jJ (pre:List bD) (e:bD):Bool:=match pre.getLast? with
 | none=>true
 | some f=>decide (kX f e<0)
def cQ (pre:List bD) (e:bD):Int:=if(iJ e && jJ pre e)=true then lM pre (aT (bl e.path))else 1
def iA :List bD->List bD->Int
 | _,[]=>0
 | pre,e::r=>if cQ pre e=0 then iA (pre++[e]) r else cQ pre e
def cX (L:List bD):Int:=if 4096<L.length then 2 else iA [] L
theorem EW {p:ByteArray} {l:List UInt8} (h:bl p=l):p=⟨l.toArray⟩:=ft (by rw[h]; simp[bl])
theorem Cd (a b:bD):kX b a= -kX a b:=yE _ _
theorem ri {a b:bD} :kX a b=0<->a.path=b.path:=by
 unfold kX; rw[uu]; exact⟨ft,fun h=>by rw[h]⟩
theorem qv {a b c:bD} (h1:kX a b<0) (h2:kX b c<0):kX a c<0:=by
 obtain⟨h3,h4⟩:=rj (bl a.path) (bl b.path) (bl c.path) (by unfold kX at h1; omega) (by unfold kX at h2; omega)
 rcases Int.lt_or_eq_of_le h3 with h | h
 ·exact h
 ·have:=(h4 h).1; unfold kX at h1; omega
def fe (L:List bD):Prop:=L.Pairwise fun a b=>kX a b<0
theorem fe.nodup {L:List bD} (h:fe L):(L.map bD.path).Nodup:=by
 unfold List.Nodup;rw[List.pairwise_map];exact List.Pairwise.imp (fun h e=>by have:=ri.2 e; omega) h
theorem fe.filter {L:List bD} (h:fe L) (p:bD->Bool):fe (L.filter p):=List.Pairwise.filter p h
theorem lh {L:List bD} {p:ByteArray} {e:bD} (h:gZ L p=some e):e∈L/\e.path=p:=by
 unfold gZ at h;exact⟨List.mem_of_find?_eq_some h,by have:=List.find?_some h; simpa using this⟩
theorem pd {L:List bD} {p:ByteArray} (h:gZ L p=none): ∀e∈L,e.path≠p:=by
 unfold gZ at h;rw[List.find?_eq_none]at h;intro e he hp;exact h e he (by simp[hp])
theorem zP {L:List bD} (hn:(L.map bD.path).Nodup) {e:bD} (he:e∈L):gZ L e.path=some e:=by
 cases h:gZ L e.path with
 | none=>exact absurd rfl (pd h e he)
 | some f=>
  obtain⟨h1,h2⟩:=lh h;have:f=e:=by
   unfold List.Nodup at hn;rw[List.pairwise_map,List.pairwise_iff_getElem]at hn;obtain⟨i,hi,rfl⟩:=List.getElem_of_mem h1;obtain⟨j,hj,rfl⟩:=List.getElem_of_mem he
   by_cases hij:i=j
   ·subst hij; rfl
   ·exfalso
    rcases Nat.lt_or_gt_of_ne hij with hlt | hlt
    ·exact hn i j hi hj hlt h2
    ·exact hn j i hj hi hlt h2.symm
  rw[this]
structure TOk (L : List bD) : Prop where
 ord:fe L
 val: ∀e∈L,iJ e=true
 up: ∀e∈L,lM L (aT (bl e.path))=0
 len:L.length<=4096
theorem TOk.nil :TOk []:=⟨List.Pairwise.nil,by simp,by simp,by simp⟩
theorem TOk.nodup {L:List bD} (h:TOk L):(L.map bD.path).Nodup:=h.ord.nodup
theorem bQ {e:bD} (h:iJ e=true):bo (bl e.path)=true:=by
 unfold iJ at h; simp only[Bool.and_eq_true]at h; exact h.1.1
theorem DO {l:List UInt8} (h:bo l=true):l≠[]:=by
 intro e; subst e; exact absurd h (by decide)
theorem yd {l:List UInt8} (h:bo l=true):l.length<=512:=by
 simp only[bo,Bool.and_eq_true,decide_eq_true_eq]at h; exact h.1.1
theorem rq {L:List bD} {p:List UInt8} (h:lM L p=0) (hp:p≠[]): ∃f∈L,bl f.path=p/\f.kind=2:=by
 unfold lM at h;rw[if_neg hp]at h
 cases hf:gZ L ⟨p.toArray⟩with
 | none=>rw[hf]at h; simp at h
 | some f=>
  rw[hf]at h;simp only at h;obtain⟨h1,h2⟩:=lh hf
  split at h
  ·exact⟨f,h1,by rw[h2]; simp[bl],by assumption⟩
  ·simp at h
theorem nU {L:List bD} (hn:(L.map bD.path).Nodup) {p:List UInt8} (h:p=[]\/ ∃f∈L,bl f.path=p/\f.kind=2):lM L p=0:=by
 unfold lM
 by_cases hp:p=[]
 ·rw[if_pos hp]
 ·rw[if_neg hp]
  rcases h with h | ⟨f,h1,h2,h3⟩
  ·exact absurd h hp
  ·have:f.path=⟨p.toArray⟩:=EW h2;rw[<-this,zP hn h1];simp only[if_pos h3]
theorem gH {l:List UInt8} (h:bo l=true):(aT l).length<l.length:=by
 by_cases hm:(47:UInt8)∈l
 ·obtain⟨p,t,hq,ht⟩:=lm l hm;have:aT l=p:=by rw[hq]; exact il p t ht
  rw[this,hq]; simp
 ·rw[jv l hm];have:=DO h
  cases l with
  | nil=>exact absurd rfl this
  | cons=>simp
def Ft (M:List bD) (x:bD):Prop:=aT (bl x.path)=[]\/ ∃f∈M,bl f.path=aT (bl x.path)/\f.kind=2
theorem xX {L:List bD} {x:bD} (h:lM L (aT (bl x.path))=0):Ft L x:=by
 by_cases hp:aT (bl x.path)=[]
 ·exact .inl hp
 ·obtain⟨f,h1,h2,h3⟩:=rq h hp;exact .inr ⟨f,h1,h2,h3⟩
theorem TOk.has {L:List bD} (h:TOk L) {e:bD} (he:e∈L):Ft L e:=xX (h.up e he)
theorem nw {l:List UInt8} (h:aT l≠[]): ∃t,l=aT l++47::t:=by
 by_cases hm:(47:UInt8)∈l
 ·obtain⟨p,q,rfl,hq⟩:=lm l hm;exact⟨q,by rw[il p q hq]⟩
 ·exact absurd (jv l hm) h
theorem rp {L M:List bD} (hm:(M.map bD.path).Nodup) (hs: ∀x∈L,x∈M) {p:List UInt8} (h:lM L p=0):lM M p=0:=by
 by_cases hp:p=[]
 ·exact nU hm (.inl hp)
 ·obtain⟨f,h1,h2,h3⟩:=rq h hp;exact nU hm (.inr ⟨f,hs f h1,h2,h3⟩)
structure Tr (L : List bD) : Prop where
 ord:fe L
 val: ∀e∈L,iJ e=true
 up: ∀e∈L,lM L (aT (bl e.path))=0
theorem qI {e f:bD} (hv:iJ e=true) (hp:aT (bl e.path)≠[]) (hf:bl f.path=aT (bl e.path)):kX f e<0:=by
 obtain⟨t,ht⟩:=nw hp;have h1:kX f e<=0:=by
  unfold kX;rw[hf,ht];have:=yD (aT (bl e.path)) (47::t);have h2:aT (aT (bl e.path)++47::t)=aT (bl e.path):=by rw[<-ht]
  rw[h2]; exact this
 rcases Int.lt_or_eq_of_le h1 with h | h
 ·exact h
 ·have h2:=ri.1 h;have h3:=gH (bQ hv);rw[<-hf,h2]at h3;omega
theorem Tr.pre {L M:List bD} (h:Tr (L++M)):Tr L:=by
 obtain⟨s1,s2,s3⟩:=List.pairwise_append.1 h.ord;refine⟨s1,fun e he=>h.val e (by simp[he]),fun e he=> ?_⟩;have hu:=xX (h.up e (by simp[he]));refine nU (fe.nodup s1) ?_
 rcases hu with hu | ⟨f,h1,h2,h3⟩
 ·exact .inl hu
 ·by_cases hp:aT (bl e.path)=[]
  ·exact .inl hp
  ·right
   have hb:=qI (h.val e (by simp[he])) hp h2
   rcases List.mem_append.1 h1 with h1 | h1
   ·exact⟨f,h1,h2,h3⟩
   ·have h4:=s3 e he f h1;have h5:=Cd e f;omega
theorem ox {pre:List bD} (hs:fe pre) {e:bD} :jJ pre e=true<->fe (pre++[e]):=by
 unfold jJ
 cases hl:pre.getLast? with
 | none=>
  rw[List.getLast?_eq_none_iff]at hl;subst hl;simp[fe]
 | some f=>
  obtain⟨ys,hy⟩:=List.getLast?_eq_some_iff.1 hl;simp only[decide_eq_true_eq]
  constructor
  ·intro h;refine List.pairwise_append.2 ⟨hs,by simp,fun a ha b hb=> ?_⟩;simp only[List.mem_singleton]at hb;subst hb;rw[hy]at ha hs
   rcases List.mem_append.1 ha with ha | ha
   ·exact qv ((List.pairwise_append.1 hs).2.2 a ha f (by simp)) h
   ·simp only[List.mem_singleton]at ha; subst ha; exact h
  ·intro h;exact(List.pairwise_append.1 h).2.2 f (by rw[hy]; simp) e (by simp)
theorem jK {pre:List bD} (h:Tr pre) (e:bD):cQ pre e=0<->Tr (pre++[e]):=by
 unfold cQ
 constructor
 ·intro hc
  split at hc
  ·rename_i hva;rw[Bool.and_eq_true]at hva;have hs:=(ox h.ord).1 hva.2;have hm: ∀x∈pre,x∈pre++[e]:=fun x hx=>by simp[hx]
   refine⟨hs,fun x hx=> ?_,fun x hx=> ?_⟩
   ·rcases List.mem_append.1 hx with hx | hx
    ·exact h.val x hx
    ·simp only[List.mem_singleton]at hx; subst hx; exact hva.1
   ·rcases List.mem_append.1 hx with hx | hx
    ·exact rp hs.nodup hm (h.up x hx)
    ·simp only[List.mem_singleton]at hx; subst hx; exact rp hs.nodup hm hc
  ·simp at hc
 ·intro ht;have hv:=ht.val e (by simp);rw[if_pos (by rw[hv,(ox h.ord).2 ht.ord]; rfl)];refine nU h.ord.nodup ?_
  rcases xX (ht.up e (by simp))with hu | ⟨f,h1,h2,h3⟩
  ·exact .inl hu
  ·rcases List.mem_append.1 h1 with h1 | h1
   ·exact .inr ⟨f,h1,h2,h3⟩
   ·simp only[List.mem_singleton]at h1;subst h1;have:=gH (bQ hv);rw[<-h2]at this; omega
theorem oE : ∀ {r pre:List bD},Tr pre->(iA pre r=0<->Tr (pre++r))
 | [],pre,h=>by simp only[iA,List.append_nil]; exact⟨fun _=>h,fun _=>trivial⟩
 | e::r,pre,h=>by
  have h1:=jK h e;rw[iA]
  split
  ·rename_i hc;have:=oE (r:=r) (h1.1 hc);rw[this]; simp
  ·rename_i hc
   constructor
   ·intro h2; exact absurd h2 hc
   ·intro h2;have h3:Tr (pre++[e]):=Tr.pre (M:=r) (by simpa using h2);exact absurd (h1.2 h3) hc
theorem oF {L:List bD} :cX L=0<->TOk L:=by
 unfold cX
 split
 ·rename_i h;exact⟨fun h2=>by simp at h2,fun h2=>by have:=h2.len; omega⟩
 ·rename_i h;rw[oE (r:=L) (pre:=[]) ⟨List.Pairwise.nil,by simp,by simp⟩,List.nil_append];exact⟨fun t=>⟨t.ord,t.val,t.up,by omega⟩,fun t=>⟨t.ord,t.val,t.up⟩⟩
def u8V (b:UInt8):Value:= .int .u8 (b.toNat:Int)
def bH (S:Nat->Prop) (w:World) (v:Value) (bs:List UInt8):Prop:=aS S w 1 v bs.length (bs.map u8V)
theorem bH.below {S:Nat->Prop} {w w':World} {v:Value} {bs:List UInt8} (h:bH S w v bs) (hb:Below w.heap.size w w'):bH S w' v bs:=aS.below h (by omega) hb
theorem bH.nil (S:Nat->Prop) (w:World):bH S w (.slice none 0 0) []:=aS.nil _ _ _
def FN (v:Value) (e:bD):Value:= .agg #[.string e.path, .int .i64 e.kind, .int .i64 e.mode, .int .i64 e.time,v, .string e.link]
def oX (v:Value) (e:bD):List Value:=[.string e.path, .int .i64 e.kind, .int .i64 e.mode, .int .i64 e.time,v, .string e.link]
structure gS (e : bD) : Prop where
 pth:e.path.size<=maxLen
 lnk:e.link.size<=maxLen
 knd:(Lit.int .i64 e.kind).wf=true
 mde:(Lit.int .i64 e.mode).wf=true
 tim:(Lit.int .i64 e.time).wf=true
def qt (S:Nat->Prop) (w:World) (c:List Value) (e:bD):Prop:= ∃v,c=oX v e/\bH S w v e.data/\gS e
theorem qt.len {S:Nat->Prop} {w:World} (c:List Value) (e:bD) (h:qt S w c e):c.length=6:=by obtain⟨v,rfl,_⟩:=h; rfl
theorem qt.below {S:Nat->Prop} {w w':World} {c:List Value} {e:bD} (h:qt S w c e) (hb:Below w.heap.size w w'):qt S w' c e:=by
 obtain⟨v,h1,h2,h3⟩:=h;exact⟨v,h1,h2.below hb,h3⟩
def dI (S:Nat->Prop) (w:World) (v:Value) (l:List bD):Prop:=aL S w 6 (qt S w) v l
theorem dI.below {S:Nat->Prop} {w w':World} {v:Value} {l:List bD} (h:dI S w v l) (hb:Below w.heap.size w w'):dI S w' v l:=
 aL.below h (by omega) hb (fun _ _ _ hr=>hr.below hb)
theorem dI.nil (S:Nat->Prop) (w:World):dI S w (.slice none 0 0) []:=aL.nil
theorem ku {S:Nat->Prop} {w:World} {a:Option Addr} {n cap:Nat} {l:List bD} (hv:dI S w (.slice a n cap) l) {k:Nat} {e:bD} (hr:l[k]? =some e):
  ∃b o v,a=some ⟨b,o,none⟩/\S b/\b<w.heap.size/\bH S w v e.data/\gS e/\n=l.length/\w.cell? ⟨b,o+k*6,none⟩=some (.string e.path)/\w.cell? ⟨b,o+k*6+1,none⟩=some (.int .i64 e.kind)/\w.cell? ⟨b,o+k*6+2,none⟩=some (.int .i64 e.mode)/\w.cell? ⟨b,o+k*6+3,none⟩=some (.int .i64 e.time)/\w.cell? ⟨b,o+k*6+4,none⟩=some v/\w.cell? ⟨b,o+k*6+5,none⟩=some (.string e.link):=by
 obtain⟨a',cap',he,hn,hm,hat⟩:=aL.shape hv qt.len;simp only[Value.slice.injEq]at he;obtain⟨rfl,rfl,rfl⟩:=he;obtain⟨b,o,c,ha,hb,⟨v,hc,hd,hok⟩,hl,hj⟩:=hat k e hr;subst hc;have hc0:=hj 0 (by omega);exact⟨b,o,v,ha,hb,aR (hc0.trans rfl),hd,hok,rfl,hc0,by have h:=hj 1 (by omega); rwa [<-Nat.add_assoc]at h,by have h:=hj 2 (by omega); rwa [<-Nat.add_assoc]at h,by have h:=hj 3 (by omega); rwa [<-Nat.add_assoc]at h,by have h:=hj 4 (by omega); rwa [<-Nat.add_assoc]at h,by have h:=hj 5 (by omega); rwa [<-Nat.add_assoc]at h⟩
open Go Go.RowKit Go.Maps
abbrev ji :=Value×bD
theorem bS :Keyed Tryz.prog 9:=string_keyed Tryz.underlying9
theorem cF {n:ByteArray} (h:n.size<=maxLen): ∃l,keyOf Tryz.prog 9 (.string n)=some l:=⟨.string n.data.toList,by simp[keyOf,mapKey,Tryz.underlying9,h]⟩
section
variable {S S' : Nat → Prop} {w w' : World} {mb : Nat} {xs : List ji}
end
def GL :Value:= .agg #[.string ByteArray.empty, .int .i64 0, .int .i64 0, .int .i64 0, .slice none 0 0, .string ByteArray.empty]
section
variable {S S' : Nat → Prop} {w w' : World} {tb mb : Nat} {L : List bD}
end
end Go.Proofs.YtpffpjbkbaleiaaGreatDoor
namespace Go.Proofs.YtpffpjbkbaleiaaGreatDoor
open Go.RowKit
theorem aa {w:World} {b k:Nat} {cs:Array Value} {t:TypeId} {x:Nat×Nat} (h:w.heap[b]? =some (.cells cs t x)):w.cell? ⟨b,k,none⟩=cs[k]? :=by simp[World.cell?,h]
theorem uS (s:ByteArray) (w:World):Calls Tryz.prog 136 #[.string s, .int .u8 0] w fun e w'=>e= .returned (.int .i64 (Lib.indexByte (bl s) 0))/\w=w':=
 (Tryz.strings_IndexByte s 0 w).mono fun _ _ ⟨he,hw⟩=>⟨he,hw.symm⟩
theorem qQ (s:ByteArray) (w:World) (hs:s.size<=maxLen):Calls Tryz.prog 149 #[.string s] w fun e w'=>e= .returned (.bool (mP (bl s)))/\w=w':=by
 unfold maxLen at hs;have HX:=ab (show mP (bl s)=(decide (1<=s.size) && decide (s.size<=512) && !(bl s).contains 0) by unfold mP; rw[ay]);have HI:=ab (eU (bl s) 0)
 go_enter Tryz.func149,Tryz.ntmps149
 go_wp2_with (go_at_call 136; refine(uS s _).mono ?_; rintro e w3 ⟨rfl,rfl⟩)
 ·go_ret;refine⟨an ?_,rfl⟩;have z1:decide (1<=s.size)=true:=by simp; omega
  have z2:decide (s.size<=512)=true:=by simp; omega
  rw[HX.out,z1,z2,<-HI.out];rw[Bool.eq_iff_iff];simp
 ·go_ret;refine⟨an ?_,rfl⟩;have z2:decide (s.size<=512)=false:=by simp; omega
  rw[HX.out,z2];simp
 ·go_ret;refine⟨an ?_,rfl⟩;have z1:decide (1<=s.size)=false:=decide_eq_false (by omega);rw[HX.out,z1];simp
theorem lB (s:ByteArray) (b:Bool) (w:World) (he:fE w) (h:bo (bl s)=b):Calls Tryz.prog 119 #[.string s] w fun e w'=>e= .returned (.bool b)/\Below w.heap.size w w':=by
 rw[<-h]; exact mR s w he
theorem xZ (S:Nat->Prop) (en:bD) (v:Value) (w:World) (hd:bH S w v en.data) (hok:gS en) (henv:fE w):Calls Tryz.prog 117 #[FN v en] w fun e w'=>e= .returned (.bool (iJ en))/\Below w.heap.size w w':=by
 obtain⟨_,a,cap,rfl,hc,hm,-⟩:=hd;unfold maxLen at hm;have HE:=ab henv;have HO:=ab hok;have hq1:=hok.pth;have hq2:=hok.lnk;unfold maxLen at hq1 hq2;have HL:=ab (show en.link.toList.isEmpty=decide (en.link.size=0) by rw[cO,ay,Bool.eq_iff_iff]; simp);clear henv hok;unfold FN
 cases hv:bo (bl en.path)
 ·have HVP:=ab hv;clear hv
  go_enter Tryz.func117,Tryz.ntmps117
  go_wp2_with fail;obtain⟨W,hW⟩: ∃W,W=w.alloc (.cells #[.string en.path, .int .i64 en.kind, .int .i64 en.mode, .int .i64 en.time, .slice a en.data.length cap, .string en.link] 79):=⟨_,rfl⟩;rw[<-hW];have HBW:=ab (show Below w.heap.size w W by rw[hW]; exact(Below.refl _ _).alloc (Nat.le_refl _) _);have HBX:=ab (show W.heap[w.heap.size]? =some (.cells #[.string en.path, .int .i64 en.kind, .int .i64 en.mode, .int .i64 en.time, .slice a en.data.length cap, .string en.link] 79 (0,0)) by rw[hW]; exact heap_alloc_new w _)
  clear hW;refine(lB en.path false _ (HE.out.below HBW.out) HVP.out).mono ?_;rintro e w1 ⟨rfl,hb1⟩;have HB1:=ab (ag HBW.out hb1);clear hb1;go_wp2_with fail;go_ret;exact⟨an (by simp[iJ,HVP.out]),HB1.out⟩
 ·have HVP:=ab hv;clear hv
  by_cases hmt:0<=en.mode/\en.mode<=511/\0<=en.time
  ·have HH:=ab (show iJ en=kn en by obtain⟨x1,x2,x3⟩:=hmt; unfold iJ tT; rw[HVP.out]; simp[x1,x2,x3]);obtain⟨hm1,hm2,hm3⟩:=hmt
   go_enter Tryz.func117,Tryz.ntmps117
   go_wp2_with fail;obtain⟨W,hW⟩: ∃W,W=w.alloc (.cells #[.string en.path, .int .i64 en.kind, .int .i64 en.mode, .int .i64 en.time, .slice a en.data.length cap, .string en.link] 79):=⟨_,rfl⟩;rw[<-hW];have HBW:=ab (show Below w.heap.size w W by rw[hW]; exact(Below.refl _ _).alloc (Nat.le_refl _) _);have HBX:=ab (show W.heap[w.heap.size]? =some (.cells #[.string en.path, .int .i64 en.kind, .int .i64 en.mode, .int .i64 en.time, .slice a en.data.length cap, .string en.link] 79 (0,0)) by rw[hW]; exact heap_alloc_new w _)
   clear hW;refine(lB en.path true _ (HE.out.below HBW.out) HVP.out).mono ?_;rintro e w1 ⟨rfl,hb1⟩;have HBXr:=ab ((hb1.block w.heap.size ((Array.getElem?_eq_some_iff.1 HBX.out).1)).trans HBX.out);have HB1:=ab (ag HBW.out hb1);have hlt1:w.heap.size<w1.heap.size:=(Array.getElem?_eq_some_iff.1 HBXr.out).1;have c0:=aa (k:=0) HBXr.out;have c1:=aa (k:=1) HBXr.out
   have c2:=aa (k:=2) HBXr.out;have c3:=aa (k:=3) HBXr.out;have c4:=aa (k:=4) HBXr.out;have c5:=aa (k:=5) HBXr.out;simp only[aN]at c0 c1 c2 c3 c4 c5;clear hb1 HBX
   by_cases hk1:en.kind=1
   ·have e1:(en.kind == 1)=true:=by simp[hk1]
    have HK:=ab (show kn en=(decide (en.data.length<=1048576) && decide (en.link.size=0)) by unfold kn; rw[if_pos hk1]);clear hk1;go_wp2_with fail
    ·go_ret;refine⟨an ?_,HB1.out⟩;rw[HH.out,HK.out,HL.out,decide_eq_true (p:=en.data.length<=1048576) (by omega)]
     rfl
    ·go_ret;refine⟨an ?_,HB1.out⟩;rw[HH.out,HK.out,decide_eq_false (p:=en.data.length<=1048576) (by omega)]
     rfl
   ·have e1:(en.kind == 1)=false:=by simp[hk1]
    by_cases hk2:en.kind=2
    ·have e2:(en.kind == 2)=true:=by simp[hk2]
     have HK:=ab (show kn en=(decide (en.data.length=0) && decide (en.link.size=0)) by unfold kn; rw[if_neg hk1,if_pos hk2]);clear hk1 hk2;go_wp2_with fail
     ·go_ret;refine⟨an ?_,HB1.out⟩;rw[HH.out,HK.out,HL.out,decide_eq_true (p:=en.data.length=0) (by rw[show en.data=[] by assumption]; rfl)]
      rfl
     ·go_ret;refine⟨an ?_,HB1.out⟩;rw[HH.out,HK.out,decide_eq_false (p:=en.data.length=0) (fun h=>absurd (List.eq_nil_of_length_eq_zero h) (by assumption))]
      rfl
    ·have e2:(en.kind == 2)=false:=by simp[hk2]
     by_cases hk3:en.kind=3
     ·have e3:(en.kind == 3)=true:=by simp[hk3]
      have HK:=ab (show kn en=(decide (en.data.length=0) && mP (bl en.link)) by unfold kn; rw[if_neg hk1,if_neg hk2,if_pos hk3]);clear hk1 hk2 hk3;go_wp2_with (go_at_call 149; refine(qQ en.link _ HO.out.lnk).mono ?_; rintro e w3 ⟨rfl,rfl⟩)
      ·go_ret;refine⟨an ?_,HB1.out⟩;rw[HH.out,HK.out,decide_eq_true (p:=en.data.length=0) (by rw[show en.data=[] by assumption]; rfl)]
       rfl
      ·go_ret;refine⟨an ?_,HB1.out⟩;rw[HH.out,HK.out,decide_eq_false (p:=en.data.length=0) (fun h=>absurd (List.eq_nil_of_length_eq_zero h) (by assumption))]
       rfl
     ·have e3:(en.kind == 3)=false:=by simp[hk3]
      have HK:=ab (show kn en=false by unfold kn; rw[if_neg hk1,if_neg hk2,if_neg hk3]);clear hk1 hk2 hk3;go_wp2_with fail;go_ret;exact⟨an (by rw[HH.out,HK.out]),HB1.out⟩
  ·have HF:=ab (show iJ en=false by
    have:tT en=false:=by
     unfold tT; rw[Bool.eq_false_iff]; simp; omega
    unfold iJ; rw[this]; simp)
   go_enter Tryz.func117,Tryz.ntmps117
   go_wp2_with fail;obtain⟨W,hW⟩: ∃W,W=w.alloc (.cells #[.string en.path, .int .i64 en.kind, .int .i64 en.mode, .int .i64 en.time, .slice a en.data.length cap, .string en.link] 79):=⟨_,rfl⟩;rw[<-hW];have HBW:=ab (show Below w.heap.size w W by rw[hW]; exact(Below.refl _ _).alloc (Nat.le_refl _) _);have HBX:=ab (show W.heap[w.heap.size]? =some (.cells #[.string en.path, .int .i64 en.kind, .int .i64 en.mode, .int .i64 en.time, .slice a en.data.length cap, .string en.link] 79 (0,0)) by rw[hW]; exact heap_alloc_new w _)
   clear hW;refine(lB en.path true _ (HE.out.below HBW.out) HVP.out).mono ?_;rintro e w1 ⟨rfl,hb1⟩;have HBXr:=ab ((hb1.block w.heap.size ((Array.getElem?_eq_some_iff.1 HBX.out).1)).trans HBX.out);have HB1:=ab (ag HBW.out hb1);have hlt1:w.heap.size<w1.heap.size:=(Array.getElem?_eq_some_iff.1 HBXr.out).1;have c0:=aa (k:=0) HBXr.out;have c1:=aa (k:=1) HBXr.out
   have c2:=aa (k:=2) HBXr.out;have c3:=aa (k:=3) HBXr.out;have c4:=aa (k:=4) HBXr.out;have c5:=aa (k:=5) HBXr.out;simp only[aN]at c0 c1 c2 c3 c4 c5;clear hb1 HBX;go_wp2_with fail
   all_goals first
    | (exfalso; omega)
    | (go_ret; exact⟨an (by rw[HF.out]),HB1.out⟩)
theorem zK (S:Nat->Prop) (v:Value) (bs:List UInt8) (w:World) (hd:bH S w v bs) (hl:bs.length<=140737488355328):Calls Tryz.prog 175 #[v] w fun e w'=> ∃v',e= .returned v'/\w'.ownsRow w.heap.size 5 1 v' bs.length (bs.map u8V)/\Below w.heap.size w w':=by
 obtain⟨_,a,cap,rfl,hn,hm,h0⟩:=hd
 cases a with
 | none=>
  have hz:bs.length=0:=by
   rcases h0 with h0 | ⟨b,o,ha,_⟩
   ·exact h0
   ·cases ha
  obtain rfl:=List.eq_nil_of_length_eq_zero hz;refine(Any.bytes_Clone_nil Tryz.laysClone _ _ w).mono ?_;rintro e w' ⟨rfl,rfl⟩;exact⟨_,rfl,World.ownsRow_nil _ _ _ _,Below.refl _ _⟩
 | some a=>
  refine(Any.bytes_Clone_at Tryz.laysClone a bs.length cap (bs.map fun b=>(b.toNat:Int)) w (by simp) hl ?_).mono ?_
  ·intro i hi
   rcases h0 with h0 | ⟨b,o,ha,_,hc⟩
   ·omega
   ·cases ha
    rw[nS];refine hc i _ ?_;simp[hi,u8V]
  ·rintro e w' ⟨v',rfl,h1,_,h2⟩;refine⟨v',rfl, ?_,h2⟩;rw[List.map_map]at h1;exact h1
theorem cN {w:World} {base base' size n:Nat} {e:TypeId} {v:Value} {xs:List Value} (h:w.ownsRow base e size v n xs) (hb:base'<=base):w.ownsRow base' e size v n xs:=
 ⟨h.1,h.2.imp id (fun⟨g,cap,cur,e1,h1,h2⟩=>⟨g,cap,cur,e1,Nat.le_trans hb h1,h2⟩)⟩
theorem jO {w:World} {b k:Nat} {cs:Array Value} {t:TypeId} (h:w.heap[b]? =some (.cells cs t (0,0))):w.frozen? ⟨b,k,none⟩=false:=by simp[World.frozen?,h]
theorem Du {w:World} {b k:Nat} {cs:Array Value} {t:TypeId} (h:w.heap[b]? =some (.cells cs t (0,0))) (x:Value):(w.setCell ⟨b,k,none⟩ x).heap[b]? =some (.cells (cs.setIfInBounds k x) t (0,0)):=by
 simp only[World.setCell,Array.getElem?_modify,if_true,h,Option.map_some]; rfl
theorem pY {w:World} {b c k:Nat} {o:Obj} (h:w.heap[b]? =some o) (hne:b≠c) (x:Value):(w.setCell ⟨c,k,none⟩ x).heap[b]? =some o:=by
 rw[Below.heap_setCell _ _ _ _ hne]; exact h
theorem fY {w:World} {b:Nat} {o:Obj} (h:w.heap[b]? =some o) (x:Obj):(w.alloc x).heap[b]? =some o:=by
 have hlt:=(Array.getElem?_eq_some_iff.1 h).1;rw[Below.heap_alloc _ _ _ hlt]; exact h
theorem bZ (w:World) (x:Obj):(w.alloc x).heap[w.heap.size]? =some x:=by show(w.heap.push x)[w.heap.size]? =some x; simp
theorem jY (w:World) (x y:Obj):((w.alloc x).alloc y).heap[w.heap.size+1]? =some y:=by
 have:=bZ (w.alloc x) y
 rwa [show(w.alloc x).heap.size=w.heap.size+1 by show(w.heap.push x).size=_; simp]at this
theorem nF {w:World} {b:Nat} {o:Obj} (h:w.heap[b]? =some o):b<w.heap.size:=(Array.getElem?_eq_some_iff.1 h).1
open Go Go.RowKit
theorem Be {S:Nat->Prop} {w:World} {a:Option Addr} {n cap:Nat} {bs:List UInt8} (h:aD S w (.slice a n cap) bs) {s e:Nat} (hs:s<e) (he:e<=bs.length):
  ∃a' cap',(∀w',(Instr.slice 29 (.slice a n cap) (some (.int .i64 (s:Int))) (some (.int .i64 (e:Int))) none).run Tryz.prog w'= .ok (.slice a' (fU bs s e).length cap') w')/\aD S w (.slice a' (fU bs s e).length cap') (fU bs s e):=by
 obtain⟨hl,a0,cap0,hv,hn,hm,h0⟩:=h;simp only[Value.slice.injEq]at hv;obtain⟨rfl,rfl,rfl⟩:=hv;have hz: ∀w',(sizeOf (Tryz.prog.elem 29)).run Tryz.prog w'= .ok 1 w':=fun _=>by kernel_rfl
 have hpl:(fU bs s e).length=e-s:=by unfold fU; rw[List.length_take,List.length_drop]; omega
 refine⟨if cap-s=0 then a else a.map (fun p=>p.add s),cap-s,fun w'=> ?_, ?_⟩
 ·rw[run_slice_lh _ _ _ _ _ Tryz.underlying29 .i64 .i64 (s:Int) (e:Int) (by omega) (by omega) (by omega),hz,hpl];simp only[Result.andThen,sliced,Int.toNat_natCast,Nat.mul_one];rw[if_neg (by omega: ¬cap-s=0)]
  try rw[if_neg (by omega)]
 ·refine⟨by simp,_,_,rfl,by omega,by omega, ?_⟩
  rcases h0 with h0 | ⟨b,o,rfl,hS,hc⟩
  ·omega
  ·refine .inr ⟨b,o+s, ?_,hS,fun j x hj=> ?_⟩
   ·rw[if_neg (by omega),Option.map_some,Addr.add_mid]
   ·rw[Nat.add_assoc];refine hc (s+j) x ?_;unfold fU at hj;rw[List.map_take,List.map_drop,List.getElem?_take]at hj
    split at hj
    ·rw[List.getElem?_drop]at hj; exact hj
    ·cases hj
def Gq (k n:Nat):Prop:=k=1-> ¬1048576<n
def kW (c:dN) (n:Nat):Int:=if iI c=true then(if 1048576<n then 2 else 0)else 1
theorem gW (c:dN) (b:Bool) (w:World) (h:iI c=b):Calls Tryz.prog 70 #[fH c] w fun e w'=>e= .returned (.bool b)/\Below w.heap.size w w':=by rw[<-h]; exact th c w
theorem oG (c:dN) (a:Option Addr) (n cap sb:Nat) (w:World) (hx:w.cell? ⟨sb,0,none⟩=some (.slice a n cap)) (hm:n<=maxLen):
  Calls Tryz.prog 173 #[fH c, .slice (some ⟨sb,0,none⟩) 1 1] w fun e w'=>e= .returned (.int .i64 (kW c n))/\Below w.heap.size w w':=by
 unfold maxLen at hm;have HX:=ab hx;clear hx;unfold fH
 by_cases hv:iI c=true
 ·have HV:=ab hv;have HE:=ab (show kW c n=if 1048576<n then 2 else 0 by unfold kW; rw[if_pos hv]);clear hv
  go_enter Tryz.func173,Tryz.ntmps173
  go_wp2_with (go_at_call 70; refine(gW c true _ HV.out).mono ?_; rintro e w1 ⟨rfl,hb1⟩; have HB1:=ab (((Below.refl _ _).alloc (Nat.le_refl w.heap.size) _).trans (hb1.mono (by simp))); clear hb1)
  go_loopw [12] (fun i wr=> ∃k:Nat,k<=1/\i= .int .i64 (k:Int)/\Below w.heap.size w wr/\Gq k n) (fun i _=>1-(intOf i).toNat)
  case atStart=>exact⟨0,by omega,rfl,HB1.out,fun h=>by cases h⟩
  case round=>
   obtain⟨k,hk,rfl,hb,hdone⟩:=hrel;have HB:=ab hb;have HDN:=ab hdone;clear hb hdone
   by_cases h0:k=0
   ·subst h0;have hc:=(HB.out.cell (aR HX.out)).trans HX.out
    by_cases hn:1048576<n
    ·have hni:(1048576:Int)<(n:Int):=by omega
     go_wp2_with fail;go_ret;exact⟨bz (by rw[HE.out,if_pos hn]),HB.out⟩
    ·have hni:(n:Int)<=1048576:=by omega
     go_wp2_with fail
     go_roundw
     case rel=>exact⟨1,by omega,by go_num,HB.out,fun _=>hn⟩
     case measure=>simp[intOf]
   ·have h1:k=1:=by omega
    subst h1;go_wp2_with fail;go_ret;exact⟨bz (by rw[HE.out,if_neg (HDN.out rfl)]),HB.out⟩
 ·have HV:=ab (show iI c=false by simpa using hv);have HE:=ab (show kW c n=1 by unfold kW; rw[if_neg hv]);clear hv
  go_enter Tryz.func173,Tryz.ntmps173
  go_wp2_with (go_at_call 70; refine(gW c false _ HV.out).mono ?_; rintro e w1 ⟨rfl,hb1⟩; have HB1:=ab (((Below.refl _ _).alloc (Nat.le_refl w.heap.size) _).trans (hb1.mono (by simp))); clear hb1);go_ret;exact⟨bz HE.out.symm,HB1.out⟩
theorem Cm (c:dN) (dv:Value) (w:World) (hd: ∃a n cap,dv= .slice a n cap):Calls Tryz.prog 174 #[fH c,dv] w fun e w'=>e= .returned (.func (.func 186) #[] #[.pointer (some ⟨w.heap.size,0,none⟩), .pointer (some ⟨w.heap.size+1,0,none⟩)])/\
  eD c dv w.heap.size (w.heap.size+1) w'/\Below w.heap.size w w'/\w'.heap.size=w.heap.size+2:=by
 obtain⟨a,n,cap,rfl⟩:=hd;unfold fH
 go_enter Tryz.func174,Tryz.ntmps174
 go_wp2_with fail;go_ret;exact⟨rfl,⟨fY (bZ w _) _,jY w _ _⟩,((Below.refl _ _).alloc (Nat.le_refl _) _).alloc (by simp) _,by simp⟩
end Go.Proofs.YtpffpjbkbaleiaaGreatDoor
namespace Go.Proofs.YtpffpjbkbaleiaaGreatDoor
open Go
section
variable {P : Program} {l n : Nat}
theorem um {f:FuncId} {args:Array Value} {w:World} {R:Ending->World->Prop} (h:Calls P f args w R):CallsIn (Fence.wide.inRound l) n P f args w R:=CallsIn.inRound l (callsIn_wide.2 h)
theorem xY {o:Oper} {a:Act} {next:Act->World->Prop} {Q:Exit->Act->World->Prop} {r:Result Next} (h:o.upon P a next Q r):o.uponIn (Fence.wide.inRound l) n P a next Q r:=by
 cases r with
 | ok x w=>
  cases x with
  | value v=>exact h
  | skip=>exact h
  | defer d=>exact h
  | enter f args=>exact⟨fun e=>(by cases e),um h⟩
  | row row args=>
   exact⟨fun e=>(by cases e),fun c cs _=>by
    obtain⟨v,w',h1,h2⟩:=(show Rows P row args w _ from h) c cs;exact⟨v,w',h1,stepsIn_wide.2 h2⟩⟩
  | _=>exact h.elim
 | halt x w=>
  cases x<;> first | exact h | exact h.elim
def jr (o:Oper):Bool:=match o.op with | .defer _=>false | _=>true
theorem CW {o:Oper} {a:Act} {w:World} {K:Act->World->Prop} {Q:Exit->Act->World->Prop} (hd:jr o=true) (h:o.wp P a w K Q):o.wpIn (Fence.wide.inRound l) n P a w K Q:=
 ⟨fun _ _=>trivial,by
  rw[Oper.semAt_eq _ _ _ (fun c e=>by simp[jr,e]at hd)];exact xY h⟩
theorem yj {L:List Oper} {Q:Exit->Act->World->Prop} (hd:L.all jr=true) (hno: ¬LetsOut Q) {i:Nat} {K:Act->World->Prop} {a:Act} {w:World} (h:wpOp P L.toArray Q i K a w):wpOpIn (Fence.wide.inRound l) n P L.toArray Q i K a w:=by
 unfold wpOp at h;unfold wpOpIn
 cases hx:L.toArray[i]? with
 | none=>rw[hx]at h; exact h
 | some x=>
  rw[hx]at h;simp only at h ⊢;have hdx:jr x=true:=List.all_eq_true.1 hd x (List.mem_of_getElem? (by simpa using hx))
  split at h
  ·rename_i hw;rw[if_pos hw]
   rcases h with h | h
   ·exact CW hdx h
   ·exact absurd h.2 hno
  ·rename_i hw;rw[if_neg hw];exact⟨fun _ _=>trivial,h⟩
theorem nD {L:List Oper} {md:Region.Mode} {Q:Exit->Act->World->Prop} (hd:L.all jr=true) (hno: ¬LetsOut Q): ∀(fuel:Nat) (listed:Array Bool) (a:Act) (w:World),wpAny P md L.toArray Q fuel listed a w->wpAnyIn (Fence.wide.inRound l) n P md L.toArray Q fuel listed a w
 | 0,_,_,_,h=>h
 | fuel+1,_,_,_,h=>⟨h.1,fun i hi=>wpOpIn_mono (fun a' w' h'=>nD hd hno fuel _ a' w' h') (yj hd hno (h.2 i hi))⟩
theorem xf {id:Nat} {a:Act} {w:World} {L:List Oper} {Q:Exit->Act->World->Prop} (S:World->Prop) (hm:P.follows .mixedOrders=true) (hnd:L.all jr=true) (hno: ¬LetsOut Q) (hB:vm .any L=true)
  (h:lD P L.dropLast.toArray (qT P L.toArray (L.length-1) Q) S (L.length-1) (Array.replicate L.length false) a w.drew):(Code.region id L.toArray true).wpIn (Fence.wide.inRound l) n P Q a w:=by
 simp only[vm,Bool.and_eq_true,decide_eq_true_eq]at hB;obtain⟨⟨hc,hpos⟩,hall⟩:=hB;have hall': ∀(i:Nat) (x:Oper),L[i]? =some x->(∀e∈x.after,e.on<i)/\ ∀j b,x.guard=some (j,b)->j<i:=fun i x hx=>by
  have:=List.all_eq_true.1 hall i (List.mem_range.2 (List.getElem?_eq_some_iff.1 hx).1);rw[hx]at this;simp only[Bool.and_eq_true]at this;refine⟨fun e he=> ?_,fun j b hg=> ?_⟩
  ·have:=Array.all_eq_true'.1 this.1 e he
   simpa using this
  ·have:=this.2;rw[hg]at this
   simpa using this
 refine wpIn_region_any hm ?_;have:=yy hc hpos (fun i x hx=>(hall' i x hx).1) (fun i x j b hx=>(hall' i x hx).2 j b) (L.length-1) _ a w.drew uP (wpAny_of_held _ _ _ _ (by simpa using h.out));rw[show L.length-1+1=L.length by omega]at this;refine nD hnd hno _ _ _ _ ?_
 simpa using this
def CL (Q:Exit->Act->World->Prop):Exit->Act->World->Prop
 | .outgrown,_,_=>False
 | e,a,w=>Q e a w
@[go_sem] theorem tu (Q:Exit->Act->World->Prop) (a:Act) (w:World):CL Q .normal a w=Q .normal a w:=rfl
theorem Aj (Q:Exit->Act->World->Prop): ¬LetsOut (CL Q):=fun⟨_,_,h⟩=>h
theorem xe {id:Nat} {a:Act} {w:World} {L:List Oper} {Q:Exit->Act->World->Prop} (S:World->Prop) (hm:P.follows .mixedOrders=true) (hnd:L.all jr=true) (hB:vm .any L=true)
  (h:lD P L.dropLast.toArray (qT P L.toArray (L.length-1) (CL Q)) S (L.length-1) (Array.replicate L.length false) a w.drew):(Code.region id L.toArray true).wpIn (Fence.wide.inRound l) n P Q a w:=
 wpIn_mono (xf S hm hnd (Aj Q) hB h) (fun e _ _ h=>by cases e<;> first | exact h | exact h.elim)
end
open Go Go.RowKit Go.Maps
theorem Tryz.appEnts :eW Tryz.prog 46 79 6 80:=eW.mk' (z:=GL) Tryz.underlying46 (by kernel_rfl) rfl (by decide) (by decide)
def df (ys:List ji):List Value:=ys.flatMap fun y=>oX y.1 y.2
theorem oY (ys:List ji) (y:ji):df (ys++[y])=df ys++oX y.1 y.2:=by simp[df]
theorem rD : ∀ys:List ji,(df ys).length=ys.length*6
 | []=>rfl
 | y::ys=>by
  have:=rD ys;unfold df at this ⊢;rw[List.flatMap_cons,List.length_append,this,List.length_cons,show(oX y.1 y.2).length=6 from rfl]; omega
theorem eJ {a:Option Addr} {n c:Nat} {e:bD} : ∀u∈oX (.slice a n c) e,u.oneCell'=true:=by
 intro u hu;simp only[oX,List.mem_cons,List.not_mem_nil,or_false]at hu
 rcases hu with rfl | rfl | rfl | rfl | rfl | rfl<;> rfl
theorem rC : ∀ {ys:List ji} {k:Nat} {y:ji},ys[k]? =some y-> ∀j,j<6->(df ys)[k*6+j]? =(oX y.1 y.2)[j]?
 | [],k,_,h,_,_=>by simp at h
 | x::ys,0,y,h,j,hj=>by
  simp at h; subst h;unfold df;rw[List.flatMap_cons,Nat.zero_mul,Nat.zero_add,List.getElem?_append_left (by exact hj)]
 | x::ys,k+1,y,h,j,hj=>by
  have:=rC (ys:=ys) (k:=k) (y:=y) (by simpa using h) j hj;unfold df at this ⊢;rw[List.flatMap_cons,List.getElem?_append_right (by show 6<=_; omega),<-this]
  congr 1
  show(k+1)*6+j-6=_
  omega
theorem EU {w:World} {base n cap:Nat} {a:Option Addr} {ys:List ji} {m:Nat} (h:w.ownsRow base 79 6 (.slice a n cap) m (df ys)) {k:Nat} {y:ji} (hk:ys[k]? =some y):
  ∃b,a=some ⟨b,0,none⟩/\base<=b/\b<w.heap.size/\n=ys.length/\w.cell? ⟨b,k*6,none⟩=some (.string y.2.path)/\w.cell? ⟨b,k*6+1,none⟩=some (.int .i64 y.2.kind)/\w.cell? ⟨b,k*6+2,none⟩=some (.int .i64 y.2.mode)/\w.cell? ⟨b,k*6+3,none⟩=some (.int .i64 y.2.time)/\w.cell? ⟨b,k*6+4,none⟩=some y.1/\w.cell? ⟨b,k*6+5,none⟩=some (.string y.2.link):=by
 have hlen:=h.1;rw[rD]at hlen;have hm:m=ys.length:=by omega
 subst hm;have hr:=bq h;obtain⟨_,a',cap',he,_,_,h0⟩:=hr;simp only[Value.slice.injEq]at he;obtain⟨rfl,rfl,rfl⟩:=he;have hlt:=(List.getElem?_eq_some_iff.1 hk).1
 rcases h0 with h0 | ⟨b,o,rfl,hb,hc⟩
 ·omega
 ·rcases h.2 with⟨hn,_⟩ | ⟨g,cp,cur,hv,hbs,hh,_⟩
  ·cases hn
  ·simp only[Value.slice.injEq,Option.some.injEq,Addr.mk.injEq]at hv;obtain⟨⟨rfl,rfl,-⟩,-,rfl⟩:=hv;have g:=fun j (hj:j<6)=>hc (k*6+j) _ ((rC hk j hj).trans (List.getElem?_eq_getElem (l:=oX y.1 y.2) hj))
   have g0:=g 0 (by omega);have g1:=g 1 (by omega);have g2:=g 2 (by omega);have g3:=g 3 (by omega);have g4:=g 4 (by omega);have g5:=g 5 (by omega);simp only[Nat.zero_add,Nat.add_zero]at g0 g1 g2 g3 g4 g5;exact⟨b,rfl,hbs,(Array.getElem?_eq_some_iff.1 hh).1,rfl,g0,g1,g2,g3,g4,g5⟩
theorem bH.slice {S:Nat->Prop} {w:World} {v:Value} {bs:List UInt8} (h:bH S w v bs): ∃a c,v= .slice a bs.length c/\bs.length<=c/\c<=maxLen:=by
 obtain⟨_,a,c,rfl,h1,h2,_⟩:=h;exact⟨a,c,rfl,h1,h2⟩
theorem bm {w w':World} {B n sz:Nat} {e:TypeId} {v:Value} {xs:List Value} (h:w.ownsRow B e sz v n xs) (hb:Below w.heap.size w w'):w'.ownsRow B e sz v n xs:=by
 refine h.kept (row:=none) ⟨hb.os,hb.tape,hb.output,hb.size,fun k hk _=>hb.block k hk⟩ ?_
 cases hv:v.ownBlock
 ·exact .inl rfl
 ·exact .inr (by simp)
attribute [local go_sem] Oper.semAt_some
theorem Tryz.appChunks :eW Tryz.prog 181 29 1 24:=eW.mk' (z:= .slice none 0 0) Tryz.underlying181 (by kernel_rfl) rfl (by decide) (by decide)
def BF (B:Nat) (v:Value) (L:List (List UInt8)) (w:World):Prop:=
 ∃ys:List (Value×List UInt8),ys.map Prod.snd=L/\w.ownsRow B 29 1 v ys.length (ys.map Prod.fst)/\ ∀y∈ys,w.ownsRow B 5 1 y.1 y.2.length (y.2.map au)
theorem gq {A B:World} {row:Option Nat} {base sz m:Nat} {t:TypeId} {v:Value} {xs:List Value} (h:A.ownsRow base t sz v m xs) (hg:A.grownBy B row) (hr: ∀r,row=some r-> ∀cs,A.heap[r]? ≠some (.cells cs t (0,0))):B.ownsRow base t sz v m xs:=by
 refine h.kept hg ?_
 rcases h.2 with⟨rfl,_⟩ | ⟨g,cap,cur,rfl,_,hgb,_⟩
 ·exact .inl rfl
 ·exact .inr fun e'=>hr g (by simpa [Value.ownBlock]using e'.symm) cur hgb
theorem xF {A:World} {b1 b2 s1 s2 m1 m2:Nat} {t1 t2:TypeId} {v1 v2:Value} {x1 x2:List Value} (h1:A.ownsRow b1 t1 s1 v1 m1 x1) (h2:A.ownsRow b2 t2 s2 v2 m2 x2) (ht:t1≠t2):v1.ownBlock=none\/v1.ownBlock≠v2.ownBlock:=by
 cases h:v1.ownBlock with
 | none=>exact .inl rfl
 | some k=>
  refine .inr fun e=> ?_
  obtain⟨_,c1,d1⟩:=iF h1 h;obtain⟨_,c2,d2⟩:=iF h2 e.symm;rw[d1]at d2
  cases d2
  exact ht rfl
def ChI (bx:Nat) (data:List UInt8) (w4:World) (pre:List Nat) (W:World):Prop:=
 (∃(ys:List (Value×List UInt8)) (v:Value),ys.map Prod.snd=ey data 0 pre/\ys.length=pre.length/\W.heap[bx]? =some (.cells #[v] 181 (0,0))/\W.ownsRow (bx+4) 29 1 v ys.length (ys.map Prod.fst)/\ ∀y∈ys,W.ownsRow (bx+4) 5 1 y.1 y.2.length (y.2.map au))/\
 W.heap[bx+1]? =some (.cells #[.int .i64 ((fK pre:Nat):Int)] 3 (0,0))/\Below bx w4 W
theorem ChI.turn {bx:Nat} {data:List UInt8} {w4:World} {pre:List Nat} {A B:World} {row:Option Nat} (h:ChI bx data w4 pre A) (h4:w4.heap.size=bx+4) (hg:A.grownBy B row) (hr: ∀r,row=some r->bx+4<=r/\ ∀cs t,A.heap[r]? =some (.cells cs t (0,0))->t=239):ChI bx data w4 pre B:=by
 obtain⟨⟨ys,v,h1,h2,h3,h5,h6⟩,h7,h8⟩:=h;have hs:=h8.size;refine⟨⟨ys,v,h1,h2,(hg.block _ (lt_of_block h3) (fun e=>by have:=(hr _ e.symm).1; omega)).trans h3,gq h5 hg (fun r e cs hc=>by have:=(hr r e).2 cs _ hc; cases this),fun y hy=>gq (h6 y hy) hg (fun r e cs hc=>by have:=(hr r e).2 cs _ hc; cases this)⟩,
  (hg.block _ (lt_of_block h7) (fun e=>by have:=(hr _ e.symm).1; omega)).trans h7,h8.grown hg (by omega) (fun k e=>by have:=(hr k e).1; omega)⟩
theorem yB {bx:Nat} {data:List UInt8} {w4:World} (h4:w4.heap.size=bx+4):OwnFrom w4.heap.size (ChI bx data w4):=fun _ _ _ _ h hg hr=>h.turn h4 hg (fun r e=>⟨by have:=(hr r e).1; omega,fun cs t hc=>by
 obtain⟨_,o,ho,hw⟩:=hr r e;rw[ho]at hc; cases hc; cases hw⟩)
theorem Cc {bx:Nat} {data:List UInt8} {w4:World} (h4:w4.heap.size=bx+4):yr 239 w4.heap.size (ChI bx data w4):=fun _ _ _ _ h hg hr=>h.turn h4 hg (fun r e=>⟨by have:=(hr r e).1; omega,fun cs t hc=>by
 obtain⟨_,cs',ho⟩:=hr r e;rw[ho]at hc; cases hc; rfl⟩)
def wn (c:dN) (dv:Value) (w0 bx q:Nat):Act:=
 {tmps:= #[fH c,dv, .pointer (some ⟨w0,0,none⟩), .pointer (some ⟨w0+1,0,none⟩), .slice none 0 0, .int .i64 0, .int .i64 0, .pointer (some ⟨bx,0,none⟩), .pointer (some ⟨bx+1,0,none⟩), .int .i64 (q:Int),fH c,dv, .slice (some ⟨w0+1+1,0,none⟩) 1 1, .int .i64 0, .int .i64 0, .bool false,undef,fH c,dv,
   .func (.func 186) #[] #[.pointer (some ⟨bx+2,0,none⟩), .pointer (some ⟨bx+2+1,0,none⟩)], .int .i64 (q:Int),undef,undef,undef,undef,undef,undef,undef,undef,undef,undef],defers:=[]}
def ChA (c:dN) (dv:Value) (w0 bx:Nat) (data:List UInt8) (w4:World) (pre:List Nat) (q:Nat) (a:Act) (W:World):Prop:=
 ChI bx data w4 pre W/\(fK pre<q/\q<=data.length)/\pre.length<data.length/\a=wn c dv w0 bx q
theorem Ev {c:dN} {dv:Value} {w0 bx:Nat} {data:List UInt8} {w4:World} (h4:w4.heap.size=bx+4):OwnFrom w4.heap.size (fun(s:List Nat×Nat×Act) W=>ChA c dv w0 bx data w4 s.1 s.2.1 s.2.2 W):=fun s A B row h hg hr=>⟨yB h4 s.1 A B row h.1 hg hr,h.2⟩
theorem GS {n b1 b2:Nat} {t:TypeId} {A B C:World} (h:Below n A B/\dk t A B/\BO b1 b2 A B) (k:Below n B C/\dk t B C/\BO b1 b2 B C):Below n A C/\dk t A C/\BO b1 b2 A C:=⟨h.1.trans k.1,h.2.1.trans k.2.1,k.2.2.1.trans h.2.2.1,k.2.2.2.trans h.2.2.2⟩
theorem oL (S:Nat->Prop) (c:dN) (data:List UInt8) (dv:Value) (w:World) (hc:iI c=true) (hs:c.seed<18446744073709551616) (hd:aD S w dv data) (hl:data.length<=1048576) (hT:ua w):
  Calls Tryz.prog 155 #[fH c,dv] w fun e w'=> ∃v,e= .returned (.tuple #[v, .int .i64 0])/\BF w.heap.size v (ey data 0 (uH (tt c data) c.mn.toNat c.mx.toNat data.length)) w'/\Below w.heap.size w w':=by
 have HC:=ab hc;have HD:=ab hd;have HT:=ab hT;obtain⟨_,da,dcap,rfl,hdc,hdm,-⟩:=id hd;obtain⟨n,hn⟩: ∃n,n=data.length:=⟨_,rfl⟩;rw[<-hn]at hdc hl HD ⊢;have HN:=ab hn;have HCK:=ab (show kW c n=0 by unfold kW; rw[if_pos hc,if_neg (by omega)]);have HNM:=ab (show n<=maxLen by unfold maxLen; omega);clear hc hd hT hn;refine(callsIn_wide (n:=4)).1 (callsIn_of_wp_marks Tryz.func155 rfl trivial ?_ rfl)
 simp only[Tryz.ntmps155,List.size_toArray,List.length_cons,List.length_nil,Nat.reduceAdd,Nat.reduceSub,Array.replicate_succ,Array.replicate_zero,List.push_toArray,List.append_toArray,List.nil_append,List.cons_append];refine(wpIn_wide (n:=4)).2 ?_;unfold fH;go_wp2_with fail;obtain⟨w1,hw1⟩: ∃w1,w1=((w.alloc (.cells #[.int .i64 c.mn, .int .i64 c.mx, .int .i64 c.win, .int .i64 c.bits, .int .u64 (c.seed:Int)] 45)).alloc (.cells #[.slice da n dcap] 29)).alloc (.cells #[.slice da n dcap] 29):=⟨_,rfl⟩
 rw[<-hw1];have HB1:=ab (show Below w.heap.size w w1 by rw[hw1]; exact(((Below.refl _ _).alloc (Nat.le_refl _) _).alloc (by simp) _).alloc (by simp; omega) _);have HX1:=ab (show w1.heap[w.heap.size]? =some (.cells (dA c).toArray 45 (0,0)) by rw[hw1]; exact fY (fY (bZ w _) _) _);have HY1:=ab (show w1.heap[w.heap.size+1]? =some (.cells #[.slice da n dcap] 29 (0,0)) by rw[hw1]; exact fY (jY w _ _) _)
 have HZ1:=ab (show w1.heap[w.heap.size+1+1]? =some (.cells #[.slice da n dcap] 29 (0,0)) by rw[hw1]; exact(by have:=heap_alloc_new ((w.alloc (.cells #[.int .i64 c.mn, .int .i64 c.mx, .int .i64 c.win, .int .i64 c.bits, .int .u64 (c.seed:Int)] 45)).alloc (.cells #[.slice da n dcap] 29)) (.cells #[.slice da n dcap] 29); simpa using this));clear hw1;have hck:=oG c da n dcap (w.heap.size+1+1) w1 (aa HZ1.out) HNM.out
 rw[HCK.out]at hck;unfold fH at hck;refine hck.mono ?_;rintro e w2 ⟨rfl,hb2⟩;have HB2:=ab (ag HB1.out hb2);have HX2:=ab ((hb2.block _ (lt_of_block HX1.out)).trans HX1.out);have HY2:=ab ((hb2.block _ (lt_of_block HY1.out)).trans HY1.out);clear hck hb2;have HX3:=ab (fY (fY HX2.out (.cells #[.slice none 0 0] 181)) (.cells #[.int .i64 0] 3));have HY3:=ab (fY (fY HY2.out (.cells #[.slice none 0 0] 181)) (.cells #[.int .i64 0] 3))
 have HBX3:=ab (fY (bZ w2 (.cells #[.slice none 0 0] 181)) (.cells #[.int .i64 0] 3));have HBS3:=ab (jY w2 (.cells #[.slice none 0 0] 181) (.cells #[.int .i64 0] 3));have HB3:=ab (((Below.refl w2.heap.size w2).alloc (Nat.le_refl _) (.cells #[.slice none 0 0] 181)).alloc (by simp) (.cells #[.int .i64 0] 3));have hs3:((w2.alloc (.cells #[.slice none 0 0] 181)).alloc (.cells #[.int .i64 0] 3)).heap.size=w2.heap.size+2:=by simp
 have c0:=aa (k:=0) HX3.out;have c1:=aa (k:=1) HX3.out;have c2:=aa (k:=2) HX3.out;have c3:=aa (k:=3) HX3.out;have c4:=aa (k:=4) HX3.out;have y0:=aa (k:=0) HY3.out;simp only[dA,aN]at c0 c1 c2 c3 c4 y0;go_wp2_with fail
 generalize (w2.alloc (.cells #[.slice none 0 0] 181)).alloc (.cells #[.int .i64 0] 3)=w3 at *
 have he:=Cm c (.slice da n dcap) w3 ⟨_,_,_,rfl⟩;unfold fH at he;refine he.mono ?_;rintro e w4 ⟨rfl,hcp,hb4,hs4⟩;clear he c0 c1 c2 c3 c4 y0;obtain⟨bx,hbx⟩: ∃bx,bx=w2.heap.size:=⟨_,rfl⟩;rw[hs3]at hcp ⊢;rw[<-hbx]at HBX3 HBS3 hcp ⊢;have HB4:=ab (hb4.mono (by rw[hs3,hbx]; omega:bx<=w3.heap.size));have HB24:=ab (show Below w2.heap.size w2 w4 from HB3.out.trans (by rw[<-hbx]; exact HB4.out))
 have HBX4:=ab ((hb4.block _ (lt_of_block HBX3.out)).trans HBX3.out);have HBS4:=ab ((hb4.block _ (lt_of_block HBS3.out)).trans HBS3.out);have HY4:=ab ((hb4.block _ (lt_of_block HY3.out)).trans HY3.out);have hs44:w4.heap.size=bx+4:=by rw[hs4,hs3,hbx]
 have HCP:=ab hcp;have HWX:=ab (show w.heap.size+1<bx by rw[hbx]; exact lt_of_block HY2.out);have HBX:=ab hbx;have HD2:=ab (show aD S w2 (.slice da n dcap) data from HD.out.below (by decide) HB2.out);clear hcp hb4 hs4 hs3 hbx;go_wp2_with fail;refine Bt (gf:=186) (lb:= #[.pointer (some ⟨bx+2,0,none⟩), .pointer (some ⟨bx+2+1,0,none⟩)]) rfl (enters_of Tryz.func186 (by kernel_rfl) rfl)
  (Cn S c data (.slice da n dcap) (bx+2) (bx+2+1) w2 w4 HC.out hs HCP.out HD2.out (by rw[<-HN.out]; exact hl) (HT.out.block (HB2.out.block _ HT.out.lt) HB2.out.size) HB24.out) GS (fun W l o o' hl' h1 h2 h3=> ?kb) (fun _=>rfl)
  (ChI bx data w4) (fun _ _ _=>False) (ChA c (.slice da n dcap) w.heap.size bx data w4) (yB hs44) (Cc hs44) (fun _ _ _ _ _ h _ _=>h) (Ev hs44) ⟨⟨[], .slice none 0 0,rfl,rfl,HBX4.out,World.ownsRow_nil _ _ _ _,by simp⟩,HBS4.out,Below.refl _ _⟩ ?assign ?body ?done ?stop
 case kb=>
  have hlt:=(Array.getElem?_eq_some_iff.1 h1).1;have hb:=HBX.out;have hg:=grownBy_putObj' W l o';refine⟨go (Below.refl _ _) hg (by omega) (by omega),dk.grown hg (fun r e cs hcs=>by cases e; rw[h1]at hcs; cases hcs; cases h2),hg.block _ (by omega) (fun e=>by cases e; omega),hg.block _ (by omega) (fun e=>by cases e; omega)⟩
 case assign=>
  rintro l pre q W hW hI hD hN
  gi_wp2
  exact⟨KeepsOthers.refl _,⟨Below.refl _ _,dk.refl _,rfl,rfl⟩,hI,hD,hN,rfl⟩
 case body=>
  rintro l pre q a₁ W ⟨hI,hD,hN,rfl⟩;obtain⟨⟨ys,v,h1,h2,h3,h5,h6⟩,h7,h8⟩:=hI;have H1:=ab h1;have H2:=ab h2;have H3:=ab h3;have H5:=ab h5;have H6:=ab h6;have H7:=ab h7;have H8:=ab h8;obtain⟨s,hsE⟩: ∃s,s=fK pre:=⟨_,rfl⟩;rw[<-hsE]at hD H7;have HSE:=ab hsE;have hsz:=h8.size;clear h1 h2 h3 h5 h6 h7 h8 hsE;obtain⟨av,cv,rfl,hvn,hvm⟩:=aj H5.out
  have HDW:=ab (HD2.out.below (by decide) (HB24.out.trans (H8.out.mono (by rw[<-HBX.out]; omega))));have HYW:=ab ((H8.out.block _ (by have:=HWX.out; omega)).trans HY4.out);obtain⟨sa,sc,hsl,hsb⟩:=Be HDW.out hD.1 hD.2;obtain⟨pl,hpl⟩: ∃pl,pl=fU data s q:=⟨_,rfl⟩;rw[<-hpl]at hsl hsb;have HSB:=ab hsb;have HPL:=ab hpl;clear hsb hpl;simp only[wn]
  gi_wp2
  refine xe (fun w'=>w'.cell? ⟨bx,0,none⟩=some (.slice av ys.length cv)/\w'.cell? ⟨w.heap.size+1,0,none⟩=some (.slice da n dcap)/\w'.cell? ⟨bx+1,0,none⟩=some (.int .i64 (s:Int))) (by kernel_rfl) (by kernel_rfl) (by kernel_rfl) ?_;simp only[List.dropLast_cons_cons,List.dropLast_singleton,List.length_cons,List.length_nil,Nat.reduceAdd,Nat.reduceSub];obtain⟨V,hV⟩: ∃V:World,V=W.drew:=⟨_,rfl⟩
  rw[<-hV];have HBV:=ab (show Below W.heap.size W V by rw[hV]; exact(Below.refl _ _).drew);have hsV:V.heap.size=W.heap.size:=by rw[hV]; rfl
  clear hV;have k0:=aa (k:=0) ((HBV.out.block _ (lt_of_block H3.out)).trans H3.out);have k1:=aa (k:=0) ((HBV.out.block _ (lt_of_block HYW.out)).trans HYW.out);have k2:=aa (k:=0) ((HBV.out.block _ (lt_of_block H7.out)).trans H7.out);simp only[List.getElem?_toArray,List.getElem?_cons_zero]at k0 k1 k2;refine af 0 rfl (by kernel_rfl) (by kernel_rfl) (by kernel_rfl) (fun _ _ _ h=>h) rfl ⟨k0,k1,k2⟩ (by rintro w' ⟨hw1,hw2,hw3⟩; go_simp; first | rfl | (rw[hsl]; rfl)) ?_
  simp only[Act.put,aA,aB,aC];refine af 1 rfl (by kernel_rfl) (by kernel_rfl) (by kernel_rfl) (fun _ _ _ h=>h) rfl ⟨k0,k1,k2⟩ (by rintro w' ⟨hw1,hw2,hw3⟩; go_simp; first | rfl | (rw[hsl]; rfl)) ?_;simp only[Act.put,aA,aB,aC];refine af 2 rfl (by kernel_rfl) (by kernel_rfl) (by kernel_rfl) (fun _ _ _ h=>h) rfl ⟨k0,k1,k2⟩ (by rintro w' ⟨hw1,hw2,hw3⟩; go_simp; first | rfl | (rw[hsl]; rfl)) ?_
  simp only[Act.put,aA,aB,aC];refine af 3 rfl (by kernel_rfl) (by kernel_rfl) (by kernel_rfl) (fun _ _ _ h=>h) rfl ⟨k0,k1,k2⟩ (by rintro w' ⟨hw1,hw2,hw3⟩; go_simp; first | rfl | (rw[hsl]; rfl)) ?_;simp only[Act.put,aA,aB,aC];refine af 4 rfl (by kernel_rfl) (by kernel_rfl) (by kernel_rfl) (fun _ _ _ h=>h) rfl ⟨k0,k1,k2⟩ (by rintro w' ⟨hw1,hw2,hw3⟩; go_simp; first | rfl | (rw[hsl]; rfl)) ?_
  simp only[Act.put,aA,aB,aC];have HSV:=ab (show aD S V (.slice sa pl.length sc) pl from HSB.out.below (by decide) HBV.out);refine ar 5 rfl (by kernel_rfl) rfl (fun K hK=> ?_);go_wp2_with fail;refine(zK S _ pl V HSV.out (by rw[HPL.out]; unfold fU; rw[List.length_take,List.length_drop]; rw[<-HN.out]at hD; omega)).mono ?_;rintro e w5 ⟨v5,rfl,ho5,hb5⟩;obtain⟨a5,e5,rfl,hn5,hm5⟩:=aj ho5
  have HO5:=ab ho5;have HB5:=ab (show Below W.heap.size W w5 from HBV.out.trans (by rw[<-hsV]; exact hb5));clear ho5 hb5 k0 k1 k2;have k0:=aa (k:=0) ((HB5.out.block _ (lt_of_block H3.out)).trans H3.out);have k1:=aa (k:=0) ((HB5.out.block _ (lt_of_block HYW.out)).trans HYW.out);have k2:=aa (k:=0) ((HB5.out.block _ (lt_of_block H7.out)).trans H7.out);simp only[List.getElem?_toArray,List.getElem?_cons_zero]at k0 k1 k2
  go_wp2_with fail;refine⟨⟨k0,k1,k2⟩, ?_⟩;have HB6:=ab (show Below w5.heap.size w5 (w5.alloc (.cells #[.slice a5 pl.length e5] 29))from(Below.refl _ _).alloc (Nat.le_refl _) _);have l0:=(HB6.out.cell (aR k0)).trans k0;have l1:=(HB6.out.cell (aR k1)).trans k1;have l2:=(HB6.out.cell (aR k2)).trans k2;refine ar 6 rfl (by kernel_rfl) rfl (fun K hK=> ?_);go_wp2_with fail
  refine⟨⟨l0,l1,l2⟩, ?_⟩;clear l0 l1 l2;have HOW:=ab (show w5.ownsRow (bx+4) 29 1 (.slice av ys.length cv) ys.length (ys.map Prod.fst)from bm H5.out HB5.out);have HLN:=ab (show ys.length<1099511627775 by rw[H2.out]; rw[<-HN.out]at hN; omega);have HBS:=ab (show bx+4<=w5.heap.size by have:=HB5.out.size; omega);refine ar 7 rfl (by kernel_rfl) rfl (fun K hK=> ?_);go_wp2_with (at_builtin; go_must (refine aK Tryz.appChunks rfl _ _ rfl (bx+4) (.slice av ys.length cv) ys.length (ys.map Prod.fst) rfl w5 [.slice a5 pl.length e5] 29 rfl rfl (by simp[Value.oneCell']) HOW.out HLN.out HBS.out ?_); intro v7 w7 hown' hgrow' hne7 hpl7; obtain⟨a7,c7,rfl,-,-⟩:=aj hown')
  have hge: ∀k,(Value.slice av ys.length cv).ownBlock=some k->bx+4<=k:=fun k e=>(iF HOW.out e).1
  have hb7: ∀k,k<w5.heap.size->k<bx+4->w7.heap[k]? =w5.heap[k]? :=fun k h1 h2=>hgrow'.block k h1 (fun e=>by have:=hge k e.symm; omega)
  have hsz5:=HB5.out.size;have HX7:=ab (show w7.heap[bx]? =some (.cells #[.slice av ys.length cv] 181 (0,0)) by rw[hb7 _ (by omega) (by omega),HB5.out.block _ (lt_of_block H3.out),H3.out]);have HS7:=ab (show w7.heap[bx+1]? =some (.cells #[.int .i64 (s:Int)] 3 (0,0)) by rw[hb7 _ (by omega) (by omega),HB5.out.block _ (lt_of_block H7.out),H7.out]);have HY7:=ab (show w7.heap[w.heap.size+1]? =some (.cells #[.slice da n dcap] 29 (0,0)) by rw[hb7 _ (by have:=HWX.out; omega) (by have:=HWX.out; omega),HB5.out.block _ (lt_of_block HYW.out),HYW.out])
  have HOWN:=ab hown';have HGR:=ab hgrow';clear hown' hgrow' hne7 hpl7 hb7 k0 k1 k2;refine⟨⟨aa HX7.out,aa HY7.out,aa HS7.out⟩, ?_⟩;simp only[Act.put,aA,aB,aC];have k0:=aa (k:=0) HX7.out;have f0:=jO (k:=0) HX7.out;have f1:=jO (k:=0) HS7.out;have k2:=aa (k:=0) HS7.out;simp only[List.getElem?_toArray,List.getElem?_cons_zero]at k0 k2;refine aV (by kernel_rfl) ?_
  refine bX rfl rfl (fun K hK=> ?_);go_wp2_with fail;rw[tu]
  gi_wp2
  have hX1:(w7.setCell ⟨bx,0,none⟩ (.slice a7 (ys.length+1) c7)).heap[bx]? =some (.cells #[.slice a7 (ys.length+1) c7] 181 (0,0)):=by simpa using Du (k:=0) HX7.out (.slice a7 (ys.length+1) c7)
  have hX2:(w7.setCell ⟨bx,0,none⟩ (.slice a7 (ys.length+1) c7)).heap[bx+1]? =some (.cells #[.int .i64 (s:Int)] 3 (0,0)):=pY HS7.out (by omega) _;obtain⟨B,hBe⟩: ∃B,B=(w7.setCell ⟨bx,0,none⟩ (.slice a7 (ys.length+1) c7)).setCell ⟨bx+1,0,none⟩ (.int .i64 (q:Int)):=⟨_,rfl⟩;rw[<-hBe];have hB1:B.heap[bx]? =some (.cells #[.slice a7 (ys.length+1) c7] 181 (0,0)):=by rw[hBe]; exact pY hX1 (by omega) _
  have hB2:B.heap[bx+1]? =some (.cells #[.int .i64 (q:Int)] 3 (0,0)):=by rw[hBe]; simpa using Du (k:=0) hX2 (.int .i64 (q:Int))
  have hg1:=aF (w7) bx 0 (.slice a7 (ys.length+1) c7);have hg2:=aF (w7.setCell ⟨bx,0,none⟩ (.slice a7 (ys.length+1) c7)) (bx+1) 0 (.int .i64 (q:Int));rw[<-hBe]at hg2;have hk7: ∀k,k<w7.heap.size->k≠bx->k≠bx+1->B.heap[k]? =w7.heap[k]? :=fun k h1 h2 h3=>(hg2.block k (Nat.lt_of_lt_of_le h1 hg1.size) (fun e=>h3 (Option.some.inj e))).trans (hg1.block k h1 (fun e=>h2 (Option.some.inj e)))
  have hsz7:=HGR.out.size;have hkW: ∀k,k<W.heap.size->k≠bx->k≠bx+1->(Value.slice av ys.length cv).ownBlock≠some k->B.heap[k]? =W.heap[k]? :=fun k h1 h2 h3 h4=>by
   rw[hk7 k (by omega) h2 h3,HGR.out.block k (by omega) (fun e=>h4 e.symm),HB5.out.block k h1]
  have hszB:W.heap.size<=B.heap.size:=by have:=hg1.size; have:=hg2.size; omega
  have hos:B.os=W.os:=by rw[hg2.os,hg1.os,HGR.out.os,HB5.out.os]
  have htp:B.tape=W.tape:=by rw[hg2.tape,hg1.tape,HGR.out.tape,HB5.out.tape]
  have hou:B.output=W.output:=by rw[hg2.output,hg1.output,HGR.out.output,HB5.out.output]
  have hown: ∀(sz m:Nat) (t:TypeId) (u:Value) (xs:List Value),w5.ownsRow (bx+4) t sz u m xs->t=5->B.ownsRow (bx+4) t sz u m xs:=fun sz m t u xs h ht=>by
   have h7:w7.ownsRow (bx+4) t sz u m xs:=h.kept HGR.out (xF h HOW.out (by rw[ht]; decide));have h8:=gq h7 hg1 (fun r e cs hc=>by cases e; rw[HX7.out]at hc; cases hc; cases ht);exact gq h8 hg2 (fun r e cs hc=>by cases e; rw[hX2]at hc; cases hc; cases ht)
  have hblk: ∀k,k<bx+4->(Value.slice av ys.length cv).ownBlock≠some k:=fun k h1 e=>by have:=hge k e; omega
  refine⟨⟨hszB,fun k o hko hoc=> ?_⟩,⟨⟨hos,htp,hou,hszB,fun k hk=> ?_⟩,fun k cs hk=> ?_, ?_, ?_⟩,⟨ys++[(.slice a5 pl.length e5,pl)], .slice a7 (ys.length+1) c7, ?_, ?_,hB1, ?_, ?_⟩, ?_, ?_⟩
  ·rw[hkW k (Array.getElem?_eq_some_iff.1 hko).1 (fun e=>by rw[e,H3.out]at hko; cases hko; cases hoc) (fun e=>by rw[e,H7.out]at hko; cases hko; cases hoc) (fun e=>by
    obtain⟨_,cur,hcur⟩:=iF H5.out e;rw[hcur]at hko; cases hko; cases hoc)]
   exact hko
  ·rw[<-HBX.out]at hk;exact hkW k (by omega) (by omega) (by omega) (hblk k (by omega))
  ·exact hkW k (Array.getElem?_eq_some_iff.1 hk).1 (fun e=>by rw[e,H3.out]at hk; cases hk) (fun e=>by rw[e,H7.out]at hk; cases hk) (fun e=>by
    obtain⟨_,cur,hcur⟩:=iF H5.out e;rw[hcur]at hk; cases hk)
  ·exact hkW _ (by omega) (by omega) (by omega) (hblk _ (by omega))
  ·exact hkW _ (by omega) (by omega) (by omega) (hblk _ (by omega))
  ·rw[List.map_append,H1.out,gj,HPL.out,HSE.out]; rfl
  ·rw[List.length_append,List.length_append,H2.out]; rfl
  ·rw[List.length_append,List.map_append];have h8:=gq HOWN.out hg1 (fun r e cs hc=>by cases e; rw[HX7.out]at hc; cases hc);exact gq h8 hg2 (fun r e cs hc=>by cases e; rw[hX2]at hc; cases hc)
  ·intro y hy
   rcases List.mem_append.1 hy with hy | hy
   ·exact hown _ _ _ _ _ (bm (H6.out y hy) HB5.out) rfl
   ·rw[List.mem_singleton.1 hy];exact hown _ _ _ _ _ (cN HO5.out (by omega)) rfl
  ·rw[fz]; exact hB2
  ·refine H8.out.trans ⟨hos,htp,hou,hszB,fun k hk=>hkW k (by omega) (by omega) (by omega) (hblk k (by omega))⟩
 case done=>
  rintro Dl ys W hDl hS ⟨⟨zs,v,h1,h2,h3,h5,h6⟩,h7,h8⟩ hK;have hc:=aa (k:=0) h3;simp only[List.getElem?_toArray,List.getElem?_cons_zero]at hc;go_wp2_with fail;have hb2:=HB2.out;have hbx:=HBX.out;refine⟨by simp, .inl ⟨_,_,rfl,run_takeDeferred hK, ?_⟩⟩;have hsz2:=hb2.size;refine⟨_,results_tmp2 rfl _ _ _,v,rfl,⟨zs,by rw[h1,hS,HN.out],ownsRow_putObj (cN h5 (by omega)) _ hK rfl,fun y hy=>ownsRow_putObj (cN (h6 y hy) (by omega)) _ hK rfl⟩, ?_⟩
  have hWb:Below w.heap.size w W:=(hb2.trans (HB24.out.mono hsz2)).trans (h8.mono (by omega));exact go hWb (grownBy_putObj' W Dl _) (by omega) hWb.size
 case stop=>
  rintro Dl c pre W _ _ h _;exact h.elim
end Go.Proofs.YtpffpjbkbaleiaaGreatDoor
namespace Go.Proofs.YtpffpjbkbaleiaaGreatDoor
open Go.RowKit
structure bM where
 ref:aG
 con:List UInt8
def jP (gs:List (ByteArray×Int)) (n:ByteArray):Int:=((gs.find? fun p=>decide (p.1=n)).map Prod.snd).getD 0
def be (k:bI) (gs:List (ByteArray×Int)) (c:List UInt8):aG:=⟨lT k (jP gs (lT k 0 c)).toNat c,jP gs (lT k 0 c),(c.length:Int)⟩
def gI (k:bI) (gs:List (ByteArray×Int)) (bs:List bM) (c:List UInt8):List bM:=if be k gs c∈bs.map bM.ref then bs else bs++[⟨be k gs c,c⟩]
def bJ (k:bI) (gs:List (ByteArray×Int)) (cs:List (List UInt8)) (bs:List bM):List bM:=cs.foldl (gI k gs) bs
def fG (c:dN) (data:List UInt8):List (List UInt8):=ey data 0 (uH (tt c data) c.mn.toNat c.mx.toNat data.length)
def no (dir path:List UInt8):List UInt8:=if(path.drop dir.length).head? =some 47 then(path.drop dir.length).tail else path.drop dir.length
def ci (tree:List bD) (dir:ByteArray):List bD:=tree.filter fun e=>decide (aT (bl e.path)=bl dir)
def dx (k:bI) (gs:List (ByteArray×Int)) (c:dN) (dir:ByteArray) (e:bD) (node:aG):aE:=
 ⟨⟨(no (bl dir) (bl e.path)).toArray⟩,e.kind,e.mode,e.time,if e.kind=1 then(e.data.length:Int)else 0,e.link,if e.kind=1 then(fG c e.data).map (be k gs)else [],if e.kind=2 then node else bi⟩
def du (k:bI) (gs:List (ByteArray×Int)) (c:dN) (rec:ByteArray->Except Int (List UInt8×List (List UInt8))) (dir:ByteArray):List bD->List aE->List (List UInt8)->Except Int (List aE×List (List UInt8))
 | [],its,cs=> .ok (its,cs)
 | e::r,its,cs=>
  if e.kind=1 then du k gs c rec dir r (its++[dx k gs c dir e bi]) (cs++fG c e.data)
  else if e.kind=2 then(match rec e.path with
   | .error x=> .error x
   | .ok p=>du k gs c rec dir r (its++[dx k gs c dir e (be k gs p.1)]) (cs++p.2))
  else du k gs c rec dir r (its++[dx k gs c dir e bi]) cs
def cE (k:bI) (gs:List (ByteArray×Int)) (c:dN) (tree:List bD):Nat->ByteArray->Except Int (List UInt8×List (List UInt8))
 | 0,_=> .error 0
 | f+1,dir=>match du k gs c (cE k gs c tree f) dir (ci tree dir) [] []with
  | .error x=> .error x
  | .ok (its,cs)=>if cd its=true then(if(dR its).length<=32768 then .ok (dR its,cs++[dR its])else .error 2)else .error 1
def cW (k:bI) (c:dN) (tree:List bD) (gs:List (ByteArray×Int)):Except Int (aG×List bM):=
 if fP k=true/\iI c=true then(if(gs.all fun p=>decide (0<=p.2) && decide (p.2<=1099511627776))=true then
  (if cX tree=0 then(match cE k gs c tree 514 ⟨#[]⟩with
   | .error x=> .error x
   | .ok p=> .ok (be k gs p.1,bJ k gs p.2 []))
  else .error (cX tree))else .error 1)else .error 1
theorem dn (k:bI) (gs:List (ByteArray×Int)) (a b:List (List UInt8)) (bs:List bM):bJ k gs (a++b) bs=bJ k gs b (bJ k gs a bs):=List.foldl_append
open Go Go.RowKit
def lC (w:World) (wb:Nat) (data:List UInt8):Prop:= ∃v,w.heap[wb]? =some (.cells #[v, .int .i64 0] 160 (0,0))/\iN w wb v data
def fS (wb:Nat) (w w':World):Prop:=Below wb w w'/\ ∀t,t≠5->t≠160->dk t w w'
theorem fS.refl (wb:Nat) (w:World):fS wb w w:=⟨Below.refl _ _,fun _ _ _=>dk.refl _⟩
theorem fS.trans {wb:Nat} {A B C:World} (h:fS wb A B) (k:fS wb B C):fS wb A C:=⟨h.1.trans k.1,fun t h1 h2=>(h.2 t h1 h2).trans (k.2 t h1 h2)⟩
theorem fS.row {wb:Nat} {w w':World} {v:Value} {data:List UInt8} (ho:iN w wb v data) (hb:wb<=w.heap.size) (hg:w.grownBy w' v.ownBlock):fS wb w w':=
 ⟨(Below.refl _ _).grown hg hb (fun k e=>(iF ho e).1),fun t h1 _=>dk.grown hg (fun r e cs hcs=>by
  obtain⟨_,cur,hc⟩:=iF ho e;rw[hc]at hcs; cases hcs; exact h1 rfl)⟩
theorem fS.set {wb k:Nat} {w:World} {cs:Array Value} (hb:w.heap[wb]? =some (.cells cs 160 (0,0))) (v:Value):fS wb w (w.setCell ⟨wb,k,none⟩ v):=
 ⟨(Below.refl _ _).grown (aF w wb k v) (Nat.le_of_lt (lt_of_block hb)) (fun k e=>by cases e; exact Nat.le_refl _),fun t _ h2=>dk.grown (aF w wb k v) (fun r e cs' hcs=>by
  cases e; rw[hb]at hcs; cases hcs; exact h2 rfl)⟩
theorem lC.box {w w':World} {wb:Nat} {v:Value} {cs:Array Value} {data:List UInt8} (hb:w.heap[wb]? =some (.cells cs 160 (0,0))) (ho:iN w wb v data) (hg:w.grownBy w' v.ownBlock):w'.heap[wb]? =some (.cells cs 160 (0,0)):=
 (hg.block _ (lt_of_block hb) (fun e=>by
  obtain⟨_,cur,hc⟩:=iF ho e.symm;rw[hc]at hb; cases hb)).trans hb
theorem lC.put {w1:World} {wb:Nat} {v v':Value} {data:List UInt8} (hb:w1.heap[wb]? =some (.cells #[v, .int .i64 0] 160 (0,0))) (ho:iN w1 wb v' data):lC (w1.setCell ⟨wb,0,none⟩ v') wb data:=
 ⟨v',by simpa using Du (k:=0) hb v',World.ownsRow.kept ho (aF w1 wb 0 v') (by
  cases h:v'.ownBlock with
  | none=>exact .inl rfl
  | some k=>
   refine .inr (fun e=> ?_);obtain⟨_,cur,hc⟩:=iF ho h
   cases e
   rw[hc]at hb; cases hb)⟩
theorem qG (w:World):Calls Tryz.prog 48 #[] w fun e w'=>e= .returned (.pointer (some ⟨w.heap.size,0,none⟩))/\lC w' w.heap.size []/\Below w.heap.size w w':=by
 go_enter Tryz.func48,Tryz.ntmps48
 go_wp2_with fail;go_ret;exact⟨rfl,⟨.slice none 0 0,bZ w _,World.ownsRow_nil _ _ _ _⟩,(Below.refl _ _).alloc (Nat.le_refl _) _⟩
theorem eZ (wb n:Nat) (data:List UInt8) (w:World) (hw:lC w wb data) (hl:data.length<1099511000000) (hn:n<18446744073709551616):
  Calls Tryz.prog 51 #[.pointer (some ⟨wb,0,none⟩), .int .u64 (n:Int)] w fun e w'=>e= .returned (.tuple #[])/\lC w' wb (data++aP n)/\fS wb w w':=by
 obtain⟨v,hb,ho⟩:=hw;obtain⟨a0,c0,rfl,h10,h20⟩:=aj ho;have HB:=ab hb;have HO:=ab ho;have hlt:=lt_of_block hb;have k0:=aa (k:=0) hb;have k1:=aa (k:=1) hb;simp only[aN]at k0 k1;clear hb ho
 go_enter Tryz.func51,Tryz.ntmps51
 go_wp2_with fail;refine(lf wb _ data n w HO.out (Nat.le_of_lt hlt) hl hn).mono ?_;rintro e w1 ⟨v',rfl,ho1,hg1,-⟩;obtain⟨a1,c1,hv1,-,-⟩:=aj ho1;obtain⟨m,hm⟩: ∃m,m=(data++aP n).length:=⟨_,rfl⟩;rw[<-hm]at hv1;subst hv1;clear hm;have hb1:=lC.box HB.out HO.out hg1;have HB1:=ab hb1;have HO1:=ab ho1;have HK1:=ab (fS.row HO.out (Nat.le_of_lt hlt) hg1)
 have f0:=jO (k:=0) hb1;clear k0 k1;have k0:=aa (k:=0) hb1;simp only[List.getElem?_toArray,List.getElem?_cons_zero]at k0;clear hb1 ho1 hg1;go_wp2_with fail
 go_end0
 exact⟨rfl,lC.put HB1.out HO1.out,HK1.out.trans (fS.set HB1.out _)⟩
theorem sE (wb:Nat) (t:ByteArray) (data:List UInt8) (w:World) (hw:lC w wb data) (hl:data.length<1099000000000) (hn:t.size<500000000):
  Calls Tryz.prog 50 #[.pointer (some ⟨wb,0,none⟩), .string t] w fun e w'=>e= .returned (.tuple #[])/\lC w' wb (data++(aP t.size++bl t))/\fS wb w w':=by
 obtain⟨v,hb,ho⟩:=hw;obtain⟨a0,c0,rfl,h10,h20⟩:=aj ho;have HB:=ab hb;have HO:=ab ho;have hlt:=lt_of_block hb;have k0:=aa (k:=0) hb;have k1:=aa (k:=1) hb;simp only[aN]at k0 k1;clear hb ho;have hnu:IntKind.u64.wrap (t.size:Int)=((t.size:Nat):Int):=by rw[IntKind.wrap_u64]; omega
 have h10:=dK (n:=t.size) (by omega)
 go_enter Tryz.func50,Tryz.ntmps50
 go_wp2_with fail;refine(lf wb _ data t.size w HO.out (Nat.le_of_lt hlt) (by omega) (by omega)).mono ?_;rintro e w1 ⟨v',rfl,ho1,hg1,-⟩;obtain⟨a1,c1,hv1,-,-⟩:=aj ho1;obtain⟨m,hm⟩: ∃m,m=(data++aP t.size).length:=⟨_,rfl⟩;rw[<-hm]at hv1;subst hv1;have HM:=ab hm;clear hm;have HB1:=ab (lC.box HB.out HO.out hg1);have HO1:=ab ho1;have HK1:=ab (fS.row HO.out (Nat.le_of_lt hlt) hg1)
 have HL1:=ab (show(data++aP t.size).length+t.size<1099511627775 by rw[List.length_append]; omega);have hlt1:=lt_of_block HB1.out;clear k0 k1 ho1 hg1;go_wp2_with (at_builtin; go_must (refine kR rfl _ _ rfl wb (.slice a1 m c1) (data++aP t.size) rfl HO1.out t rfl HL1.out (Nat.le_of_lt hlt1) ?_); intro v2 w2 hown2 hgrow2; obtain⟨a2,c2,hv2,-,-⟩:=aj hown2; obtain⟨m2,hm2⟩: ∃m2,m2=(data++aP t.size).length+t.size:=⟨_,rfl⟩; try (rw[<-hm2]at hv2); subst hv2; clear hm2; have HOW2:=ab hown2; have HG2:=ab hgrow2; clear hown2 hgrow2; have HB2:=ab (lC.box HB1.out HO1.out HG2.out); have f0:=jO (k:=0) HB2.out; have k0:=aa (k:=0) HB2.out; simp only[List.getElem?_toArray,List.getElem?_cons_zero]at k0)
 go_end0
 have ho2:iN w2 wb (.slice a2 m2 c2) (data++(aP t.size++bl t)):=by
  have:=HOW2.out;unfold iN;rw[<-List.append_assoc,List.length_append,List.map_append,<-ay];exact this
 exact⟨rfl,lC.put HB2.out ho2,(HK1.out.trans (fS.row HO1.out (Nat.le_of_lt hlt1) HG2.out)).trans (fS.set HB2.out _)⟩
theorem DR (wb:Nat) (t:ByteArray) (data:List UInt8) (w:World) (hw:lC w wb data) (hl:data.length<1099000000000) (hn:t.size=32):
  Calls Tryz.prog 101 #[.pointer (some ⟨wb,0,none⟩), .string t] w fun e w'=>e= .returned (.tuple #[])/\lC w' wb (data++bl t)/\fS wb w w':=by
 obtain⟨v,hb,ho⟩:=hw;obtain⟨a0,c0,rfl,h10,h20⟩:=aj ho;have HB:=ab hb;have HO:=ab ho;have hlt:=lt_of_block hb;have k0:=aa (k:=0) hb;have k1:=aa (k:=1) hb;simp only[aN]at k0 k1;clear hb ho;have hni:(t.size:Int)=32:=by omega
 have HL0:=ab (show data.length+t.size<1099511627775 by omega);clear hn
 go_enter Tryz.func101,Tryz.ntmps101
 go_wp2_with (at_builtin; go_must (refine kR rfl _ _ rfl wb (.slice a0 data.length c0) data rfl HO.out t rfl HL0.out (Nat.le_of_lt hlt) ?_); intro v2 w2 hown2 hgrow2; obtain⟨a2,c2,hv2,-,-⟩:=aj hown2; obtain⟨m2,hm2⟩: ∃m2,m2=(data.length+t.size):=⟨_,rfl⟩; try (rw[<-hm2]at hv2); subst hv2; clear hm2; have HOW2:=ab hown2; have HG2:=ab hgrow2; clear hown2 hgrow2; have HB2:=ab (lC.box HB.out HO.out HG2.out); have f0:=jO (k:=0) HB2.out; clear k0 k1; have k0:=aa (k:=0) HB2.out; simp only[List.getElem?_toArray,List.getElem?_cons_zero]at k0)
 go_end0
 have ho2:iN w2 wb (.slice a2 m2 c2) (data++bl t):=by
  have:=HOW2.out;unfold iN;rw[List.length_append,List.map_append,<-ay];exact this
 exact⟨rfl,lC.put HB2.out ho2,(fS.row HO.out (Nat.le_of_lt hlt) HG2.out).trans (fS.set HB2.out _)⟩
theorem ql (wb n:Nat) (data:List UInt8) (w:World) (hw:lC w wb data) (hl:data.length<1099511000000) (hn:n<9223372036854775808):
  Calls Tryz.prog 49 #[.pointer (some ⟨wb,0,none⟩), .int .i64 (n:Int)] w fun e w'=>e= .returned (.tuple #[])/\lC w' wb (data++aP n)/\fS wb w w':=by
 have HW:=ab hw;obtain⟨v,hb,ho⟩:=hw;obtain⟨a0,c0,rfl,h10,h20⟩:=aj ho;have HB:=ab hb;have HO:=ab ho;have hlt:=lt_of_block hb;have k0:=aa (k:=0) hb;have k1:=aa (k:=1) hb;simp only[aN]at k0 k1;clear hb ho;have hnu:IntKind.u64.wrap (n:Int)=((n:Nat):Int):=by rw[IntKind.wrap_u64]; omega
 go_enter Tryz.func49,Tryz.ntmps49
 go_wp2_with fail;refine(eZ wb n data w HW.out hl (by omega)).mono ?_;rintro e w1 ⟨rfl,hw1,hk1⟩;go_wp2_with fail
 go_end0
 exact⟨rfl,hw1,hk1⟩
theorem fS.below {wb:Nat} {w w':World} (h:Below w.heap.size w w') (hb:wb<=w.heap.size):fS wb w w':=⟨h.mono hb,fun _ _ _=>dk.below h⟩
theorem lC.below {wb:Nat} {data:List UInt8} {w w':World} (h:lC w wb data) (hb:Below w.heap.size w w'):lC w' wb data:=by
 obtain⟨v,h1,h2⟩:=h;exact⟨v,(hb.block _ (lt_of_block h1)).trans h1,bm h2 hb⟩
def Ed (data:List UInt8) (w:World) (e:Ending) (w':World):Prop:=
 Below w.heap.size w w'/\if data.length<=1048576 then ∃v,e= .returned (.tuple #[v, .int .i64 0])/\iN w' w.heap.size v data else e= .returned (.tuple #[.slice none 0 0, .int .i64 2])
theorem Bs (wb:Nat) (data:List UInt8) (w:World) (hw:lC w wb data) (hl:data.length<1099000000000):Calls Tryz.prog 53 #[.pointer (some ⟨wb,0,none⟩)] w (Ed data w):=by
 obtain⟨v,hb,ho⟩:=hw;obtain⟨a0,c0,hv,h10,h20⟩:=aj ho;obtain⟨n,hn⟩: ∃n,n=data.length:=⟨_,rfl⟩;rw[<-hn]at hv h10 hl;subst hv;have HN:=ab hn;have HR:=ab (show aS (fun k=>wb<=k/\(Value.slice a0 n c0).ownBlock=some k) w 1 (.slice a0 n c0) n (data.map au) by rw[hn]; rw[hn]at ho; exact bq ho);have hlt:=lt_of_block hb;have k0:=aa (k:=0) hb
 have k1:=aa (k:=1) hb;simp only[aN]at k0 k1;clear hb ho hn
 by_cases hbig:n<=1048576
 ·have HBG:=ab hbig;have hbi:(n:Int)<=1048576:=by omega
  have HOR:=ab (World.ownsRow_made (base:=w.heap.size) (e:=5) (size:=1) w #[] 0 (Nat.le_refl _) (by unfold maxLen; omega) rfl);have HB1:=ab ((Below.refl w.heap.size w).alloc (Nat.le_refl _) (.cells #[] 5));have HR1:=ab (HR.out.below (by decide) HB1.out);have HON:=ab (show ∀u∈data.map au,u.oneCell'=true from eq data);have HLE:=ab (show 0+n<1099511627775 by omega)
  have k2:=(HB1.out.cell (aR k0)).trans k0
  go_enter Tryz.func53,Tryz.ntmps53
  go_wp2_with (at_builtin; go_must (refine fa Tryz.appBytes rfl _ _ rfl w.heap.size _ 0 [] rfl HOR.out _ n (data.map au) rfl HR1.out HON.out HLE.out HB1.out.size ?_); intro v6 wz hown6 hgrow6; go_must (rw[Nat.zero_add,List.nil_append]at hown6); have HO6:=ab hown6; have HG6:=ab hgrow6; clear hown6 hgrow6)
  go_ret2
  refine⟨HB1.out.grown HG6.out HB1.out.size (fun k e=>by cases e; exact Nat.le_refl _), ?_⟩;rw[<-HN.out,if_pos HBG.out];exact⟨v6,rfl,by unfold iN; rw[<-HN.out]; exact HO6.out⟩
 ·have HBG:=ab hbig;have hbi:(1048576:Int)<(n:Int):=by omega
  clear hbig
  go_enter Tryz.func53,Tryz.ntmps53
  go_wp2_with fail
  go_ret2
  refine⟨Below.refl _ _, ?_⟩;rw[<-HN.out,if_neg HBG.out]
  rfl
theorem mr (wb:Nat) (r:aG) (data:List UInt8) (w:World) (hw:lC w wb data) (hl:data.length<1098000000000) (hr:dw r=true):
  Calls Tryz.prog 52 #[.pointer (some ⟨wb,0,none⟩),aX r] w fun e w'=>e= .returned (.tuple #[])/\lC w' wb (data++dL r)/\fS wb w w':=by
 have HW:=ab hw;obtain⟨h32,hg0,hg1,hz0,hz1⟩:=qj.1 hr;obtain⟨g,hg⟩: ∃g,g=r.gen.toNat:=⟨_,rfl⟩;obtain⟨z,hz⟩: ∃z,z=r.size.toNat:=⟨_,rfl⟩;have hgi:r.gen=(g:Int):=by omega
 have hzi:r.size=(z:Int):=by omega
 have HER:=ab (show dL r=bl r.name++(aP g++aP z) by unfold dL; rw[hg,hz]);have H32:=ab h32;have hwg:IntKind.u64.wrap (g:Int)=(g:Int):=by rw[IntKind.wrap_u64]; omega
 have hwz:IntKind.u64.wrap (z:Int)=(z:Int):=by rw[IntKind.wrap_u64]; omega
 have hg9:g<1099511627777:=by omega
 have hz9:z<32769:=by omega
 have hlt:wb<w.heap.size:=by obtain⟨_,h,_⟩:=hw; exact lt_of_block h
 unfold aX;rw[hgi,hzi];clear hw hr h32 hg0 hg1 hz0 hz1 hg hz hgi hzi
 go_enter Tryz.func52,Tryz.ntmps52
 go_wp2_with fail;obtain⟨w1,hw1⟩: ∃w1,w1=w.alloc (.cells #[.string r.name, .int .i64 (g:Int), .int .i64 (z:Int)] 26):=⟨_,rfl⟩;rw[<-hw1];have HB1:=ab (show Below w.heap.size w w1 by rw[hw1]; exact(Below.refl _ _).alloc (Nat.le_refl _) _);have HX1:=ab (show w1.heap[w.heap.size]? =some (.cells #[.string r.name, .int .i64 (g:Int), .int .i64 (z:Int)] 26 (0,0)) by rw[hw1]; exact bZ w _)
 have HK1:=ab (fS.below HB1.out (Nat.le_of_lt hlt));have HW1:=ab (HW.out.below HB1.out);clear hw1;refine(DR wb r.name data w1 HW1.out (by omega) H32.out).mono ?_;rintro e w2 ⟨rfl,hw2,hk2⟩;have HW2:=ab hw2;have HK2:=ab hk2;have HX2:=ab ((hk2.2 _ (by decide) (by decide) _ _ HX1.out).trans HX1.out);have hl2:(data++bl r.name).length=data.length+32:=by rw[List.length_append,<-ay,H32.out]
 have HL2:=ab hl2;have c1:=aa (k:=1) HX2.out;simp only[aN]at c1;clear hw2 hk2 hl2;go_wp2_with fail;refine(eZ wb g _ w2 HW2.out (by rw[HL2.out]; omega) (by omega)).mono ?_;rintro e w3 ⟨rfl,hw3,hk3⟩;have HW3:=ab hw3;have HK3:=ab hk3;have HX3:=ab ((hk3.2 _ (by decide) (by decide) _ _ HX2.out).trans HX2.out);have c2:=aa (k:=2) HX3.out;simp only[aN]at c2;clear hw3 hk3 c1
 have h10:=dK (n:=g) (by omega);go_wp2_with fail;refine(eZ wb z _ w3 HW3.out (by rw[List.length_append,HL2.out]; omega) (by omega)).mono ?_;rintro e w4 ⟨rfl,hw4,hk4⟩;go_wp2_with fail
 go_end0
 refine⟨rfl, ?_,((HK1.out.trans HK2.out).trans HK3.out).trans hk4⟩;rw[HER.out,<-List.append_assoc,<-List.append_assoc];exact hw4
end Go.Proofs.YtpffpjbkbaleiaaGreatDoor
namespace Go.Proofs.YtpffpjbkbaleiaaGreatDoor
open Go.RowKit
theorem gm (S:Nat->Prop) (l:List aE) (v:Value) (b:Bool) (w:World) (hv:ba S w v l) (henv:fE w) (h:cd l=b):Calls Tryz.prog 47 #[v] w fun e w'=>e= .returned (.bool b)/\Below w.heap.size w w':=by
 rw[<-h]; exact qR S l v w hv henv
theorem gG :aW bi:=⟨by decide,by decide,by decide⟩
theorem rM (S:Nat->Prop) (data:List UInt8) (v:Value) (w:World) (hv:aD S w v data) (henv:fE w):Calls Tryz.prog 18 #[v] w (ub data w):=by
 obtain⟨_,a,cap,rfl,hn,hm,-⟩:=id hv;unfold maxLen at hm;have HV:=ab hv;have HE:=ab henv;clear hv henv
 by_cases hbig:32768<data.length
 ·have HP:=ab (pw hbig)
  go_enter Tryz.func18,Tryz.ntmps18
  go_wp2_with fail
  go_ret2
  exact⟨Below.refl _ _,by rw[HP.out]; rfl⟩
 ·have HBIG:=ab hbig
  go_enter Tryz.func18,Tryz.ntmps18
  go_wp2_with fail;refine(qF S data _ w HV.out (by omega)).mono ?_;rintro e w1 ⟨rb,dv,rfl,hge,hrd,hb1⟩;have HRD1:=ab hrd;have HB1:=ab hb1;clear hrd hb1;go_wp2_with fail;refine(yF rb dv data ⟨0,0,0⟩ 4096 _ HRD1.out (by omega)).mono ?_;rintro e w2 ⟨n,s1,hcn,rfl,hrd2,hg2⟩;have hnl:n<=4096:=by have:=oN data 4096 ⟨0,0,0⟩; rw[hcn]at this; exact this
  have HCN:=ab hcn;have HI2:=ab (show oh w1 rb w2 dv (.slice none 0 0) data s1 []from⟨hrd2,⟨_,HRD1.out⟩,⟨[],World.ownsRow_nil _ _ _ _,rfl⟩,hg2⟩);clear hcn hrd2 hg2;go_wp2_with fail
  go_loopw [5,16] (fun v i wr=> ∃(k:Nat) (l:List aE) (s:RS),k<=n/\i= .int .i64 k/\l.length=k/\ei data s1 k=some (l,s)/\oh w1 rb wr dv v data s l) (fun _ i _=>n-(intOf i).toNat)
  case atStart=>exact⟨0,[],s1,Nat.zero_le _,rfl,rfl,rfl,HI2.out⟩
  case round=>
   obtain⟨k,l,s,hk,rfl,hlk,hit,hinv⟩:=hrel;have HIT:=ab hit;have HINV:=ab hinv;have HLK:=ab hlk;obtain⟨cells,hown,hrow⟩:=hinv.row;have HOWN:=ab hown;have HROW:=ab hrow;obtain⟨av,cv0,hvs,hvn,hvm⟩:=aj hown;have HRD:=ab hinv.rd;subst hvs;clear hit hinv hlk hown hrow
   by_cases hlt:k<n
   ·go_wp2_with fail;refine(DG rb dv data s 64 _ HRD.out (by omega)).mono ?_;rintro e w3 ⟨nm,s2,hp1,rfl,h1,h2⟩;have HP1:=ab hp1;have HM0:=ab (ee.start HRD.out h1 h2 #[.string ⟨nm.toArray⟩, .int .i64 0, .int .i64 0, .int .i64 0, .int .i64 0, .string ⟨#[]⟩, .slice none 0 0, .string ⟨#[]⟩, .int .i64 0, .int .i64 0]);clear hp1 h1 h2;go_wp2_with fail;refine(qh rb dv data s2 _ HM0.out.rd).mono ?_
    rintro e w4 ⟨kd,s3,hp,rfl,h1,h2⟩;have HP2:=ab hp;have HM1:=ab (HM0.out.call h1 h2);have ck:=HM1.out.cell 1;have fk:=HM1.out.free 1;simp only[aN]at ck;clear hp h1 h2;go_wp2_with fail;obtain⟨kv,hkv⟩: ∃ix:Int,ix=wrap64 (kd:Int):=⟨_,rfl⟩;rw[<-hkv];have Hkv:=ab hkv;clear hkv;obtain⟨w5,hw4⟩: ∃wx:World,wx=w4.setCell ⟨w3.heap.size,1,none⟩ (.int .i64 kv):=⟨_,rfl⟩
    rw[<-hw4];have m4:=HM1.out.set 1 (.int .i64 kv);rw[<-hw4]at m4;simp only[List.setIfInBounds_toArray,List.set_cons_succ,List.set_cons_zero]at m4;have HM2:=ab m4;clear m4 hw4 ck fk HM0 HM1;refine(qh rb dv data s3 _ HM2.out.rd).mono ?_;rintro e w6 ⟨md,s4,hp,rfl,h1,h2⟩;have HP3:=ab hp;have HM3:=ab (HM2.out.call h1 h2);have ck:=HM3.out.cell 2;have fk:=HM3.out.free 2;simp only[aN]at ck
    clear hp h1 h2;go_wp2_with fail;obtain⟨mv,hkv⟩: ∃ix:Int,ix=wrap64 (md:Int):=⟨_,rfl⟩;rw[<-hkv];have Hmv:=ab hkv;clear hkv;obtain⟨w7,hw4⟩: ∃wx:World,wx=w6.setCell ⟨w3.heap.size,2,none⟩ (.int .i64 mv):=⟨_,rfl⟩;rw[<-hw4];have m4:=HM3.out.set 2 (.int .i64 mv);rw[<-hw4]at m4;simp only[List.setIfInBounds_toArray,List.set_cons_succ,List.set_cons_zero]at m4;have HM4:=ab m4
    clear m4 hw4 ck fk HM2 HM3;refine(qh rb dv data s4 _ HM4.out.rd).mono ?_;rintro e w8 ⟨td,s5,hp,rfl,h1,h2⟩;have HP4:=ab hp;have HM5:=ab (HM4.out.call h1 h2);have ck:=HM5.out.cell 3;have fk:=HM5.out.free 3;simp only[aN]at ck;clear hp h1 h2
    go_upto_region 11 with(fail)
    obtain⟨tv,hkv⟩: ∃ix:Int,ix=wrap64 (td:Int):=⟨_,rfl⟩;rw[<-hkv];have Htv:=ab hkv;clear hkv;obtain⟨w9,hw4⟩: ∃wx:World,wx=w8.setCell ⟨w3.heap.size,3,none⟩ (.int .i64 tv):=⟨_,rfl⟩;rw[<-hw4];have m4:=HM5.out.set 3 (.int .i64 tv);rw[<-hw4]at m4;simp only[List.setIfInBounds_toArray,List.set_cons_succ,List.set_cons_zero]at m4;have HM6:=ab m4;clear m4 hw4 ck fk HM4 HM5
    have ck:=HM6.out.cell 1;simp only[aN]at ck;have HH:=ab (xt HP1.out HP2.out HP3.out HP4.out);have hnms:nm.length<=64:=by have:=tS data 64 s; rw[HP1.out]at this; exact this
    by_cases hk1:kv=1
    ·have e1:(kv == 1)=true:=by simp[hk1]
     have HK1:=ab (show eY kd=1 from Hkv.out.symm.trans hk1);clear hk1;go_wp2_with fail;refine(yF rb dv data s5 963 _ HM6.out.rd (by omega)).mono ?_;rintro e wa ⟨n2,s6,hp,rfl,h1,h2⟩;have HP5:=ab hp;have hn2:n2<=963:=by have:=oN data 963 s5; rw[hp]at this; exact this
     have HM7:=ab (HM6.out.call h1 h2);clear hp h1 h2 ck HM6;go_wp2_with fail;obtain⟨wo,hwo⟩: ∃wo:World,wo=wr:=⟨_,rfl⟩;subst hwo
     go_loopw [39] (fun i wq=> ∃(j:Nat) (ch:List aG) (s7:RS) (cv:Value),j<=n2/\i= .int .i64 j/\ch.length=j/\dp data s6 j=(ch,s7)/\ee rb w3.heap.size wo wq dv data s7 #[.string ⟨nm.toArray⟩, .int .i64 kv, .int .i64 mv, .int .i64 tv, .int .i64 0, .string ⟨#[]⟩,cv, .string ⟨#[]⟩, .int .i64 0, .int .i64 0]/\wq.ownsRow (w3.heap.size+1) 26 3 cv ch.length (ch.flatMap cG)) (fun i _=>n2-(intOf i).toNat)
     case atStart=>exact⟨0,[],s6, .slice none 0 0,Nat.zero_le _,rfl,rfl,rfl,HM7.out,World.ownsRow_nil _ _ _ _⟩
     case round=>
      obtain⟨j,ch,s7,cv,hj,rfl,hlj,hch,hmid,how⟩:=hrel;have HLJ:=ab hlj;have HCH:=ab hch;have HMQ:=ab hmid;have HOQ:=ab how;obtain⟨a6,c6,hv6,hvn6,hvm6⟩:=aj how;subst hv6;clear hlj hch hmid how
      by_cases hlt2:j<n2
      ·have ck:=HMQ.out.cell 6;have fk:=HMQ.out.free 6;simp only[aN]at ck;go_wp2_with fail;refine bP (fun w'=>w'.cell? ⟨w3.heap.size,6,none⟩=some (.slice a6 ch.length c6)) (by kernel_rfl) (by kernel_rfl) ?_;simp only[List.dropLast_cons_cons,List.dropLast_singleton,List.length_cons,List.length_nil,Nat.reduceAdd,Nat.reduceSub];have HMD:=ab (HMQ.out.below ((Below.refl _ _).drew))
       refine af 0 rfl (by kernel_rfl) (by kernel_rfl) (by kernel_rfl) (fun _ _ _ h=>h) rfl (by go_simp) (by intro w' hw'; go_simp; rfl) ?_;simp only[Act.put,aA,aB,aC];refine af 1 rfl (by kernel_rfl) (by kernel_rfl) (by kernel_rfl) (fun _ _ _ h=>h) rfl (by go_simp) (by intro w' hw'; go_simp; rfl) ?_;simp only[Act.put,aA,aB,aC];refine af 2 rfl (by kernel_rfl) (by kernel_rfl) (by kernel_rfl) (fun _ _ _ h=>h) rfl (by go_simp) (by intro w' hw'; go_simp; rfl) ?_
       simp only[Act.put,aA,aB,aC];refine ar 3 rfl (by kernel_rfl) rfl (fun K hK=> ?_);go_wp2_with (go_at_call 62; refine(ny rb dv data s7 _ HMD.out.rd).mono ?_; rintro e wb ⟨r,s8,hp,rfl,h1,h2,hrok⟩; unfold aX);have HP6:=ab hp;have HRO:=ab hrok;have HMB:=ab (HMD.out.call h1 h2);have HOB:=ab (HOQ.out.kept (ak (b:=wr.drew) ⟨rfl,rfl,rfl,Nat.le_refl _,fun _ _ _=>rfl⟩ h2) (.inr (by
        intro e;have:=(HOQ.out.lt _ e).1;have:=aQ.lt HRD1.out;have:=HINV.out.grown.size;have:=HMQ.out.ge
        omega)))
       have ck2:=HMB.out.cell 6;have HMC:=ab (HMB.out.below ((Below.refl _ _).alloc (Nat.le_refl _) (.cells #[.string r.name, .int .i64 r.gen, .int .i64 r.size] 26)));have ck3:=HMC.out.cell 6;have fk2:=HMB.out.free 6;have hbz2:w3.heap.size+1<=wb.heap.size:=(Array.getElem?_eq_some_iff.1 HMB.out.box).1;simp only[aN]at ck2 ck3;clear hp h1 h2 hrok ck fk HMQ HMD;refine⟨ck2, ?_⟩;refine ar 4 rfl (by kernel_rfl) rfl (fun K hK=> ?_)
       go_wp2_with fail
       (first | (refine⟨ck3, ?_⟩) | skip)
       refine ar 5 rfl (by kernel_rfl) rfl (fun K hK=> ?_);go_wp2_with (at_builtin; go_must (refine aK Tryz.appRefs rfl _ _ rfl (w3.heap.size+1) (.slice a6 ch.length c6) ch.length (ch.flatMap cG) rfl wb [.string r.name, .int .i64 r.gen, .int .i64 r.size] _ rfl rfl (gL (r:=r)) HOB.out (by have:=HLJ.out; omega) hbz2 ?_); intro v' wc hown' hgrow' _ hpl; obtain⟨ae,ce,rfl,-,-⟩:=aj hown')
       have HMW:=ab (HMB.out.app hgrow' (fun k hk=>by have:=(HOB.out.lt k hk).1; omega));have HOW:=ab (show wc.ownsRow (w3.heap.size+1) 26 3 (.slice ae (ch.length+1) ce) (ch++[r]).length ((ch++[r]).flatMap cG) by rw[List.length_append,List.flatMap_append]; simpa [cG]using hown');have ck4:=HMW.out.cell 6;have fk4:=HMW.out.free 6;simp only[aN]at ck4;clear hown' hgrow' hpl ck2 ck3 fk2 HMC HMB HOB HOQ
       refine⟨ck4, ?_⟩;refine af 6 rfl (by kernel_rfl) (by kernel_rfl) (by kernel_rfl) (fun _ _ _ h=>h) rfl (by go_simp) (by intro w' hw'; go_simp; rfl) ?_;simp only[Act.put,aA,aB,aC];refine aV (by kernel_rfl) ?_;refine bX rfl rfl (fun K hK=> ?_);go_wp2_with fail
       go_roundw
       case rel=>
        have m4:=HMW.out.set 6 (.slice ae (ch.length+1) ce);simp only[List.setIfInBounds_toArray,List.set_cons_succ,List.set_cons_zero]at m4;refine⟨j+1,ch++[r],s8, .slice ae (ch.length+1) ce,by omega,by go_num,by simp[HLJ.out],uo HCH.out HP6.out,m4,HOW.out.kept (aF _ _ _ _) (.inr (by
         intro e;have:=(HOW.out.lt _ e).1
         omega))⟩
       case measure=>simp[intOf]; omega
      ·obtain rfl:j=n2:=by omega
       have hchok: ∀r∈ch,aW r:=by
        have:=rg data s6 j;rw[HCH.out]at this; exact this
       have HRF:=ab (dr HOQ.out hchok);have ck:=HMQ.out.cell 6;simp only[aN]at ck;clear hchok;go_wp2_with fail;refine(mN _ _ ch _ HRF.out).mono ?_;rintro e wb ⟨rfl,hbt⟩;have HMB:=ab (HMQ.out.below hbt);have HRB:=ab (show aM (fun k=>w3.heap.size<k) wb (.slice a6 ch.length c6) ch from aM.same (aL.below HRF.out (by omega) hbt (fun _ _ _ h=>h)) (fun k hk hS=>⟨by have:=hS.1; omega,rfl⟩))
       have ck4:=HMB.out.cell 4;have fk4:=HMB.out.free 4;simp only[aN]at ck4;obtain⟨tw,htw⟩: ∃tw:Int,tw=dt ch:=⟨_,rfl⟩;rw[<-htw];have HTW:=ab htw;clear hbt ck htw HRF
       go_upto_region 23 with(fail)
       obtain⟨wd,hwd⟩: ∃wx:World,wx=wb.setCell ⟨w3.heap.size,4,none⟩ (.int .i64 tw):=⟨_,rfl⟩;rw[<-hwd];have m4:=HMB.out.set 4 (.int .i64 tw);rw[<-hwd]at m4;simp only[List.setIfInBounds_toArray,List.set_cons_succ,List.set_cons_zero]at m4;have HM8:=ab m4;have HIP:=ab (show dY data s=some (⟨⟨nm.toArray⟩,eY kd,eY md,eY td,tw,⟨#[]⟩,ch,bi⟩,s7) by rw[HH.out,xn HK1.out HP5.out HCH.out,HTW.out])
       have HOK:=ab (show cB ⟨⟨nm.toArray⟩,kv,mv,tv,tw,⟨#[]⟩,ch,bi⟩from⟨by show ByteArray.size ⟨_⟩<=_; unfold maxLen; simp[ByteArray.size]; omega,by show ByteArray.size ⟨_⟩<=_; unfold maxLen; simp[ByteArray.size],gG⟩);have HCV:=ab (show aM (wo.heap.size<= ·) wd (.slice a6 ch.length c6) ch from aM.same HRB.out (fun k hk hS=>⟨by have:=HMQ.out.ge; show wo.heap.size<=k; omega,by rw[hwd]; exact Below.heap_setCell _ _ _ _ (by show k≠w3.heap.size; omega)⟩))
       clear m4 hwd ck4 fk4 HMB HMQ HRB;have d0:=HM8.out.cell 0;have d1:=HM8.out.cell 1;have d2:=HM8.out.cell 2;have d3:=HM8.out.cell 3;have d4:=HM8.out.cell 4;have d5:=HM8.out.cell 5;have d6:=HM8.out.cell 6;have d7:=HM8.out.cell 7;have d8:=HM8.out.cell 8;have d9:=HM8.out.cell 9;simp only[aN]at d0 d1 d2 d3 d4 d5 d6 d7 d8 d9;have HOC:=ab (HOWN.out.kept HM8.out.grown (.inr (by
        intro e;have:=(HOWN.out.lt _ e).1;have:=aQ.lt HRD1.out
        omega)))
       have hbz:w1.heap.size<=wd.heap.size:=Nat.le_trans HINV.out.grown.size HM8.out.grown.size;have HXI:=ab (show dY data s=some (⟨⟨nm.toArray⟩,kv,mv,tv,tw,⟨#[]⟩,ch,bi⟩,s7) by rw[HIP.out,Hkv.out,Hmv.out,Htv.out]; rfl);have hlen:l.length<4096:=by have:=HLK.out; omega
       go_wp2_with (at_builtin; go_must (refine aK Tryz.appItems rfl _ _ rfl w1.heap.size (.slice av l.length cv0) l.length cells rfl wd [.string ⟨nm.toArray⟩, .int .i64 kv, .int .i64 mv, .int .i64 tv, .int .i64 (tw), .string ⟨#[]⟩, .slice a6 ch.length c6, .string ⟨#[]⟩, .int .i64 0, .int .i64 0] _ rfl rfl (dV (it:=⟨⟨nm.toArray⟩,kv,mv,tv,tw,⟨#[]⟩,ch,bi⟩)) HOC.out (by omega) hbz ?_); intro v' we hown' hgrow' _ hpl; have HIE:=ab (HINV.out.added (it:=⟨⟨nm.toArray⟩,kv,mv,tv,tw,⟨#[]⟩,ch,bi⟩) HM8.out HCV.out HOK.out HROW.out HOWN.out hown' hgrow' hpl); obtain⟨ae,ce,rfl,-,-⟩:=aj hown'; clear hown' hgrow' hpl)
       go_roundw
       case rel=>exact⟨k+1,l++[⟨⟨nm.toArray⟩,kv,mv,tv,tw,⟨#[]⟩,ch,bi⟩],s7,by omega,by go_num,by simp[HLK.out],jV HIT.out HXI.out,HIE.out⟩
       case measure=>simp[intOf]; omega
    ·have e1:(kv == 1)=false:=by simp[hk1]
     by_cases hk2:kv=2
     ·have e2:(kv == 2)=true:=by simp[hk2]
      have HK2:=ab (show eY kd=2 from Hkv.out.symm.trans hk2);clear hk1 hk2;go_wp2_with fail;refine(ny rb dv data s5 _ HM6.out.rd).mono ?_;rintro e wa ⟨r,s6,hp,rfl,h1,h2,hrok⟩;have HP5:=ab hp;have HRO:=ab hrok;have HM7:=ab (HM6.out.call h1 h2);have c7:=HM7.out.cell 7;have c8:=HM7.out.cell 8;have c9:=HM7.out.cell 9;have f7:=HM7.out.free 7;have f8:=HM7.out.free 8
      have f9:=HM7.out.free 9;simp only[aN]at c7 c8 c9;unfold aX;clear hp h1 h2 hrok ck
      go_upto_region 23 with(fail)
      obtain⟨wb,hwb⟩: ∃wx:World,wx=((wa.setCell ⟨w3.heap.size,7,none⟩ (.string r.name)).setCell ⟨w3.heap.size,8,none⟩ (.int .i64 r.gen)).setCell ⟨w3.heap.size,9,none⟩ (.int .i64 r.size):=⟨_,rfl⟩;rw[<-hwb];have m4:=((HM7.out.set 7 (.string r.name)).set 8 (.int .i64 r.gen)).set 9 (.int .i64 r.size);rw[<-hwb]at m4;simp only[List.setIfInBounds_toArray,List.set_cons_succ,List.set_cons_zero]at m4
      have HM8:=ab m4;have HIP:=ab (HH.out.trans (zU HK2.out HP5.out));have HOK:=ab (show cB ⟨⟨nm.toArray⟩,kv,mv,tv,0,⟨#[]⟩,[],r⟩from⟨by show ByteArray.size ⟨_⟩<=_; unfold maxLen; simp[ByteArray.size]; omega,by show ByteArray.size ⟨_⟩<=_; unfold maxLen; simp[ByteArray.size],HRO.out⟩);have HCV:=ab (show aM (wr.heap.size<= ·) wb (.slice none 0 0) []from aL.nil)
      clear m4 hwb c7 c8 c9 f7 f8 f9 HM7 HM6;have d0:=HM8.out.cell 0;have d1:=HM8.out.cell 1;have d2:=HM8.out.cell 2;have d3:=HM8.out.cell 3;have d4:=HM8.out.cell 4;have d5:=HM8.out.cell 5;have d6:=HM8.out.cell 6;have d7:=HM8.out.cell 7;have d8:=HM8.out.cell 8;have d9:=HM8.out.cell 9;simp only[aN]at d0 d1 d2 d3 d4 d5 d6 d7 d8 d9;have HOC:=ab (HOWN.out.kept HM8.out.grown (.inr (by
       intro e;have:=(HOWN.out.lt _ e).1;have:=aQ.lt HRD1.out
       omega)))
      have hbz:w1.heap.size<=wb.heap.size:=Nat.le_trans HINV.out.grown.size HM8.out.grown.size;have HXI:=ab (show dY data s=some (⟨⟨nm.toArray⟩,kv,mv,tv,0,⟨#[]⟩,[],r⟩,s6) by rw[HIP.out,Hkv.out,Hmv.out,Htv.out]; rfl);have hlen:l.length<4096:=by have:=HLK.out; omega
      go_wp2_with (at_builtin; go_must (refine aK Tryz.appItems rfl _ _ rfl w1.heap.size (.slice av l.length cv0) l.length cells rfl wb [.string ⟨nm.toArray⟩, .int .i64 kv, .int .i64 mv, .int .i64 tv, .int .i64 (0), .string ⟨#[]⟩, .slice none 0 0, .string r.name, .int .i64 r.gen, .int .i64 r.size] _ rfl rfl (dV (it:=⟨⟨nm.toArray⟩,kv,mv,tv,0,⟨#[]⟩,[],r⟩)) HOC.out (by omega) hbz ?_); intro v' we hown' hgrow' _ hpl; have HIE:=ab (HINV.out.added (it:=⟨⟨nm.toArray⟩,kv,mv,tv,0,⟨#[]⟩,[],r⟩) HM8.out HCV.out HOK.out HROW.out HOWN.out hown' hgrow' hpl); obtain⟨ae,ce,rfl,-,-⟩:=aj hown'; clear hown' hgrow' hpl)
      go_roundw
      case rel=>exact⟨k+1,l++[⟨⟨nm.toArray⟩,kv,mv,tv,0,⟨#[]⟩,[],r⟩],s6,by omega,by go_num,by simp[HLK.out],jV HIT.out HXI.out,HIE.out⟩
      case measure=>simp[intOf]; omega
     ·have e2:(kv == 2)=false:=by simp[hk2]
      by_cases hk3:kv=3
      ·have e3:(kv == 3)=true:=by simp[hk3]
       have HK3:=ab (show eY kd=3 from Hkv.out.symm.trans hk3);clear hk1 hk2 hk3;go_wp2_with fail;refine(DG rb dv data s5 512 _ HM6.out.rd (by omega)).mono ?_;rintro e wa ⟨lk,s6,hp,rfl,h1,h2⟩;have HP5:=ab hp;have hlks:lk.length<=512:=by have:=tS data 512 s5; rw[hp]at this; exact this
       have HM7:=ab (HM6.out.call h1 h2);have c7:=HM7.out.cell 5;have f7:=HM7.out.free 5;simp only[aN]at c7;clear hp h1 h2 ck
       go_upto_region 23 with(fail)
       obtain⟨wb,hwb⟩: ∃wx:World,wx=wa.setCell ⟨w3.heap.size,5,none⟩ (.string ⟨lk.toArray⟩):=⟨_,rfl⟩;rw[<-hwb];have m4:=HM7.out.set 5 (.string ⟨lk.toArray⟩);rw[<-hwb]at m4;simp only[List.setIfInBounds_toArray,List.set_cons_succ,List.set_cons_zero]at m4;have HM8:=ab m4;have HIP:=ab (HH.out.trans (xp HK3.out HP5.out));have HOK:=ab (show cB ⟨⟨nm.toArray⟩,kv,mv,tv,0,⟨lk.toArray⟩,[],bi⟩from⟨by show ByteArray.size ⟨_⟩<=_; unfold maxLen; simp[ByteArray.size]; omega,by show ByteArray.size ⟨_⟩<=_; unfold maxLen; simp[ByteArray.size]; omega,gG⟩)
       have HCV:=ab (show aM (wr.heap.size<= ·) wb (.slice none 0 0) []from aL.nil);clear m4 hwb c7 f7 HM7 HM6;have d0:=HM8.out.cell 0;have d1:=HM8.out.cell 1;have d2:=HM8.out.cell 2;have d3:=HM8.out.cell 3;have d4:=HM8.out.cell 4;have d5:=HM8.out.cell 5;have d6:=HM8.out.cell 6;have d7:=HM8.out.cell 7;have d8:=HM8.out.cell 8;have d9:=HM8.out.cell 9;simp only[aN]at d0 d1 d2 d3 d4 d5 d6 d7 d8 d9
       have HOC:=ab (HOWN.out.kept HM8.out.grown (.inr (by
        intro e;have:=(HOWN.out.lt _ e).1;have:=aQ.lt HRD1.out
        omega)))
       have hbz:w1.heap.size<=wb.heap.size:=Nat.le_trans HINV.out.grown.size HM8.out.grown.size;have HXI:=ab (show dY data s=some (⟨⟨nm.toArray⟩,kv,mv,tv,0,⟨lk.toArray⟩,[],bi⟩,s6) by rw[HIP.out,Hkv.out,Hmv.out,Htv.out]; rfl);have hlen:l.length<4096:=by have:=HLK.out; omega
       go_wp2_with (at_builtin; go_must (refine aK Tryz.appItems rfl _ _ rfl w1.heap.size (.slice av l.length cv0) l.length cells rfl wb [.string ⟨nm.toArray⟩, .int .i64 kv, .int .i64 mv, .int .i64 tv, .int .i64 (0), .string ⟨lk.toArray⟩, .slice none 0 0, .string ⟨#[]⟩, .int .i64 0, .int .i64 0] _ rfl rfl (dV (it:=⟨⟨nm.toArray⟩,kv,mv,tv,0,⟨lk.toArray⟩,[],bi⟩)) HOC.out (by omega) hbz ?_); intro v' we hown' hgrow' _ hpl; have HIE:=ab (HINV.out.added (it:=⟨⟨nm.toArray⟩,kv,mv,tv,0,⟨lk.toArray⟩,[],bi⟩) HM8.out HCV.out HOK.out HROW.out HOWN.out hown' hgrow' hpl); obtain⟨ae,ce,rfl,-,-⟩:=aj hown'; clear hown' hgrow' hpl)
       go_roundw
       case rel=>exact⟨k+1,l++[⟨⟨nm.toArray⟩,kv,mv,tv,0,⟨lk.toArray⟩,[],bi⟩],s6,by omega,by go_num,by simp[HLK.out],jV HIT.out HXI.out,HIE.out⟩
       case measure=>simp[intOf]; omega
      ·have e3:(kv == 3)=false:=by simp[hk3]
       have HIN:=ab (vd HBIG.out HCN.out (uY (uZ HIT.out (HH.out.trans (xq (fun e=>hk1 (Hkv.out.trans e)) (fun e=>hk2 (Hkv.out.trans e)) (fun e=>hk3 (Hkv.out.trans e))))) n (by omega)));clear hk1 hk2 hk3;go_wp2_with fail
       go_ret2
       have hfb:Below w.heap.size w w9:=HB1.out.trans ((bg.of_grown (S:=fun k=>k=rb) (ak HINV.out.grown HM6.out.grown) (fun k hk=>by cases hk; rfl)).below HB1.out.size (fun k hk=>by subst hk; exact hge));exact⟨hfb,by rw[HIN.out]; rfl⟩
   ·obtain rfl:k=n:=by omega
    have HIS:=ab (ve HBIG.out HCN.out HIT.out);have HIA:=ab (show ba (w.heap.size<= ·) wr (.slice av l.length cv0) l from by
     have hww:=HB1.out.size;refine⟨cells,(bq HOWN.out).weak (fun k hk=>by have:=hk.1; omega),HROW.out.mono (fun c x _ hx=>hx.same (fun k hk hS=>⟨by have:=hS.1; omega,rfl⟩))⟩)
    have HFB:=ab (show Below w.heap.size w wr from HB1.out.trans ((bg.of_grown (S:=fun k=>k=rb) HINV.out.grown (fun k hk=>by cases hk; rfl)).below HB1.out.size (fun k hk=>by subst hk; exact hge)));go_wp2_with fail;refine(EF rb dv data s _ HRD.out).mono ?_;rintro e we ⟨rfl,nd,rfl⟩;obtain⟨ev,hev⟩: ∃ev:Int,ev=fh data s:=⟨_,rfl⟩;rw[<-hev];have HEV:=ab hev;clear hev
    by_cases h0:ev=0
    ·subst h0;have HIA2:=ab (show ba (w.heap.size<= ·) (wr.drewN nd) (.slice av l.length cv0) l from ba.below HIA.out (bp (Below.refl _ _) nd));have HE2:=ab (HE.out.below (bp HFB.out nd))
     cases hvn2:cd l
     ·have HIN:=ab (show bE data=none by rw[HIS.out,hvn2]; simp);have HVN:=ab hvn2;clear hvn2;go_wp2_with fail;refine(gm _ l _ false _ HIA2.out HE2.out HVN.out).mono ?_;rintro e wf ⟨rfl,hbf⟩;have HBF:=ab (ag (bp HFB.out nd) hbf);clear hbf;go_wp2_with fail
      go_ret2
      exact⟨HBF.out,by rw[HIN.out]; rfl⟩
     ·have HIN:=ab (show bE data=some l by rw[HIS.out,hvn2]; simp[HEV.out.symm]);have HVN:=ab hvn2;clear hvn2;go_wp2_with fail;refine(gm _ l _ true _ HIA2.out HE2.out HVN.out).mono ?_;rintro e wf ⟨rfl,hbf⟩;have HBF:=ab (ag (bp HFB.out nd) hbf);have HIF:=ab (ba.below HIA2.out hbf);clear hbf;go_wp2_with fail
      go_ret2
      exact⟨HBF.out,by rw[HIN.out]; exact⟨_,rfl,HIF.out⟩⟩
    ·have HIN:=ab (show bE data=none by rw[HIS.out,if_neg (fun h=>h0 (HEV.out.trans h.1))]);have e6:(ev != 0)=true:=by simp[h0]
     clear h0;go_wp2_with fail
     go_ret2
     exact⟨bp HFB.out nd,by rw[HIN.out]; rfl⟩
end Go.Proofs.YtpffpjbkbaleiaaGreatDoor
