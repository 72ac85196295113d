/- Texts of this proof, one after the other: MarkB, MarkC, Rng, RngP, EndA, MapS, Glob, OrdP, RefP, RejP, TreeP, TreeQ, TreeR, Ent, TreeM, FtA, FtB, EndB, SealB, RoundR, OwnE, EndC, BuildP, WrA, WrB. -/
import Derived.Test.YtpffpjbkbaleiaaGreatDoorCReturnsC
set_option maxRecDepth 100000
set_option maxHeartbeats 8000000
namespace Go.Proofs.YtpffpjbkbaleiaaGreatDoor
open Go Go.RowKit
structure rE (seed W : Nat) (d : List UInt8) (cs : List Value) : Prop where
 tab: ∀i,i<256->cs[i]? =some (.int .u64 ((ue seed i:Nat):Int))
 rng: ∀j,j<64-> ∃b,cs[256+j]? =some (aY b)
 win:cs[320]? =some (.int .i64 (W:Int))
 st: ∃s,s<64/\cs[321]? =some (.int .i64 (s:Int))/\ ∀j b,(od W d)[j]? =some b->cs[256+(s+j)%64]? =some (aY b)
 len:cs[322]? =some (.int .i64 ((min W d.length:Nat):Int))
 sum:cs[323]? =some (.int .u64 ((qc seed (od W d):Nat):Int))
theorem rE.lt {seed W:Nat} {d:List UInt8} {cs:List Value} (h:rE seed W d cs):323<cs.length:=(aN.1 h.sum).1
theorem Ig {x y:Nat} (hx:x<18446744073709551616) (hy:y<18446744073709551616):bits BinOp.xor IntKind.u64 (x:Int) (y:Int)=((x^^^y:Nat):Int):=u64_xor_nat x y hx hy
theorem eG {w:World} {b k:Nat} {cs:List Value} {ty:TypeId} (h:w.heap[b]? =some (.cells cs.toArray ty (0,0))):w.cell? ⟨b,k,none⟩=cs[k]? :=by rw[bu w _ _ _ _ _ h,ak]
theorem mw {w:World} {b k:Nat} {cs:List Value} {ty:TypeId} (h:w.heap[b]? =some (.cells cs.toArray ty (0,0))) (v:Value):(w.setCell ⟨b,k,none⟩ v).heap[b]? =some (.cells (cs.set k v).toArray ty (0,0)):=by
 rw[gN w _ _ _ _ _ h,ag]
theorem fD {w V:World} {rb:Nat} (h:w.grownBy V (some rb)) (k:Nat) (v:Value):w.grownBy (V.setCell ⟨rb,k,none⟩ v) (some rb):=h.trans (cJ _ _ _ _)
theorem rV {w V:World} {rb:Nat} (h:w.grownBy V (some rb)):w.grownBy V.drew (some rb):=h.trans ⟨rfl,rfl,rfl,au _,fun _ _ _=>rfl⟩
theorem ox {w V:World} {rb:Nat} (h:w.grownBy V (some rb)) (n:Nat):w.grownBy (V.drewN n) (some rb):=h.trans ⟨rfl,rfl,rfl,au _,fun _ _ _=>rfl⟩
theorem rE.push {seed W:Nat} {d:List UInt8} {cs cs2:List Value} (h:rE seed W d cs) {b:UInt8} {q:List UInt8} {s2 n2:Nat} (heq: ∀i,i<321->cs2[i]? =cs[i]?) (hs:cs2[321]? =some (.int .i64 (s2:Int))) (hs2:s2<64) (hl:323<cs2.length)
  (hsum:cs2[323]? =some (.int .u64 ((qc seed (od W (d++[b])):Nat):Int))) (hq:od W (d++[b])=q++[b]) (hqn:q.length=n2) (hn:n2<W) (hW:W<=64) (hring: ∀(j:Nat) (c:UInt8),q[j]? =some c->cs2[256+(s2+j)%64]? =some (aY c)):
  rE seed W (d++[b]) ((cs2.set (256+(s2+n2)%64) (aY b)).set 322 (.int .i64 ((n2+1:Nat):Int))) where
 tab i hi:=by rw[aC (by omega),aC (by omega),heq i (by omega)]; exact h.tab i hi
 rng j hj:=by
  rw[aC (by omega)]
  by_cases e:(s2+n2)%64=j
  ·rw[e,cZ (by omega)]; exact⟨b,rfl⟩
  ·rw[aC (by omega),heq _ (by omega)]; exact h.rng j hj
 win:=by rw[aC (by omega),aC (by omega),heq _ (by omega)]; exact h.win
 st:=by
  refine⟨s2,hs2,by rw[aC (by omega),aC (by omega)]; exact hs,fun j c hc=> ?_⟩;rw[hq]at hc;rw[aC (by omega)]
  rcases Nat.lt_trichotomy j n2 with hj | hj | hj
  ·rw[bO (by omega)]at hc;rw[aC (by omega)];exact hring j c hc
  ·subst hj;rw[bI (by omega),hqn,eM,aj]at hc
   cases hc
   rw[cZ (by omega)]
  ·rw[dE (by simp; omega)]at hc; cases hc
 len:=by
  rw[cZ (by simpa using by omega)];have:=oe W (d++[b]);rw[hq]at this;simp only[ar,aG,bo]at this ⊢;rw[<-this,hqn]
 sum:=by rw[aC (by omega),aC (by omega)]; exact hsum
theorem Mk (rb:Nat) (ty:TypeId) (seed W:Nat) (d:List UInt8) (b:UInt8) (cs:List Value) (w:World) (hb:w.heap[rb]? =some (.cells cs.toArray ty (0,0))) (hr:rE seed W d cs) (hW:1<=W) (hW2:W<=64):
  Calls Tryz.prog 200 #[.pointer (some ⟨rb,0,none⟩), .int .u8 (b.toNat:Int)] w fun e w'=>e= .returned (.tuple #[])/\(∃cs',w'.heap[rb]? =some (.cells cs'.toArray ty (0,0))/\rE seed W (d++[b]) cs'/\cs'.length=cs.length/\ ∀i,324<=i->cs'[i]? =cs[i]?)/\w.grownBy w' (some rb):=by
 have HB:=an hb;have HR:=an hr;clear hb hr;have hN:=b.toNat_lt;have Hn:(b.toNat:Int)<256:=by omega
 obtain⟨t,ht⟩: ∃t,t=ue seed b.toNat:=⟨_,rfl⟩;obtain⟨h,hh⟩: ∃h,h=qc seed (od W d):=⟨_,rfl⟩;have Hk:t<18446744073709551616:=by rw[ht]; exact rj _ _
 have h8:h<18446744073709551616:=by rw[hh]; exact wJ _ _
 have c323:w.cell? ⟨rb,323,none⟩=some (.int .u64 (h:Int)):=by rw[eG HB.o,HR.o.sum,hh]
 have ct:w.cell? ⟨rb,b.toNat,none⟩=some (.int .u64 (t:Int)):=by rw[eG HB.o,HR.o.tab _ hN,ht]
 have HT:=an (aD ht hh);clear ht hh
 go_enter Tryz.func200,Tryz.ntmps200
 go_wp2_with fail;refine ey (fun w'=>w'.cell? ⟨rb,323,none⟩=some (.int .u64 (h:Int))/\w'.cell? ⟨rb,b.toNat,none⟩=some (.int .u64 (t:Int))) (by kernel_rfl) (by kernel_rfl) ?_;simp only[bw,bz,aG,bo,Nat.reduceAdd,Nat.reduceSub];obtain⟨V,hV⟩: ∃V:World,V=w.drew:=⟨_,rfl⟩;rw[<-hV];have hL:=an (show V.heap[rb]? =some (.cells cs.toArray ty (0,0)) by rw[hV]; exact HB.o)
 have Hl:=an (show w.grownBy V (some rb) by rw[hV]; exact⟨rfl,rfl,rfl,au _,fun _ _ _=>rfl⟩);clear c323 ct;have c323:V.cell? ⟨rb,323,none⟩=some (.int .u64 (h:Int)):=by rw[eG hL.o,HR.o.sum,HT.o.2]
 have ct:V.cell? ⟨rb,b.toNat,none⟩=some (.int .u64 (t:Int)):=by rw[eG hL.o,HR.o.tab _ hN,HT.o.1]
 clear hV
 iterate 5 (refine cF rfl (by kernel_rfl) (fun _ _ _ h=>h) rfl ⟨c323,ct⟩ (by rintro w' ⟨hk,hm⟩; go_simp; rfl) ?_; simp only[Act.put,ag,ai,ah])
 refine bJ 6 rfl (by kernel_rfl) (by kernel_rfl) (by kernel_rfl) (fun _ _ _ h=>h) rfl ⟨c323,ct⟩ (by rintro w' ⟨hk,hm⟩; go_simp; rfl) ?_;simp only[Act.put,ag,ai,ah];refine bJ 7 rfl (by kernel_rfl) (by kernel_rfl) (by kernel_rfl) (fun _ _ _ h=>h) rfl ⟨c323,ct⟩ (by rintro w' ⟨hk,hm⟩; go_simp; rfl) ?_;simp only[Act.put,ag,ai,ah]
 refine bJ 8 rfl (by kernel_rfl) (by kernel_rfl) (by kernel_rfl) (fun _ _ _ h=>h) rfl ⟨c323,ct⟩ (by rintro w' ⟨hk,hm⟩; go_simp; rfl) ?_;simp only[Act.put,ag,ai,ah];refine bJ 9 rfl (by kernel_rfl) (by kernel_rfl) (by kernel_rfl) (fun _ _ _ h=>h) rfl ⟨c323,ct⟩ (by rintro w' ⟨hk,hm⟩; go_simp; rfl) ?_;simp only[Act.put,ag,ai,ah]
 refine bJ 10 rfl (by kernel_rfl) (by kernel_rfl) (by kernel_rfl) (fun _ _ _ h=>h) rfl ⟨c323,ct⟩ (by rintro w' ⟨hk,hm⟩; go_simp; rfl) ?_;simp only[Act.put,ag,ai,ah];refine bJ 11 rfl (by kernel_rfl) (by kernel_rfl) (by kernel_rfl) (fun _ _ _ h=>h) rfl ⟨c323,ct⟩ (by rintro w' ⟨hk,hm⟩; go_simp; rfl) ?_;simp only[Act.put,ag,ai,ah]
 refine cy 5 rfl (fun K hK=> ?_);go_wp2_with fail;refine(Aa h 1 V h8 (by decide)).mono ?_;rintro e w1 ⟨rfl,rfl⟩;go_wp2_with fail;refine⟨⟨c323,ct⟩, ?_⟩
 iterate 3 (refine cF rfl (by kernel_rfl) (fun _ _ _ h=>h) rfl ⟨c323,ct⟩ (by rintro w' ⟨hk,hm⟩; go_simp; rfl) ?_; simp only[Act.put,ag,ai,ah])
 rw[Ig (pq 1 h8) Hk];obtain⟨h1,hO⟩: ∃h1,h1=jX h 1^^^t:=⟨_,rfl⟩;rw[<-hO];have hE:h1<18446744073709551616:=by rw[hO]; exact qT (pq 1 h8) Hk
 have Hf:=an hO;clear hO;have cf:V.frozen? ⟨rb,323,none⟩=false:=dH V _ _ _ _ hL.o;refine cH (by kernel_rfl) ?_;refine eJ rfl rfl (fun K hK=> ?_);go_wp2_with fail;obtain⟨U,hU⟩: ∃U:World,U=V.setCell ⟨rb,323,none⟩ (.int .u64 (h1:Int)):=⟨_,rfl⟩;rw[<-hU];obtain⟨cs1,h7⟩: ∃cs1,cs1=cs.set 323 (.int .u64 (h1:Int)):=⟨_,rfl⟩;have hy:=an (show U.heap[rb]? =some (.cells cs1.toArray ty (0,0)) by rw[hU,h7]; exact mw hL.o _)
 have He:=an (show w.grownBy U (some rb) by rw[hU]; exact fD Hl.o _ _);have ha:=an h7;clear hU c323 ct cf h7;obtain⟨n,hn⟩: ∃n,n=min W d.length:=⟨_,rfl⟩;obtain⟨s,hs,Hd,Hj⟩:=HR.o.st;have hl:=HR.o.lt;have c322:U.cell? ⟨rb,322,none⟩=some (.int .i64 (n:Int)):=by rw[eG hy.o,ha.o,aC (by decide),HR.o.len,hn]
 have c320:U.cell? ⟨rb,320,none⟩=some (.int .i64 (W:Int)):=by rw[eG hy.o,ha.o,aC (by decide),HR.o.win]
 have c321:U.cell? ⟨rb,321,none⟩=some (.int .i64 (s:Int)):=by rw[eG hy.o,ha.o,aC (by decide),Hd]
 have Hg:=an (show cs[322]? =some (.int .i64 (n:Int)) by rw[HR.o.len,hn]);have HN:=an hn;have Hh:=an Hd;clear hn Hd;have h0:=an Hj;clear Hj
 go_quiet (fail)
 have hz:=an (show(U.drewN nq).heap[rb]? =some (.cells cs1.toArray ty (0,0))from hy.o);have hA:=an (show w.grownBy (U.drewN nq) (some rb)from ox He.o _);clear hy He c322 c320 c321
 generalize U.drewN nq=U1 at *
 by_cases hf:n=W
 ·obtain⟨x,l,hR⟩: ∃x l,od W d=x::l:=by
   cases hw:od W d with
   | nil=>have:=oe W d; rw[hw,<-HN.o,hf]at this; simp at this; omega
   | cons x l=>exact⟨x,l,rfl⟩
  have Hq:l.length+1=W:=by have:=oe W d; rw[hR,<-HN.o,hf]at this; simpa using this
  have hx:=h0.o 0 x (by rw[hR]; rfl);rw[de,eu hs]at hx;have Hu:=x.toNat_lt;have Hv:(x.toNat:Int)<256:=by omega
  have HA:(s:Int)<64:=by omega
  obtain⟨tx,hQ⟩: ∃tx,tx=ue seed x.toNat:=⟨_,rfl⟩;have hq:tx<18446744073709551616:=by rw[hQ]; exact rj _ _
  have cx:=HR.o.tab _ Hu;rw[<-hQ]at cx;have HX:=an (aD hR (aD hx (aD hQ cx)));clear hR hx hQ cx;subst hf;go_wp2_with fail;refine ey (fun w'=>w'.cell? ⟨rb,323,none⟩=some (.int .u64 (h1:Int))/\w'.cell? ⟨rb,321,none⟩=some (.int .i64 (s:Int))/\w'.cell? ⟨rb,256+s,none⟩=some (.int .u8 (x.toNat:Int))/\w'.cell? ⟨rb,x.toNat,none⟩=some (.int .u64 (tx:Int))/\w'.cell? ⟨rb,320,none⟩=some (.int .i64 (n:Int))) (by kernel_rfl) (by kernel_rfl) ?_
  simp only[bw,bz,aG,bo,Nat.reduceAdd,Nat.reduceSub];obtain⟨V2,hM⟩: ∃V2:World,V2=U1.drew:=⟨_,rfl⟩;rw[<-hM];have hd:=an (show V2.heap[rb]? =some (.cells cs1.toArray ty (0,0)) by rw[hM]; exact hz.o);have hS:=an (show w.grownBy V2 (some rb) by rw[hM]; exact rV hA.o);clear hM;have c323:V2.cell? ⟨rb,323,none⟩=some (.int .u64 (h1:Int)):=by rw[eG hd.o,ha.o,cZ (by omega)]
  have c320:V2.cell? ⟨rb,320,none⟩=some (.int .i64 (n:Int)):=by rw[eG hd.o,ha.o,aC (by decide),HR.o.win]
  have c321:V2.cell? ⟨rb,321,none⟩=some (.int .i64 (s:Int)):=by rw[eG hd.o,ha.o,aC (by decide),Hh.o]
  have cx1:V2.cell? ⟨rb,256+s,none⟩=some (.int .u8 (x.toNat:Int)):=by rw[eG hd.o,ha.o,aC (by omega),HX.o.2.1]; rfl
  have ct1:V2.cell? ⟨rb,x.toNat,none⟩=some (.int .u64 (tx:Int)):=by rw[eG hd.o,ha.o,aC (by omega),HX.o.2.2.2]
  iterate 22 (refine cF rfl (by kernel_rfl) (fun _ _ _ h=>h) rfl ⟨c323,c321,cx1,ct1,c320⟩ (by rintro w' ⟨hk,hm,Hr,Hs,Ht⟩; go_simp; rfl) ?_; simp only[Act.put,ag,ai,ah])
  refine cy 22 rfl (fun K hK=> ?_);go_wp2_with fail;refine(Aa tx n V2 hq hW2).mono ?_;rintro e w1 ⟨rfl,rfl⟩;go_wp2_with fail;refine⟨⟨c323,c321,cx1,ct1,c320⟩, ?_⟩
  iterate 3 (refine cF rfl (by kernel_rfl) (fun _ _ _ h=>h) rfl ⟨c323,c321,cx1,ct1,c320⟩ (by rintro w' ⟨hk,hm,Hr,Hs,Ht⟩; go_simp; rfl) ?_; simp only[Act.put,ag,ai,ah])
  rw[Ig hE (pq n hq)];obtain⟨h2,hP⟩: ∃h2,h2=h1^^^jX tx n:=⟨_,rfl⟩;rw[<-hP];have Ho:h2<18446744073709551616:=by rw[hP]; exact qT hE (pq n hq)
  have Hm:=an hP;have cf:V2.frozen? ⟨rb,323,none⟩=false:=dH V2 _ _ _ _ hd.o;have cf1:V2.frozen? ⟨rb,321,none⟩=false:=dH V2 _ _ _ _ hd.o;have cf2:V2.frozen? ⟨rb,322,none⟩=false:=dH V2 _ _ _ _ hd.o;have c322:V2.cell? ⟨rb,322,none⟩=some (.int .i64 (n:Int)):=by rw[eG hd.o,ha.o,aC (by decide),Hg.o]
  obtain⟨s2,hv⟩: ∃s2,s2=(s+1)%64:=⟨_,rfl⟩;obtain⟨n2,hu⟩: ∃n2,n2=n-1:=⟨_,rfl⟩;have Hy:IntKind.i64.wrap ((s:Int)+1)=((s+1:Nat):Int):=by rw[bF]; omega
  have Hz:((s:Int)+1)%64=(s2:Int):=by omega
  have Hx:IntKind.i64.wrap ((n:Int)-1)=(n2:Int):=by rw[bF]; omega
  have hg:s2<64:=by omega
  have hJ:n2<64:=by omega
  have hZ:=an hv;have hC:=an hu;clear hP hv hu;refine cH (by kernel_rfl) ?_;refine eJ rfl rfl (fun K hK=> ?_);go_wp2_with fail;obtain⟨X,hX⟩: ∃X:World,X=((V2.setCell ⟨rb,323,none⟩ (.int .u64 (h2:Int))).setCell ⟨rb,321,none⟩ (.int .i64 (s2:Int))).setCell ⟨rb,322,none⟩ (.int .i64 (n2:Int)):=⟨_,rfl⟩;rw[<-hX];have he:=an (show X.heap[rb]? =some (.cells (((cs1.set 323 (.int .u64 (h2:Int))).set 321 (.int .i64 (s2:Int))).set 322 (.int .i64 (n2:Int))).toArray ty (0,0)) by rw[hX]; exact mw (mw (mw hd.o _) _) _)
  have hT:=an (show w.grownBy X (some rb) by rw[hX]; exact fD (fD (fD hS.o _ _) _ _) _ _);have ho:=an (show(((cs1.set 323 (.int .u64 (h2:Int))).set 321 (.int .i64 (s2:Int))).set 322 (.int .i64 (n2:Int)))[321]? =some (.int .i64 (s2:Int))/\(((cs1.set 323 (.int .u64 (h2:Int))).set 321 (.int .i64 (s2:Int))).set 322 (.int .i64 (n2:Int)))[322]? =some (.int .i64 (n2:Int))from⟨by rw[aC (by decide),cZ (by rw[ha.o]; simp; omega)],by rw[cZ (by rw[ha.o]; simp; omega)]⟩)
  have hY:=an (show ∀j,j<64-> ∃c,(((cs1.set 323 (.int .u64 (h2:Int))).set 321 (.int .i64 (s2:Int))).set 322 (.int .i64 (n2:Int)))[256+j]? =some (aY c)from fun j hj=>by
   rw[aC (by omega),aC (by omega),aC (by omega),ha.o,aC (by omega)];exact HR.o.rng j hj)
  clear hX c323 c320 c321 cx1 ct1 cf cf1 cf2 c322;have h4:=hN;obtain⟨j2,hF⟩: ∃j2,j2=(s2+n2)%64:=⟨_,rfl⟩;have hp:j2<64:=by omega
  have hG:(j2:Int)<64:=by omega
  have h3:IntKind.i64.wrap ((s2:Int)+(n2:Int))=(s2:Int)+(n2:Int):=by rw[bF]; omega
  have Ha:((s2:Int)+(n2:Int))%64=(j2:Int):=by omega
  have hH:Int.tmod ((s2:Int)+(n2:Int)) 64=(j2:Int):=by rw[Int.tmod_eq_emod_of_nonneg (by omega)]; omega
  have hI:IntKind.i64.wrap (j2:Int)=(j2:Int):=by rw[bF]; omega
  have h9:IntKind.i64.wrap ((n2:Int)+1)=((n2+1:Nat):Int):=by rw[bF]; omega
  have c321:X.cell? ⟨rb,321,none⟩=some (.int .i64 (s2:Int)):=by rw[eG he.o,ho.o.1]
  have c322:X.cell? ⟨rb,322,none⟩=some (.int .i64 (n2:Int)):=by rw[eG he.o,ho.o.2]
  have cf1:X.frozen? ⟨rb,256+j2,none⟩=false:=dH X _ _ _ _ he.o;have cf2:X.frozen? ⟨rb,322,none⟩=false:=dH X _ _ _ _ he.o;obtain⟨bj,hD⟩:=hY.o j2 hp;have cbj:X.cell? ⟨rb,256+j2,none⟩=some (aY bj):=by rw[eG he.o,hD]
  clear hD;have Hb: ¬(256+j2=322):=by omega
  have Hc: ¬(322=256+j2):=by omega
  have hB:=an hF;clear hF;refine bP [some 15,none] (by kernel_rfl) (by kernel_rfl) (by kernel_rfl) ?_;simp only[dQ,aV,aZ,bB,bT]
  repeat (first | (refine cB rfl ?_; simp only[Act.put,ag,ai,ah]) | (refine cR rfl (fun K hK=> ?_); go_simp; refine hK _ ?_; clear hK K))
  refine cQ ?_;refine ei rfl (fun K hK=> ?_);go_wp2_with fail
  go_end0
  refine⟨rfl,⟨_,mw (mw (show X.drew.heap[rb]? =_ from he.o) _) _, ?_, ?_, ?_⟩,fD (fD (rV hT.o) _ _) _ _⟩
  ·rw[hB.o];have Hp:=(oe n d).symm;refine HR.o.push (b:=b) (q:=l) (s2:=s2) (n2:=n2) ?_ ?_ hg ?_ ?_ ?_ ?_ ?_ hW2 ?_
   ·intro i hi;rw[aC (by omega),aC (by omega),aC (by omega),ha.o,aC (by omega)]
   ·exact ho.o.1
   ·rw[ha.o]; simp; omega
   ·rw[aC (by omega),aC (by omega),cZ (by rw[ha.o]; simp; omega),Hm.o,Hf.o,HT.o.1,HT.o.2,HX.o.2.2.1,As hW (by have:=HN.o; omega),HX.o.1];have:=ED (rj seed) x b l (by omega);rw[Hq]at this;unfold qc;rw[this]
    rfl
   ·rw[As hW (by have:=HN.o; omega),HX.o.1]; rfl
   ·have:=hC.o; omega
   ·have:=hC.o; omega
   ·intro j c hc;have Hw:=(aN.1 hc).1;rw[aC (by omega),aC (by omega),aC (by omega),ha.o,aC (by omega)];have:=h0.o (j+1) c (by rw[HX.o.1]; exact hc);rw[show(s2+j)%64=(s+(j+1))%64 by have:=hZ.o; omega];exact this
  ·rw[ha.o]; simp
  ·intro i hi;have:=hB.o;rw[aC (by omega),aC (by omega),aC (by omega),aC (by omega),aC (by omega),ha.o,aC (by omega)]
 ·go_wp2_with fail;obtain⟨X,hX⟩: ∃X:World,X=U1:=⟨_,rfl⟩;rw[<-hX];obtain⟨s2,hv⟩: ∃s2,s2=s:=⟨_,rfl⟩;obtain⟨n2,hu⟩: ∃n2,n2=n:=⟨_,rfl⟩;have he:=an (show X.heap[rb]? =some (.cells cs1.toArray ty (0,0)) by rw[hX]; exact hz.o);have hT:=an (show w.grownBy X (some rb) by rw[hX]; exact hA.o);have ho:=an (show cs1[321]? =some (.int .i64 (s2:Int))/\cs1[322]? =some (.int .i64 (n2:Int))from⟨by rw[ha.o,aC (by decide),Hh.o,hv],by rw[ha.o,aC (by decide),Hg.o,hu]⟩)
  have hY:=an (show ∀j,j<64-> ∃c,cs1[256+j]? =some (aY c)from fun j hj=>by
   rw[ha.o,aC (by omega)];exact HR.o.rng j hj)
  have hg:s2<64:=by omega
  have hJ:n2<64:=by have:=HN.o; omega
  have hZ:=an hv;have hC:=an hu;clear hX hv hu;have h4:=hN;obtain⟨j2,hF⟩: ∃j2,j2=(s2+n2)%64:=⟨_,rfl⟩;have hp:j2<64:=by omega
  have hG:(j2:Int)<64:=by omega
  have h3:IntKind.i64.wrap ((s2:Int)+(n2:Int))=(s2:Int)+(n2:Int):=by rw[bF]; omega
  have Ha:((s2:Int)+(n2:Int))%64=(j2:Int):=by omega
  have hH:Int.tmod ((s2:Int)+(n2:Int)) 64=(j2:Int):=by rw[Int.tmod_eq_emod_of_nonneg (by omega)]; omega
  have hI:IntKind.i64.wrap (j2:Int)=(j2:Int):=by rw[bF]; omega
  have h9:IntKind.i64.wrap ((n2:Int)+1)=((n2+1:Nat):Int):=by rw[bF]; omega
  have c321:X.cell? ⟨rb,321,none⟩=some (.int .i64 (s2:Int)):=by rw[eG he.o,ho.o.1]
  have c322:X.cell? ⟨rb,322,none⟩=some (.int .i64 (n2:Int)):=by rw[eG he.o,ho.o.2]
  have cf1:X.frozen? ⟨rb,256+j2,none⟩=false:=dH X _ _ _ _ he.o;have cf2:X.frozen? ⟨rb,322,none⟩=false:=dH X _ _ _ _ he.o;obtain⟨bj,hD⟩:=hY.o j2 hp;have cbj:X.cell? ⟨rb,256+j2,none⟩=some (aY bj):=by rw[eG he.o,hD]
  clear hD;have Hb: ¬(256+j2=322):=by omega
  have Hc: ¬(322=256+j2):=by omega
  have hB:=an hF;clear hF;refine bP [some 15,none] (by kernel_rfl) (by kernel_rfl) (by kernel_rfl) ?_;simp only[dQ,aV,aZ,bB,bT]
  repeat (first | (refine cB rfl ?_; simp only[Act.put,ag,ai,ah]) | (refine cR rfl (fun K hK=> ?_); go_simp; refine hK _ ?_; clear hK K))
  refine cQ ?_;refine ei rfl (fun K hK=> ?_);go_wp2_with fail
  go_end0
  have Hi:d.length<W:=by have:=HN.o; omega
  refine⟨rfl,⟨_,mw (mw (show X.drew.heap[rb]? =_ from he.o) _) _, ?_, ?_, ?_⟩,fD (fD (rV hT.o) _ _) _ _⟩
  ·rw[hB.o];refine HR.o.push (b:=b) (q:=od W d) (s2:=s2) (n2:=n2) ?_ ?_ hg ?_ ?_ (Ar Hi b) ?_ ?_ hW2 ?_
   ·intro i hi;rw[ha.o,aC (by omega)]
   ·exact ho.o.1
   ·rw[ha.o]; simp; omega
   ·rw[ha.o,cZ (by omega),Hf.o,HT.o.1,HT.o.2,Ar Hi];unfold qc;rw[nQ]
   ·rw[oe,<-HN.o,hC.o]
   ·have:=hC.o; have:=HN.o; omega
   ·intro j c hc;rw[ha.o,aC (by omega),hZ.o];exact h0.o j c hc
  ·rw[ha.o]; simp
  ·intro i hi;have:=hB.o;rw[aC (by omega),aC (by omega),ha.o,aC (by omega)]
structure BC (w : World) : Prop where
 tab:TabAt 6 Lib.deBruijn64tab w
 lt:6<w.heap.size
theorem BC.block {w w':World} (h:BC w) (hb:w'.heap[6]? =w.heap[6]?) (hs:w.heap.size<=w'.heap.size):BC w':=
 ⟨fun j hj=>by rw[<-h.tab j hj]; exact cA hb,aR h.lt hs⟩
theorem BC.below {w0 w w':World} (h:BC w) (hb:Below w0.heap.size w w') (hlt:6<w0.heap.size):BC w':=h.block (hb.block _ hlt) hb.size
theorem BC.grown {w w':World} {r:Option Nat} (h:BC w) (hg:w.grownBy w' r) (hr:r≠some 6):BC w':=h.block (hg.block _ h.lt (fun e=>hr e.symm)) hg.size
theorem qK (rb n:Nat) (w:World) (h:w.cell? ⟨rb,322,none⟩=some (.int .i64 (n:Int))):Calls Tryz.prog 201 #[.pointer (some ⟨rb,0,none⟩)] w fun e w'=>e= .returned (.int .i64 (n:Int))/\w=w':=by
 go_enter Tryz.func201,Tryz.ntmps201
 go_wp2_with fail;go_ret;exact⟨rfl,rfl⟩
theorem qL (rb n:Nat) (w:World) (h:w.cell? ⟨rb,323,none⟩=some (.int .u64 (n:Int))):Calls Tryz.prog 203 #[.pointer (some ⟨rb,0,none⟩)] w fun e w'=>e= .returned (.int .u64 (n:Int))/\w=w':=by
 go_enter Tryz.func203,Tryz.ntmps203
 go_wp2_with fail;go_ret;exact⟨rfl,rfl⟩
theorem Kw (x:Nat) (w:World) (hx:x<18446744073709551616) (hT:BC w):Calls Tryz.prog 202 #[.int .u64 (x:Int)] w fun e w'=>e= .returned (.int .i64 ((Lib.ctz 64 x:Nat):Int))/\w=w':=by
 go_enter Tryz.func202,Tryz.ntmps202
 go_wp2_with fail;refine(Tryz.bits_TrailingZeros64 x hx w (fun _=>hT.tab)).mono ?_;rintro e w' ⟨rfl,rfl⟩;go_wp2_with fail;go_ret;exact⟨rfl,rfl⟩
def qf (c:fL) (data:List UInt8) (p:Nat):Bool:=GE c.seed c.win.toNat c.bits.toNat (data.take p)
structure ux (c : fL) (data : List UInt8) (p : Nat) (cs : List Value) : Prop where
 roll:rE c.seed c.win.toNat (data.take p) cs
 len:cs.length=331
 cut: ∀i,i<5->cs[324+i]? =(fR c)[i]?
 pos:cs[329]? =some (.int .i64 (p:Int))
 last:cs[330]? =some (.int .i64 (qe (qf c data) c.mn.toNat p))
theorem CO (mk:Nat->Bool) (mn p:Nat): -(mn:Int)<=qe mk mn p/\qe mk mn p<=(p:Int):=by
 rcases rY (mk:=mk) (mn:=mn) p with⟨h,_⟩ | ⟨L,h,h1,h2,_⟩<;> rw[h]<;> omega
theorem MC (c:fL) (data:List UInt8) (p:Nat) (b:UInt8) (mb:Nat) (ty:TypeId) (cs:List Value) (w:World) (hc:jJ c=true) (hb:data[p]? =some b) (hp:data.length<=1048576) (hbox:w.heap[mb]? =some (.cells cs.toArray ty (0,0))) (hm:ux c data p cs) (hT:BC w) (hmb:mb≠6):
  Calls Tryz.prog 188 #[.pointer (some ⟨mb,0,none⟩), .int .u8 (b.toNat:Int)] w fun e w'=>e= .returned (.bool (kw (qf c data) c.mn.toNat (p+1)))/\(∃cs',w'.heap[mb]? =some (.cells cs'.toArray ty (0,0))/\ux c data (p+1) cs')/\w.grownBy w' (some mb):=by
 have hv:=lM.1 hc;have HV:=an hv;have HM:=an hm;have hR:=an hbox;have HT:=an hT;have Hg:=(aN.1 hb).1;have hQ:data.take (p+1)=data.take p++[b]:=by rw[bZ,hb]; rfl
 have hF:=an hQ;obtain⟨W,hW⟩: ∃W,W=c.win.toNat:=⟨_,rfl⟩;obtain⟨B,hB⟩: ∃B,B=c.bits.toNat:=⟨_,rfl⟩;obtain⟨mn,hO⟩: ∃mn,mn=c.mn.toNat:=⟨_,rfl⟩;have hH:c.win=(W:Int):=by omega
 have hG:c.bits=(B:Int):=by omega
 have hM:c.mn=(mn:Int):=by omega
 have h8:1<=W:=by omega
 have h9:W<=64:=by omega
 have HI:=an (aD hW (aD hB (aD hO (aD hH (aD hG hM)))));clear hc hm hbox hT hb hQ hv hW hB hO hH hG hM
 go_enter Tryz.func188,Tryz.ntmps188
 go_wp2_with fail;refine(Mk mb ty c.seed W (data.take p) b cs w hR.o (by have:=HM.o.roll; rw[<-HI.o.1]at this; exact this) h8 h9).mono ?_;rintro e w1 ⟨rfl,⟨cs1,hI,hP,hL,hJ⟩,hx⟩;have ho:=an hI;have hw:=an hP;have hf:=an hJ;have hr:=an (hL.trans HM.o.len);have hV:=an hx;have hY:=an (HT.o.grown hx (fun e=>hmb (bK e)));clear hI hP hJ hL hx
 have c329:w1.cell? ⟨mb,329,none⟩=some (.int .i64 (p:Int)):=by rw[eG ho.o,hf.o _ (by decide),HM.o.pos]
 have cf:w1.frozen? ⟨mb,329,none⟩=false:=dH w1 _ _ _ _ ho.o;have hy:IntKind.i64.wrap ((p:Int)+1)=((p+1:Nat):Int):=by rw[bF]; omega
 go_wp2_with fail;obtain⟨cs2,he⟩: ∃cs2,cs2=cs1.set 329 (.int .i64 (((p:Nat):Int)+1)):=⟨_,rfl⟩;obtain⟨U,hU⟩: ∃U:World,U=w1.setCell ⟨mb,329,none⟩ (.int .i64 (((p:Nat):Int)+1)):=⟨_,rfl⟩;rw[<-hU];have ha:=an (show U.heap[mb]? =some (.cells cs2.toArray ty (0,0)) by rw[hU,he]; exact mw ho.o _);have hq:=an (show w.grownBy U (some mb) by rw[hU]; exact fD hV.o _ _)
 have hZ:=an (show BC U by rw[hU]; exact hY.o.grown (cJ _ _ _ _) (fun e=>hmb (bK e)));have hd:=an he;have hs:=an (show cs2.length=331 by rw[he,List.length_set]; exact hr.o);clear hU he c329 cf hy;obtain⟨n,hn⟩: ∃n,n=min W (p+1):=⟨_,rfl⟩;obtain⟨h,hh⟩: ∃h,h=qc c.seed (od W (data.take (p+1))):=⟨_,rfl⟩;have Hb:h<18446744073709551616:=by rw[hh]; exact wJ _ _
 obtain⟨z,hz⟩: ∃z,z=Lib.ctz 64 h:=⟨_,rfl⟩;obtain⟨la,hl⟩: ∃la,la=qe (qf c data) mn p:=⟨_,rfl⟩;have Hf: -(mn:Int)<=la/\la<=(p:Int):=by rw[hl]; exact CO _ _ _
 have c322:U.cell? ⟨mb,322,none⟩=some (.int .i64 (n:Int)):=by
  rw[eG ha.o,hd.o,aC (by decide),hw.o.len,hn,ar,bm,aG,bo,fm (by omega:p<=data.length)]
 have c323:U.cell? ⟨mb,323,none⟩=some (.int .u64 (h:Int)):=by
  rw[eG ha.o,hd.o,aC (by decide),hw.o.sum,hh,hF.o]
 have c324:U.cell? ⟨mb,324,none⟩=some (.int .i64 (mn:Int)):=by
  rw[eG ha.o,hd.o,aC (by decide),hf.o _ (by decide),HM.o.cut 0 (by decide),<-HI.o.2.2.2.2.2]; rfl
 have c326:U.cell? ⟨mb,326,none⟩=some (.int .i64 (W:Int)):=by
  rw[eG ha.o,hd.o,aC (by decide),hf.o _ (by decide),HM.o.cut 2 (by decide),<-HI.o.2.2.2.1]; rfl
 have c327:U.cell? ⟨mb,327,none⟩=some (.int .i64 (B:Int)):=by
  rw[eG ha.o,hd.o,aC (by decide),hf.o _ (by decide),HM.o.cut 3 (by decide),<-HI.o.2.2.2.2.1]; rfl
 have c329:U.cell? ⟨mb,329,none⟩=some (.int .i64 ((p:Int)+1)):=by
  rw[eG ha.o,hd.o,cZ (by rw[hr.o]; decide)]
 have c330:U.cell? ⟨mb,330,none⟩=some (.int .i64 la):=by
  rw[eG ha.o,hd.o,aC (by decide),hf.o _ (by decide),HM.o.last,hl,HI.o.2.2.1]
 have hN:qf c data (p+1)=(decide (W<=n) && decide (B<=z)):=by
  unfold qf GE;rw[<-HI.o.1,<-HI.o.2.1,hz,hh]
  congr 1
  rw[jb,bm]; omega
 have hu:=an hN;have HH:=an (aD hn (aD hh (aD hz hl)));have hS:=an (show ∀n,BC (U.drewN n)from fun n=>hZ.o.block rfl (au _));clear hn hh hz hl hN;have HZ:=an (show ∀m,Calls Tryz.prog 202 #[.int .u64 (h:Int)] (U.drewN m) fun e w'=>e= .returned (.int .i64 (z:Int))/\U.drewN m=w' from fun m=>by rw[HH.o.2.2.1]; exact Kw h (U.drewN m) Hb (hS.o m))
 have hE:=an (show rE c.seed c.win.toNat (data.take (p+1)) cs2 by
  rw[<-HI.o.1,hF.o,hd.o];have h:=hw.o;refine⟨fun i hi=> ?_,fun j hj=> ?_, ?_, ?_, ?_, ?_⟩
  ·rw[aC (by omega)]; exact h.tab i hi
  ·rw[aC (by omega)]; exact h.rng j hj
  ·rw[aC (by omega)]; exact h.win
  ·obtain⟨s,h1,h2,h3⟩:=h.st;refine⟨s,h1,by rw[aC (by omega)]; exact h2,fun j b hb=>by rw[aC (by omega)]; exact h3 j b hb⟩
  ·rw[aC (by omega)]; exact h.len
  ·rw[aC (by omega)]; exact h.sum)
 have hA:=an (show ∀i,i<5->cs2[324+i]? =(fR c)[i]? from fun i hi=>by
  rw[hd.o,aC (by omega),hf.o _ (by omega)]; exact HM.o.cut i hi)
 have hD:=an (show cs2[329]? =some (.int .i64 ((p+1:Nat):Int)) by rw[hd.o,cZ (by rw[hr.o]; decide)]; rfl);have hX:=an (show cs2[330]? =some (.int .i64 la) by rw[hd.o,aC (by decide),hf.o _ (by decide),HM.o.last,HH.o.2.2.2,HI.o.2.2.1]);have hC:=an (show qf c data (p+1)=false->(kw (qf c data) c.mn.toNat (p+1)=false/\ux c data (p+1) cs2)from fun h0=>⟨by rw[kw,h0]; rfl,{
  roll:=hE.o
  len:=hs.o
  cut:=hA.o
  pos:=hD.o
  last:=by rw[qe,if_neg (by rw[h0]; decide),<-HI.o.2.2.1,<-HH.o.2.2.2]; exact hX.o}⟩)
 by_cases h1:n<W
 ·have h4:(n:Int)<(W:Int):=by omega
  go_quiet ((first | (go_at_call 201; refine kT (qK mb n _ c322)) | (go_at_call 203; refine kT (qL mb h _ c323)) | (go_at_call 202; refine kT (HZ.o _))))
  go_wp2_with fail;go_ret;have hg:=hC.o (by rw[hu.o,cD (by omega)]; rfl);exact⟨bY hg.1.symm,⟨cs2,ha.o,hg.2⟩,ox hq.o _⟩
 ·have h4:(W:Int)<=(n:Int):=by omega
  have Hd: ¬(n:Int)<(W:Int):=by omega
  by_cases h2:z<B
  ·have h7:(z:Int)<(B:Int):=by omega
   go_quiet ((first | (go_at_call 201; refine kT (qK mb n _ c322)) | (go_at_call 203; refine kT (qL mb h _ c323)) | (go_at_call 202; refine kT (HZ.o _))))
   go_wp2_with fail;go_ret;have hg:=hC.o (by rw[hu.o,cD (by omega: ¬B<=z),Bool.and_false]);exact⟨bY hg.1.symm,⟨cs2,ha.o,hg.2⟩,ox hq.o _⟩
  ·have h7:(B:Int)<=(z:Int):=by omega
   have He: ¬(z:Int)<(B:Int):=by omega
   go_quiet ((first | (go_at_call 201; refine kT (qK mb n _ c322)) | (go_at_call 203; refine kT (qL mb h _ c323)) | (go_at_call 202; refine kT (HZ.o _))))
   go_wp2_with fail;have cf:U.frozen? ⟨mb,330,none⟩=false:=dH U _ _ _ _ ha.o;have Hc:IntKind.i64.wrap ((p:Int)+1-la)=(p:Int)+1-la:=by have:=HV.o; have:=HI.o; rw[bF]; omega
   go_quiet (fail)
   go_wp2_with fail;go_ret;have hk:qf c data (p+1)=true:=by rw[hu.o,cO (by omega:W<=n),cO (by omega:B<=z)]; rfl
   refine⟨bY ?_,⟨cs2.set 330 (.int .i64 ((p:Int)+1)),mw (show(U.drewN _).heap[mb]? =_ from ha.o) _, ?_⟩,fD (ox hq.o _) _ _⟩
   ·rw[kw,hk,gP,<-HI.o.2.2.1,<-HH.o.2.2.2,jb]; simp
   ·have h:=hE.o;have Ha:=hA.o;refine⟨⟨fun i hi=> ?_,fun j hj=> ?_, ?_, ?_, ?_, ?_⟩,by rw[List.length_set]; exact hs.o,fun i hi=> ?_, ?_, ?_⟩
    ·rw[aC (by omega)]; exact h.tab i hi
    ·rw[aC (by omega)]; exact h.rng j hj
    ·rw[aC (by omega)]; exact h.win
    ·obtain⟨s,h1,h2,h3⟩:=h.st;refine⟨s,h1,by rw[aC (by omega)]; exact h2,fun j b hb=>by rw[aC (by omega)]; exact h3 j b hb⟩
    ·rw[aC (by omega)]; exact h.len
    ·rw[aC (by omega)]; exact h.sum
    ·rw[aC (by omega)]; exact Ha i hi
    ·rw[aC (by omega)]; exact hD.o
    ·rw[cZ (by rw[hs.o]; decide),qe,if_pos hk]; rfl
def Mw {α:Type} (Kp:World->World->Prop) (I:List α->World->Prop) (Ix:Code->List α->World->Prop) (xs:List α) (W:World):Exit->Act->World->Prop
 | .normal,_,B=>KeepsOthers W B/\Kp W B/\I xs B
 | .ret,_,B=>KeepsOthers W B/\Ix .ret xs B
 | .exit id,_,B=>KeepsOthers W B/\Ix (.exit id) xs B
 | .goto t,_,B=>KeepsOthers W B/\Ix (.goto t) xs B
 | .panic _,_,_=>False
 | .outgrown,_,_=>False
section
variable {P : Program} {α : Type}
theorem Eg {W W':World} (h:Below W.heap.size W W'):W.grownBy W' none:=⟨h.os,h.tape,h.output,h.size,fun k hk _=>h.block k hk⟩
theorem vU {W:World} {l:Nat} {r:Loop} (h:W.heap[l]? =some (.loop r)) (o:Obj):(W.putObj l o).heap[l]? =some o:=World.putObj_heap_same (aP.1 h).1
end
def Gc {σ:Type} (mt:TypeId) (n:Nat) (I:σ->World->Prop):Prop:=
 ∀s A B row,I s A->A.grownBy B row->(∀r,row=some r->n<=r/\ ∃cs,A.heap[r]? =some (.cells cs mt (0,0)))->I s B
def Pu {α:Type} (P:Program) (g:Nat) (lb:Array Value) (encs:α->Array Value) (D:List α->α->World->Prop) (Kp:World->World->Prop) (S Sp:List α->Prop) (N:Nat) (mt:TypeId) (w:World):Prop:=
 ∀(l:Nat) (J Jx:List α->World->Prop) (W:World),Below w.heap.size w W->Gc mt W.heap.size J->
  (∀pre x A,J pre A->D pre x A->pre.length<N->YieldAt Fence.wide 2 P l (encs x) A fun e B=>(e= .returned (.bool true)/\J (pre++[x]) B/\Kp A B)\/(e= .returned (.bool false)/\Jx (pre++[x]) B))->
  J [] W->
  CallsIn Fence.wide 3 P g (#[.func (.yield l) #[] #[]]++lb) W fun e B=>(∃v,e= .returned v)/\((∃xs,S xs/\J xs B)\/(∃pre,Sp pre/\Jx pre B))
section
variable {P : Program} {α : Type}
theorem Ku {g:Operand} {ps:Array Tmp} {assign body:Code} {Q:Exit->Act->World->Prop} {a:Act} {w:World} {gf:Nat} {lb:Array Value} (hg:a.eval g= .func (.func gf) #[] lb) (eg: ∀args w,(callFunc gf args).run P w= .ok (.enter gf args) w)
  {encs:α->Array Value} {D:List α->α->World->Prop} {Kp:World->World->Prop} {S Sp:List α->Prop} {N:Nat} {mt:TypeId} (hseq:Pu P gf lb encs D Kp S Sp N mt w)
  (hKt: ∀ {A B C:World},Kp A B->Kp B C->Kp A C) (hKb: ∀(W:World) (l:Nat) (o o':Obj),w.heap.size<=l->W.heap[l]? =some o->o.isCells=false->o.isWalk=false->Kp W (W.putObj l o')) (hps: ∀x,(encs x).size=ps.size)
  (I:List α->World->Prop) (Ix:Code->List α->World->Prop) (Ax:List α->α->Act->World->Prop) (hI:OwnFrom w.heap.size I) (hI2:Gc mt w.heap.size I) (hIx: ∀c,OwnFrom w.heap.size (Ix c))
  (hAx:OwnFrom w.heap.size (fun(s:List α×α×Act) W=>Ax s.1 s.2.1 s.2.2 W)) (h0:I [] w)
  (hassign: ∀(l:Nat) (pre:List α) (x:α) (W:World),w.heap.size<W.heap.size->I pre W->D pre x W->pre.length<N->assign.wpIn (Fence.wide.inRound l) 2 P (Exit.then (fun a₁ B=>KeepsOthers W B/\Kp W B/\Ax pre x a₁ B) (fun _ _ _=>False)) {tmps:=(ps.zip (encs x)).foldl (fun t (p,v)=>t.setIfInBounds p v) a.tmps,defers:=[]} W)
  (hbody: ∀(l:Nat) (pre:List α) (x:α) (a₁:Act) (W:World),Ax pre x a₁ W->body.wpIn (Fence.wide.inRound l) 2 P (Mw Kp I Ix (pre++[x]) W) a₁ W)
  (hdone: ∀(Dl:Nat) (xs:List α) (W:World),w.heap.size<=Dl->S xs->I xs W->W.heap[Dl]? =some (.deferred (some []))->Q .normal {a with defers:= {target:= .collected Dl,args:= #[]} ::a.defers} W)
  (hstop: ∀(Dl:Nat) (c:Code) (pre:List α) (W:World),w.heap.size<=Dl->Sp pre->Ix c pre W->W.heap[Dl]? =some (.deferred (some []))->c.wp P Q {a with defers:= {target:= .collected Dl,args:= #[]} ::a.defers} W):
  (Code.rangeFunc g ps assign body).wp P Q a w:=by
 refine(wpIn_wide (n:=4)).1 (wpIn_rangeFunc (fun fn hG=> ?_))
 show ∃l mark w₁ d w₁' f args w₂,_
 let rec_:LoopState->Option Code->Loop:=fun st pe=> {state:=st,pending:=pe,fn:=fn,tmps:=a.tmps,params:=ps,assign:=assign,body:=body,defers:=w.heap.size}
 obtain⟨rec,ha⟩: ∃r,r=rec_:=⟨_,rfl⟩;have hO: ∀st pe,(rec st pe).params=ps:=fun st pe=>by rw[ha]
 have hp: ∀st pe,(rec st pe).state=st:=fun st pe=>by rw[ha]
 have hu: ∀st pe,(rec st pe).pending=pe:=fun st pe=>by rw[ha]
 obtain⟨L,hL⟩: ∃L,L=w.heap.size+1:=⟨_,rfl⟩;obtain⟨V,hV⟩: ∃V,(w.alloc (.deferred (some []))).alloc (.loop (rec .ready none))=V:=⟨_,rfl⟩;have hA:V.heap[L]? =some (.loop (rec .ready none)):=by
  rw[<-hV,hL]; have:=World.alloc_heap_new (w.alloc (.deferred (some []))) (.loop (rec .ready none)); rwa [World.size_alloc]at this
 have hx:V.heap[w.heap.size]? =some (.deferred (some [])):=by
  rw[<-hV]; exact(cP _ _ _ (by simp)).trans (World.alloc_heap_new w _)
 have hz:I [] V:=by rw[<-hV]; exact hI.alloc _ (hI.alloc _ h0)
 have hv:Below w.heap.size w V:=by rw[<-hV]; exact((ay _ w).alloc (au _) _).alloc (by simp) _
 let J:List α->World->Prop:=fun pre W=>I pre W/\W.heap[L]? =some (.loop (rec .ready none))/\W.heap[w.heap.size]? =some (.deferred (some []))
 let Jx:List α->World->Prop:=fun pre W=> ∃c,Ix c pre W/\W.heap[L]? =some (.loop (rec .done (some c)))/\W.heap[w.heap.size]? =some (.deferred (some []))
 have hP:w.heap.size+2<=V.heap.size:=by rw[<-hV]; simp
 have hJ:Gc mt V.heap.size J:=by
  rintro s A B row ⟨h1,h2,h3⟩ hg hr;have hs: ∀(k:Nat) (o:Obj),A.heap[k]? =some o->o.isCells=false->row≠some k:=fun k o hk hw e=>by
   obtain⟨_,cs,ho⟩:=hr k e;rw[hk]at ho; cases ho; cases hw
  refine⟨hI2 s A B row h1 hg (fun r e=> ?_), ?_, ?_⟩
  ·obtain⟨h4,cs,ho⟩:=hr r e;exact⟨by omega,cs,ho⟩
  ·exact(hg.block _ (aP.1 h2).1 (fun e=>hs _ _ h2 rfl e.symm)).trans h2
  ·exact(hg.block _ (aP.1 h3).1 (fun e=>hs _ _ h3 rfl e.symm)).trans h3
 have hc: ∀(jump:Option Code) (W B:World),W.heap[L]? =some (.loop (rec .busy none))->W.heap[w.heap.size]? =some (.deferred (some []))->KeepsOthers W B->
   (Instr.endRound L jump).run P B= .ok (.bool jump.isNone) (B.putObj L (.loop (rec (if jump.isNone then .ready else .done) jump)))/\B.heap[L]? =some (.loop (rec .busy none))/\
   (B.putObj L (.loop (rec (if jump.isNone then .ready else .done) jump))).heap[L]? =some (.loop (rec (if jump.isNone then .ready else .done) jump))/\
   (B.putObj L (.loop (rec (if jump.isNone then .ready else .done) jump))).heap[w.heap.size]? =some (.deferred (some [])):=by
  intro jump W B h1 h2 hk;have hb:=hk.same _ _ h1 rfl;have hd:=hk.same _ _ h2 rfl;have:=run_endRound (P:=P) jump hb;refine⟨?_,hb,vU hb _,(gS (by omega)).trans hd⟩;rw[this,ha]
 have he: ∀pre x A,J pre A->D pre x A->pre.length<N->YieldAt Fence.wide 2 P L (encs x) A fun e B=>(e= .returned (.bool true)/\J (pre++[x]) B/\Kp A B)\/(e= .returned (.bool false)/\Jx (pre++[x]) B):=by
  rintro pre x A ⟨hi,hl,hk⟩ hd hN;have hQ:L<A.heap.size:=(aP.1 hl).1;have hy:=run_yield (P:=P) (args:=encs x) hl (by rw[hO]; exact hps x);refine⟨_,_,_,_,hy, ?_⟩;rw[ha];refine roundIn_of_wpIn hG (wpIn_mono (hassign L pre x A (by omega) hi hd hN) ?_);rintro e a₁ B hB
  cases e with
  | normal=>
   obtain⟨hq,hM,hD⟩:=hB;have hh:=hq.same _ _ hl rfl;have hH:=hq.same _ _ hk rfl;have hE:=run_beginRound (P:=P) hh (hp _ _);refine⟨_,hE, ?_⟩;have hF:({rec .ready none with state:= .busy} :Loop)=rec .busy none:=by rw[ha]
   rw[hF];have hj:=vU hh (.loop (rec .busy none));have hf:(B.putObj L (.loop (rec .busy none))).heap[w.heap.size]? =some (.deferred (some [])):=(gS (by omega)).trans hH;have hm:Ax pre x a₁ (B.putObj L (.loop (rec .busy none))):=hAx.putObj (s:=(pre,x,a₁)) _ hD (by omega) hh rfl;have hn:Kp A (B.putObj L (.loop (rec .busy none))):=hKt hM (hKb _ _ _ _ (by omega) hh rfl rfl)
   refine wpIn_mono (hbody L pre x a₁ _ hm) ?_;rintro e a3 C hC
   cases e with
   | normal=>
    obtain⟨c1,c2,c3⟩:=hC;obtain⟨r1,r2,r3,r4⟩:=hc none _ C hj hf c1;exact⟨_,_,r1, .inl ⟨rfl,⟨hI.putObj _ c3 (by omega) r2 rfl,r3,r4⟩,hKt (hKt hn c2) (hKb _ _ _ _ (by omega) r2 rfl rfl)⟩⟩
   | ret=>
    obtain⟨c1,c3⟩:=hC;obtain⟨r1,r2,r3,r4⟩:=hc (some .ret) _ C hj hf c1;exact⟨_,_,r1, .inr ⟨rfl,_,(hIx _).putObj _ c3 (by omega) r2 rfl,r3,r4⟩⟩
   | exit id=>
    obtain⟨c1,c3⟩:=hC;obtain⟨r1,r2,r3,r4⟩:=hc (some (.exit id)) _ C hj hf c1;exact⟨_,_,r1, .inr ⟨rfl,_,(hIx _).putObj _ c3 (by omega) r2 rfl,r3,r4⟩⟩
   | goto t=>
    obtain⟨c1,c3⟩:=hC;obtain⟨r1,r2,r3,r4⟩:=hc (some (.goto t)) _ C hj hf c1;exact⟨_,_,r1, .inr ⟨rfl,_,(hIx _).putObj _ c3 (by omega) r2 rfl,r3,r4⟩⟩
   | panic ch=>exact hC.elim
   | outgrown=>exact hC.elim
  | ret=>exact hB.elim
  | exit id=>exact hB.elim
  | goto t=>exact hB.elim
  | panic ch=>exact hB.elim
  | outgrown=>exact hB.elim
 refine⟨L,[{target:= .collected w.heap.size,args:= #[]}],V,{target:= .fn (.func gf) lb,args:= #[.func (.yield L) #[] #[]]},V,gf, #[.func (.yield L) #[] #[]]++lb,V, ?_, ?_,fun _ _=>trivial, ?_,fun _=>by omega, ?_⟩
 ·rw[<-hV,hL,ha]; exact run_enterLoop_outer _ _ _ _ _
 ·simp only[resolve,hg];simp[go_sem]
 ·simp[invoke,go_sem,eg]
 ·refine(hseq L J Jx V hv hJ he ⟨hz,hA,hx⟩).mono ?_;rintro e B ⟨⟨v,rfl⟩,hB⟩
  rcases hB with⟨xs,hS,hi,hl,hk⟩ | ⟨pre,hS,c,hi,hl,hk⟩
  ·have:=run_endLoop (P:=P) hl (by rw[hp]; simp);rw[hu]at this;exact⟨none,_,this,hdone _ xs _ (au _) hS (hI.putObj _ hi (by omega) hl rfl) ((gS (by omega)).trans hk)⟩
  ·have:=run_endLoop (P:=P) hl (by rw[hp]; simp);rw[hu]at this;exact⟨some c,_,this,(wpIn_wide (n:=4)).2 (hstop _ c pre _ (au _) hS ((hIx c).putObj _ hi (by omega) hl rfl) ((gS (by omega)).trans hk))⟩
end
attribute [local go_sem] Oper.semAt_some
def js (t:TypeId) (A B:World):Prop:= ∀(k:Nat) (cs:Array Value),A.heap[k]? =some (.cells cs t (0,0))->B.heap[k]? =A.heap[k]?
section
variable {t : TypeId} {A B C : World} {n : Nat}
theorem js.refl (A:World):js t A A:=fun _ _ _=>rfl
theorem js.trans (h:js t A B) (k:js t B C):js t A C:=fun i cs hi=>(k i cs ((h i cs hi).trans hi)).trans (h i cs hi)
theorem js.below (h:Below A.heap.size A B):js t A B:=fun i _ hi=>h.block i (aP.1 hi).1
theorem js.grown {row:Option Nat} (h:A.grownBy B row) (hr: ∀r,row=some r-> ∀cs,A.heap[r]? ≠some (.cells cs t (0,0))):js t A B:=fun i cs hi=>h.block i (aP.1 hi).1 (fun e=>hr i e.symm cs hi)
end
theorem oP {A:World} {base sz m k:Nat} {t:TypeId} {v:Value} {xs:List Value} (h:A.ownsRow base t sz v m xs) (hk:v.ownBlock=some k):base<=k/\ ∃cur,A.heap[k]? =some (.cells cur t (0,0)):=by
 rcases h.2 with⟨rfl,_⟩ | ⟨g,cap,cur,rfl,hb,ha,_⟩
 ·cases hk
 ·simp only[Value.ownBlock,br]at hk;subst hk;exact⟨hb,cur,ha⟩
theorem JL {seed W:Nat} :rE seed W [] (kY seed (List.replicate 64 0) W 0 0 0):=by
 have h0:od W []=[]:=by unfold od; simp
 have ht:=tF seed;have g: ∀i,256<=i->(kY seed (List.replicate 64 0) W 0 0 0)[i]? =((List.replicate 64 (0:UInt8)).map aY++[Value.int .i64 (W:Int), .int .i64 0, .int .i64 0, .int .u64 0])[i-256]? :=fun i hi=>by
  unfold kY; rw[bI (by omega),ht]; rfl
 refine⟨fun i hi=> ?_,fun j hj=>⟨0, ?_⟩, ?_,⟨0,by decide, ?_,fun j b hb=>by rw[h0]at hb; cases hb⟩, ?_, ?_⟩
 ·unfold kY;rw[bO (by omega)];unfold un;rw[bn,List.getElem?_range hi]; rfl
 ·rw[g _ (by omega),fK,bO (by simpa using hj),bn,List.getElem?_replicate,if_pos hj]; rfl
 ·rw[g _ (by decide)]; rfl
 ·rw[g _ (by decide)]; rfl
 ·rw[g _ (by decide)]; simp
 ·rw[g _ (by decide),h0]; rfl
theorem Jj {c:fL} (hc:jJ c=true) (data:List UInt8):ux c data 0 (rH c (kY c.seed (List.replicate 64 0) c.win.toNat 0 0 0) 0 (-c.mn)):=by
 have hv:=lM.1 hc;have hl:(kY c.seed (List.replicate 64 0) c.win.toNat 0 0 0).length=324:=ui _ (by simp) _ _ _ _;have h:=JL (seed:=c.seed) (W:=c.win.toNat);have lo: ∀i,i<324->(rH c (kY c.seed (List.replicate 64 0) c.win.toNat 0 0 0) 0 (-c.mn))[i]? =(kY c.seed (List.replicate 64 0) c.win.toNat 0 0 0)[i]? :=fun i hi=>by
  unfold rH; rw[bO (by omega)]
 have ha: ∀i,(rH c (kY c.seed (List.replicate 64 0) c.win.toNat 0 0 0) 0 (-c.mn))[324+i]? =(fR c++[Value.int .i64 0,Value.int .i64 (-c.mn)])[i]? :=fun i=>by
  unfold rH; rw[bI (by omega),hl,fK]
 refine⟨⟨fun i hi=> ?_,fun j hj=> ?_, ?_, ?_, ?_, ?_⟩,uc c hl _ _,fun i hi=> ?_, ?_, ?_⟩
 ·rw[lo _ (by omega)]; exact h.tab i hi
 ·rw[lo _ (by omega)]; exact h.rng j hj
 ·rw[lo _ (by omega)]; exact h.win
 ·obtain⟨s,h1,h2,h3⟩:=h.st;exact⟨s,h1,by rw[lo _ (by omega)]; exact h2,fun j b hb=>by rw[lo _ (by omega)]; exact h3 j b hb⟩
 ·rw[lo _ (by omega)]; exact h.len
 ·rw[lo _ (by omega)]; exact h.sum
 ·rw[ha,bO (by simpa [fR]using hi)]
 ·rw[show 329=324+5 from rfl,ha]; rfl
 ·rw[show 330=324+6 from rfl,ha,qe];have: -c.mn= -((c.mn.toNat:Nat):Int):=by omega
  rw[this]; rfl
theorem wB (mk:Nat->Bool) (mn mx len:Nat): ∀p,(kS mk mn mx len p).length<=p/\lU (kS mk mn mx len p)<=p
 | 0=>⟨by simp[kS],by simp[kS,lU]⟩
 | p+1=>by
  have:=wB mk mn mx len p;rw[kS]
  split
  ·rw[ar,ml]; simp; omega
  ·omega
def kQ (c:fL) (dv:Value) (b1 b2:Nat) (w:World):Prop:=w.heap[b1]? =some (.cells (fR c).toArray 45 (0,0))/\w.heap[b2]? =some (.cells #[dv] 29 (0,0))
def KL (b1 b2:Nat) (A B:World):Prop:=B.heap[b1]? =A.heap[b1]? /\B.heap[b2]? =A.heap[b2]?
theorem kQ.same {c:fL} {dv:Value} {b1 b2:Nat} {A B:World} (h:kQ c dv b1 b2 A) (hk:KL b1 b2 A B):kQ c dv b1 b2 B:=⟨hk.1.trans h.1,hk.2.trans h.2⟩
theorem kQ.below {c:fL} {dv:Value} {b1 b2:Nat} {A B:World} (h:kQ c dv b1 b2 A) (hb:Below A.heap.size A B):kQ c dv b1 b2 B:=h.same ⟨hb.block _ (az h.1),hb.block _ (az h.2)⟩
theorem kQ.grown {c:fL} {dv:Value} {b1 b2 r:Nat} {A B:World} (h:kQ c dv b1 b2 A) (hg:A.grownBy B (some r)) (h1:b1<r) (h2:b2<r):kQ c dv b1 b2 B:=
 h.same ⟨hg.block _ (az h.1) (fun e=>by cases e; omega),hg.block _ (az h.2) (fun e=>by cases e; omega)⟩
theorem kQ.mx {c:fL} {dv:Value} {b1 b2:Nat} {A:World} (h:kQ c dv b1 b2 A):A.cell? ⟨b1,1,none⟩=some (.int .i64 c.mx):=(bu A _ 1 _ _ _ h.1).trans rfl
theorem kQ.dat {c:fL} {dv:Value} {b1 b2:Nat} {A:World} (h:kQ c dv b1 b2 A):A.cell? ⟨b2,0,none⟩=some dv:=(bu A _ 0 _ _ _ h.2).trans rfl
def Nj (c:fL) (data:List UInt8) (b1 b2 n₀:Nat) (w:World):Prop:=
 Pu Tryz.prog 186 #[.pointer (some ⟨b1,0,none⟩), .pointer (some ⟨b2,0,none⟩)] (fun q:Nat=> #[.int .i64 (q:Int)]) (fun pre q _=>lU pre<q/\q<=data.length)
  (fun A B=>Below n₀ A B/\js 239 A B/\KL b1 b2 A B) (fun xs=>xs=qu (qf c data) c.mn.toNat c.mx.toNat data.length) (fun _=>True) data.length 239 w
theorem me {B b:Nat} {w0 w w':World} (hb:Below B w0 w) (h:w.grownBy w' (some b)) (h1:B<=b) (h2:B<=w.heap.size):Below B w0 w':=
 hb.trans ⟨h.os,h.tape,h.output,h.size,fun k hk=>h.block k (by omega) (fun e=>by cases e; omega)⟩
theorem vK (c:fL) (data:List UInt8) (p:Nat) (b:UInt8) (pr:Bool) (mb:Nat) (ty:TypeId) (cs:List Value) (w:World) (hc:jJ c=true) (hb:data[p]? =some b) (hp:data.length<=1048576) (hbox:w.heap[mb]? =some (.cells cs.toArray ty (0,0))) (hm:ux c data p cs) (hT:BC w) (hmb:mb≠6) (hpr:pr=kw (qf c data) c.mn.toNat (p+1)):
  Calls Tryz.prog 188 #[.pointer (some ⟨mb,0,none⟩), .int .u8 (b.toNat:Int)] w fun e w'=>e= .returned (.bool pr)/\(∃cs',w'.heap[mb]? =some (.cells cs'.toArray ty (0,0))/\ux c data (p+1) cs')/\w.grownBy w' (some mb):=by
 rw[hpr]; exact MC c data p b mb ty cs w hc hb hp hbox hm hT hmb
theorem Lp (S:Nat->Prop) (c:fL) (data:List UInt8) (dv:Value) (b1 b2:Nat) (w wc:World) (hc:jJ c=true) (hs:c.seed<18446744073709551616) (hx:kQ c dv b1 b2 wc) (hd:bG S w dv data) (hl:data.length<=1048576) (hT:BC w) (hbc:Below w.heap.size w wc):
  Nj c data b1 b2 w.heap.size wc:=by
 intro l J Jx W hP hJ hY h0;have Ho:=aw hbc hP;have hU:=an Ho;have HV:=an hc;have HD:=an hd;have HT:=an hT;have HJ:=an hJ;have HY:=an hY;have H0:=an h0;have hM:=an (hx.below hP);have hE:=an (show b1<W.heap.size/\b2<W.heap.size from⟨az hM.o.1,az hM.o.2⟩);obtain⟨_,da,dcap,rfl,Hz,HA,Hj⟩:=id hd;obtain⟨n,hn⟩: ∃n,n=data.length:=⟨_,rfl⟩
 rw[<-hn]at hM Hz hl;have HN:=an hn;have hv:=lM.1 hc;obtain⟨mx,Hu⟩: ∃mx,mx=c.mx.toNat:=⟨_,rfl⟩;obtain⟨mn,Ht⟩: ∃mn,mn=c.mn.toNat:=⟨_,rfl⟩;have Hc:c.mx=(mx:Int):=by omega
 have HI:mx<=32768:=by omega
 have hF:=an (aD Hu (aD Hc Ht));have Hd:=an (show c.win=(c.win.toNat:Int)/\1<=c.win.toNat/\c.win.toNat<=64/\0<=c.mn/\c.mn<=32768 by omega);have hr:=mr hM.o.1;have HR:=an hr;have Hx:=an (show(Tryz.prog.info? 45).map (·.size)=some (fR c).length by kernel_rfl);clear hJ hY h0 Ho hP hbc hc hd hT hx hn hv Hu Ht Hc hr;have y2:=hM.o.dat
 refine callsIn_wide.2 ?_
 show Calls Tryz.prog 186 #[.func (.yield l) #[] #[], .pointer (some ⟨b1,0,none⟩), .pointer (some ⟨b2,0,none⟩)] W _
 go_enter Tryz.func186,Tryz.ntmps186
 go_wp2_with (first | (refine dO rfl 45 _ rfl b1 0 rfl (fR c) _ HR.o Tryz.underlying45 rfl Hx.o ?_) | fail);refine(yo c c.win.toNat W hs Hd.o.1 Hd.o.2.1 Hd.o.2.2.1 Hd.o.2.2.2).mono ?_;rintro e w5 ⟨rfl,Hn⟩;obtain⟨mc,hW⟩: ∃mc,mc=rH c (kY c.seed (List.replicate 64 0) c.win.toNat 0 0 0) 0 (-c.mn):=⟨_,rfl⟩;rw[<-hW];have hX:mc.length=331:=by rw[hW]; exact uc c (ui _ (by simp) _ _ _ _) _ _
 have HM:=an hW;have Hy:=an (show ux c data 0 mc by rw[hW]; exact Jj HV.o data);have h7:=an (show(Tryz.prog.info? 239).map (·.size)=some mc.toArray.size by rw[bU,hX]; kernel_rfl);have Hg:=an (show Tryz.zeroCells239.size=mc.toArray.size by rw[show mc.toArray.size=331 from by rw[bU]; exact hX]; kernel_rfl);have Hh:=an (show mc.toArray.all (·.oneCell')=true from dU (by rw[hW]; exact zH c _ _ _))
 have He:=an Hn;clear Hn hW hX y2;have y2:=(hM.o.below He.o).dat
 have Hf:=an (show Below w5.heap.size w5 ((w5.alloc (.cells Tryz.zeroCells239 239)).setRow w5.heap.size mc.toArray)from er (eN) (au _) _);have Hl:=an (show((w5.alloc (.cells Tryz.zeroCells239 239)).setRow w5.heap.size mc.toArray).heap[w5.heap.size]? =some (.cells mc.toArray 239 (0,0))from dW _ _ _ _ _ _ (aH w5 _));have y3:=(Hf.o.cell (bS y2)).trans y2
 go_wp2_with (first | (refine du rfl 239 _ _ rfl w5.heap.size _ rfl rfl _ _ (aH w5 _) h7.o Hg.o Hh.o ?_) | fail)
 generalize (w5.alloc (.cells Tryz.zeroCells239 239)).setRow w5.heap.size mc.toArray=w6 at *
 obtain⟨mb,Hs⟩: ∃mb,mb=w5.heap.size:=⟨_,rfl⟩;have ha:=an (show W.heap.size<=mb/\mb≠6 by
  have h1:=He.o.size;have h2:=hU.o.size;have h3:=HT.o.lt
  omega)
 have hI:=an (aw He.o Hf.o);rw[<-Hs]at Hf Hl ⊢;clear Hs y2 y3
 go_loopw [13,5] (fun i s wr=> ∃(k:Nat) (pre:List Nat) (cs:List Value),k<=n/\i= .int .i64 (k:Int)/\pre=kS (qf c data) mn mx n k/\s= .int .i64 ((lU pre:Nat):Int)/\J pre wr/\Below w.heap.size w wr/\wr.heap[mb]? =some (.cells cs.toArray 239 (0,0))/\ux c data k cs/\kQ c (.slice da n dcap) b1 b2 wr) (fun i _ _=>n-(intOf i).toNat)
 case atStart=>exact⟨0,[],mc,aX _,rfl,rfl,rfl,HJ.o _ _ _ none H0.o (Eg hI.o) (fun r e=>by cases e),aw hU.o hI.o,Hl.o,Hy.o,hM.o.below hI.o⟩
 case round=>
  obtain⟨k,pre,cs,hk,rfl,hQ,rfl,Hm,Hp,Hq,hX,Hr⟩:=hrel;have hZ:=an Hr;have hw:=an hQ;have h9:=an Hm;have hf:=an Hp;have hD:=an Hq;have hC:=an hX;have Hv:=wB (qf c data) mn mx n k;rw[<-hQ]at Hv;obtain⟨sn,Hk⟩: ∃sn,sn=lU pre:=⟨_,rfl⟩;rw[<-Hk]at Hv ⊢;have hG:=an Hk;clear hQ Hm Hp Hq hX Hk Hr
  by_cases HG:k<n
  ·obtain⟨b,hb⟩: ∃b,data[k]? =some b:=⟨data[k]'(by rw[<-HN.o]; exact HG),by simp⟩
   rcases Hj with Hj | ⟨db,dof,rfl,hS,Hi⟩
   ·rw[<-HN.o]at Hj; omega
   have Hb:=(hf.o.cell (bS (Hi k (aY b) (by rw[bn,hb]; rfl)))).trans (Hi k (aY b) (by rw[bn,hb]; rfl));have y2:=hZ.o.dat
   have HP:(k:Int)<(n:Int):=by omega
   have HE:IntKind.i64.wrap ((k:Int)+1)=((k+1:Nat):Int):=by rw[bF]; omega
   have HB:=an hb;clear Hi hb hS;unfold maxLen at HA
   change wr.cell? ⟨db,dof+k,none⟩=some (.int .u8 (b.toNat:Int))at Hb
   obtain⟨pr,Hw⟩: ∃pr,pr=kw (qf c data) c.mn.toNat (k+1):=⟨_,rfl⟩;have hV:=an Hw;clear Hw;have HL:IntKind.i64.wrap ((k:Int)+1-(sn:Int))=(k:Int)+1-(sn:Int):=by rw[bF]; omega
   by_cases hp:pr=true
   ·subst hp;have hO:=an (show mP (qf c data) mn mx n sn (k+1)=true by unfold mP; rw[hF.o.2.2,<-hV.o]; rfl)
    go_upto_region 7 with(fail)
    refine(vK c data k b _ mb 239 cs _ HV.o HB.o (by rw[<-HN.o]; exact hl) hD.o hC.o (HT.o.block (hf.o.block _ HT.o.lt) hf.o.size) ha.o.2 hV.o).mono ?_;rintro e w7 ⟨rfl,⟨cs7,hA,hz⟩,hj⟩;have hB:=an hA;have hN:=an hz;have ho:=an hj;have hL:=an (me hf.o hj (aB hU.o.size ha.o.1) hf.o.size);clear hA hz hj;have hh:=an (hZ.o.grown ho.o (aR hE.o.1 ha.o.1) (aR hE.o.2 ha.o.1)); have z2:=hh.o.dat
    have z1:=hh.o.mx; rw[hF.o.2.1]at z1
    go_upto_region 7 with(fail)
    have h8:=an (HJ.o _ _ _ _ h9.o ho.o (fun r e=>by cases e; exact⟨ha.o.1,cs.toArray,hD.o⟩));have h4:=an (show lU pre<k+1/\k+1<=data.length from⟨by rw[<-hG.o]; omega,by rw[<-HN.o]; omega⟩);have Ha:=an (show pre.length<data.length by rw[<-HN.o]; omega);obtain⟨fn,tmps,assign,body,hy,hR⟩:=HY.o pre (k+1) w7 h8.o h4.o Ha.o;rw[show(((k+1:Nat):Int))=(k:Int)+1 from rfl]at hy
    refine(wpIn_wide (n:=3)).1 ?_
    gi_wp2_with (fail)
    refine hR.mono ?_;rintro e6 w8 (⟨rfl,hg,hH⟩ | ⟨rfl,hg⟩)
    ·have hq:=an hg;have hu:=an hH;clear hg hH hy hR
     gi_wp2
     go_wp2_with fail
     go_roundw
     case rel=>
      refine⟨k+1,pre++[k+1],cs7,by omega,by go_num, ?_,by rw[ml]; rfl,hq.o,hL.o.trans hu.o.1,(hu.o.2.1 mb _ hB.o).trans hB.o,hN.o,hh.o.same hu.o.2.2⟩;rw[kS,<-hw.o,<-hG.o,hO.o,if_pos rfl]
     case measure=>simp[intOf]; omega
    ·have hq:=an hg;clear hg hy hR
     gi_wp2
     go_wp2_with fail;refine cN (gk rfl _ _ _) rfl ?_;exact⟨⟨_,rfl⟩, .inr ⟨pre++[k+1],trivial,hq.o⟩⟩
   ·have HK:pr=false:=by simpa using hp
    subst HK;clear hp
    by_cases hm:sn+mx<=k+1
    ·have HH:(mx:Int)<=(k:Int)+1-(sn:Int):=by omega
     have HQ: ¬(k:Int)+1-(sn:Int)<(mx:Int):=by omega
     have hO:=an (show mP (qf c data) mn mx n sn (k+1)=true by unfold mP; rw[cO hm]; simp)
     go_upto_region 7 with(fail)
     refine(vK c data k b _ mb 239 cs _ HV.o HB.o (by rw[<-HN.o]; exact hl) hD.o hC.o (HT.o.block (hf.o.block _ HT.o.lt) hf.o.size) ha.o.2 hV.o).mono ?_;rintro e w7 ⟨rfl,⟨cs7,hA,hz⟩,hj⟩;have hB:=an hA;have hN:=an hz;have ho:=an hj;have hL:=an (me hf.o hj (aB hU.o.size ha.o.1) hf.o.size);clear hA hz hj;have hh:=an (hZ.o.grown ho.o (aR hE.o.1 ha.o.1) (aR hE.o.2 ha.o.1)); have z2:=hh.o.dat
     have z1:=hh.o.mx; rw[hF.o.2.1]at z1
     go_upto_region 7 with(fail)
     have h8:=an (HJ.o _ _ _ _ h9.o ho.o (fun r e=>by cases e; exact⟨ha.o.1,cs.toArray,hD.o⟩));have h4:=an (show lU pre<k+1/\k+1<=data.length from⟨by rw[<-hG.o]; omega,by rw[<-HN.o]; omega⟩);have Ha:=an (show pre.length<data.length by rw[<-HN.o]; omega);obtain⟨fn,tmps,assign,body,hy,hR⟩:=HY.o pre (k+1) w7 h8.o h4.o Ha.o;rw[show(((k+1:Nat):Int))=(k:Int)+1 from rfl]at hy
     refine(wpIn_wide (n:=3)).1 ?_
     gi_wp2_with (fail)
     refine hR.mono ?_;rintro e6 w8 (⟨rfl,hg,hH⟩ | ⟨rfl,hg⟩)
     ·have hq:=an hg;have hu:=an hH;clear hg hH hy hR
      gi_wp2
      go_wp2_with fail
      go_roundw
      case rel=>
       refine⟨k+1,pre++[k+1],cs7,by omega,by go_num, ?_,by rw[ml]; rfl,hq.o,hL.o.trans hu.o.1,(hu.o.2.1 mb _ hB.o).trans hB.o,hN.o,hh.o.same hu.o.2.2⟩;rw[kS,<-hw.o,<-hG.o,hO.o,if_pos rfl]
      case measure=>simp[intOf]; omega
     ·have hq:=an hg;clear hg hy hR
      gi_wp2
      go_wp2_with fail;refine cN (gk rfl _ _ _) rfl ?_;exact⟨⟨_,rfl⟩, .inr ⟨pre++[k+1],trivial,hq.o⟩⟩
    ·have HH:(k:Int)+1-(sn:Int)<(mx:Int):=by omega
     by_cases he:n<=k+1
     ·have HC:(n:Int)<=(k:Int)+1:=by omega
      have HO: ¬(k:Int)+1<(n:Int):=by omega
      have hO:=an (show mP (qf c data) mn mx n sn (k+1)=true by unfold mP; rw[cO he]; simp)
      go_upto_region 7 with(fail)
      refine(vK c data k b _ mb 239 cs _ HV.o HB.o (by rw[<-HN.o]; exact hl) hD.o hC.o (HT.o.block (hf.o.block _ HT.o.lt) hf.o.size) ha.o.2 hV.o).mono ?_;rintro e w7 ⟨rfl,⟨cs7,hA,hz⟩,hj⟩;have hB:=an hA;have hN:=an hz;have ho:=an hj;have hL:=an (me hf.o hj (aB hU.o.size ha.o.1) hf.o.size);clear hA hz hj;have hh:=an (hZ.o.grown ho.o (aR hE.o.1 ha.o.1) (aR hE.o.2 ha.o.1)); have z2:=hh.o.dat
      have z1:=hh.o.mx; rw[hF.o.2.1]at z1
      go_upto_region 7 with(fail)
      have h8:=an (HJ.o _ _ _ _ h9.o ho.o (fun r e=>by cases e; exact⟨ha.o.1,cs.toArray,hD.o⟩));have h4:=an (show lU pre<k+1/\k+1<=data.length from⟨by rw[<-hG.o]; omega,by rw[<-HN.o]; omega⟩);have Ha:=an (show pre.length<data.length by rw[<-HN.o]; omega);obtain⟨fn,tmps,assign,body,hy,hR⟩:=HY.o pre (k+1) w7 h8.o h4.o Ha.o;rw[show(((k+1:Nat):Int))=(k:Int)+1 from rfl]at hy
      refine(wpIn_wide (n:=3)).1 ?_
      gi_wp2_with (fail)
      refine hR.mono ?_;rintro e6 w8 (⟨rfl,hg,hH⟩ | ⟨rfl,hg⟩)
      ·have hq:=an hg;have hu:=an hH;clear hg hH hy hR
       gi_wp2
       go_wp2_with fail
       go_roundw
       case rel=>
        refine⟨k+1,pre++[k+1],cs7,by omega,by go_num, ?_,by rw[ml]; rfl,hq.o,hL.o.trans hu.o.1,(hu.o.2.1 mb _ hB.o).trans hB.o,hN.o,hh.o.same hu.o.2.2⟩;rw[kS,<-hw.o,<-hG.o,hO.o,if_pos rfl]
       case measure=>simp[intOf]; omega
      ·have hq:=an hg;clear hg hy hR
       gi_wp2
       go_wp2_with fail;refine cN (gk rfl _ _ _) rfl ?_;exact⟨⟨_,rfl⟩, .inr ⟨pre++[k+1],trivial,hq.o⟩⟩
     ·have HC:(k:Int)+1<(n:Int):=by omega
      have hO:=an (show mP (qf c data) mn mx n sn (k+1)=false by unfold mP; rw[cD he,cD hm,hF.o.2.2,<-hV.o]; rfl);go_wp2_with (go_at_call 188; refine(vK c data k b _ mb 239 cs _ HV.o HB.o (by rw[<-HN.o]; exact hl) hD.o hC.o (HT.o.block (hf.o.block _ HT.o.lt) hf.o.size) ha.o.2 hV.o).mono ?_; rintro e w7 ⟨rfl,⟨cs7,hA,hz⟩,hj⟩; have hB:=an hA; have hN:=an hz; have ho:=an hj; have hL:=an (me hf.o hj (aB hU.o.size ha.o.1) hf.o.size); clear hA hz hj; have hh:=an (hZ.o.grown ho.o (aR hE.o.1 ha.o.1) (aR hE.o.2 ha.o.1)); have z2:=hh.o.dat; have z1:=hh.o.mx; rw[hF.o.2.1]at z1)
      go_roundw
      case rel=>
       refine⟨k+1,pre,cs7,by omega,by go_num, ?_,by rw[hG.o], ?_,hL.o,hB.o,hN.o,hh.o⟩
       ·rw[kS,<-hw.o,<-hG.o,hO.o,if_neg (by decide)]
       ·exact HJ.o _ _ _ _ h9.o ho.o (fun r e=>by cases e; exact⟨ha.o.1,cs.toArray,hD.o⟩)
      case measure=>simp[intOf]; omega
  ·have HF:k=n:=by omega
   go_wp2_with fail
   go_end0
   refine⟨⟨_,rfl⟩, .inl ⟨pre, ?_,h9.o⟩⟩;rw[hw.o,HF,HN.o,hF.o.1,hF.o.2.2]; rfl
open Go Go.RowKit Go.Maps Go.MapKept
open Go.ChangeMaps (modify_eq_set map_eraseIdx)
def je (P:Program) (k:TypeId) (w:World) (b:Nat) (m:List (Value×Value)):Prop:=
 ∃es clock,w.heap[b]? =some (.map es clock)/\es.toList.map (fun e=>(e.key,e.val))=m/\Stamped es clock/\ ∀p∈m,∃l,keyOf P k p.1=some l
section
variable {P : Program} {k t e : TypeId} {w w' : World} {b : Nat} {m : List (Value × Value)} {key val z : Value}
theorem yj {es:Array MapEntry} {clock:Nat} (h:Stamped es clock):((es.toList.map (fun e=>(e.key,e.val))).map Prod.fst).Nodup:=by
 rw[jL];have:=((stamped_iff es clock).1 h).2.2;unfold List.Nodup;rw[gM];exact this
theorem je.is (h:je P k w b m):jN P k w b m:=by
 obtain⟨es,clock,hb,he,hs,hk⟩:=h;exact⟨es,clock,hb,he,by rw[<-he]; exact yj hs,hk⟩
theorem je.lt (h:je P k w b m):b<w.heap.size:=h.is.lt
theorem je.same (h:je P k w b m) (hs:w'.heap[b]? =w.heap[b]?):je P k w' b m:=by
 obtain⟨es,clock,hb,h2⟩:=h;exact⟨es,clock,hs.trans hb,h2⟩
theorem je.made (w:World):je P k (w.alloc (.map #[] 0)) w.heap.size []:=⟨#[],0,(MapKept.heap_alloc w _).1,rfl,stamped_empty 0,by simp⟩
theorem je.nodup (h:je P k w b m):(m.map Prod.fst).Nodup:=by obtain⟨_,_,_,_,hn,_⟩:=h.is; exact hn
theorem qw {w:World} {b:Nat} {x:Obj} (hb:w.heap[b]? =some x) (o:Obj):w.grownBy (ChangeMaps.setBlock w b o) (some b):=
 ⟨rfl,rfl,rfl,by simp[ChangeMaps.setBlock],fun i _ hi=>zo hb _ (fun e=>hi (by rw[e]))⟩
theorem je.put (h:je P k w b m) (K:Keyed P k) (ht:P.underlying t=some (.map k e)) (hkey: ∃l,keyOf P k key=some l) (hm: ∀p∈m,p.1≠key) (val:Value):
  ∃w',(Instr.mapUpdate t (.map (some b)) key val).run P w= .ok () w'/\je P k w' b (m++[(key,val)])/\w.grownBy w' (some b):=by
 obtain⟨es,clock,hb,he,hc,hk⟩:=h;obtain⟨kl,ha⟩:=hkey
 rcases K.find w ha es.toList (jN.keys he hk)with⟨h1,h2⟩ | ⟨j,e0,h1,h2,h3⟩
 ·refine⟨ChangeMaps.setBlock w b (.map (es.push ⟨key,val,clock⟩) (clock+1)), ?_,⟨_,_,wL hb _, ?_,stamped_push hc h2, ?_⟩,qw hb _⟩
  ·simp[Instr.mapUpdate,run_underlying ht,MapKept.run_getObj_map hb,K.check w false ha,h1,MapKept.run_setObj_map _ hb,Result.andThen,ChangeMaps.setBlock]
  ·simp[<-he]
  ·intro p hp
   rcases aU.1 hp with hp | hp
   ·exact hk p hp
   ·simp only[aQ]at hp;subst hp;exact⟨kl,ha⟩
 ·exact absurd h3 (hm (e0.key,e0.val) (by rw[<-he]; exact aW.2 ⟨e0,aS h2,rfl⟩))
theorem je.over {m1 m2:List (Value×Value)} {old:Value} (h:je P k w b (m1++(key,old)::m2)) (K:Keyed P k) (ht:P.underlying t=some (.map k e)) (val:Value):
  ∃w',(Instr.mapUpdate t (.map (some b)) key val).run P w= .ok () w'/\je P k w' b (m1++(key,val)::m2)/\w.grownBy w' (some b):=by
 have hh:=h.nodup;obtain⟨es,clock,hb,he,hl,hk⟩:=h;obtain⟨kl,hc⟩:=hk (key,old) (by simp)
 rcases K.find w hc es.toList (jN.keys he hk)with⟨h1,h2⟩ | ⟨j,e0,h1,h2,h3⟩
 ·exfalso
  have:(key,old)∈es.toList.map (fun e=>(e.key,e.val)):=by rw[he]; simp
  obtain⟨x,hx,hm⟩:=aW.1 this;exact h2 x hx (congrArg Prod.fst hm)
 ·have hj:es[j]? =some e0:=by simpa using h2
  have ha:(es.modify j (fun e'=> {e' with key:=key,val:=val})).toList=es.toList.set j {e0 with key:=key,val:=val} :=by rw[Array.toList_modify,modify_eq_set _ _ _ _ h2]
  have hg:j=m1.length:=by
   have h4:(m1++(key,old)::m2)[j]? =some (e0.key,e0.val):=by rw[<-he,bn,h2]; rfl
   have h5:((m1++(key,old)::m2).map Prod.fst)[j]? =some key:=by rw[bn,h4]; simp[h3]
   have h6:((m1++(key,old)::m2).map Prod.fst)[m1.length]? =some key:=by simp
   have hf:=(aN.1 h5).1;exact(List.getElem?_inj hf hh).1 (h5.trans h6.symm)
  refine⟨ChangeMaps.setBlock w b (.map (es.modify j (fun e'=> {e' with key:=key,val:=val})) clock), ?_,⟨_,_,wL hb _, ?_, ?_, ?_⟩,qw hb _⟩
  ·simp[Instr.mapUpdate,run_underlying ht,MapKept.run_getObj_map hb,K.check w false hc,h1,hj,h3,K.stays w hc,MapKept.run_setObj_map _ hb,Result.andThen,ChangeMaps.setBlock]
  ·rw[ha,List.map_set,he,hg];simp
  ·exact stamped_modify hl j _ (fun _ _=>rfl) (fun e' _ hd=>by rw[hj]at hd; cases hd; exact h3.symm)
  ·intro p hp
   rcases aU.1 hp with hp | hp
   ·exact hk p (by simp[hp])
   ·rcases bh.1 hp with rfl | hp
    ·exact⟨kl,hc⟩
    ·exact hk p (by simp[hp])
theorem je.len (h:je P k w b m) (ht:P.underlying t=some (.map k e)) (ty:TypeId):(Builtin.len_ #[t] ty #[.map (some b)]).run P w= .ok (.int .i64 (m.length:Int)) w:=by
 obtain⟨es,clock,hb,he,_⟩:=h;have:es.size=m.length:=by rw[<-he]; simp
 simp[Builtin.len_,run_underlying ht,MapKept.run_getObj_map hb,goInt,Result.andThen,this]
def qm (P:Program) (k:TypeId) (w:World) (b r:Nat) (m vis:List (Value×Value)):Prop:=
 ∃es clock since seen c0,w.heap[b]? =some (.map es clock)/\es.toList.map (fun e=>(e.key,e.val))=m/\Stamped es clock/\(∀p∈m,∃l,keyOf P k p.1=some l)/\
  w.heap[r]? =some (.mapIter (some b) since seen c0)/\(∀x∈es.toList,x.born<since)/\since<=c0/\since<=clock/\vis.Perm ((es.toList.filter fun x=>seen.contains x.born).map (fun e=>(e.key,e.val)))
theorem qm.map {r:Nat} {vis:List (Value×Value)} (h:qm P k w b r m vis):je P k w b m:=by
 obtain⟨es,clock,_,_,_,hb,he,hs,hk,_⟩:=h;exact⟨es,clock,hb,he,hs,hk⟩
theorem qm.same {r:Nat} {vis:List (Value×Value)} (h:qm P k w b r m vis) (h1:w'.heap[b]? =w.heap[b]?) (h2:w'.heap[r]? =w.heap[r]?):qm P k w' b r m vis:=by
 obtain⟨es,clock,since,seen,c0,hb,he,hs,hk,hr,h3⟩:=h;exact⟨es,clock,since,seen,c0,h1.trans hb,he,hs,hk,h2.trans hr,h3⟩
theorem qm.ne {r:Nat} {vis:List (Value×Value)} (h:qm P k w b r m vis):r≠b:=by
 obtain⟨es,clock,since,seen,c0,hb,_,_,_,hr,_⟩:=h;intro e1;subst e1;rw[hb]at hr
 cases hr
theorem sR {α:Type} (p:α->Bool): ∀(l:List α),(l.filter p).length+(l.filter fun x=> !p x).length=l.length
 | []=>rfl
 | a::l=>by
  have:=sR p l
  cases h:p a<;> simp[h]<;> omega
theorem qm.left {r:Nat} {vis:List (Value×Value)} (h:qm P k w b r m vis):w.rangeLeft b r+vis.length=m.length:=by
 obtain⟨es,clock,since,seen,c0,hb,he,hs,hk,hr,_,_,_,hv⟩:=h;have h1:w.rangeLeft b r=(leftOf es seen).size:=by simp only[World.rangeLeft,hb,hr]
 have h2:(leftOf es seen).size=(es.toList.filter fun x=> !seen.contains x.born).length:=by
  unfold leftOf;rw[<-Array.toList_filter,Array.length_toList]
 have h3:=sR (fun x:MapEntry=>seen.contains x.born) es.toList;rw[h1,h2,hv.length_eq,aE,<-he,aE];omega
theorem je.range (h:je P k w b m) (ht:P.underlying t=some (.map k e)):
  ∃w',(Instr.range t (.map (some b))).run P w= .ok (.pointer (some ⟨w.heap.size,0,none⟩)) w'/\qm P k w' b w.heap.size m []/\Below w.heap.size w w'/\w'.heap.size=w.heap.size+1:=by
 have ha:=h.lt;obtain⟨es,clock,hb,he,hs,hk⟩:=h;refine⟨_,run_range_map w t k e b es clock ht hb,⟨es,clock,clock, #[],clock,((MapKept.heap_alloc w _).2 b ha).trans hb,he,hs,hk,(MapKept.heap_alloc w _).1,((stamped_iff es clock).1 hs).1,au _,au _, ?_⟩,eN,by simp⟩;simp
theorem Nw {es:Array MapEntry} {clock:Nat} (hs:Stamped es clock) {x y:MapEntry} (hx:x∈es.toList) (hy:y∈es.toList) (h:x.born=y.born):x=y:=born_inj ((stamped_iff es clock).1 hs).2.1 hx hy h
theorem JA {es:List MapEntry} {seen:Array Nat} {e0:MapEntry} (hn:es.Nodup) (hinj: ∀x∈es,x.born=e0.born->x=e0) (he:e0∈es) (h0:seen.contains e0.born=false):
  ((es.filter fun x=>seen.contains x.born)++[e0]).Perm (es.filter fun x=>(seen.push e0.born).contains x.born):=by
 refine(List.perm_ext_iff_of_nodup ?_ (hn.filter _)).2 (fun x=> ?_)
 ·rw[gL];refine⟨hn.filter _,by simp,fun a ha c hc=> ?_⟩;simp only[aQ]at hc;subst hc;rintro rfl;rw[fj]at ha;rw[ha.2]at h0
  cases h0
 ·simp only[aU,fj,aQ,contains_push,gE,jU]
  constructor
  ·rintro(⟨h1,h2⟩ | rfl)
   ·exact⟨h1, .inl h2⟩
   ·exact⟨he, .inr rfl⟩
  ·rintro⟨h1,h2 | h2⟩
   ·exact .inl ⟨h1,h2⟩
   ·exact .inr (hinj x h1 h2)
theorem qm.next {r:Nat} {vis:List (Value×Value)} (h:qm P k w b r m vis) (ty:TypeId):
  (vis.Perm m/\(Instr.next (.pointer (some ⟨r,0,none⟩)) false ty).run P w= .ok (.tuple #[.bool false]) w)\/
  ∃key v w',(key,v)∈m/\(∀p∈vis,p.1≠key)/\(Instr.next (.pointer (some ⟨r,0,none⟩)) false ty).run P w= .ok (.tuple #[.bool true,key,v]) w'/\
   qm P k w' b r m (vis++[(key,v)])/\w.grownBy w' (some r)/\w'.heap.size=w.heap.size/\(Instr.entry (.pointer (some ⟨r,0,none⟩))).run P w'= .ok (.tuple #[key,v]) w':=by
 have hw:=h.ne;obtain⟨es,clock,since,seen,c0,hb,he,hs,hk,hr,hf,hB,hn,hv⟩:=h;have hl:=(stamped_iff es clock).1 hs
 rcases run_next_at (P:=P) w ty r b since c0 seen es clock hr hb hf hB with⟨h0,hc⟩ | ⟨e0,hq,w1,hg,hc⟩
 ·refine Or.inl ⟨?_,hc⟩;have:(es.toList.filter fun x=>seen.contains x.born)=es.toList:=by
   rw[List.filter_eq_self];intro x hx;exact all_seen es seen h0 x hx
  rw[this,he]at hv;exact hv
 ·obtain⟨hd,hh⟩:=mem_left hq;have hA:w1.heap[r]? =some (.mapIter (some b) since seen c0):=by rcases hg with rfl | rfl<;> exact hr
  have ho:w1.heap[b]? =some (.map es clock):=by rcases hg with rfl | rfl<;> exact hb
  have ha:=heap_set (o':= .mapIter (some b) since (seen.push e0.born) clock) hA;have hm:(ChangeMaps.setBlock w1 r (.mapIter (some b) since (seen.push e0.born) clock)).heap[b]? =some (.map es clock):=(ha.2 b (fun e1=>hw e1.symm)).trans ho;have hu:es.toList.Nodup:=by
   have:=hl.2.1;unfold List.Nodup at this;rw[gM]at this;exact this.imp (fun h e=>h (by rw[e]))
  have hj: ∀x∈es.toList,x.born=e0.born->x=e0:=fun x hx hE=>Nw hs hx hd hE
  have hz:=JA hu hj hd hh;refine Or.inr ⟨e0.key,e0.val,_,by rw[<-he]; exact aW.2 ⟨e0,hd,rfl⟩,fun p hp hy=> ?_,hc,⟨es,clock,since,seen.push e0.born,clock,hm,he,hs,hk,ha.1,hf,hn,hn, ?_⟩, ?_, ?_,
   run_entry_at _ r b since seen es clock e0 ha.1 hm hd hl.2.1⟩
  ·obtain⟨x,hx,rfl⟩:=aW.1 (hv.subset hp);obtain⟨hC,hD⟩:=fj.1 hx;have:x=e0:=entry_eq_of_key hl.2.2 hC hd hy;subst this;rw[hD]at hh
   cases hh
  ·refine(hv.append_right _).trans ?_;have:=hz.map (fun e:MapEntry=>(e.key,e.val));rw[aO]at this;exact this
  ·rcases hg with rfl | rfl<;> exact⟨rfl,rfl,rfl,by simp[ChangeMaps.setBlock],fun i _ hi=>ha.2 i (fun e1=>hi (by rw[e1]))⟩
  ·rcases hg with rfl | rfl<;> simp[ChangeMaps.setBlock]
end
section
variable {P : Program} {w : World} {ops : Array Oper} {rest : List Oper} {o : Oper} {a : Act} {Q : Exit → Act → World → Prop} {k e : TypeId}
theorem yI (hg:o.guard=none) (mo:Operand) (t:TypeId) (hop:o.op=Op.range t mo) (ht:P.underlying t=some (.map k e)) (b:Nat) (m:List (Value×Value)) (hm:a.eval mo= .map (some b)) (h:je P k w b m)
  (hK: ∀w',qm P k w' b w.heap.size m []->Below w.heap.size w w'->w'.heap.size=w.heap.size+1->wpList P ops Q rest (a.put o.dst (.pointer (some ⟨w.heap.size,0,none⟩))) w'):wpList P ops Q (o::rest) a w:=by
 refine gm hg fun K' hb=> ?_
 obtain⟨w',ha,r1,r2,r3⟩:=h.range ht;unfold Oper.wp;simp[execOp,hop,hm,ha,Result.andThen];exact hb _ _ (hK w' r1 r2 r3)
theorem Bv (hg:o.guard=none) (it:Operand) (hop:o.op=Op.next it false) (b r:Nat) (m vis:List (Value×Value)) (hit:a.eval it= .pointer (some ⟨r,0,none⟩)) (h:qm P k w b r m vis)
  (hDone:vis.Perm m->wpList P ops Q rest (a.put o.dst (.tuple #[.bool false])) w)
  (hMore: ∀(key v:Value) (w':World),(key,v)∈m->(∀p∈vis,p.1≠key)->qm P k w' b r m (vis++[(key,v)])->w.grownBy w' (some r)->w'.heap.size=w.heap.size->
   (Instr.entry (.pointer (some ⟨r,0,none⟩))).run P w'= .ok (.tuple #[key,v]) w'->wpList P ops Q rest (a.put o.dst (.tuple #[.bool true,key,v])) w'):wpList P ops Q (o::rest) a w:=by
 refine gm hg fun K' hb=> ?_
 unfold Oper.wp
 rcases h.next o.type with⟨h0,ha⟩ | ⟨key,v,w',h1,h2,ha,h3,h4,h5,h6⟩
 ·simp[execOp,hop,hit,ha,Result.andThen];exact hb _ _ (hDone h0)
 ·simp[execOp,hop,hit,ha,Result.andThen];exact hb _ _ (hMore key v w' h1 h2 h3 h4 h5 h6)
theorem kB (K:Keyed P k) (hg:o.guard=none) (mo x v:Operand) (t:TypeId) (hop:o.op=Op.mapUpdate t mo x v) (ht:P.underlying t=some (.map k e)) (b:Nat) (m:List (Value×Value)) (h:je P k w b m) (hmo:a.eval mo= .map (some b)) (key val:Value) (hx:a.eval x=key) (hv:a.eval v=val) (hkey: ∃l,keyOf P k key=some l) (hnew: ∀p∈m,p.1≠key)
  (hK: ∀w',je P k w' b (m++[(key,val)])->w.grownBy w' (some b)->wpList P ops Q rest (a.put o.dst undef) w'):wpList P ops Q (o::rest) a w:=by
 refine gm hg fun K' hb=> ?_
 obtain⟨w',ha,r1,r2⟩:=h.put K ht hkey hnew val;unfold Oper.wp;simp[execOp,hop,hmo,hx,hv,ha,Result.andThen];exact hb _ _ (hK w' r1 r2)
theorem qa (K:Keyed P k) (hg:o.guard=none) (mo x v:Operand) (t:TypeId) (hop:o.op=Op.mapUpdate t mo x v) (ht:P.underlying t=some (.map k e)) (b:Nat) (m1 m2:List (Value×Value)) (key val old:Value) (h:je P k w b (m1++(key,old)::m2)) (hmo:a.eval mo= .map (some b)) (hx:a.eval x=key) (hv:a.eval v=val)
  (hK: ∀w',je P k w' b (m1++(key,val)::m2)->w.grownBy w' (some b)->wpList P ops Q rest (a.put o.dst undef) w'):wpList P ops Q (o::rest) a w:=by
 refine gm hg fun K' hb=> ?_
 obtain⟨w',ha,r1,r2⟩:=h.over K ht val;unfold Oper.wp;simp[execOp,hop,hmo,hx,hv,ha,Result.andThen];exact hb _ _ (hK w' r1 r2)
end
end Go.Proofs.YtpffpjbkbaleiaaGreatDoor
namespace Go.Proofs.YtpffpjbkbaleiaaGreatDoor
def lK :Nat->List UInt8->List Int
 | 0,_=>[]
 | n+1,l=>if l=[]then []else((Lib.decodeL l).1:Int)::lK n (l.drop (Lib.decodeL l).2)
def uk (l:List UInt8):List Int:=lK l.length l
def KT {T:Type} (f:List T->Bool):List T->Bool
 | []=>f []
 | t::us=>f (t::us) || KT f us
def Pw {T:Type} (m:T->Bool) (f:List T->Bool):List T->Bool
 | []=>false
 | t::us=>m t && f us
def dv {P T:Type} (star:P->Bool) (m:P->T->Bool):List P->List T->Bool
 | [],ts=>ts.isEmpty
 | p::ps,ts=>if star p then KT (dv star m ps) ts else Pw (m p) (dv star m ps) ts
theorem mV (l:List UInt8) (h:l≠[]):1<=(Lib.decodeL l).2/\(Lib.decodeL l).2<=l.length:=⟨Lib.decodeL_width l,Lib.decodeL_le l h⟩
theorem tz : ∀(n m:Nat) (l:List UInt8),l.length<=n->l.length<=m->lK n l=lK m l
 | 0,m,l,h,_=>by
  have:l=[]:=bt (by omega);subst this; cases m<;> simp[lK]
 | n,0,l,_,h=>by
  have:l=[]:=bt (by omega);subst this; cases n<;> simp[lK]
 | n+1,m+1,l,h1,h2=>by
  unfold lK
  split
  ·rfl
  ·rename_i hl;have:=mV l hl;rw[tz n m (l.drop (Lib.decodeL l).2) (by rw[bA]; omega) (by rw[bA]; omega)]
theorem DC (l:List UInt8) (h:l≠[]):uk l=((Lib.decodeL l).1:Int)::uk (l.drop (Lib.decodeL l).2):=by
 have h1:=mV l h;have hl:l.length=(l.length-1)+1:=by have:=List.length_pos_iff.2 h; omega
 unfold uk;rw[hl,lK,if_neg h,tz _ (l.drop (Lib.decodeL l).2).length (l.drop (Lib.decodeL l).2) (by rw[bA]; omega) (au _)]
theorem qM : ∀(n:Nat) (l:List UInt8),(lK n l).length<=n
 | 0,_=>by simp[lK]
 | n+1,l=>by
  unfold lK
  split
  ·simp
  ·have:=qM n (l.drop (Lib.decodeL l).2); simp; omega
theorem yB (l:List UInt8):(uk l).length<=l.length:=qM _ _
theorem mp {a b:UInt8} (h:il a=il b):a=b:=by
 unfold il at h
 split at h<;> split at h
 ·simp[*]
 ·omega
 ·omega
 ·apply gH.1; omega
theorem Mp (a:UInt8) (h:a≠47):0<=il a:=by unfold il; rw[if_neg h]; omega
theorem Pv : ∀(a b:List UInt8),fg a b= -1\/fg a b=0\/fg a b=1
 | [],[]=>by simp[fg]
 | [],_::_=>by simp[fg]
 | _::_,[]=>by simp[fg]
 | a::l,b::r=>by
  unfold fg
  split
  ·exact Pv l r
  ·unfold Lib.compareInt; split
   ·simp
   ·split<;> simp
theorem AN : ∀(a b:List UInt8),fg b a= -fg a b
 | [],[]=>by simp[fg]
 | [],_::_=>by simp[fg]
 | _::_,[]=>by simp[fg]
 | a::l,b::r=>by
  unfold fg
  by_cases h:a=b
  ·rw[if_pos h,if_pos h.symm]; exact AN l r
  ·rw[if_neg h,if_neg (kK h)];have:il a≠il b:=fun e=>h (mp e)
   unfold Lib.compareInt
   rcases Int.lt_trichotomy (il a) (il b)with h1 | h1 | h1
   ·rw[if_neg (by omega),if_pos (by omega),if_pos h1]; rfl
   ·exact absurd h1 this
   ·rw[if_pos (by omega),if_neg (by omega),if_pos (by omega)]
theorem Ca : ∀(a b:List UInt8),fg a b=0<->a=b
 | [],[]=>by simp[fg]
 | [],_::_=>by simp[fg]
 | _::_,[]=>by simp[fg]
 | a::l,b::r=>by
  unfold fg
  by_cases h:a=b
  ·rw[if_pos h,Ca l r]; simp[h]
  ·rw[if_neg h];have:il a≠il b:=fun e=>h (mp e)
   unfold Lib.compareInt
   constructor
   ·intro e; split at e
    ·omega
    ·split at e<;> omega
   ·intro e; simp at e; exact absurd e.1 h
theorem yV : ∀(a b c:List UInt8),fg a b<=0->fg b c<=0->fg a c<=0/\(fg a c=0->fg a b=0/\fg b c=0)
 | [],b,[],h1,h2=>by
  cases b with
  | nil=>simp[fg]
  | cons x b=>simp[fg]at h2
 | [],_,_::_,_,_=>by simp[fg]
 | _::_,[],_,h1,_=>by simp[fg]at h1
 | x::a,y::b,[],_,h2=>by simp[fg]at h2
 | x::a,y::b,z::c,h1,h2=>by
  unfold fg at h1 h2 ⊢
  by_cases hxy:x=y
  ·subst hxy;rw[if_pos rfl]at h1 ⊢
   by_cases hxz:x=z
   ·subst hxz;rw[if_pos rfl]at h2 ⊢;rw[if_pos rfl];exact yV a b c h1 h2
   ·rw[if_neg hxz]at h2 ⊢;rw[if_neg hxz];refine⟨h2,fun e=> ?_⟩
    exfalso
    have:il x≠il z:=fun e=>hxz (mp e)
    unfold Lib.compareInt at e
    split at e
    ·omega
    ·split at e<;> omega
  ·rw[if_neg hxy]at h1 ⊢;have n1:il x≠il y:=fun e=>hxy (mp e)
   have l1:il x<il y:=by
    unfold Lib.compareInt at h1
    split at h1
    ·assumption
    ·split at h1
     ·omega
     ·omega
   by_cases ha:y=z
   ·subst ha;rw[if_neg hxy];refine⟨h1,fun e=> ?_⟩
    exfalso
    unfold Lib.compareInt at e;rw[if_pos l1]at e; omega
   ·rw[if_neg ha]at h2;have n2:il y≠il z:=fun e=>ha (mp e)
    have l2:il y<il z:=by
     unfold Lib.compareInt at h2
     split at h2
     ·assumption
     ·split at h2<;> omega
    have n3:x≠z:=fun e=>by subst e; omega
    rw[if_neg n3];unfold Lib.compareInt;rw[if_pos (by omega)];exact⟨by omega,fun e=>by omega⟩
theorem AM : ∀(p q:List UInt8),fg p (p++q)<=0
 | [],[]=>by simp[fg]
 | [],_::_=>by simp[fg]
 | a::p,q=>by rw[aM,fg,if_pos rfl]; exact AM p q
theorem uG : ∀(d b r:List UInt8),fg d b<=0->fg b (d++47::r)<=0->b=d\/ ∃s,b=d++47::s
 | [],[],_,_,_=> .inl rfl
 | [],x::b,r,_,h2=>by
  by_cases hx:x=47
  ·exact .inr ⟨b,by simp[hx]⟩
  ·rw[aL,fg,if_neg hx]at h2;have h3:=Mp x hx;have h4:il 47= -1:=rfl;unfold Lib.compareInt at h2;rw[h4,if_neg (by omega),if_pos (by omega)]at h2;omega
 | y::d,[],_,h1,_=>by simp[fg]at h1
 | y::d,x::b,r,h1,h2=>by
  rw[aM]at h2;unfold fg at h1 h2
  by_cases hxy:y=x
  ·subst hxy;rw[if_pos rfl]at h1 h2
   rcases uG d b r h1 h2 with h | ⟨s,h⟩
   ·exact .inl (by rw[h])
   ·exact .inr ⟨s,by rw[h]; rfl⟩
  ·rw[if_neg hxy]at h1;rw[if_neg (kK hxy)]at h2;have n1:il y≠il x:=fun e=>hxy (mp e)
   unfold Lib.compareInt at h1 h2
   split at h1
   ·split at h2
    ·omega
    ·first | omega | (split at h2<;> omega)
   ·first | omega | (split at h1<;> omega)
theorem sE (k n:Nat) (z:Int) (h:z=((k+n:Nat):Int)):UInt8.ofNat k+UInt8.ofNat n=UInt8.ofNat z.toNat:=by
 subst h; rw[eE,UInt8.ofNat_add]
theorem Ey (r:Nat):(Utf8.encode (r:Int)).data.toList=Lib.encodeRune (r:Int):=by
 unfold Lib.encodeRune
 by_cases c1:r<128
 ·have v:Utf8.valid (r:Int)=true:=by simp[Utf8.valid]; omega
  rw[Lib.encodeRuneZ_one (by omega) (by omega)]; simp[Utf8.encode,v,c1]
 by_cases c2:r<2048
 ·have v:Utf8.valid (r:Int)=true:=by simp[Utf8.valid]; omega
  rw[Lib.encodeRuneZ_two (by omega) (by omega)]; simp[Utf8.encode,v,c1,c2]; exact⟨sE 192 _ _ (by omega),sE 128 _ _ (by omega)⟩
 by_cases hb:(55296<=r/\r<=57343)\/1114111<r
 ·have v:Utf8.valid (r:Int)=false:=by simp[Utf8.valid]; omega
  rw[Lib.encodeRuneZ_bad (by omega)]; simp[Utf8.encode,v,Utf8.runeError]
 by_cases c3:r<65536
 ·have v:Utf8.valid (r:Int)=true:=by simp[Utf8.valid]; omega
  rw[Lib.encodeRuneZ_three (by omega)]; simp[Utf8.encode,v,c1,c2,c3]; exact⟨sE 224 _ _ (by omega),sE 128 _ _ (by omega),sE 128 _ _ (by omega)⟩
 ·have v:Utf8.valid (r:Int)=true:=by simp[Utf8.valid]; omega
  rw[Lib.encodeRuneZ_four (by omega) (by omega)]; simp[Utf8.encode,v,c1,c2,c3]; exact⟨sE 240 _ _ (by omega),sE 128 _ _ (by omega),sE 128 _ _ (by omega),sE 128 _ _ (by omega)⟩
def Bl (l:List UInt8):List UInt8:=(uk l).flatMap Lib.encodeRune
theorem Bm :Bl []=[]:=rfl
theorem Dx (l:List UInt8) (h:l≠[]):Bl l=Lib.encodeRune ((Lib.decodeL l).1:Int)++Bl (l.drop (Lib.decodeL l).2):=by
 unfold Bl; rw[DC l h,bq]
theorem wA (r:Int):(Lib.encodeRune r).length<=4:=by
 have:=(Lib.encodeRuneZ_length r).2; simpa [Lib.encodeRune]using this
theorem GR : ∀(n:Nat) (l:List UInt8),l.length<=n->l.length<=(Bl l).length/\(Bl l=l<->Lib.validD l=true)
 | 0,l,h=>by
  have:l=[]:=bt (by omega);subst this;exact⟨by simp,by simp[Bm,Lib.validD_nil]⟩
 | n+1,l,h=>by
  by_cases hl:l=[]
  ·subst hl;exact⟨by simp,by simp[Bm,Lib.validD_nil]⟩
  ·have hw:=mV l hl;obtain⟨ih1,ih2⟩:=GR n (l.drop (Lib.decodeL l).2) (by rw[bA]; omega);rw[bA]at ih1;rw[Dx l hl,Lib.validD_step l hl]
   by_cases hb:(Lib.decodeL l).1=65533/\(Lib.decodeL l).2=1
   ·have e3:(Lib.encodeRune ((Lib.decodeL l).1:Int)).length=3:=by rw[hb.1]; rfl
    rw[if_pos hb];refine⟨by rw[ar,e3]; omega,⟨fun e=> ?_,fun e=>by cases e⟩⟩;have:=congrArg List.length e;rw[ar,e3]at this;omega
   ·rw[if_neg hb,Lib.encode_decode l hl hb];refine⟨by rw[ar,bm]; omega, ?_⟩;rw[<-ih2]
    constructor
    ·intro e;have h2:l.take (Lib.decodeL l).2++Bl (l.drop (Lib.decodeL l).2)=l.take (Lib.decodeL l).2++l.drop (Lib.decodeL l).2:=by rw[dx]; exact e
     exact List.append_cancel_left h2
    ·intro e; rw[e,dx]
theorem JG (l:List UInt8):(Bl l == l)=Lib.validD l:=by
 rw[dk,jU]; exact(GR l.length l (au _)).2
theorem Cc (l:List UInt8):((dd 47 l).length == 1)= !l.contains 47:=by
 by_cases h:(47:UInt8)∈l
 ·obtain⟨p,q,rfl,hp⟩:=zr l 47 h;have:=sw 47 q;rw[mB 47 p q hp];have h2:((p::dd 47 q).length == 1)=false:=by rw[gV]; simp; exact px 47 q
  rw[h2]; simp
 ·rw[gq 47 l h]; simp[h]
theorem DU (ps:List (List UInt8)) (p:List UInt8):jI (ps++[p])=if ps=[]then p else jI ps++[47]++p:=by
 cases ps with
 | nil=>simp[jI,Lib.join_one]
 | cons q ps=>
  simp only[aM,jI,Lib.join_cons,if_neg (List.cons_ne_nil q ps)];have: ∀(l:List (List UInt8)),Lib.joinTail [47] (l++[p])=Lib.joinTail [47] l++47::p:=by
   intro l
   induction l with
   | nil=>simp[Lib.joinTail]
   | cons a l _=>simp only[aM,Lib.joinTail]; simp
  rw[this]; simp
theorem Cb {p:List UInt8} (h:iK p=true):p≠[]/\p≠[46]/\p≠[46,46]/\47∉p:=by
 simp only[iK,aJ]at h;obtain⟨⟨⟨⟨⟨h1,_⟩,h2⟩,h3⟩,h4⟩,_⟩:=h;exact⟨by simpa using h1,by simpa using h2,by simpa using h3,by simpa using h4⟩
theorem qQ {l:List UInt8} (h:dB l=true): ∀p∈dd 47 l,iK p=true:=by
 simp only[dB,aJ]at h;exact cz.1 h.2
open Go.RowKit
structure dj where
 path:ByteArray
 kind:Int
 mode:Int
 time:Int
 data:List UInt8
 link:ByteArray
deriving DecidableEq
def oT (l:List UInt8):Bool:=decide (1<=l.length) && decide (l.length<=512) && !l.contains 0
def kZ (e:dj):Bool:=
 if e.kind=1 then decide (e.data.length<=1048576) && decide (e.link.size=0)
 else if e.kind=2 then decide (e.data.length=0) && decide (e.link.size=0)
 else if e.kind=3 then decide (e.data.length=0) && oT (bl e.link)
 else false
def oS (e:dj):Bool:=decide (0<=e.mode) && decide (e.mode<=511) && decide (0<=e.time)
def gX (e:dj):Bool:=dB (bl e.path) && oS e && kZ e
def kM (L:List dj) (p:ByteArray):Option dj:=L.find? fun e=>decide (e.path=p)
def nt (L:List dj) (p:List UInt8):Int:=if p=[]then 0 else match kM L ⟨p.toArray⟩with
 | none=>4
 | some e=>if e.kind=2 then 0 else 13
def nN (a b:dj):Int:=fg (bl a.path) (bl b.path)
def nH (pre:List dj) (e:dj):Bool:=match pre.getLast? with
 | none=>true
 | some f=>decide (nN f e<0)
def fP (pre:List dj) (e:dj):Int:=if(gX e && nH pre e)=true then nt pre (cu (bl e.path))else 1
def oL :List dj->List dj->Int
 | _,[]=>0
 | pre,e::r=>if fP pre e=0 then oL (pre++[e]) r else fP pre e
def iq (L:List dj):Int:=if 4096<L.length then 2 else oL [] L
theorem GO {p:ByteArray} {l:List UInt8} (h:bl p=l):p=⟨l.toArray⟩:=jP (by rw[h]; simp[bl])
theorem wh (a b:dj):nN b a= -nN a b:=AN _ _
theorem oY {a b:dj} :nN a b=0<->a.path=b.path:=by
 unfold nN; rw[Ca]; exact⟨jP,fun h=>by rw[h]⟩
theorem rG {a b c:dj} (h1:nN a b<0) (h2:nN b c<0):nN a c<0:=by
 obtain⟨h3,h4⟩:=yV (bl a.path) (bl b.path) (bl c.path) (by unfold nN at h1; omega) (by unfold nN at h2; omega)
 rcases Int.lt_or_eq_of_le h3 with h | h
 ·exact h
 ·have:=(h4 h).1; unfold nN at h1; omega
def jc (L:List dj):Prop:=L.Pairwise fun a b=>nN a b<0
theorem jc.nodup {L:List dj} (h:jc L):(L.map dj.path).Nodup:=by
 unfold List.Nodup;rw[gM];exact List.Pairwise.imp (fun h e=>by have:=oY.2 e; omega) h
theorem jc.filter {L:List dj} (h:jc L) (p:dj->Bool):jc (L.filter p):=List.Pairwise.filter p h
theorem qN : ∀ {L M:List dj},jc L->jc M->L.Perm M->L=M
 | [],M,_,_,hp=>by rw[List.nil_perm.1 hp]
 | a::L,[],_,_,hp=>by exact absurd hp.length_eq (by simp)
 | a::L,b::M,hl,hm,hp=>by
  obtain⟨hl1,hl2⟩:=fA.1 hl;obtain⟨hm1,hm2⟩:=fA.1 hm;have hab:a=b:=by
   have h1:a∈b::M:=hp.subset (by simp);have h2:b∈a::L:=hp.symm.subset (by simp)
   rcases bh.1 h1 with h1 | h1
   ·exact h1
   ·rcases bh.1 h2 with h2 | h2
    ·exact h2.symm
    ·have h3:=hm1 a h1;have h4:=hl1 b h2;have h5:=wh a b;omega
  subst hab;rw[qN hl2 hm2 hp.cons_inv]
theorem rT {L:List dj} {p:ByteArray} {e:dj} (h:kM L p=some e):e∈L/\e.path=p:=by
 unfold kM at h;exact⟨dL h,by have:=jq h; simpa using this⟩
theorem wH {L:List dj} {p:ByteArray} (h:kM L p=none): ∀e∈L,e.path≠p:=by
 unfold kM at h;rw[eS]at h;intro e he hp;exact h e he (by simp[hp])
theorem tY {L:List dj} (hn:(L.map dj.path).Nodup) {e:dj} (he:e∈L):kM L e.path=some e:=by
 cases h:kM L e.path with
 | none=>exact absurd rfl (wH h e he)
 | some f=>
  obtain⟨h1,h2⟩:=rT h;have:f=e:=by
   unfold List.Nodup at hn;rw[gM,List.pairwise_iff_getElem]at hn;obtain⟨i,hi,rfl⟩:=dT h1;obtain⟨j,hj,rfl⟩:=dT he
   by_cases hb:i=j
   ·subst hb; rfl
   ·exfalso
    rcases Nat.lt_or_gt_of_ne hb with ha | ha
    ·exact hn i j hi hj ha h2
    ·exact hn j i hj hi ha h2.symm
  rw[this]
structure yM (L : List dj) : Prop where
 ord:jc L
 val: ∀e∈L,gX e=true
 up: ∀e∈L,nt L (cu (bl e.path))=0
 len:L.length<=4096
theorem yM.nil :yM []:=⟨ff,by simp,by simp,by simp⟩
theorem yM.nodup {L:List dj} (h:yM L):(L.map dj.path).Nodup:=h.ord.nodup
theorem cY {e:dj} (h:gX e=true):dB (bl e.path)=true:=by
 unfold gX at h; simp only[aJ]at h; exact h.1.1
theorem xQ {l:List UInt8} (h:dB l=true):l≠[]:=by
 intro e; subst e; exact absurd h (by decide)
theorem mu {l:List UInt8} (h:dB l=true):l.length<=512:=by
 simp only[dB,aJ,aK]at h; exact h.1.1
theorem tU {L:List dj} {p:List UInt8} (h:nt L p=0) (hp:p≠[]): ∃f∈L,bl f.path=p/\f.kind=2:=by
 unfold nt at h;rw[if_neg hp]at h
 cases hf:kM L ⟨p.toArray⟩with
 | none=>rw[hf]at h; simp at h
 | some f=>
  rw[hf]at h;simp only at h;obtain⟨h1,h2⟩:=rT hf
  split at h
  ·exact⟨f,h1,by rw[h2]; simp[bl],by assumption⟩
  ·simp at h
theorem vE {L:List dj} (hn:(L.map dj.path).Nodup) {p:List UInt8} (h:p=[]\/ ∃f∈L,bl f.path=p/\f.kind=2):nt L p=0:=by
 unfold nt
 by_cases hp:p=[]
 ·rw[if_pos hp]
 ·rw[if_neg hp]
  rcases h with h | ⟨f,h1,h2,h3⟩
  ·exact absurd h hp
  ·have:f.path=⟨p.toArray⟩:=GO h2;rw[<-this,tY hn h1];simp only[if_pos h3]
theorem sF {d q r:List UInt8} (h:q=d++47::r):cu q=d\/ ∃s,cu q=d++47::s:=by
 obtain⟨p,t,hq,ht⟩:=nT q (by rw[h]; simp);have ha:cu q=p:=by rw[hq]; exact lx p t ht
 rw[ha];have he:p++47::t=d++47::r:=by rw[<-hq,h]
 rcases List.append_eq_append_iff.1 he with⟨a,h1,h2⟩ | ⟨a,h1,h2⟩
 ·cases a with
  | nil=>left; simpa using h1.symm
  | cons x a=>
   exfalso
   rw[aM,fi]at h2
   apply ht
   rw[h2.2];simp
 ·cases a with
  | nil=>left; simpa using h1
  | cons x a=>
   right
   rw[aM,fi]at h2;exact⟨a,by rw[h1,<-h2.1]⟩
theorem fx {l:List UInt8} (h:dB l=true):(cu l).length<l.length:=by
 by_cases hm:(47:UInt8)∈l
 ·obtain⟨p,t,hq,ht⟩:=nT l hm;have:cu l=p:=by rw[hq]; exact lx p t ht
  rw[this,hq]; simp
 ·rw[nX l hm];have:=xQ h
  cases l with
  | nil=>exact absurd rfl this
  | cons=>simp
def Ow (M:List dj) (x:dj):Prop:=cu (bl x.path)=[]\/ ∃f∈M,bl f.path=cu (bl x.path)/\f.kind=2
theorem FN {L:List dj} {x:dj} (h:nt L (cu (bl x.path))=0):Ow L x:=by
 by_cases hp:cu (bl x.path)=[]
 ·exact .inl hp
 ·obtain⟨f,h1,h2,h3⟩:=tU h hp;exact .inr ⟨f,h1,h2,h3⟩
theorem yM.has {L:List dj} (h:yM L) {e:dj} (he:e∈L):Ow L e:=FN (h.up e he)
theorem qE {l:List UInt8} (h:cu l≠[]): ∃t,l=cu l++47::t:=by
 by_cases hm:(47:UInt8)∈l
 ·obtain⟨p,q,rfl,hq⟩:=nT l hm;exact⟨q,by rw[lx p q hq]⟩
 ·exact absurd (nX l hm) h
theorem yZ {L M:List dj} (hm:(M.map dj.path).Nodup) (hs: ∀x∈L,x∈M) {p:List UInt8} (h:nt L p=0):nt M p=0:=by
 by_cases hp:p=[]
 ·exact vE hm (.inl hp)
 ·obtain⟨f,h1,h2,h3⟩:=tU h hp;exact vE hm (.inr ⟨f,hs f h1,h2,h3⟩)
structure Tr (L : List dj) : Prop where
 ord:jc L
 val: ∀e∈L,gX e=true
 up: ∀e∈L,nt L (cu (bl e.path))=0
theorem yw {e f:dj} (hv:gX e=true) (hp:cu (bl e.path)≠[]) (hf:bl f.path=cu (bl e.path)):nN f e<0:=by
 obtain⟨t,ht⟩:=qE hp;have h1:nN f e<=0:=by
  unfold nN;rw[hf,ht];have:=AM (cu (bl e.path)) (47::t);have h2:cu (cu (bl e.path)++47::t)=cu (bl e.path):=by rw[<-ht]
  rw[h2]; exact this
 rcases Int.lt_or_eq_of_le h1 with h | h
 ·exact h
 ·have h2:=oY.1 h;have h3:=fx (cY hv);rw[<-hf,h2]at h3;omega
theorem Tr.pre {L M:List dj} (h:Tr (L++M)):Tr L:=by
 obtain⟨s1,s2,s3⟩:=eo.1 h.ord;refine⟨s1,fun e he=>h.val e (by simp[he]),fun e he=> ?_⟩;have hu:=FN (h.up e (by simp[he]));refine vE (jc.nodup s1) ?_
 rcases hu with hu | ⟨f,h1,h2,h3⟩
 ·exact .inl hu
 ·by_cases hp:cu (bl e.path)=[]
  ·exact .inl hp
  ·right
   have hb:=yw (h.val e (by simp[he])) hp h2
   rcases aU.1 h1 with h1 | h1
   ·exact⟨f,h1,h2,h3⟩
   ·have h4:=s3 e he f h1;have h5:=wh e f;omega
theorem vP {pre:List dj} (hs:jc pre) {e:dj} :nH pre e=true<->jc (pre++[e]):=by
 unfold nH
 cases hl:pre.getLast? with
 | none=>
  rw[List.getLast?_eq_none_iff]at hl;subst hl;simp[jc]
 | some f=>
  obtain⟨ys,hy⟩:=List.getLast?_eq_some_iff.1 hl;simp only[aK]
  constructor
  ·intro h;refine eo.2 ⟨hs,by simp,fun a ha b hb=> ?_⟩;simp only[aQ]at hb;subst hb;rw[hy]at ha hs
   rcases aU.1 ha with ha | ha
   ·exact rG ((eo.1 hs).2.2 a ha f (by simp)) h
   ·simp only[aQ]at ha; subst ha; exact h
  ·intro h;exact(eo.1 h).2.2 f (by rw[hy]; simp) e (by simp)
theorem qo {pre:List dj} (h:Tr pre) (e:dj):fP pre e=0<->Tr (pre++[e]):=by
 unfold fP
 constructor
 ·intro hc
  split at hc
  ·rename_i ha;rw[aJ]at ha;have hs:=(vP h.ord).1 ha.2;have hm: ∀x∈pre,x∈pre++[e]:=fun x hx=>by simp[hx]
   refine⟨hs,fun x hx=> ?_,fun x hx=> ?_⟩
   ·rcases aU.1 hx with hx | hx
    ·exact h.val x hx
    ·simp only[aQ]at hx; subst hx; exact ha.1
   ·rcases aU.1 hx with hx | hx
    ·exact yZ hs.nodup hm (h.up x hx)
    ·simp only[aQ]at hx; subst hx; exact yZ hs.nodup hm hc
  ·simp at hc
 ·intro ht;have hv:=ht.val e (by simp);rw[if_pos (by rw[hv,(vP h.ord).2 ht.ord]; rfl)];refine vE h.ord.nodup ?_
  rcases FN (ht.up e (by simp))with hu | ⟨f,h1,h2,h3⟩
  ·exact .inl hu
  ·rcases aU.1 h1 with h1 | h1
   ·exact .inr ⟨f,h1,h2,h3⟩
   ·simp only[aQ]at h1;subst h1;have:=fx (cY hv);rw[<-h2]at this; omega
theorem vV : ∀ {r pre:List dj},Tr pre->(oL pre r=0<->Tr (pre++r))
 | [],pre,h=>by simp only[oL,cj]; exact⟨fun _=>h,fun _=>trivial⟩
 | e::r,pre,h=>by
  have h1:=qo h e;rw[oL]
  split
  ·rename_i hc;have:=vV (r:=r) (h1.1 hc);rw[this]; simp
  ·rename_i hc
   constructor
   ·intro h2; exact absurd h2 hc
   ·intro h2;have h3:Tr (pre++[e]):=Tr.pre (M:=r) (by simpa using h2);exact absurd (h1.2 h3) hc
theorem pD {L:List dj} :iq L=0<->yM L:=by
 unfold iq
 split
 ·rename_i h;exact⟨fun h2=>by simp at h2,fun h2=>by have:=h2.len; omega⟩
 ·rename_i h;rw[vV (r:=L) (pre:=[]) ⟨ff,by simp,by simp⟩,aL];exact⟨fun t=>⟨t.ord,t.val,t.up,by omega⟩,fun t=>⟨t.ord,t.val,t.up⟩⟩
theorem nE {p:ByteArray} :p.size=0<->bl p=[]:=by rw[bi]; exact List.length_eq_zero_iff
def u8V (b:UInt8):Value:= .int .u8 (b.toNat:Int)
def dJ (S:Nat->Prop) (w:World) (v:Value) (bs:List UInt8):Prop:=cE S w 1 v bs.length (bs.map u8V)
theorem dJ.below {S:Nat->Prop} {w w':World} {v:Value} {bs:List UInt8} (h:dJ S w v bs) (hb:Below w.heap.size w w'):dJ S w' v bs:=cE.below h (by omega) hb
theorem dJ.nil (S:Nat->Prop) (w:World):dJ S w (.slice none 0 0) []:=cE.nil _ _ _
def wD (v:Value) (e:dj):Value:= .agg #[.string e.path, .int .i64 e.kind, .int .i64 e.mode, .int .i64 e.time,v, .string e.link]
def vl (v:Value) (e:dj):List Value:=[.string e.path, .int .i64 e.kind, .int .i64 e.mode, .int .i64 e.time,v, .string e.link]
structure jE (e : dj) : Prop where
 pth:e.path.size<=maxLen
 lnk:e.link.size<=maxLen
 knd:(Lit.int .i64 e.kind).wf=true
 mde:(Lit.int .i64 e.mode).wf=true
 tim:(Lit.int .i64 e.time).wf=true
def lX (S:Nat->Prop) (w:World) (c:List Value) (e:dj):Prop:= ∃v,c=vl v e/\dJ S w v e.data/\jE e
theorem lX.len {S:Nat->Prop} {w:World} (c:List Value) (e:dj) (h:lX S w c e):c.length=6:=by obtain⟨v,rfl,_⟩:=h; rfl
theorem lX.below {S:Nat->Prop} {w w':World} {c:List Value} {e:dj} (h:lX S w c e) (hb:Below w.heap.size w w'):lX S w' c e:=by
 obtain⟨v,h1,h2,h3⟩:=h;exact⟨v,h1,h2.below hb,h3⟩
def dP (S:Nat->Prop) (w:World) (v:Value) (l:List dj):Prop:=cL S w 6 (lX S w) v l
theorem dP.below {S:Nat->Prop} {w w':World} {v:Value} {l:List dj} (h:dP S w v l) (hb:Below w.heap.size w w'):dP S w' v l:=
 cL.below h (by omega) hb (fun _ _ _ hr=>hr.below hb)
theorem dP.nil (S:Nat->Prop) (w:World):dP S w (.slice none 0 0) []:=cL.nil
theorem iF {S:Nat->Prop} {w:World} {a:Option Addr} {n cap:Nat} {l:List dj} (hv:dP S w (.slice a n cap) l) {k:Nat} {e:dj} (hr:l[k]? =some e):
  ∃b o v,a=some ⟨b,o,none⟩/\S b/\b<w.heap.size/\dJ S w v e.data/\jE e/\n=l.length/\w.cell? ⟨b,o+k*6,none⟩=some (.string e.path)/\w.cell? ⟨b,o+k*6+1,none⟩=some (.int .i64 e.kind)/\w.cell? ⟨b,o+k*6+2,none⟩=some (.int .i64 e.mode)/\w.cell? ⟨b,o+k*6+3,none⟩=some (.int .i64 e.time)/\w.cell? ⟨b,o+k*6+4,none⟩=some v/\w.cell? ⟨b,o+k*6+5,none⟩=some (.string e.link):=by
 obtain⟨a',cap',he,hn,hm,hg⟩:=cL.shape hv lX.len;simp only[cS]at he;obtain⟨rfl,rfl,rfl⟩:=he;obtain⟨b,o,c,ha,hb,⟨v,hc,hd,hh⟩,hl,hj⟩:=hg k e hr;subst hc;have hf:=hj 0 (by omega);exact⟨b,o,v,ha,hb,bS (hf.trans rfl),hd,hh,rfl,hf,by have h:=hj 1 (by omega); rwa [<-df]at h,by have h:=hj 2 (by omega); rwa [<-df]at h,by have h:=hj 3 (by omega); rwa [<-df]at h,by have h:=hj 4 (by omega); rwa [<-df]at h,by have h:=hj 5 (by omega); rwa [<-df]at h⟩
open Go Go.RowKit Go.Maps
abbrev oV :=Value×dj
theorem fX :Keyed Tryz.prog 9:=string_keyed dR
theorem iy {n:ByteArray} (h:n.size<=maxLen): ∃l,keyOf Tryz.prog 9 (.string n)=some l:=⟨.string n.data.toList,by simp[keyOf,mapKey,Tryz.underlying9,h]⟩
section
variable {S S' : Nat → Prop} {w w' : World} {mb : Nat} {xs : List oV}
end
def PL :Value:= .agg #[.string ByteArray.empty, .int .i64 0, .int .i64 0, .int .i64 0, .slice none 0 0, .string ByteArray.empty]
section
variable {S S' : Nat → Prop} {w w' : World} {tb mb : Nat} {L : List dj}
end
end Go.Proofs.YtpffpjbkbaleiaaGreatDoor
namespace Go.Proofs.YtpffpjbkbaleiaaGreatDoor
open Go.RowKit
theorem aA {w:World} {b k:Nat} {cs:Array Value} {t:TypeId} {x:Nat×Nat} (h:w.heap[b]? =some (.cells cs t x)):w.cell? ⟨b,k,none⟩=cs[k]? :=by simp[World.cell?,h]
theorem CD (s:ByteArray) (w:World):Calls Tryz.prog 136 #[.string s, .int .u8 0] w fun e w'=>e= .returned (.int .i64 (Lib.indexByte (bl s) 0))/\w=w':=
 (Tryz.strings_IndexByte s 0 w).mono fun _ _ ⟨he,hw⟩=>⟨he,hw.symm⟩
theorem yG (s:ByteArray) (w:World) (hs:s.size<=maxLen):Calls Tryz.prog 149 #[.string s] w fun e w'=>e= .returned (.bool (oT (bl s)))/\w=w':=by
 unfold maxLen at hs;have HX:=an (show oT (bl s)=(decide (1<=s.size) && decide (s.size<=512) && !(bl s).contains 0) by unfold oT; rw[bi]);have HI:=an (ln (bl s) 0)
 go_enter Tryz.func149,Tryz.ntmps149
 go_wp2_with (go_at_call 136; refine(CD s _).mono ?_; rintro e w3 ⟨rfl,rfl⟩)
 ·go_ret;refine⟨bY ?_,rfl⟩;have z1:decide (1<=s.size)=true:=by simp; omega
  have z2:decide (s.size<=512)=true:=by simp; omega
  rw[HX.o,z1,z2,<-HI.o];rw[dk];simp
 ·go_ret;refine⟨bY ?_,rfl⟩;have z2:decide (s.size<=512)=false:=by simp; omega
  rw[HX.o,z2];simp
 ·go_ret;refine⟨bY ?_,rfl⟩;have z1:decide (1<=s.size)=false:=cD (by omega);rw[HX.o,z1];simp
theorem sy (s:ByteArray) (b:Bool) (w:World) (he:og w) (h:dB (bl s)=b):Calls Tryz.prog 119 #[.string s] w fun e w'=>e= .returned (.bool b)/\Below w.heap.size w w':=by
 rw[<-h]; exact uu s w he
theorem FP (S:Nat->Prop) (en:dj) (v:Value) (w:World) (hd:dJ S w v en.data) (hok:jE en) (henv:og w):Calls Tryz.prog 117 #[wD v en] w fun e w'=>e= .returned (.bool (gX en))/\Below w.heap.size w w':=by
 obtain⟨_,a,cap,rfl,hc,hm,-⟩:=hd;unfold maxLen at hm;have HE:=an henv;have HO:=an hok;have hp:=hok.pth;have hq:=hok.lnk;unfold maxLen at hp hq;have HL:=an (show en.link.toList.isEmpty=decide (en.link.size=0) by rw[eB,bi,dk]; simp);clear henv hok;unfold wD
 cases hv:dB (bl en.path)
 ·have hk:=an hv;clear hv
  go_enter Tryz.func117,Tryz.ntmps117
  go_wp2_with fail;obtain⟨W,hW⟩: ∃W,W=w.alloc (.cells #[.string en.path, .int .i64 en.kind, .int .i64 en.mode, .int .i64 en.time, .slice a en.data.length cap, .string en.link] 79):=⟨_,rfl⟩;rw[<-hW];have hg:=an (show Below w.heap.size w W by rw[hW]; exact eN);have hh:=an (show W.heap[w.heap.size]? =some (.cells #[.string en.path, .int .i64 en.kind, .int .i64 en.mode, .int .i64 en.time, .slice a en.data.length cap, .string en.link] 79 (0,0)) by rw[hW]; exact aH w _)
  clear hW;refine(sy en.path false _ (HE.o.below hg.o) hk.o).mono ?_;rintro e w1 ⟨rfl,he⟩;have ha:=an (aw hg.o he);clear he;go_wp2_with fail;go_ret;exact⟨bY (by simp[gX,hk.o]),ha.o⟩
 ·have hk:=an hv;clear hv
  by_cases ho:0<=en.mode/\en.mode<=511/\0<=en.time
  ·have HH:=an (show gX en=kZ en by obtain⟨x1,x2,x3⟩:=ho; unfold gX oS; rw[hk.o]; simp[x1,x2,x3]);obtain⟨hr,hs,hu⟩:=ho
   go_enter Tryz.func117,Tryz.ntmps117
   go_wp2_with fail;obtain⟨W,hW⟩: ∃W,W=w.alloc (.cells #[.string en.path, .int .i64 en.kind, .int .i64 en.mode, .int .i64 en.time, .slice a en.data.length cap, .string en.link] 79):=⟨_,rfl⟩;rw[<-hW];have hg:=an (show Below w.heap.size w W by rw[hW]; exact eN);have hh:=an (show W.heap[w.heap.size]? =some (.cells #[.string en.path, .int .i64 en.kind, .int .i64 en.mode, .int .i64 en.time, .slice a en.data.length cap, .string en.link] 79 (0,0)) by rw[hW]; exact aH w _)
   clear hW;refine(sy en.path true _ (HE.o.below hg.o) hk.o).mono ?_;rintro e w1 ⟨rfl,he⟩;have hb:=an ((he.block w.heap.size ((aP.1 hh.o).1)).trans hh.o);have ha:=an (aw hg.o he);have hn:w.heap.size<w1.heap.size:=(aP.1 hb.o).1;obtain⟨c0,c1,c2,c3,c4,c5,_⟩:=aT hb.o;clear he hh
   by_cases hf:en.kind=1
   ·have e1:(en.kind == 1)=true:=by simp[hf]
    have HK:=an (show kZ en=(decide (en.data.length<=1048576) && decide (en.link.size=0)) by unfold kZ; rw[if_pos hf]);clear hf;go_wp2_with fail
    ·go_ret;refine⟨bY ?_,ha.o⟩;rw[HH.o,HK.o,HL.o,cO (p:=en.data.length<=1048576) (by omega)]
     rfl
    ·go_ret;refine⟨bY ?_,ha.o⟩;rw[HH.o,HK.o,cD (p:=en.data.length<=1048576) (by omega)]
     rfl
   ·have e1:(en.kind == 1)=false:=by simp[hf]
    by_cases hj:en.kind=2
    ·have e2:(en.kind == 2)=true:=by simp[hj]
     have HK:=an (show kZ en=(decide (en.data.length=0) && decide (en.link.size=0)) by unfold kZ; rw[if_neg hf,if_pos hj]);clear hf hj;go_wp2_with fail
     ·go_ret;refine⟨bY ?_,ha.o⟩;rw[HH.o,HK.o,HL.o,cO (p:=en.data.length=0) (by rw[show en.data=[] by assumption]; rfl)]
      rfl
     ·go_ret;refine⟨bY ?_,ha.o⟩;rw[HH.o,HK.o,cD (p:=en.data.length=0) (fun h=>absurd (bt h) (by assumption))]
      rfl
    ·have e2:(en.kind == 2)=false:=by simp[hj]
     by_cases hl:en.kind=3
     ·have e3:(en.kind == 3)=true:=by simp[hl]
      have HK:=an (show kZ en=(decide (en.data.length=0) && oT (bl en.link)) by unfold kZ; rw[if_neg hf,if_neg hj,if_pos hl]);clear hf hj hl;go_wp2_with (go_at_call 149; refine(yG en.link _ HO.o.lnk).mono ?_; rintro e w3 ⟨rfl,rfl⟩)
      ·go_ret;refine⟨bY ?_,ha.o⟩;rw[HH.o,HK.o,cO (p:=en.data.length=0) (by rw[show en.data=[] by assumption]; rfl)]
       rfl
      ·go_ret;refine⟨bY ?_,ha.o⟩;rw[HH.o,HK.o,cD (p:=en.data.length=0) (fun h=>absurd (bt h) (by assumption))]
       rfl
     ·have e3:(en.kind == 3)=false:=by simp[hl]
      have HK:=an (show kZ en=false by unfold kZ; rw[if_neg hf,if_neg hj,if_neg hl]);clear hf hj hl;go_wp2_with fail;go_ret;exact⟨bY (by rw[HH.o,HK.o]),ha.o⟩
  ·have HF:=an (show gX en=false by
    have:oS en=false:=by
     unfold oS; rw[fd]; simp; omega
    unfold gX; rw[this]; simp)
   go_enter Tryz.func117,Tryz.ntmps117
   go_wp2_with fail;obtain⟨W,hW⟩: ∃W,W=w.alloc (.cells #[.string en.path, .int .i64 en.kind, .int .i64 en.mode, .int .i64 en.time, .slice a en.data.length cap, .string en.link] 79):=⟨_,rfl⟩;rw[<-hW];have hg:=an (show Below w.heap.size w W by rw[hW]; exact eN);have hh:=an (show W.heap[w.heap.size]? =some (.cells #[.string en.path, .int .i64 en.kind, .int .i64 en.mode, .int .i64 en.time, .slice a en.data.length cap, .string en.link] 79 (0,0)) by rw[hW]; exact aH w _)
   clear hW;refine(sy en.path true _ (HE.o.below hg.o) hk.o).mono ?_;rintro e w1 ⟨rfl,he⟩;have hb:=an ((he.block w.heap.size ((aP.1 hh.o).1)).trans hh.o);have ha:=an (aw hg.o he);have hn:w.heap.size<w1.heap.size:=(aP.1 hb.o).1;obtain⟨c0,c1,c2,c3,c4,c5,_⟩:=aT hb.o;clear he hh;go_wp2_with fail
   all_goals first
    | (exfalso; omega)
    | (go_ret; exact⟨bY (by rw[HF.o]),ha.o⟩)
theorem IE (S:Nat->Prop) (v:Value) (bs:List UInt8) (w:World) (hd:dJ S w v bs) (hl:bs.length<=140737488355328):Calls Tryz.prog 175 #[v] w fun e w'=> ∃v',e= .returned v'/\w'.ownsRow w.heap.size 5 1 v' bs.length (bs.map u8V)/\Below w.heap.size w w':=by
 obtain⟨_,a,cap,rfl,hn,hm,h0⟩:=hd
 cases a with
 | none=>
  have hz:bs.length=0:=by
   rcases h0 with h0 | ⟨b,o,ha,_⟩
   ·exact h0
   ·cases ha
  obtain rfl:=bt hz;refine(Any.bytes_Clone_nil Tryz.laysClone _ _ w).mono ?_;rintro e w' ⟨rfl,rfl⟩;exact⟨_,rfl,bN _ _ _ _,ay _ _⟩
 | some a=>
  refine(Any.bytes_Clone_at Tryz.laysClone a bs.length cap (bs.map fun b=>(b.toNat:Int)) w (by simp) hl ?_).mono ?_
  ·intro i hi
   rcases h0 with h0 | ⟨b,o,ha,_,hc⟩
   ·omega
   ·cases ha
    rw[vA];refine hc i _ ?_;simp[hi,u8V]
  ·rintro e w' ⟨v',rfl,h1,_,h2⟩;refine⟨v',rfl, ?_,h2⟩;rw[jL]at h1;exact h1
theorem fT {w:World} {base base' size n:Nat} {e:TypeId} {v:Value} {xs:List Value} (h:w.ownsRow base e size v n xs) (hb:base'<=base):w.ownsRow base' e size v n xs:=
 ⟨h.1,h.2.imp id (fun⟨g,cap,cur,e1,h1,h2⟩=>⟨g,cap,cur,e1,aB hb h1,h2⟩)⟩
theorem qv {w:World} {b k:Nat} {cs:Array Value} {t:TypeId} (h:w.heap[b]? =some (.cells cs t (0,0))):w.frozen? ⟨b,k,none⟩=false:=by simp[World.frozen?,h]
theorem Mz {w:World} {b k:Nat} {cs:Array Value} {t:TypeId} (h:w.heap[b]? =some (.cells cs t (0,0))) (x:Value):(w.setCell ⟨b,k,none⟩ x).heap[b]? =some (.cells (cs.setIfInBounds k x) t (0,0)):=by
 simp only[World.setCell,gz,if_true,h,ep]; rfl
theorem xC {w:World} {b c k:Nat} {o:Obj} (h:w.heap[b]? =some o) (hne:b≠c) (x:Value):(w.setCell ⟨c,k,none⟩ x).heap[b]? =some o:=by
 rw[aF _ _ _ _ hne]; exact h
theorem nn {w:World} {b:Nat} {o:Obj} (h:w.heap[b]? =some o) (x:Obj):(w.alloc x).heap[b]? =some o:=by
 have ha:=(aP.1 h).1;rw[cP _ _ _ ha]; exact h
theorem dY (w:World) (x:Obj):(w.alloc x).heap[w.heap.size]? =some x:=by show(w.heap.push x)[w.heap.size]? =some x; simp
theorem pL (w:World) (x y:Obj):((w.alloc x).alloc y).heap[w.heap.size+1]? =some y:=by
 have:=dY (w.alloc x) y
 rwa [show(w.alloc x).heap.size=w.heap.size+1 by show(w.heap.push x).size=_; simp]at this
theorem lR {w:World} {b:Nat} {o:Obj} (h:w.heap[b]? =some o):b<w.heap.size:=(aP.1 h).1
open Go Go.RowKit
theorem ro {S:Nat->Prop} {w:World} {a:Option Addr} {n cap:Nat} {bs:List UInt8} (h:bG S w (.slice a n cap) bs) {s e:Nat} (hs:s<e) (he:e<=bs.length):
  ∃a' cap',(∀w',(Instr.slice 29 (.slice a n cap) (some (.int .i64 (s:Int))) (some (.int .i64 (e:Int))) none).run Tryz.prog w'= .ok (.slice a' (iT bs s e).length cap') w')/\bG S w (.slice a' (iT bs s e).length cap') (iT bs s e):=by
 obtain⟨hl,a0,cap0,hv,hn,hm,h0⟩:=h;simp only[cS]at hv;obtain⟨rfl,rfl,rfl⟩:=hv;have hz: ∀w',(sizeOf (Tryz.prog.elem 29)).run Tryz.prog w'= .ok 1 w':=fun _=>by kernel_rfl
 have ha:(iT bs s e).length=e-s:=by unfold iT; rw[bm,bA]; omega
 refine⟨if cap-s=0 then a else a.map (fun p=>p.add s),cap-s,fun w'=> ?_, ?_⟩
 ·rw[run_slice_lh _ _ _ _ _ dh .i64 .i64 (s:Int) (e:Int) (by omega) (by omega) (by omega),hz,ha];simp only[Result.andThen,sliced,eE,kf];rw[if_neg (by omega: ¬cap-s=0)]
  try rw[if_neg (by omega)]
 ·refine⟨by simp,_,_,rfl,by omega,by omega, ?_⟩
  rcases h0 with h0 | ⟨b,o,rfl,hS,hc⟩
  ·omega
  ·refine .inr ⟨b,o+s, ?_,hS,fun j x hj=> ?_⟩
   ·rw[if_neg (by omega),ep,jK]
   ·rw[df];refine hc (s+j) x ?_;unfold iT at hj;rw[List.map_take,List.map_drop,em]at hj
    split at hj
    ·rw[fz]at hj; exact hj
    ·cases hj
def Pt (k n:Nat):Prop:=k=1-> ¬1048576<n
def rN (c:fL) (n:Nat):Int:=if jJ c=true then(if 1048576<n then 2 else 0)else 1
theorem oq (c:fL) (b:Bool) (w:World) (h:jJ c=b):Calls Tryz.prog 70 #[ko c] w fun e w'=>e= .returned (.bool b)/\Below w.heap.size w w':=by rw[<-h]; exact AW c w
theorem vX (c:fL) (a:Option Addr) (n cap sb:Nat) (w:World) (hx:w.cell? ⟨sb,0,none⟩=some (.slice a n cap)) (hm:n<=maxLen):
  Calls Tryz.prog 173 #[ko c, .slice (some ⟨sb,0,none⟩) 1 1] w fun e w'=>e= .returned (.int .i64 (rN c n))/\Below w.heap.size w w':=by
 unfold maxLen at hm;have HX:=an hx;clear hx;unfold ko
 by_cases hv:jJ c=true
 ·have HV:=an hv;have HE:=an (show rN c n=if 1048576<n then 2 else 0 by unfold rN; rw[if_pos hv]);clear hv
  go_enter Tryz.func173,Tryz.ntmps173
  go_wp2_with (go_at_call 70; refine(oq c true _ HV.o).mono ?_; rintro e w1 ⟨rfl,hd⟩; have he:=an (((ay _ _).alloc (au w.heap.size) _).trans (hd.mono (by simp))); clear hd)
  go_loopw [12] (fun i wr=> ∃k:Nat,k<=1/\i= .int .i64 (k:Int)/\Below w.heap.size w wr/\Pt k n) (fun i _=>1-(intOf i).toNat)
  case atStart=>exact⟨0,by omega,rfl,he.o,fun h=>by cases h⟩
  case round=>
   obtain⟨k,hk,rfl,hb,ha⟩:=hrel;have HB:=an hb;have hf:=an ha;clear hb ha
   by_cases h0:k=0
   ·subst h0;have hc:=(HB.o.cell (bS HX.o)).trans HX.o
    by_cases hn:1048576<n
    ·have hg:(1048576:Int)<(n:Int):=by omega
     go_wp2_with fail;go_ret;exact⟨dK (by rw[HE.o,if_pos hn]),HB.o⟩
    ·have hg:(n:Int)<=1048576:=by omega
     go_wp2_with fail
     go_roundw
     case rel=>exact⟨1,by omega,by go_num,HB.o,fun _=>hn⟩
     case measure=>simp[intOf]
   ·have h1:k=1:=by omega
    subst h1;go_wp2_with fail;go_ret;exact⟨dK (by rw[HE.o,if_neg (hf.o rfl)]),HB.o⟩
 ·have HV:=an (show jJ c=false by simpa using hv);have HE:=an (show rN c n=1 by unfold rN; rw[if_neg hv]);clear hv
  go_enter Tryz.func173,Tryz.ntmps173
  go_wp2_with (go_at_call 70; refine(oq c false _ HV.o).mono ?_; rintro e w1 ⟨rfl,hd⟩; have he:=an (((ay _ _).alloc (au w.heap.size) _).trans (hd.mono (by simp))); clear hd);go_ret;exact⟨dK HE.o.symm,he.o⟩
theorem Lo (c:fL) (dv:Value) (w:World) (hd: ∃a n cap,dv= .slice a n cap):Calls Tryz.prog 174 #[ko c,dv] w fun e w'=>e= .returned (.func (.func 186) #[] #[.pointer (some ⟨w.heap.size,0,none⟩), .pointer (some ⟨w.heap.size+1,0,none⟩)])/\
  kQ c dv w.heap.size (w.heap.size+1) w'/\Below w.heap.size w w'/\w'.heap.size=w.heap.size+2:=by
 obtain⟨a,n,cap,rfl⟩:=hd;unfold ko
 go_enter Tryz.func174,Tryz.ntmps174
 go_wp2_with fail;go_ret;exact⟨rfl,⟨nn (dY w _) _,pL w _ _⟩,(eN).alloc (by simp) _,by simp⟩
structure dm where
 nm:ByteArray
 st:ByteArray
 ck:ByteArray
 ix:ByteArray
 tk:ByteArray
def dm.list (k:dm):List ByteArray:=[k.nm,k.st,k.ck,k.ix,k.tk]
def eI (k:dm):List Value:=[.string k.nm, .string k.st, .string k.ck, .string k.ix, .string k.tk]
def kt (k:dm):Value:= .agg #[.string k.nm, .string k.st, .string k.ck, .string k.ix, .string k.tk]
def jA (k:dm):Bool:=k.list.all fun s=>decide (s.size=32)
theorem Jb (k:dm) {j:Nat} (h:j<5): ∃s,k.list[j]? =some s/\(eI k)[j]? =some (.string s):=by
 have hc:j=0\/j=1\/j=2\/j=3\/j=4:=by omega
 rcases hc with rfl | rfl | rfl | rfl | rfl
 ·exact⟨_,rfl,rfl⟩
 ·exact⟨_,rfl,rfl⟩
 ·exact⟨_,rfl,rfl⟩
 ·exact⟨_,rfl,rfl⟩
 ·exact⟨_,rfl,rfl⟩
theorem yD (k:dm) (w:World):Calls Tryz.prog 115 #[kt k] w fun e w'=>e= .returned (.bool (jA k))/\Below w.heap.size w w':=by
 unfold kt
 go_enter Tryz.func115,Tryz.ntmps115
 go_wp2_with fail;obtain⟨W1,hb⟩: ∃W1,W1=(w.alloc (.cells #[.string k.nm, .string k.st, .string k.ck, .string k.ix, .string k.tk] 42)).alloc (.cells #[.string k.nm, .string k.st, .string k.ck, .string k.ix, .string k.tk] 9):=⟨_,rfl⟩;rw[<-hb];have hd:=an (show Below w.heap.size w W1 by rw[hb]; exact(eN).alloc (by simp) _);have hk:=an (show W1.heap[w.heap.size+1]? =some (.cells (eI k).toArray 9 (0,0)) by
  rw[hb];have:=aH (w.alloc (.cells #[.string k.nm, .string k.st, .string k.ck, .string k.ix, .string k.tk] 42)) (.cells #[.string k.nm, .string k.st, .string k.ck, .string k.ix, .string k.tk] 9);rw[show(w.alloc (.cells #[.string k.nm, .string k.st, .string k.ck, .string k.ix, .string k.tk] 42)).heap.size=w.heap.size+1 by simp]at this;exact this)
 clear hb
 go_loopw [17] (fun i wr=> ∃j:Nat,j<=5/\i= .int .i64 (j:Int)/\wr=W1/\(k.list.take j).all (fun s=>decide (s.size=32))=true) (fun i _=>5-(intOf i).toNat)
 case atStart=>exact⟨0,by omega,rfl,rfl,rfl⟩
 case round=>
  obtain⟨j,hj,rfl,rfl,ha⟩:=hrel;have HA:=an ha;clear ha
  by_cases h5:j<5
  ·obtain⟨s,hg,hh⟩:=Jb k h5;have c0:wr.cell? ⟨w.heap.size+1,j,none⟩=some (.string s):=by rw[bu wr _ _ _ _ _ hk.o,ak]; exact hh
   have hl:(j:Int)<5:=by omega
   have HS:=an hg;clear hg hh
   by_cases he:s.size=32
   ·have hc:(s.size:Int)=32:=by omega
    go_wp2_with fail
    go_roundw
    case rel=>exact⟨j+1,by omega,by simp,trivial,by rw[bZ,HS.o,List.all_append,HA.o]; simp[he]⟩
    case measure=>simp[intOf]; omega
   ·have hc: ¬(s.size:Int)=32:=by omega
    go_wp2_with fail;go_ret;have hf:jA k=false:=by
     unfold jA;rw[List.all_eq_false];exact⟨s,aS HS.o,by simpa using he⟩
    rw[hf];exact⟨rfl,hd.o⟩
  ·obtain rfl:j=5:=by omega
   go_wp2_with fail;go_ret;have hf:jA k=true:=HA.o;rw[hf];exact⟨rfl,hd.o⟩
theorem pU (k:dm) (b:Bool) (w:World) (h:jA k=b):Calls Tryz.prog 115 #[kt k] w fun e w'=>e= .returned (.bool b)/\Below w.heap.size w w':=by rw[<-h]; exact yD k w
theorem uq {k:dm} (h:jA k=true):k.nm.size=32/\k.st.size=32/\k.ck.size=32/\k.ix.size=32/\k.tk.size=32:=by
 unfold jA dm.list at h;simp only[List.all_cons,List.all_nil,Bool.and_true,aJ,aK]at h;exact h
def lW (k:dm) (g:Nat) (c:List UInt8):ByteArray:=⟨(yE (bl k.nm) (bE g++c)).toArray⟩
theorem lp (k:dm) (g:Nat) (c:List UInt8):(lW k g c).size=32:=by unfold lW; rw[bi,iu,DO]
theorem tB (S:Nat->Prop) (k:dm) (g:Nat) (c:List UInt8) (cv:Value) (w:World) (hk:jA k=true) (hg:g<=1099511627776) (hc:bG S w cv c) (hl:c.length<=32768) (hE:Az w):
  Calls Tryz.prog 156 #[kt k, .int .i64 (g:Int),cv] w fun e w'=>e= .returned (.tuple #[.string (lW k g c), .int .i64 0])/\Below w.heap.size w w':=by
 have HK:=an hk;have HC:=an hc;have HE:=an hE;obtain⟨_,a,cap,rfl,hu,hP,-⟩:=id hc;obtain⟨cl,hv⟩: ∃cl,cl=c.length:=⟨_,rfl⟩;rw[<-hv]at hl HC ⊢;have ho:=an hv;clear hk hc hE hv hu hP;unfold kt
 go_enter Tryz.func156,Tryz.ntmps156
 go_wp2_with fail;obtain⟨W1,hj⟩: ∃W1,W1=w.alloc (.cells #[.string k.nm, .string k.st, .string k.ck, .string k.ix, .string k.tk] 42):=⟨_,rfl⟩;rw[<-hj];have hD:=an (show Below w.heap.size w W1 by rw[hj]; exact eN);have hM:=an (show W1.heap[w.heap.size]? =some (.cells (eI k).toArray 42 (0,0)) by rw[hj]; exact aH w _);clear hj;refine(pU k true W1 HK.o).mono ?_
 rintro e w1 ⟨rfl,hr⟩;have hF:=an (aw hD.o hr);have hN:=an (dV hr hM.o);clear hr;go_wp2_with fail;refine eH (fun w'=>w'.cell? ⟨w.heap.size,0,none⟩=some (.string k.nm)) (by kernel_rfl) ?_;obtain⟨V,hV⟩: ∃V:World,V=w1.drew:=⟨_,rfl⟩;rw[<-hV];have hy:=an (show Below w.heap.size w V by rw[hV]; exact hF.o.trans ((ay _ _).drew));have he:=an (show V.heap[w.heap.size]? =some (.cells (eI k).toArray 42 (0,0)) by rw[hV]; exact hN.o)
 clear hV;have hh:V.cell? ⟨w.heap.size,0,none⟩=some (.string k.nm):=(bu V _ _ _ _ _ he.o).trans rfl
 iterate 4 (refine cF rfl (by kernel_rfl) (fun _ _ _ h=>h) rfl hh (by intro w' hC; go_simp; rfl) ?_; simp only[Act.put,ag,ai,ah])
 refine bJ 5 rfl (by kernel_rfl) (by kernel_rfl) (by kernel_rfl) (fun _ _ _ h=>h) rfl hh (by intro w' hC; go_simp; rfl) ?_;simp only[Act.put,ag,ai,ah];refine cy 4 rfl (fun K hK=> ?_);go_wp2_with fail;refine(vQ g V (by omega)).mono ?_;rintro e w3 ⟨v3,rfl,hw,hm⟩;obtain⟨a3,c3,rfl,-,-⟩:=aI hw
 have hn:=an (aw hy.o hm);have hq:w3.cell? ⟨w.heap.size,0,none⟩=some (.string k.nm):=(hm.cell (p:=⟨w.heap.size,0,none⟩) (az he.o)).trans hh;have hO:=hy.o.size;have hp:=an hw;have hA:=an (iE (n:=g) (by omega));have hd:=hm.size;clear hw hm hh;go_wp2_with fail;refine⟨hq, ?_⟩;refine cy 6 rfl (fun K hK=> ?_);have hI:=an (show bG S w3 (.slice a cl cap) c from cE.below HC.o (by omega) hn.o)
 have hR:(bE g).length+cl<1099511627775:=by have:=hA.o; omega
 have hL:=an (show cE S w3 1 (.slice a cl cap) cl (c.map aY) by have h9:=hI.o; unfold bG at h9; rw[<-ho.o]at h9; exact h9);go_wp2_with (at_builtin; go_loud (refine el Tryz.appBytes rfl _ _ rfl V.heap.size (.slice a3 (bE g).length c3) (bE g).length ((bE g).map aY) rfl hp.o (.slice a cl cap) cl (c.map aY) rfl hL.o (fo c) hR hd ?_); intro v' wc hb ha; have hJ:=an hb; have hz:=an ha; obtain⟨a4,c4,rfl,-,-⟩:=aI hb; clear hb ha)
 have hx:=an (show Below w.heap.size w wc from cg hn.o hp.o hz.o hO hn.o.size);have hf:wc.cell? ⟨w.heap.size,0,none⟩=some (.string k.nm):=by
  rw[<-hq];exact cA (hz.o.block w.heap.size (by have:=az he.o; omega) (fun e=>by have h1:=(hp.o.lt _ e.symm).1; have:=az he.o; omega))
 have hH:=an (show bG (fun _=>True) wc (.slice a4 ((bE g).length+cl) c4) (bE g++c) by
  have h9:=cG hJ.o;rw[<-aO]at h9;unfold bG;rw[ar,<-ho.o];exact h9.weak (fun _ _=>trivial))
 have hQ:(bE g++c).length<281474976710656:=by rw[ar,<-ho.o]; have:=hA.o; omega
 clear hq;refine⟨hf, ?_⟩;refine cy 7 rfl (fun K hK=> ?_);have hS:=(uq HK.o).1;go_wp2_with fail;refine(uM (fun _=>True) k.nm (bE g++c) _ wc (by rw[hS]; decide) hH.o hQ (HE.o.below hx.o)).mono ?_;rintro e w5 ⟨rfl,hs⟩;have hG:=an (aw hx.o hs);have hB:w5.cell? ⟨w.heap.size,0,none⟩=some (.string k.nm):=(hs.cell (p:=⟨w.heap.size,0,none⟩) (block_lt_of_cell hf)).trans hf
 clear hs hf;go_wp2_with fail;refine⟨hB, ?_⟩
 iterate 2 (refine cF rfl (by kernel_rfl) (fun _ _ _ h=>h) rfl hB (by intro w' hC; go_simp; rfl) ?_; simp only[Act.put,ag,ai,ah])
 refine cH (by kernel_rfl) ?_;go_wp2_with fail
 go_ret2
 exact⟨rfl,hG.o⟩
theorem yC (k:dm) (w:World) (hE:Az w):Calls Tryz.prog 69 #[kt k, .slice none 0 0] w fun e w'=>(∃v,e= .returned (.tuple #[v, .int .i64 (if jA k=true then 0 else 1)]))/\Below w.heap.size w w':=by
 have HE:=an hE;clear hE;unfold kt
 by_cases hk:jA k=true
 ·rw[if_pos hk];have HK:=an hk;clear hk
  go_enter Tryz.func69,Tryz.ntmps69
  go_wp2_with fail;obtain⟨W1,ha⟩: ∃W1,W1=w.alloc (.cells #[.string k.nm, .string k.st, .string k.ck, .string k.ix, .string k.tk] 42):=⟨_,rfl⟩;rw[<-ha];have hd:=an (show Below w.heap.size w W1 by rw[ha]; exact eN);have he:=an (show W1.heap[w.heap.size]? =some (.cells (eI k).toArray 42 (0,0)) by rw[ha]; exact aH w _);clear ha;refine(pU k true W1 HK.o).mono ?_
  rintro e w1 ⟨rfl,hb⟩;have hc:=an (aw hd.o hb);have hl:=an (dV hb he.o);have c2:w1.cell? ⟨w.heap.size,2,none⟩=some (.string k.ck):=(bu w1 _ _ _ _ _ hl.o).trans rfl;have hm:=(uq HK.o).2.2.1;clear hb;go_wp2_with fail;refine(uM (fun _=>True) k.ck [] _ w1 (by rw[hm]; decide) (cE.nil _ _ _) (by decide) (HE.o.below hc.o)).mono ?_;rintro e w2 ⟨rfl,hf⟩
  have hh:=an (aw hc.o hf);obtain⟨t,ht⟩: ∃t:ByteArray,t=⟨(yE (bl k.ck) []).toArray⟩:=⟨_,rfl⟩;have ho:t.size=32:=by rw[ht,bi,iu,DO]
  rw[<-ht];obtain⟨W3,cp,hn,-,hg,-⟩:=tS (t.extract 0 16) w2 (by have:=Lib.extract_data t 0 16; rw[ByteArray.size_extract]; unfold maxLen; omega);have hj:=an (aw hh.o hg);clear hf ht hg c2;go_wp2_with fail
  go_ret2
  exact⟨⟨_,rfl⟩,hj.o⟩
 ·rw[if_neg hk];have HK:=an (show jA k=false by simpa using hk);clear hk
  go_enter Tryz.func69,Tryz.ntmps69
  go_wp2_with fail;obtain⟨W1,ha⟩: ∃W1,W1=w.alloc (.cells #[.string k.nm, .string k.st, .string k.ck, .string k.ix, .string k.tk] 42):=⟨_,rfl⟩;rw[<-ha];have hd:=an (show Below w.heap.size w W1 by rw[ha]; exact eN);have he:=an (show W1.heap[w.heap.size]? =some (.cells (eI k).toArray 42 (0,0)) by rw[ha]; exact aH w _);clear ha;refine(pU k false W1 HK.o).mono ?_
  rintro e w1 ⟨rfl,hb⟩;have hc:=an (aw hd.o hb);clear hb;go_wp2_with fail
  go_ret2
  exact⟨⟨_,rfl⟩,hc.o⟩
end Go.Proofs.YtpffpjbkbaleiaaGreatDoor
namespace Go.Proofs.YtpffpjbkbaleiaaGreatDoor
open Go
section
variable {P : Program} {l n : Nat}
theorem BR {f:FuncId} {args:Array Value} {w:World} {R:Ending->World->Prop} (h:Calls P f args w R):CallsIn (Fence.wide.inRound l) n P f args w R:=CallsIn.inRound l (callsIn_wide.2 h)
theorem FO {o:Oper} {a:Act} {next:Act->World->Prop} {Q:Exit->Act->World->Prop} {r:Result Next} (h:o.upon P a next Q r):o.uponIn (Fence.wide.inRound l) n P a next Q r:=by
 cases r with
 | ok x w=>
  cases x with
  | value v=>exact h
  | skip=>exact h
  | defer d=>exact h
  | enter f args=>exact⟨fun e=>(by cases e),BR h⟩
  | row row args=>
   exact⟨fun e=>(by cases e),fun c cs _=>by
    obtain⟨v,w',h1,h2⟩:=(show Rows P row args w _ from h) c cs;exact⟨v,w',h1,stepsIn_wide.2 h2⟩⟩
  | _=>exact h.elim
 | halt x w=>
  cases x<;> first | exact h | exact h.elim
def pN (o:Oper):Bool:=match o.op with | .defer _=>false | _=>true
theorem Mb {o:Oper} {a:Act} {w:World} {K:Act->World->Prop} {Q:Exit->Act->World->Prop} (hd:pN o=true) (h:o.wp P a w K Q):o.wpIn (Fence.wide.inRound l) n P a w K Q:=
 ⟨fun _ _=>trivial,by
  rw[Oper.semAt_eq _ _ _ (fun c e=>by simp[pN,e]at hd)];exact FO h⟩
theorem FT {L:List Oper} {Q:Exit->Act->World->Prop} (hd:L.all pN=true) (hno: ¬LetsOut Q) {i:Nat} {K:Act->World->Prop} {a:Act} {w:World} (h:wpOp P L.toArray Q i K a w):wpOpIn (Fence.wide.inRound l) n P L.toArray Q i K a w:=by
 unfold wpOp at h;unfold wpOpIn
 cases hx:L.toArray[i]? with
 | none=>rw[hx]at h; exact h
 | some x=>
  rw[hx]at h;simp only at h ⊢;have ha:pN x=true:=cz.1 hd x (aS (by simpa using hx))
  split at h
  ·rename_i hw;rw[if_pos hw]
   rcases h with h | h
   ·exact Mb ha h
   ·exact absurd h.2 hno
  ·rename_i hw;rw[if_neg hw];exact⟨fun _ _=>trivial,h⟩
theorem vh {L:List Oper} {md:Region.Mode} {Q:Exit->Act->World->Prop} (hd:L.all pN=true) (hno: ¬LetsOut Q): ∀(fuel:Nat) (listed:Array Bool) (a:Act) (w:World),wpAny P md L.toArray Q fuel listed a w->wpAnyIn (Fence.wide.inRound l) n P md L.toArray Q fuel listed a w
 | 0,_,_,_,h=>h
 | fuel+1,_,_,_,h=>⟨h.1,fun i hi=>wpOpIn_mono (fun a' w' h'=>vh hd hno fuel _ a' w' h') (FT hd hno (h.2 i hi))⟩
theorem EG {id:Nat} {a:Act} {w:World} {L:List Oper} {Q:Exit->Act->World->Prop} (S:World->Prop) (hm:P.follows .mixedOrders=true) (hnd:L.all pN=true) (hno: ¬LetsOut Q) (hB:CM .any L=true)
  (h:qk P L.dropLast.toArray (yJ P L.toArray (L.length-1) Q) S (L.length-1) (Array.replicate L.length false) a w.drew):(Code.region id L.toArray true).wpIn (Fence.wide.inRound l) n P Q a w:=by
 simp only[CM,aJ,aK]at hB;obtain⟨⟨hc,hd⟩,hb⟩:=hB;have ha: ∀(i:Nat) (x:Oper),L[i]? =some x->(∀e∈x.after,e.on<i)/\ ∀j b,x.guard=some (j,b)->j<i:=fun i x hx=>by
  have:=cz.1 hb i (dN.2 (aN.1 hx).1);rw[hx]at this;simp only[aJ]at this;refine⟨fun e he=> ?_,fun j b hg=> ?_⟩
  ·have:=Array.all_eq_true'.1 this.1 e he
   simpa using this
  ·have:=this.2;rw[hg]at this
   simpa using this
 refine wpIn_region_any hm ?_;have:=Gi hc hd (fun i x hx=>(ha i x hx).1) (fun i x j b hx=>(ha i x hx).2 j b) (L.length-1) _ a w.drew Cz (wpAny_of_held _ _ _ _ (by simpa using h.out));rw[show L.length-1+1=L.length by omega]at this;refine vh hnd hno _ _ _ _ ?_
 simpa using this
def LT (Q:Exit->Act->World->Prop):Exit->Act->World->Prop
 | .outgrown,_,_=>False
 | e,a,w=>Q e a w
@[go_sem] theorem Be (Q:Exit->Act->World->Prop) (a:Act) (w:World):LT Q .normal a w=Q .normal a w:=rfl
theorem Jq (Q:Exit->Act->World->Prop): ¬LetsOut (LT Q):=fun⟨_,_,h⟩=>h
theorem EF {id:Nat} {a:Act} {w:World} {L:List Oper} {Q:Exit->Act->World->Prop} (S:World->Prop) (hm:P.follows .mixedOrders=true) (hnd:L.all pN=true) (hB:CM .any L=true)
  (h:qk P L.dropLast.toArray (yJ P L.toArray (L.length-1) (LT Q)) S (L.length-1) (Array.replicate L.length false) a w.drew):(Code.region id L.toArray true).wpIn (Fence.wide.inRound l) n P Q a w:=
 wpIn_mono (EG S hm hnd (Jq Q) hB h) (fun e _ _ h=>by cases e<;> first | exact h | exact h.elim)
end
open Go Go.RowKit Go.Maps
theorem Tryz.appEnts :km Tryz.prog 46 79 6 80:=km.mk' (z:=PL) Tryz.underlying46 (by kernel_rfl) rfl (by decide) (by decide)
def iw (ys:List oV):List Value:=ys.flatMap fun y=>vl y.1 y.2
theorem wE (ys:List oV) (y:oV):iw (ys++[y])=iw ys++vl y.1 y.2:=by simp[iw]
theorem zh : ∀ys:List oV,(iw ys).length=ys.length*6
 | []=>rfl
 | y::ys=>by
  have:=zh ys;unfold iw at this ⊢;rw[bq,ar,this,aG,show(vl y.1 y.2).length=6 from rfl]; omega
theorem kU {a:Option Addr} {n c:Nat} {e:dj} : ∀u∈vl (.slice a n c) e,u.oneCell'=true:=by
 intro u hu;simp only[vl,bh,dt,or_false]at hu
 rcases hu with rfl | rfl | rfl | rfl | rfl | rfl<;> rfl
theorem zg : ∀ {ys:List oV} {k:Nat} {y:oV},ys[k]? =some y-> ∀j,j<6->(iw ys)[k*6+j]? =(vl y.1 y.2)[j]?
 | [],k,_,h,_,_=>by simp at h
 | x::ys,0,y,h,j,hj=>by
  simp at h; subst h;unfold iw;rw[bq,iZ,bX,bO (by exact hj)]
 | x::ys,k+1,y,h,j,hj=>by
  have:=zg (ys:=ys) (k:=k) (y:=y) (by simpa using h) j hj;unfold iw at this ⊢;rw[bq,bI (by show 6<=_; omega),<-this]
  congr 1
  show(k+1)*6+j-6=_
  omega
theorem Cp {S:Nat->Prop} {w:World} : ∀ {ys:List oV},(∀y∈ys,dJ S w y.1 y.2.data/\jE y.2)->eQ (lX S w) (iw ys) (ys.map Prod.snd)
 | [],_=>rfl
 | y::ys,h=>⟨vl y.1 y.2,iw ys,by simp[iw],⟨y.1,rfl,h y (by simp)⟩,Cp (fun z hz=>h z (by simp[hz]))⟩
theorem NX {w:World} {base n cap:Nat} {a:Option Addr} {ys:List oV} {m:Nat} (h:w.ownsRow base 79 6 (.slice a n cap) m (iw ys)) {k:Nat} {y:oV} (hk:ys[k]? =some y):
  ∃b,a=some ⟨b,0,none⟩/\base<=b/\b<w.heap.size/\n=ys.length/\w.cell? ⟨b,k*6,none⟩=some (.string y.2.path)/\w.cell? ⟨b,k*6+1,none⟩=some (.int .i64 y.2.kind)/\w.cell? ⟨b,k*6+2,none⟩=some (.int .i64 y.2.mode)/\w.cell? ⟨b,k*6+3,none⟩=some (.int .i64 y.2.time)/\w.cell? ⟨b,k*6+4,none⟩=some y.1/\w.cell? ⟨b,k*6+5,none⟩=some (.string y.2.link):=by
 have ha:=h.1;rw[zh]at ha;have hm:m=ys.length:=by omega
 subst hm;have hr:=cG h;obtain⟨_,a',cap',he,_,_,h0⟩:=hr;simp only[cS]at he;obtain⟨rfl,rfl,rfl⟩:=he;have hf:=(aN.1 hk).1
 rcases h0 with h0 | ⟨b,o,rfl,hb,hc⟩
 ·omega
 ·rcases h.2 with⟨hn,_⟩ | ⟨g,cp,cur,hv,hd,hh,_⟩
  ·cases hn
  ·simp only[cS,br,jk]at hv;obtain⟨⟨rfl,rfl,-⟩,-,rfl⟩:=hv;have g:=fun j (hj:j<6)=>hc (k*6+j) _ ((zg hk j hj).trans (bM (l:=vl y.1 y.2) hj))
   have g0:=g 0 (by omega);have g1:=g 1 (by omega);have g2:=g 2 (by omega);have g3:=g 3 (by omega);have g4:=g 4 (by omega);have g5:=g 5 (by omega);simp only[bX,de]at g0 g1 g2 g3 g4 g5;exact⟨b,rfl,hd,(aP.1 hh).1,rfl,g0,g1,g2,g3,g4,g5⟩
theorem dJ.slice {S:Nat->Prop} {w:World} {v:Value} {bs:List UInt8} (h:dJ S w v bs): ∃a c,v= .slice a bs.length c/\bs.length<=c/\c<=maxLen:=by
 obtain⟨_,a,c,rfl,h1,h2,_⟩:=h;exact⟨a,c,rfl,h1,h2⟩
theorem cU {w w':World} {B n sz:Nat} {e:TypeId} {v:Value} {xs:List Value} (h:w.ownsRow B e sz v n xs) (hb:Below w.heap.size w w'):w'.ownsRow B e sz v n xs:=by
 refine h.kept (row:=none) ⟨hb.os,hb.tape,hb.output,hb.size,fun k hk _=>hb.block k hk⟩ ?_
 cases hv:v.ownBlock
 ·exact .inl rfl
 ·exact .inr (by simp)
attribute [local go_sem] Oper.semAt_some
theorem Tryz.appChunks :km Tryz.prog 181 29 1 24:=km.mk' (z:= .slice none 0 0) Tryz.underlying181 (by kernel_rfl) rfl (by decide) (by decide)
def KF (B:Nat) (v:Value) (L:List (List UInt8)) (w:World):Prop:=
 ∃ys:List (Value×List UInt8),ys.map Prod.snd=L/\w.ownsRow B 29 1 v ys.length (ys.map Prod.fst)/\ ∀y∈ys,w.ownsRow B 5 1 y.1 y.2.length (y.2.map aY)
theorem nD {A B:World} {row:Option Nat} {base sz m:Nat} {t:TypeId} {v:Value} {xs:List Value} (h:A.ownsRow base t sz v m xs) (hg:A.grownBy B row) (hr: ∀r,row=some r-> ∀cs,A.heap[r]? ≠some (.cells cs t (0,0))):B.ownsRow base t sz v m xs:=by
 refine h.kept hg ?_
 rcases h.2 with⟨rfl,_⟩ | ⟨g,cap,cur,rfl,_,ha,_⟩
 ·exact .inl rfl
 ·exact .inr fun e'=>hr g (by simpa [Value.ownBlock]using e'.symm) cur ha
theorem Fd {A:World} {b1 b2 s1 s2 m1 m2:Nat} {t1 t2:TypeId} {v1 v2:Value} {x1 x2:List Value} (h1:A.ownsRow b1 t1 s1 v1 m1 x1) (h2:A.ownsRow b2 t2 s2 v2 m2 x2) (ht:t1≠t2):v1.ownBlock=none\/v1.ownBlock≠v2.ownBlock:=by
 cases h:v1.ownBlock with
 | none=>exact .inl rfl
 | some k=>
  refine .inr fun e=> ?_
  obtain⟨_,c1,d1⟩:=oP h1 h;obtain⟨_,c2,d2⟩:=oP h2 e.symm;rw[d1]at d2
  cases d2
  exact ht rfl
def ChI (bx:Nat) (data:List UInt8) (w4:World) (pre:List Nat) (W:World):Prop:=
 (∃(ys:List (Value×List UInt8)) (v:Value),ys.map Prod.snd=jD data 0 pre/\ys.length=pre.length/\W.heap[bx]? =some (.cells #[v] 181 (0,0))/\W.ownsRow (bx+4) 29 1 v ys.length (ys.map Prod.fst)/\ ∀y∈ys,W.ownsRow (bx+4) 5 1 y.1 y.2.length (y.2.map aY))/\
 W.heap[bx+1]? =some (.cells #[.int .i64 ((lU pre:Nat):Int)] 3 (0,0))/\Below bx w4 W
theorem ChI.turn {bx:Nat} {data:List UInt8} {w4:World} {pre:List Nat} {A B:World} {row:Option Nat} (h:ChI bx data w4 pre A) (h4:w4.heap.size=bx+4) (hg:A.grownBy B row) (hr: ∀r,row=some r->bx+4<=r/\ ∀cs t,A.heap[r]? =some (.cells cs t (0,0))->t=239):ChI bx data w4 pre B:=by
 obtain⟨⟨ys,v,h1,h2,h3,h5,h6⟩,h7,h8⟩:=h;have hs:=h8.size;refine⟨⟨ys,v,h1,h2,(hg.block _ (az h3) (fun e=>by have:=(hr _ e.symm).1; omega)).trans h3,nD h5 hg (fun r e cs hc=>by have:=(hr r e).2 cs _ hc; cases this),fun y hy=>nD (h6 y hy) hg (fun r e cs hc=>by have:=(hr r e).2 cs _ hc; cases this)⟩,
  (hg.block _ (az h7) (fun e=>by have:=(hr _ e.symm).1; omega)).trans h7,h8.grown hg (by omega) (fun k e=>by have:=(hr k e).1; omega)⟩
theorem Gl {bx:Nat} {data:List UInt8} {w4:World} (h4:w4.heap.size=bx+4):OwnFrom w4.heap.size (ChI bx data w4):=fun _ _ _ _ h hg hr=>h.turn h4 hg (fun r e=>⟨by have:=(hr r e).1; omega,fun cs t hc=>by
 obtain⟨_,o,ho,hw⟩:=hr r e;rw[ho]at hc; cases hc; cases hw⟩)
theorem Lc {bx:Nat} {data:List UInt8} {w4:World} (h4:w4.heap.size=bx+4):Gc 239 w4.heap.size (ChI bx data w4):=fun _ _ _ _ h hg hr=>h.turn h4 hg (fun r e=>⟨by have:=(hr r e).1; omega,fun cs t hc=>by
 obtain⟨_,cs',ho⟩:=hr r e;rw[ho]at hc; cases hc; rfl⟩)
def DK (c:fL) (dv:Value) (w0 bx q:Nat):Act:=
 {tmps:= #[ko c,dv, .pointer (some ⟨w0,0,none⟩), .pointer (some ⟨w0+1,0,none⟩), .slice none 0 0, .int .i64 0, .int .i64 0, .pointer (some ⟨bx,0,none⟩), .pointer (some ⟨bx+1,0,none⟩), .int .i64 (q:Int),ko c,dv, .slice (some ⟨w0+1+1,0,none⟩) 1 1, .int .i64 0, .int .i64 0, .bool false,undef,ko c,dv,
   .func (.func 186) #[] #[.pointer (some ⟨bx+2,0,none⟩), .pointer (some ⟨bx+2+1,0,none⟩)], .int .i64 (q:Int),undef,undef,undef,undef,undef,undef,undef,undef,undef,undef],defers:=[]}
def ChA (c:fL) (dv:Value) (w0 bx:Nat) (data:List UInt8) (w4:World) (pre:List Nat) (q:Nat) (a:Act) (W:World):Prop:=
 ChI bx data w4 pre W/\(lU pre<q/\q<=data.length)/\pre.length<data.length/\a=DK c dv w0 bx q
theorem Ny {c:fL} {dv:Value} {w0 bx:Nat} {data:List UInt8} {w4:World} (h4:w4.heap.size=bx+4):OwnFrom w4.heap.size (fun(s:List Nat×Nat×Act) W=>ChA c dv w0 bx data w4 s.1 s.2.1 s.2.2 W):=fun s A B row h hg hr=>⟨Gl h4 s.1 A B row h.1 hg hr,h.2⟩
theorem PP {n b1 b2:Nat} {t:TypeId} {A B C:World} (h:Below n A B/\js t A B/\KL b1 b2 A B) (k:Below n B C/\js t B C/\KL b1 b2 B C):Below n A C/\js t A C/\KL b1 b2 A C:=⟨h.1.trans k.1,h.2.1.trans k.2.1,k.2.2.1.trans h.2.2.1,k.2.2.2.trans h.2.2.2⟩
theorem vZ (S:Nat->Prop) (c:fL) (data:List UInt8) (dv:Value) (w:World) (hc:jJ c=true) (hs:c.seed<18446744073709551616) (hd:bG S w dv data) (hl:data.length<=1048576) (hT:BC w):
  Calls Tryz.prog 155 #[ko c,dv] w fun e w'=> ∃v,e= .returned (.tuple #[v, .int .i64 0])/\KF w.heap.size v (jD data 0 (qu (qf c data) c.mn.toNat c.mx.toNat data.length)) w'/\Below w.heap.size w w':=by
 have HC:=an hc;have HD:=an hd;have HT:=an hT;obtain⟨_,da,dcap,rfl,H0,yl,-⟩:=id hd;obtain⟨n,hn⟩: ∃n,n=data.length:=⟨_,rfl⟩;rw[<-hn]at H0 hl HD ⊢;have HN:=an hn;have HG:=an (show rN c n=0 by unfold rN; rw[if_pos hc,if_neg (by omega)]);have HK:=an (show n<=maxLen by unfold maxLen; omega);clear hc hd hT hn;refine(callsIn_wide (n:=4)).1 (callsIn_of_wp_marks Tryz.func155 rfl trivial ?_ rfl)
 simp only[Tryz.ntmps155,bU,aG,bo,Nat.reduceAdd,Nat.reduceSub,Array.replicate_succ,Array.replicate_zero,List.push_toArray,List.append_toArray,aL,aM];refine(wpIn_wide (n:=4)).2 ?_;unfold ko;go_wp2_with fail;obtain⟨w1,hz⟩: ∃w1,w1=((w.alloc (.cells #[.int .i64 c.mn, .int .i64 c.mx, .int .i64 c.win, .int .i64 c.bits, .int .u64 (c.seed:Int)] 45)).alloc (.cells #[.slice da n dcap] 29)).alloc (.cells #[.slice da n dcap] 29):=⟨_,rfl⟩
 rw[<-hz];have HA:=an (show Below w.heap.size w w1 by rw[hz]; exact((eN).alloc (by simp) _).alloc (by simp; omega) _);have HQ:=an (show w1.heap[w.heap.size]? =some (.cells (fR c).toArray 45 (0,0)) by rw[hz]; exact nn (nn (dY w _) _) _);have HS:=an (show w1.heap[w.heap.size+1]? =some (.cells #[.slice da n dcap] 29 (0,0)) by rw[hz]; exact nn (pL w _ _) _)
 have HW:=an (show w1.heap[w.heap.size+1+1]? =some (.cells #[.slice da n dcap] 29 (0,0)) by rw[hz]; exact(by have:=aH ((w.alloc (.cells #[.int .i64 c.mn, .int .i64 c.mx, .int .i64 c.win, .int .i64 c.bits, .int .u64 (c.seed:Int)] 45)).alloc (.cells #[.slice da n dcap] 29)) (.cells #[.slice da n dcap] 29); simpa using this));clear hz;have hX:=vX c da n dcap (w.heap.size+1+1) w1 (aA HW.o) HK.o
 rw[HG.o]at hX;unfold ko at hX;refine hX.mono ?_;rintro e w2 ⟨rfl,hu⟩;have hM:=an (aw HA.o hu);have HR:=an (dV hu HQ.o);have Hp:=an (dV hu HS.o);clear hX hu;have hH:=an (nn (nn HR.o (.cells #[.slice none 0 0] 181)) (.cells #[.int .i64 0] 3));have Hq:=an (nn (nn Hp.o (.cells #[.slice none 0 0] 181)) (.cells #[.int .i64 0] 3));have hG:=an (nn (dY w2 (.cells #[.slice none 0 0] 181)) (.cells #[.int .i64 0] 3))
 have hE:=an (pL w2 (.cells #[.slice none 0 0] 181) (.cells #[.int .i64 0] 3));have HB:=an (((ay w2.heap.size w2).alloc (au _) (.cells #[.slice none 0 0] 181)).alloc (by simp) (.cells #[.int .i64 0] 3));have hZ:((w2.alloc (.cells #[.slice none 0 0] 181)).alloc (.cells #[.int .i64 0] 3)).heap.size=w2.heap.size+2:=by simp
 have c0:=aA (k:=0) hH.o;have c1:=aA (k:=1) hH.o;have c2:=aA (k:=2) hH.o;have c3:=aA (k:=3) hH.o;have c4:=aA (k:=4) hH.o;have y0:=aA (k:=0) Hq.o;simp only[fR,ak,am,aj]at c0 c1 c2 c3 c4 y0;go_wp2_with fail
 generalize (w2.alloc (.cells #[.slice none 0 0] 181)).alloc (.cells #[.int .i64 0] 3)=w3 at *
 have he:=Lo c (.slice da n dcap) w3 ⟨_,_,_,rfl⟩;unfold ko at he;refine he.mono ?_;rintro e w4 ⟨rfl,hY,hJ,Hx⟩;clear he c0 c1 c2 c3 c4 y0;obtain⟨bx,hm⟩: ∃bx,bx=w2.heap.size:=⟨_,rfl⟩;rw[hZ]at hY ⊢;rw[<-hm]at hG hE hY ⊢;have HE:=an (hJ.mono (by rw[hZ,hm]; omega:bx<=w3.heap.size));have hr:=an (show Below w2.heap.size w2 w4 from HB.o.trans (by rw[<-hm]; exact HE.o))
 have Ha:=an (dV hJ hG.o);have h9:=an (dV hJ hE.o);have HU:=an (dV hJ Hq.o);have hw:w4.heap.size=bx+4:=by rw[Hx,hZ,hm]
 have HH:=an hY;have Hd:=an (show w.heap.size+1<bx by rw[hm]; exact az Hp.o);have hO:=an hm;have Hn:=an (show bG S w2 (.slice da n dcap) data from HD.o.below (by decide) hM.o);clear hY hJ Hx hZ hm;go_wp2_with fail;refine Ku (gf:=186) (lb:= #[.pointer (some ⟨bx+2,0,none⟩), .pointer (some ⟨bx+2+1,0,none⟩)]) rfl (enters_of Tryz.func186 (by kernel_rfl) rfl)
  (Lp S c data (.slice da n dcap) (bx+2) (bx+2+1) w2 w4 HC.o hs HH.o Hn.o (by rw[<-HN.o]; exact hl) (HT.o.block (hM.o.block _ HT.o.lt) hM.o.size) hr.o) PP (fun W l o o' yn h1 h2 h3=> ?kb) (fun _=>rfl)
  (ChI bx data w4) (fun _ _ _=>False) (ChA c (.slice da n dcap) w.heap.size bx data w4) (Gl hw) (Lc hw) (fun _ _ _ _ _ h _ _=>h) (Ny hw) ⟨⟨[], .slice none 0 0,rfl,rfl,Ha.o,bN _ _ _ _,by simp⟩,h9.o,ay _ _⟩ ?assign ?body ?done ?stop
 case kb=>
  have yp:=(aP.1 h1).1;have hb:=hO.o;have hg:=grownBy_putObj' W l o';refine⟨me (ay _ _) hg (by omega) (by omega),js.grown hg (fun r e cs Ht=>by cases e; rw[h1]at Ht; cases Ht; cases h2),hg.block _ (by omega) (fun e=>by cases e; omega),hg.block _ (by omega) (fun e=>by cases e; omega)⟩
 case assign=>
  rintro l pre q W hW hI hD hN
  gi_wp2
  exact⟨KeepsOthers.refl _,⟨ay _ _,js.refl _,rfl,rfl⟩,hI,hD,hN,rfl⟩
 case body=>
  rintro l pre q a₁ W ⟨hI,hD,hN,rfl⟩;obtain⟨⟨ys,v,h1,h2,h3,h5,h6⟩,h7,h8⟩:=hI;have H1:=an h1;have H2:=an h2;have H3:=an h3;have H5:=an h5;have H6:=an h6;have H7:=an h7;have H8:=an h8;obtain⟨s,Hk⟩: ∃s,s=lU pre:=⟨_,rfl⟩;rw[<-Hk]at hD H7;have HO:=an Hk;have y2:=h8.size;clear h1 h2 h3 h5 h6 h7 h8 Hk;obtain⟨av,cv,rfl,y4,y3⟩:=aI H5.o
  have HI:=an (Hn.o.below (by decide) (hr.o.trans (H8.o.mono (by rw[<-hO.o]; omega))));have hQ:=an ((H8.o.block _ (by have:=Hd.o; omega)).trans HU.o);obtain⟨sa,sc,Hy,Hl⟩:=ro HI.o hD.1 hD.2;obtain⟨pl,Hi⟩: ∃pl,pl=iT data s q:=⟨_,rfl⟩;rw[<-Hi]at Hy Hl;have HM:=an Hl;have Ho:=an Hi;clear Hl Hi;simp only[DK]
  gi_wp2
  refine EF (fun w'=>w'.cell? ⟨bx,0,none⟩=some (.slice av ys.length cv)/\w'.cell? ⟨w.heap.size+1,0,none⟩=some (.slice da n dcap)/\w'.cell? ⟨bx+1,0,none⟩=some (.int .i64 (s:Int))) (by kernel_rfl) (by kernel_rfl) (by kernel_rfl) ?_;simp only[bw,bz,aG,bo,Nat.reduceAdd,Nat.reduceSub];obtain⟨V,hV⟩: ∃V:World,V=W.drew:=⟨_,rfl⟩
  rw[<-hV];have hF:=an (show Below W.heap.size W V by rw[hV]; exact(ay _ _).drew);have H9:V.heap.size=W.heap.size:=by rw[hV]; rfl
  clear hV;have k0:=aA (k:=0) (dV hF.o H3.o);have k1:=aA (k:=0) (dV hF.o hQ.o);have k2:=aA (k:=0) (dV hF.o H7.o);simp only[ak,aj]at k0 k1 k2
  iterate 5 (refine cF rfl (by kernel_rfl) (fun _ _ _ h=>h) rfl ⟨k0,k1,k2⟩ (by rintro w' ⟨hz,y5,y6⟩; go_simp; first | rfl | (rw[Hy]; rfl)) ?_; simp only[Act.put,ag,ai,ah])
  have HP:=an (show bG S V (.slice sa pl.length sc) pl from HM.o.below (by decide) hF.o);refine cy 5 rfl (fun K hK=> ?_);go_wp2_with fail;refine(IE S _ pl V HP.o (by rw[Ho.o]; unfold iT; rw[bm,bA]; rw[<-HN.o]at hD; omega)).mono ?_;rintro e w5 ⟨v5,rfl,Hg,Hs⟩;obtain⟨a5,e5,rfl,y1,yv⟩:=aI Hg;have HL:=an Hg;have hf:=an (show Below W.heap.size W w5 from hF.o.trans (by rw[<-H9]; exact Hs))
  clear Hg Hs k0 k1 k2;have k0:=aA (k:=0) (dV hf.o H3.o);have k1:=aA (k:=0) (dV hf.o hQ.o);have k2:=aA (k:=0) (dV hf.o H7.o);simp only[ak,aj]at k0 k1 k2;go_wp2_with fail;refine⟨⟨k0,k1,k2⟩, ?_⟩;have h0:=an (show Below w5.heap.size w5 (w5.alloc (.cells #[.slice a5 pl.length e5] 29))from eN);have l0:=(h0.o.cell (bS k0)).trans k0
  have l1:=(h0.o.cell (bS k1)).trans k1;have l2:=(h0.o.cell (bS k2)).trans k2;refine cy 6 rfl (fun K hK=> ?_);go_wp2_with fail;refine⟨⟨l0,l1,l2⟩, ?_⟩;clear l0 l1 l2;have Hb:=an (show w5.ownsRow (bx+4) 29 1 (.slice av ys.length cv) ys.length (ys.map Prod.fst)from cU H5.o hf.o);have HJ:=an (show ys.length<1099511627775 by rw[H2.o]; rw[<-HN.o]at hN; omega)
  have HF:=an (show bx+4<=w5.heap.size by have:=hf.o.size; omega);refine cy 7 rfl (fun K hK=> ?_);go_wp2_with (at_builtin; go_must (refine bR Tryz.appChunks rfl _ _ rfl (bx+4) (.slice av ys.length cv) ys.length (ys.map Prod.fst) rfl w5 [.slice a5 pl.length e5] 29 rfl rfl (by simp[Value.oneCell']) Hb.o HJ.o HF.o ?_); intro v7 w7 hh ha Hf Hj; obtain⟨a7,c7,rfl,-,-⟩:=aI hh)
  have Hu: ∀k,(Value.slice av ys.length cv).ownBlock=some k->bx+4<=k:=fun k e=>(oP Hb.o e).1
  have hU: ∀k,k<w5.heap.size->k<bx+4->w7.heap[k]? =w5.heap[k]? :=fun k h1 h2=>ha.block k h1 (fun e=>by have:=Hu k e.symm; omega)
  have ya:=hf.o.size;have hB:=an (show w7.heap[bx]? =some (.cells #[.slice av ys.length cv] 181 (0,0)) by rw[hU _ (by omega) (by omega),hf.o.block _ (az H3.o),H3.o]);have hP:=an (show w7.heap[bx+1]? =some (.cells #[.int .i64 (s:Int)] 3 (0,0)) by rw[hU _ (by omega) (by omega),hf.o.block _ (az H7.o),H7.o]);have HV:=an (show w7.heap[w.heap.size+1]? =some (.cells #[.slice da n dcap] 29 (0,0)) by rw[hU _ (by have:=Hd.o; omega) (by have:=Hd.o; omega),hf.o.block _ (az hQ.o),hQ.o])
  have Hc:=an hh;have hA:=an ha;clear hh ha Hf Hj hU k0 k1 k2;refine⟨⟨aA hB.o,aA HV.o,aA hP.o⟩, ?_⟩;simp only[Act.put,ag,ai,ah];have k0:=aA (k:=0) hB.o;have f0:=qv (k:=0) hB.o;have f1:=qv (k:=0) hP.o;have k2:=aA (k:=0) hP.o;simp only[ak,aj]at k0 k2
  refine cH (by kernel_rfl) ?_;refine eJ rfl rfl (fun K hK=> ?_);go_wp2_with fail;rw[Be]
  gi_wp2
  have HZ:(w7.setCell ⟨bx,0,none⟩ (.slice a7 (ys.length+1) c7)).heap[bx]? =some (.cells #[.slice a7 (ys.length+1) c7] 181 (0,0)):=by simpa using Mz (k:=0) hB.o (.slice a7 (ys.length+1) c7)
  have He:(w7.setCell ⟨bx,0,none⟩ (.slice a7 (ys.length+1) c7)).heap[bx+1]? =some (.cells #[.int .i64 (s:Int)] 3 (0,0)):=xC hP.o (by omega) _;obtain⟨B,hR⟩: ∃B,B=(w7.setCell ⟨bx,0,none⟩ (.slice a7 (ys.length+1) c7)).setCell ⟨bx+1,0,none⟩ (.int .i64 (q:Int)):=⟨_,rfl⟩;rw[<-hR];have HX:B.heap[bx]? =some (.cells #[.slice a7 (ys.length+1) c7] 181 (0,0)):=by rw[hR]; exact xC HZ (by omega) _
  have HY:B.heap[bx+1]? =some (.cells #[.int .i64 (q:Int)] 3 (0,0)):=by rw[hR]; simpa using Mz (k:=0) He (.int .i64 (q:Int))
  have ho:=cJ (w7) bx 0 (.slice a7 (ys.length+1) c7);have hp:=cJ (w7.setCell ⟨bx,0,none⟩ (.slice a7 (ys.length+1) c7)) (bx+1) 0 (.int .i64 (q:Int));rw[<-hR]at hp;have H4: ∀k,k<w7.heap.size->k≠bx->k≠bx+1->B.heap[k]? =w7.heap[k]? :=fun k h1 h2 h3=>(hp.block k (aR h1 ho.size) (fun e=>h3 (bK e))).trans (ho.block k h1 (fun e=>h2 (bK e)))
  have yb:=hA.o.size;have hC: ∀k,k<W.heap.size->k≠bx->k≠bx+1->(Value.slice av ys.length cv).ownBlock≠some k->B.heap[k]? =W.heap[k]? :=fun k h1 h2 h3 h4=>by
   rw[H4 k (by omega) h2 h3,hA.o.block k (by omega) (fun e=>h4 e.symm),hf.o.block k h1]
  have hx:W.heap.size<=B.heap.size:=by have:=ho.size; have:=hp.size; omega
  have Hv:B.os=W.os:=by rw[hp.os,ho.os,hA.o.os,hf.o.os]
  have Hz:B.tape=W.tape:=by rw[hp.tape,ho.tape,hA.o.tape,hf.o.tape]
  have Hw:B.output=W.output:=by rw[hp.output,ho.output,hA.o.output,hf.o.output]
  have hL: ∀(sz m:Nat) (t:TypeId) (u:Value) (xs:List Value),w5.ownsRow (bx+4) t sz u m xs->t=5->B.ownsRow (bx+4) t sz u m xs:=fun sz m t u xs h ht=>by
   have h7:w7.ownsRow (bx+4) t sz u m xs:=h.kept hA.o (Fd h Hb.o (by rw[ht]; decide));have h8:=nD h7 ho (fun r e cs hc=>by cases e; rw[hB.o]at hc; cases hc; cases ht);exact nD h8 hp (fun r e cs hc=>by cases e; rw[He]at hc; cases hc; cases ht)
  have hj: ∀k,k<bx+4->(Value.slice av ys.length cv).ownBlock≠some k:=fun k h1 e=>by have:=Hu k e; omega
  refine⟨⟨hx,fun k o hq Hh=> ?_⟩,⟨⟨Hv,Hz,Hw,hx,fun k hk=> ?_⟩,fun k cs hk=> ?_, ?_, ?_⟩,⟨ys++[(.slice a5 pl.length e5,pl)], .slice a7 (ys.length+1) c7, ?_, ?_,HX, ?_, ?_⟩, ?_, ?_⟩
  ·rw[hC k (aP.1 hq).1 (fun e=>by rw[e,H3.o]at hq; cases hq; cases Hh) (fun e=>by rw[e,H7.o]at hq; cases hq; cases Hh) (fun e=>by
    obtain⟨_,cur,hv⟩:=oP H5.o e;rw[hv]at hq; cases hq; cases Hh)]
   exact hq
  ·rw[<-hO.o]at hk;exact hC k (by omega) (by omega) (by omega) (hj k (by omega))
  ·exact hC k (aP.1 hk).1 (fun e=>by rw[e,H3.o]at hk; cases hk) (fun e=>by rw[e,H7.o]at hk; cases hk) (fun e=>by
    obtain⟨_,cur,hv⟩:=oP H5.o e;rw[hv]at hk; cases hk)
  ·exact hC _ (by omega) (by omega) (by omega) (hj _ (by omega))
  ·exact hC _ (by omega) (by omega) (by omega) (hj _ (by omega))
  ·rw[aO,H1.o,lJ,Ho.o,HO.o]; rfl
  ·rw[ar,ar,H2.o]; rfl
  ·rw[ar,aO];have h8:=nD Hc.o ho (fun r e cs hc=>by cases e; rw[hB.o]at hc; cases hc);exact nD h8 hp (fun r e cs hc=>by cases e; rw[He]at hc; cases hc)
  ·intro y hy
   rcases aU.1 hy with hy | hy
   ·exact hL _ _ _ _ _ (cU (H6.o y hy) hf.o) rfl
   ·rw[aQ.1 hy];exact hL _ _ _ _ _ (fT HL.o (by omega)) rfl
  ·rw[ml]; exact HY
  ·refine H8.o.trans ⟨Hv,Hz,Hw,hx,fun k hk=>hC k (by omega) (by omega) (by omega) (hj k (by omega))⟩
 case done=>
  rintro Dl ys W yc hS ⟨⟨zs,v,h1,h2,h3,h5,h6⟩,h7,h8⟩ hK;have hc:=aA (k:=0) h3;simp only[ak,aj]at hc;go_wp2_with fail;have hu:=hM.o;have hm:=hO.o;refine⟨by simp, .inl ⟨_,_,rfl,run_takeDeferred hK, ?_⟩⟩;have Hm:=hu.size;refine⟨_,results_tmp2 rfl _ _ _,v,rfl,⟨zs,by rw[h1,hS,HN.o],ownsRow_putObj (fT h5 (by omega)) _ hK rfl,fun y hy=>ownsRow_putObj (fT (h6 y hy) (by omega)) _ hK rfl⟩, ?_⟩
  have Hr:Below w.heap.size w W:=(hu.trans (hr.o.mono Hm)).trans (h8.mono (by omega));exact me Hr (grownBy_putObj' W Dl _) (by omega) Hr.size
 case stop=>
  rintro Dl c pre W _ _ h _;exact h.elim
end Go.Proofs.YtpffpjbkbaleiaaGreatDoor
namespace Go.Proofs.YtpffpjbkbaleiaaGreatDoor
open Go.RowKit
structure dq where
 ref:cX
 con:List UInt8
def mH (gs:List (ByteArray×Int)) (n:ByteArray):Int:=((gs.find? fun p=>decide (p.1=n)).map Prod.snd).getD 0
def bD (k:dm) (gs:List (ByteArray×Int)) (c:List UInt8):cX:=⟨lW k (mH gs (lW k 0 c)).toNat c,mH gs (lW k 0 c),(c.length:Int)⟩
def kz (k:dm) (gs:List (ByteArray×Int)) (bs:List dq) (c:List UInt8):List dq:=if bD k gs c∈bs.map dq.ref then bs else bs++[⟨bD k gs c,c⟩]
def et (k:dm) (gs:List (ByteArray×Int)) (cs:List (List UInt8)) (bs:List dq):List dq:=cs.foldl (kz k gs) bs
def fS (c:fL) (data:List UInt8):List (List UInt8):=jD data 0 (qu (qf c data) c.mn.toNat c.mx.toNat data.length)
def lV (dir path:List UInt8):List UInt8:=if(path.drop dir.length).head? =some 47 then(path.drop dir.length).tail else path.drop dir.length
def gR (tree:List dj) (dir:ByteArray):List dj:=tree.filter fun e=>decide (cu (bl e.path)=bl dir)
def cM (k:dm) (gs:List (ByteArray×Int)) (c:fL) (dir:ByteArray) (e:dj) (node:cX):cr:=
 ⟨⟨(lV (bl dir) (bl e.path)).toArray⟩,e.kind,e.mode,e.time,if e.kind=1 then(e.data.length:Int)else 0,e.link,if e.kind=1 then(fS c e.data).map (bD k gs)else [],if e.kind=2 then node else ef⟩
def gT (k:dm) (gs:List (ByteArray×Int)) (c:fL) (rec:ByteArray->Except Int (List UInt8×List (List UInt8))) (dir:ByteArray):List dj->List cr->List (List UInt8)->Except Int (List cr×List (List UInt8))
 | [],its,cs=> .ok (its,cs)
 | e::r,its,cs=>
  if e.kind=1 then gT k gs c rec dir r (its++[cM k gs c dir e ef]) (cs++fS c e.data)
  else if e.kind=2 then(match rec e.path with
   | .error x=> .error x
   | .ok p=>gT k gs c rec dir r (its++[cM k gs c dir e (bD k gs p.1)]) (cs++p.2))
  else gT k gs c rec dir r (its++[cM k gs c dir e ef]) cs
def gQ (k:dm) (gs:List (ByteArray×Int)) (c:fL) (tree:List dj):Nat->ByteArray->Except Int (List UInt8×List (List UInt8))
 | 0,_=> .error 0
 | f+1,dir=>match gT k gs c (gQ k gs c tree f) dir (gR tree dir) [] []with
  | .error x=> .error x
  | .ok (its,cs)=>if jB its=true then(if(fY its).length<=32768 then .ok (fY its,cs++[fY its])else .error 2)else .error 1
def ik (k:dm) (c:fL) (tree:List dj) (gs:List (ByteArray×Int)):Except Int (cX×List dq):=
 if jA k=true/\jJ c=true then(if(gs.all fun p=>decide (0<=p.2) && decide (p.2<=1099511627776))=true then
  (if iq tree=0 then(match gQ k gs c tree 514 ⟨#[]⟩with
   | .error x=> .error x
   | .ok p=> .ok (bD k gs p.1,et k gs p.2 []))
  else .error (iq tree))else .error 1)else .error 1
theorem ju (k:dm) (gs:List (ByteArray×Int)) (a b:List (List UInt8)) (bs:List dq):et k gs (a++b) bs=et k gs b (et k gs a bs):=eF
open Go Go.RowKit
def sA (w:World) (wb:Nat) (data:List UInt8):Prop:= ∃v,w.heap[wb]? =some (.cells #[v, .int .i64 0] 160 (0,0))/\lA w wb v data
def mS (wb:Nat) (w w':World):Prop:=Below wb w w'/\ ∀t,t≠5->t≠160->js t w w'
theorem mS.refl (wb:Nat) (w:World):mS wb w w:=⟨ay _ _,fun _ _ _=>js.refl _⟩
theorem mS.trans {wb:Nat} {A B C:World} (h:mS wb A B) (k:mS wb B C):mS wb A C:=⟨h.1.trans k.1,fun t h1 h2=>(h.2 t h1 h2).trans (k.2 t h1 h2)⟩
theorem mS.row {wb:Nat} {w w':World} {v:Value} {data:List UInt8} (ho:lA w wb v data) (hb:wb<=w.heap.size) (hg:w.grownBy w' v.ownBlock):mS wb w w':=
 ⟨(ay _ _).grown hg hb (fun k e=>(oP ho e).1),fun t h1 _=>js.grown hg (fun r e cs hcs=>by
  obtain⟨_,cur,hc⟩:=oP ho e;rw[hc]at hcs; cases hcs; exact h1 rfl)⟩
theorem mS.set {wb k:Nat} {w:World} {cs:Array Value} (hb:w.heap[wb]? =some (.cells cs 160 (0,0))) (v:Value):mS wb w (w.setCell ⟨wb,k,none⟩ v):=
 ⟨(ay _ _).grown (cJ w wb k v) (fB (az hb)) (fun k e=>by cases e; exact au _),fun t _ h2=>js.grown (cJ w wb k v) (fun r e cs' hcs=>by
  cases e; rw[hb]at hcs; cases hcs; exact h2 rfl)⟩
theorem sA.box {w w':World} {wb:Nat} {v:Value} {cs:Array Value} {data:List UInt8} (hb:w.heap[wb]? =some (.cells cs 160 (0,0))) (ho:lA w wb v data) (hg:w.grownBy w' v.ownBlock):w'.heap[wb]? =some (.cells cs 160 (0,0)):=
 (hg.block _ (az hb) (fun e=>by
  obtain⟨_,cur,hc⟩:=oP ho e.symm;rw[hc]at hb; cases hb)).trans hb
theorem sA.put {w1:World} {wb:Nat} {v v':Value} {data:List UInt8} (hb:w1.heap[wb]? =some (.cells #[v, .int .i64 0] 160 (0,0))) (ho:lA w1 wb v' data):sA (w1.setCell ⟨wb,0,none⟩ v') wb data:=
 ⟨v',by simpa using Mz (k:=0) hb v',World.ownsRow.kept ho (cJ w1 wb 0 v') (by
  cases h:v'.ownBlock with
  | none=>exact .inl rfl
  | some k=>
   refine .inr (fun e=> ?_);obtain⟨_,cur,hc⟩:=oP ho h
   cases e
   rw[hc]at hb; cases hb)⟩
theorem yr (w:World):Calls Tryz.prog 48 #[] w fun e w'=>e= .returned (.pointer (some ⟨w.heap.size,0,none⟩))/\sA w' w.heap.size []/\Below w.heap.size w w':=by
 go_enter Tryz.func48,Tryz.ntmps48
 go_wp2_with fail;go_ret;exact⟨rfl,⟨.slice none 0 0,dY w _,bN _ _ _ _⟩,eN⟩
theorem lz (wb n:Nat) (data:List UInt8) (w:World) (hw:sA w wb data) (hl:data.length<1099511000000) (hn:n<18446744073709551616):
  Calls Tryz.prog 51 #[.pointer (some ⟨wb,0,none⟩), .int .u64 (n:Int)] w fun e w'=>e= .returned (.tuple #[])/\sA w' wb (data++bE n)/\mS wb w w':=by
 obtain⟨v,hb,ho⟩:=hw;obtain⟨a0,c0,rfl,hk,hp⟩:=aI ho;have HB:=an hb;have HO:=an ho;have hf:=az hb;obtain⟨k0,k1,_⟩:=aT hb;clear hb ho
 go_enter Tryz.func51,Tryz.ntmps51
 go_wp2_with fail;refine(rR wb _ data n w HO.o (fB hf) hl hn).mono ?_;rintro e w1 ⟨v',rfl,hd,hc,-⟩;obtain⟨a1,c1,hg,-,-⟩:=aI hd;obtain⟨m,hm⟩: ∃m,m=(data++bE n).length:=⟨_,rfl⟩;rw[<-hm]at hg;subst hg;clear hm;have ha:=sA.box HB.o HO.o hc;have he:=an ha;have hj:=an hd;have hh:=an (mS.row HO.o (fB hf) hc)
 have f0:=qv (k:=0) ha;clear k0 k1;have k0:=aA (k:=0) ha;simp only[ak,aj]at k0;clear ha hd hc;go_wp2_with fail
 go_end0
 exact⟨rfl,sA.put he.o hj.o,hh.o.trans (mS.set he.o _)⟩
theorem Ap (wb:Nat) (t:ByteArray) (data:List UInt8) (w:World) (hw:sA w wb data) (hl:data.length<1099000000000) (hn:t.size<500000000):
  Calls Tryz.prog 50 #[.pointer (some ⟨wb,0,none⟩), .string t] w fun e w'=>e= .returned (.tuple #[])/\sA w' wb (data++(bE t.size++bl t))/\mS wb w w':=by
 obtain⟨v,hb,ho⟩:=hw;obtain⟨a0,c0,rfl,hy,hA⟩:=aI ho;have HB:=an hb;have HO:=an ho;have hq:=az hb;obtain⟨k0,k1,_⟩:=aT hb;clear hb ho;have hB:IntKind.u64.wrap (t.size:Int)=((t.size:Nat):Int):=by rw[cT]; omega
 have hy:=iE (n:=t.size) (by omega)
 go_enter Tryz.func50,Tryz.ntmps50
 go_wp2_with fail;refine(rR wb _ data t.size w HO.o (fB hq) (by omega) (by omega)).mono ?_;rintro e w1 ⟨v',rfl,hj,hh,-⟩;obtain⟨a1,c1,hs,-,-⟩:=aI hj;obtain⟨m,hm⟩: ∃m,m=(data++bE t.size).length:=⟨_,rfl⟩;rw[<-hm]at hs;subst hs;have HM:=an hm;clear hm;have hk:=an (sA.box HB.o HO.o hh);have hf:=an hj;have hv:=an (mS.row HO.o (fB hq) hh)
 have hx:=an (show(data++bE t.size).length+t.size<1099511627775 by rw[ar]; omega);have hd:=az hk.o;clear k0 k1 hj hh;go_wp2_with (at_builtin; go_must (refine lh rfl _ _ rfl wb (.slice a1 m c1) (data++bE t.size) rfl hf.o t rfl hx.o (fB hd) ?_); intro v2 w2 hc ha; obtain⟨a2,c2,hu,-,-⟩:=aI hc; obtain⟨m2,hr⟩: ∃m2,m2=(data++bE t.size).length+t.size:=⟨_,rfl⟩; try (rw[<-hr]at hu); subst hu; clear hr; have hg:=an hc; have hp:=an ha; clear hc ha; have he:=an (sA.box hk.o hf.o hp.o); have f0:=qv (k:=0) he.o; have k0:=aA (k:=0) he.o; simp only[ak,aj]at k0)
 go_end0
 have hz:lA w2 wb (.slice a2 m2 c2) (data++(bE t.size++bl t)):=by
  have:=hg.o;unfold lA;rw[<-bp,ar,aO,<-bi];exact this
 exact⟨rfl,sA.put he.o hz,(hv.o.trans (mS.row hf.o (fB hd) hp.o)).trans (mS.set he.o _)⟩
theorem MV (wb:Nat) (t:ByteArray) (data:List UInt8) (w:World) (hw:sA w wb data) (hl:data.length<1099000000000) (hn:t.size=32):
  Calls Tryz.prog 101 #[.pointer (some ⟨wb,0,none⟩), .string t] w fun e w'=>e= .returned (.tuple #[])/\sA w' wb (data++bl t)/\mS wb w w':=by
 obtain⟨v,hb,ho⟩:=hw;obtain⟨a0,c0,rfl,hp,hq⟩:=aI ho;have HB:=an hb;have HO:=an ho;have hg:=az hb;obtain⟨k0,k1,_⟩:=aT hb;clear hb ho;have hr:(t.size:Int)=32:=by omega
 have hk:=an (show data.length+t.size<1099511627775 by omega);clear hn
 go_enter Tryz.func101,Tryz.ntmps101
 go_wp2_with (at_builtin; go_must (refine lh rfl _ _ rfl wb (.slice a0 data.length c0) data rfl HO.o t rfl hk.o (fB hg) ?_); intro v2 w2 hc ha; obtain⟨a2,c2,hj,-,-⟩:=aI hc; obtain⟨m2,hh⟩: ∃m2,m2=(data.length+t.size):=⟨_,rfl⟩; try (rw[<-hh]at hj); subst hj; clear hh; have he:=an hc; have hf:=an ha; clear hc ha; have hd:=an (sA.box HB.o HO.o hf.o); have f0:=qv (k:=0) hd.o; clear k0 k1; have k0:=aA (k:=0) hd.o; simp only[ak,aj]at k0)
 go_end0
 have hm:lA w2 wb (.slice a2 m2 c2) (data++bl t):=by
  have:=he.o;unfold lA;rw[ar,aO,<-bi];exact this
 exact⟨rfl,sA.put hd.o hm,(mS.row HO.o (fB hg) hf.o).trans (mS.set hd.o _)⟩
theorem xR (wb n:Nat) (data:List UInt8) (w:World) (hw:sA w wb data) (hl:data.length<1099511000000) (hn:n<9223372036854775808):
  Calls Tryz.prog 49 #[.pointer (some ⟨wb,0,none⟩), .int .i64 (n:Int)] w fun e w'=>e= .returned (.tuple #[])/\sA w' wb (data++bE n)/\mS wb w w':=by
 have HW:=an hw;obtain⟨v,hb,ho⟩:=hw;obtain⟨a0,c0,rfl,hd,he⟩:=aI ho;have HB:=an hb;have HO:=an ho;have hf:=az hb;obtain⟨k0,k1,_⟩:=aT hb;clear hb ho;have hg:IntKind.u64.wrap (n:Int)=((n:Nat):Int):=by rw[cT]; omega
 go_enter Tryz.func49,Tryz.ntmps49
 go_wp2_with fail;refine(lz wb n data w HW.o hl (by omega)).mono ?_;rintro e w1 ⟨rfl,hc,ha⟩;go_wp2_with fail
 go_end0
 exact⟨rfl,hc,ha⟩
theorem mS.below {wb:Nat} {w w':World} (h:Below w.heap.size w w') (hb:wb<=w.heap.size):mS wb w w':=⟨h.mono hb,fun _ _ _=>js.below h⟩
theorem sA.below {wb:Nat} {data:List UInt8} {w w':World} (h:sA w wb data) (hb:Below w.heap.size w w'):sA w' wb data:=by
 obtain⟨v,h1,h2⟩:=h;exact⟨v,dV hb h1,cU h2 hb⟩
def Ni (data:List UInt8) (w:World) (e:Ending) (w':World):Prop:=
 Below w.heap.size w w'/\if data.length<=1048576 then ∃v,e= .returned (.tuple #[v, .int .i64 0])/\lA w' w.heap.size v data else e= .returned (.tuple #[.slice none 0 0, .int .i64 2])
theorem Ks (wb:Nat) (data:List UInt8) (w:World) (hw:sA w wb data) (hl:data.length<1099000000000):Calls Tryz.prog 53 #[.pointer (some ⟨wb,0,none⟩)] w (Ni data w):=by
 obtain⟨v,hb,ho⟩:=hw;obtain⟨a0,c0,hv,hq,hs⟩:=aI ho;obtain⟨n,hn⟩: ∃n,n=data.length:=⟨_,rfl⟩;rw[<-hn]at hv hq hl;subst hv;have HN:=an hn;have HR:=an (show cE (fun k=>wb<=k/\(Value.slice a0 n c0).ownBlock=some k) w 1 (.slice a0 n c0) n (data.map aY) by rw[hn]; rw[hn]at ho; exact cG ho);have hu:=az hb;obtain⟨k0,k1,_⟩:=aT hb
 clear hb ho hn
 by_cases hd:n<=1048576
 ·have hf:=an hd;have hr:(n:Int)<=1048576:=by omega
  have hm:=an (World.ownsRow_made (base:=w.heap.size) (e:=5) (size:=1) w #[] 0 (au _) (by unfold maxLen; omega) rfl);have he:=an ((ay w.heap.size w).alloc (au _) (.cells #[] 5));have hp:=an (HR.o.below (by decide) he.o);have hk:=an (show ∀u∈data.map aY,u.oneCell'=true from fo data);have hh:=an (show 0+n<1099511627775 by omega)
  have k2:=(he.o.cell (bS k0)).trans k0
  go_enter Tryz.func53,Tryz.ntmps53
  go_wp2_with (at_builtin; go_must (refine el Tryz.appBytes rfl _ _ rfl w.heap.size _ 0 [] rfl hm.o _ n (data.map aY) rfl hp.o hk.o hh.o he.o.size ?_); intro v6 wz hc ha; go_must (rw[bX,aL]at hc); have hj:=an hc; have hg:=an ha; clear hc ha)
  go_ret2
  refine⟨he.o.grown hg.o he.o.size (fun k e=>by cases e; exact au _), ?_⟩;rw[<-HN.o,if_pos hf.o];exact⟨v6,rfl,by unfold lA; rw[<-HN.o]; exact hj.o⟩
 ·have hf:=an hd;have hr:(1048576:Int)<(n:Int):=by omega
  clear hd
  go_enter Tryz.func53,Tryz.ntmps53
  go_wp2_with fail
  go_ret2
  refine⟨ay _ _, ?_⟩;rw[<-HN.o,if_neg hf.o]
  rfl
theorem tL (wb:Nat) (r:cX) (data:List UInt8) (w:World) (hw:sA w wb data) (hl:data.length<1098000000000) (hr:ld r=true):
  Calls Tryz.prog 52 #[.pointer (some ⟨wb,0,none⟩),fa r] w fun e w'=>e= .returned (.tuple #[])/\sA w' wb (data++fw r)/\mS wb w w':=by
 have HW:=an hw;obtain⟨hk,hD,hE,hI,hJ⟩:=mQ.1 hr;obtain⟨g,hg⟩: ∃g,g=r.gen.toNat:=⟨_,rfl⟩;obtain⟨z,hz⟩: ∃z,z=r.size.toNat:=⟨_,rfl⟩;have hm:r.gen=(g:Int):=by omega
 have hq:r.size=(z:Int):=by omega
 have hs:=an (show fw r=bl r.name++(bE g++bE z) by unfold fw; rw[hg,hz]);have he:=an hk;have hN:IntKind.u64.wrap (g:Int)=(g:Int):=by rw[cT]; omega
 have hO:IntKind.u64.wrap (z:Int)=(z:Int):=by rw[cT]; omega
 have hM:g<1099511627777:=by omega
 have hP:z<32769:=by omega
 have hG:wb<w.heap.size:=by obtain⟨_,h,_⟩:=hw; exact az h
 unfold fa;rw[hm,hq];clear hw hr hk hD hE hI hJ hg hz hm hq
 go_enter Tryz.func52,Tryz.ntmps52
 go_wp2_with fail;obtain⟨w1,ha⟩: ∃w1,w1=w.alloc (.cells #[.string r.name, .int .i64 (g:Int), .int .i64 (z:Int)] 26):=⟨_,rfl⟩;rw[<-ha];have hf:=an (show Below w.heap.size w w1 by rw[ha]; exact eN);have hj:=an (show w1.heap[w.heap.size]? =some (.cells #[.string r.name, .int .i64 (g:Int), .int .i64 (z:Int)] 26 (0,0)) by rw[ha]; exact dY w _);have hu:=an (mS.below hf.o (fB hG))
 have hy:=an (HW.o.below hf.o);clear ha;refine(MV wb r.name data w1 hy.o (by omega) he.o).mono ?_;rintro e w2 ⟨rfl,ho,hc⟩;have hA:=an ho;have hv:=an hc;have hb:=an ((hc.2 _ (by decide) (by decide) _ _ hj.o).trans hj.o);have hn:(data++bl r.name).length=data.length+32:=by rw[ar,<-bi,he.o]
 have hh:=an hn;have c1:=aA (k:=1) hb.o;simp only[ak,am,aj]at c1;clear ho hc hn;go_wp2_with fail;refine(lz wb g _ w2 hA.o (by rw[hh.o]; omega) (by omega)).mono ?_;rintro e w3 ⟨rfl,hp,hd⟩;have hB:=an hp;have hx:=an hd;have hC:=an ((hd.2 _ (by decide) (by decide) _ _ hb.o).trans hb.o)
 have c2:=aA (k:=2) hC.o;simp only[ak,am,aj]at c2;clear hp hd c1;have hL:=iE (n:=g) (by omega);go_wp2_with fail;refine(lz wb z _ w3 hB.o (by rw[ar,hh.o]; omega) (by omega)).mono ?_;rintro e w4 ⟨rfl,hH,hF⟩;go_wp2_with fail
 go_end0
 refine⟨rfl, ?_,((hu.o.trans hv.o).trans hx.o).trans hF⟩;rw[hs.o,<-bp,<-bp];exact hH
end Go.Proofs.YtpffpjbkbaleiaaGreatDoor
