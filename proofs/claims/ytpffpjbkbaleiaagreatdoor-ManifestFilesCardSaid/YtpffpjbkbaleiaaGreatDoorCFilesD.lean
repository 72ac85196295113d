/- Texts of this proof, one after the other: OwnE, EndC, BuildP, WrA, WrB, ItemF, NodA, Lib, FileA, FileB, LoadP, PartB, LookP, WalkA, WalkB, WalkC, Needs, NeedP, LoadA, LookA, FtC, FtD, FtE, FtP, FtQ, BldA. -/
import Derived.Test.YtpffpjbkbaleiaaGreatDoorCFilesC
set_option maxRecDepth 100000
set_option maxHeartbeats 8000000
namespace Go.Proofs.YtpffpjbkbaleiaaGreatDoor
open Go Go.RowKit Go.Maps
theorem Tryz.appEnts :eh Tryz.prog 46 79 6 80:=eh.mk' (z:=Cg) Tryz.underlying46 (by kernel_rfl) rfl (by decide) (by decide)
def cA (ys:List gP):List Value:=ys.flatMap fun y=>mR y.1 y.2
theorem mS (ys:List gP) (y:gP):cA (ys++[y])=cA ys++mR y.1 y.2:=by simp[cA]
theorem oU : ∀ys:List gP,(cA ys).length=ys.length*6
 | []=>rfl
 | y::ys=>by
  have:=oU ys;unfold cA at this ⊢;rw[List.flatMap_cons,List.length_append,this,List.length_cons,show(mR y.1 y.2).length=6 from rfl]; omega
theorem dR {a:Option Addr} {n c:Nat} {e:bi} : ∀u∈mR (.slice a n c) e,u.oneCell'=true:=by
 intro u hu;simp only[mR,List.mem_cons,List.not_mem_nil,or_false]at hu
 rcases hu with rfl | rfl | rfl | rfl | rfl | rfl<;> rfl
theorem oT : ∀ {ys:List gP} {k:Nat} {y:gP},ys[k]? =some y-> ∀j,j<6->(cA ys)[k*6+j]? =(mR y.1 y.2)[j]?
 | [],k,_,h,_,_=>by simp at h
 | x::ys,0,y,h,j,hj=>by
  simp at h; subst h;unfold cA;rw[List.flatMap_cons,Nat.zero_mul,Nat.zero_add,List.getElem?_append_left (by exact hj)]
 | x::ys,k+1,y,h,j,hj=>by
  have:=oT (ys:=ys) (k:=k) (y:=y) (by simpa using h) j hj;unfold cA at this ⊢;rw[List.flatMap_cons,List.getElem?_append_right (by show 6<=_; omega),<-this]
  congr 1
  show(k+1)*6+j-6=_
  omega
theorem Az {w:World} {base n cap:Nat} {a:Option Addr} {ys:List gP} {m:Nat} (h:w.ownsRow base 79 6 (.slice a n cap) m (cA ys)) {k:Nat} {y:gP} (hk:ys[k]? =some y):
  ∃b,a=some ⟨b,0,none⟩/\base<=b/\b<w.heap.size/\n=ys.length/\w.cell? ⟨b,k*6,none⟩=some (.string y.2.path)/\w.cell? ⟨b,k*6+1,none⟩=some (.int .i64 y.2.kind)/\w.cell? ⟨b,k*6+2,none⟩=some (.int .i64 y.2.mode)/\w.cell? ⟨b,k*6+3,none⟩=some (.int .i64 y.2.time)/\w.cell? ⟨b,k*6+4,none⟩=some y.1/\w.cell? ⟨b,k*6+5,none⟩=some (.string y.2.link):=by
 have hlen:=h.1;rw[oU]at hlen;have hm:m=ys.length:=by omega
 subst hm;have hr:=bm h;obtain⟨_,a',cap',he,_,_,h0⟩:=hr;simp only[Value.slice.injEq]at he;obtain⟨rfl,rfl,rfl⟩:=he;have hlt:=(List.getElem?_eq_some_iff.1 hk).1
 rcases h0 with h0 | ⟨b,o,rfl,hb,hc⟩
 ·omega
 ·rcases h.2 with⟨hn,_⟩ | ⟨g,cp,cur,hv,hbs,hh,_⟩
  ·cases hn
  ·simp only[Value.slice.injEq,Option.some.injEq,Addr.mk.injEq]at hv;obtain⟨⟨rfl,rfl,-⟩,-,rfl⟩:=hv;have g:=fun j (hj:j<6)=>hc (k*6+j) _ ((oT hk j hj).trans (List.getElem?_eq_getElem (l:=mR y.1 y.2) hj))
   have g0:=g 0 (by omega);have g1:=g 1 (by omega);have g2:=g 2 (by omega);have g3:=g 3 (by omega);have g4:=g 4 (by omega);have g5:=g 5 (by omega);simp only[Nat.zero_add,Nat.add_zero]at g0 g1 g2 g3 g4 g5;exact⟨b,rfl,hbs,(Array.getElem?_eq_some_iff.1 hh).1,rfl,g0,g1,g2,g3,g4,g5⟩
theorem bt.slice {S:Nat->Prop} {w:World} {v:Value} {bs:List UInt8} (h:bt S w v bs): ∃a c,v= .slice a bs.length c/\bs.length<=c/\c<=maxLen:=by
 obtain⟨_,a,c,rfl,h1,h2,_⟩:=h;exact⟨a,c,rfl,h1,h2⟩
theorem aX {w w':World} {B n sz:Nat} {e:TypeId} {v:Value} {xs:List Value} (h:w.ownsRow B e sz v n xs) (hb:Below w.heap.size w w'):w'.ownsRow B e sz v n xs:=by
 refine h.kept (row:=none) ⟨hb.os,hb.tape,hb.output,hb.size,fun k hk _=>hb.block k hk⟩ ?_
 cases hv:v.ownBlock
 ·exact .inl rfl
 ·exact .inr (by simp)
end Go.Proofs.YtpffpjbkbaleiaaGreatDoor
namespace Go.Proofs.YtpffpjbkbaleiaaGreatDoor
open Go Go.RowKit Go.Maps
attribute [local go_sem] Oper.semAt_some
theorem Tryz.appChunks :eh Tryz.prog 181 29 1 24:=eh.mk' (z:= .slice none 0 0) Tryz.underlying181 (by kernel_rfl) rfl (by decide) (by decide)
def xJ (B:Nat) (v:Value) (L:List (List UInt8)) (w:World):Prop:=
 ∃ys:List (Value×List UInt8),ys.map Prod.snd=L/\w.ownsRow B 29 1 v ys.length (ys.map Prod.fst)/\ ∀y∈ys,w.ownsRow B 5 1 y.1 y.2.length (y.2.map an)
theorem fy {A B:World} {row:Option Nat} {base sz m:Nat} {t:TypeId} {v:Value} {xs:List Value} (h:A.ownsRow base t sz v m xs) (hg:A.grownBy B row) (hr: ∀r,row=some r-> ∀cs,A.heap[r]? ≠some (.cells cs t (0,0))):B.ownsRow base t sz v m xs:=by
 refine h.kept hg ?_
 rcases h.2 with⟨rfl,_⟩ | ⟨g,cap,cur,rfl,_,hgb,_⟩
 ·exact .inl rfl
 ·exact .inr fun e'=>hr g (by simpa [Value.ownBlock]using e'.symm) cur hgb
theorem tQ {A:World} {b1 b2 s1 s2 m1 m2:Nat} {t1 t2:TypeId} {v1 v2:Value} {x1 x2:List Value} (h1:A.ownsRow b1 t1 s1 v1 m1 x1) (h2:A.ownsRow b2 t2 s2 v2 m2 x2) (ht:t1≠t2):v1.ownBlock=none\/v1.ownBlock≠v2.ownBlock:=by
 cases h:v1.ownBlock with
 | none=>exact .inl rfl
 | some k=>
  refine .inr fun e=> ?_
  obtain⟨_,c1,d1⟩:=fa h1 h;obtain⟨_,c2,d2⟩:=fa h2 e.symm;rw[d1]at d2
  cases d2
  exact ht rfl
def ChI (bx:Nat) (data:List UInt8) (w4:World) (pre:List Nat) (W:World):Prop:=
 (∃(ys:List (Value×List UInt8)) (v:Value),ys.map Prod.snd=dF data 0 pre/\ys.length=pre.length/\W.heap[bx]? =some (.cells #[v] 181 (0,0))/\W.ownsRow (bx+4) 29 1 v ys.length (ys.map Prod.fst)/\ ∀y∈ys,W.ownsRow (bx+4) 5 1 y.1 y.2.length (y.2.map an))/\
 W.heap[bx+1]? =some (.cells #[.int .i64 ((eS pre:Nat):Int)] 3 (0,0))/\Below bx w4 W
theorem ChI.turn {bx:Nat} {data:List UInt8} {w4:World} {pre:List Nat} {A B:World} {row:Option Nat} (h:ChI bx data w4 pre A) (h4:w4.heap.size=bx+4) (hg:A.grownBy B row) (hr: ∀r,row=some r->bx+4<=r/\ ∀cs t,A.heap[r]? =some (.cells cs t (0,0))->t=239):ChI bx data w4 pre B:=by
 obtain⟨⟨ys,v,h1,h2,h3,h5,h6⟩,h7,h8⟩:=h;have hs:=h8.size;refine⟨⟨ys,v,h1,h2,(hg.block _ (lt_of_block h3) (fun e=>by have:=(hr _ e.symm).1; omega)).trans h3,fy h5 hg (fun r e cs hc=>by have:=(hr r e).2 cs _ hc; cases this),fun y hy=>fy (h6 y hy) hg (fun r e cs hc=>by have:=(hr r e).2 cs _ hc; cases this)⟩,
  (hg.block _ (lt_of_block h7) (fun e=>by have:=(hr _ e.symm).1; omega)).trans h7,h8.grown hg (by omega) (fun k e=>by have:=(hr k e).1; omega)⟩
theorem uG {bx:Nat} {data:List UInt8} {w4:World} (h4:w4.heap.size=bx+4):OwnFrom w4.heap.size (ChI bx data w4):=fun _ _ _ _ h hg hr=>h.turn h4 hg (fun r e=>⟨by have:=(hr r e).1; omega,fun cs t hc=>by
 obtain⟨_,o,ho,hw⟩:=hr r e;rw[ho]at hc; cases hc; cases hw⟩)
theorem xZ {bx:Nat} {data:List UInt8} {w4:World} (h4:w4.heap.size=bx+4):uy 239 w4.heap.size (ChI bx data w4):=fun _ _ _ _ h hg hr=>h.turn h4 hg (fun r e=>⟨by have:=(hr r e).1; omega,fun cs t hc=>by
 obtain⟨_,cs',ho⟩:=hr r e;rw[ho]at hc; cases hc; rfl⟩)
def sF (c:de) (dv:Value) (w0 bx q:Nat):Act:=
 {tmps:= #[eQ c,dv, .pointer (some ⟨w0,0,none⟩), .pointer (some ⟨w0+1,0,none⟩), .slice none 0 0, .int .i64 0, .int .i64 0, .pointer (some ⟨bx,0,none⟩), .pointer (some ⟨bx+1,0,none⟩), .int .i64 (q:Int),eQ c,dv, .slice (some ⟨w0+1+1,0,none⟩) 1 1, .int .i64 0, .int .i64 0, .bool false,undef,eQ c,dv,
   .func (.func 186) #[] #[.pointer (some ⟨bx+2,0,none⟩), .pointer (some ⟨bx+2+1,0,none⟩)], .int .i64 (q:Int),undef,undef,undef,undef,undef,undef,undef,undef,undef,undef],defers:=[]}
def ChA (c:de) (dv:Value) (w0 bx:Nat) (data:List UInt8) (w4:World) (pre:List Nat) (q:Nat) (a:Act) (W:World):Prop:=
 ChI bx data w4 pre W/\(eS pre<q/\q<=data.length)/\pre.length<data.length/\a=sF c dv w0 bx q
theorem Ab {c:de} {dv:Value} {w0 bx:Nat} {data:List UInt8} {w4:World} (h4:w4.heap.size=bx+4):OwnFrom w4.heap.size (fun(s:List Nat×Nat×Act) W=>ChA c dv w0 bx data w4 s.1 s.2.1 s.2.2 W):=fun s A B row h hg hr=>⟨uG h4 s.1 A B row h.1 hg hr,h.2⟩
theorem Ck {n b1 b2:Nat} {t:TypeId} {A B C:World} (h:Below n A B/\cG t A B/\xO b1 b2 A B) (k:Below n B C/\cG t B C/\xO b1 b2 B C):Below n A C/\cG t A C/\xO b1 b2 A C:=⟨h.1.trans k.1,h.2.1.trans k.2.1,k.2.2.1.trans h.2.2.1,k.2.2.2.trans h.2.2.2⟩
theorem mG (S:Nat->Prop) (c:de) (data:List UInt8) (dv:Value) (w:World) (hc:gp c=true) (hs:c.seed<18446744073709551616) (hd:aC S w dv data) (hl:data.length<=1048576) (hT:qC w):
  Calls Tryz.prog 155 #[eQ c,dv] w fun e w'=> ∃v,e= .returned (.tuple #[v, .int .i64 0])/\xJ w.heap.size v (dF data 0 (ri (qk c data) c.mn.toNat c.mx.toNat data.length)) w'/\Below w.heap.size w w':=by
 have HC:=ab hc;have HD:=ab hd;have HT:=ab hT;obtain⟨_,da,dcap,rfl,hdc,hdm,-⟩:=id hd;obtain⟨n,hn⟩: ∃n,n=data.length:=⟨_,rfl⟩;rw[<-hn]at hdc hl HD ⊢;have HN:=ab hn;have HCK:=ab (show jF c n=0 by unfold jF; rw[if_pos hc,if_neg (by omega)]);have HNM:=ab (show n<=maxLen by unfold maxLen; omega);clear hc hd hT hn;refine(callsIn_wide (n:=4)).1 (callsIn_of_wp_marks Tryz.func155 rfl trivial ?_ rfl)
 simp only[Tryz.ntmps155,List.size_toArray,List.length_cons,List.length_nil,Nat.reduceAdd,Nat.reduceSub,Array.replicate_succ,Array.replicate_zero,List.push_toArray,List.append_toArray,List.nil_append,List.cons_append];refine(wpIn_wide (n:=4)).2 ?_;unfold eQ;go_wp2_with fail;obtain⟨w1,hw1⟩: ∃w1,w1=((w.alloc (.cells #[.int .i64 c.mn, .int .i64 c.mx, .int .i64 c.win, .int .i64 c.bits, .int .u64 (c.seed:Int)] 45)).alloc (.cells #[.slice da n dcap] 29)).alloc (.cells #[.slice da n dcap] 29):=⟨_,rfl⟩
 rw[<-hw1];have HB1:=ab (show Below w.heap.size w w1 by rw[hw1]; exact(((Below.refl _ _).alloc (Nat.le_refl _) _).alloc (by simp) _).alloc (by simp; omega) _);have HX1:=ab (show w1.heap[w.heap.size]? =some (.cells (cR c).toArray 45 (0,0)) by rw[hw1]; exact fi (fi (bI w _) _) _);have HY1:=ab (show w1.heap[w.heap.size+1]? =some (.cells #[.slice da n dcap] 29 (0,0)) by rw[hw1]; exact fi (iS w _ _) _)
 have HZ1:=ab (show w1.heap[w.heap.size+1+1]? =some (.cells #[.slice da n dcap] 29 (0,0)) by rw[hw1]; exact(by have:=heap_alloc_new ((w.alloc (.cells #[.int .i64 c.mn, .int .i64 c.mx, .int .i64 c.win, .int .i64 c.bits, .int .u64 (c.seed:Int)] 45)).alloc (.cells #[.slice da n dcap] 29)) (.cells #[.slice da n dcap] 29); simpa using this));clear hw1;have hck:=mE c da n dcap (w.heap.size+1+1) w1 (aa HZ1.out) HNM.out
 rw[HCK.out]at hck;unfold eQ at hck;refine hck.mono ?_;rintro e w2 ⟨rfl,hb2⟩;have HB2:=ab (ag HB1.out hb2);have HX2:=ab ((hb2.block _ (lt_of_block HX1.out)).trans HX1.out);have HY2:=ab ((hb2.block _ (lt_of_block HY1.out)).trans HY1.out);clear hck hb2;have HX3:=ab (fi (fi HX2.out (.cells #[.slice none 0 0] 181)) (.cells #[.int .i64 0] 3));have HY3:=ab (fi (fi HY2.out (.cells #[.slice none 0 0] 181)) (.cells #[.int .i64 0] 3))
 have HBX3:=ab (fi (bI w2 (.cells #[.slice none 0 0] 181)) (.cells #[.int .i64 0] 3));have HBS3:=ab (iS w2 (.cells #[.slice none 0 0] 181) (.cells #[.int .i64 0] 3));have HB3:=ab (((Below.refl w2.heap.size w2).alloc (Nat.le_refl _) (.cells #[.slice none 0 0] 181)).alloc (by simp) (.cells #[.int .i64 0] 3));have hs3:((w2.alloc (.cells #[.slice none 0 0] 181)).alloc (.cells #[.int .i64 0] 3)).heap.size=w2.heap.size+2:=by simp
 have c0:=aa (k:=0) HX3.out;have c1:=aa (k:=1) HX3.out;have c2:=aa (k:=2) HX3.out;have c3:=aa (k:=3) HX3.out;have c4:=aa (k:=4) HX3.out;have y0:=aa (k:=0) HY3.out;simp only[cR,aW]at c0 c1 c2 c3 c4 y0;go_wp2_with fail
 generalize (w2.alloc (.cells #[.slice none 0 0] 181)).alloc (.cells #[.int .i64 0] 3)=w3 at *
 have he:=yl c (.slice da n dcap) w3 ⟨_,_,_,rfl⟩;unfold eQ at he;refine he.mono ?_;rintro e w4 ⟨rfl,hcp,hb4,hs4⟩;clear he c0 c1 c2 c3 c4 y0;obtain⟨bx,hbx⟩: ∃bx,bx=w2.heap.size:=⟨_,rfl⟩;rw[hs3]at hcp ⊢;rw[<-hbx]at HBX3 HBS3 hcp ⊢;have HB4:=ab (hb4.mono (by rw[hs3,hbx]; omega:bx<=w3.heap.size));have HB24:=ab (show Below w2.heap.size w2 w4 from HB3.out.trans (by rw[<-hbx]; exact HB4.out))
 have HBX4:=ab ((hb4.block _ (lt_of_block HBX3.out)).trans HBX3.out);have HBS4:=ab ((hb4.block _ (lt_of_block HBS3.out)).trans HBS3.out);have HY4:=ab ((hb4.block _ (lt_of_block HY3.out)).trans HY3.out);have hs44:w4.heap.size=bx+4:=by rw[hs4,hs3,hbx]
 have HCP:=ab hcp;have HWX:=ab (show w.heap.size+1<bx by rw[hbx]; exact lt_of_block HY2.out);have HBX:=ab hbx;have HD2:=ab (show aC S w2 (.slice da n dcap) data from HD.out.below (by decide) HB2.out);clear hcp hb4 hs4 hs3 hbx;go_wp2_with fail;refine xB (gf:=186) (lb:= #[.pointer (some ⟨bx+2,0,none⟩), .pointer (some ⟨bx+2+1,0,none⟩)]) rfl (enters_of Tryz.func186 (by kernel_rfl) rfl)
  (ym S c data (.slice da n dcap) (bx+2) (bx+2+1) w2 w4 HC.out hs HCP.out HD2.out (by rw[<-HN.out]; exact hl) (HT.out.block (HB2.out.block _ HT.out.lt) HB2.out.size) HB24.out) Ck (fun W l o o' hl' h1 h2 h3=> ?kb) (fun _=>rfl)
  (ChI bx data w4) (fun _ _ _=>False) (ChA c (.slice da n dcap) w.heap.size bx data w4) (uG hs44) (xZ hs44) (fun _ _ _ _ _ h _ _=>h) (Ab hs44) ⟨⟨[], .slice none 0 0,rfl,rfl,HBX4.out,World.ownsRow_nil _ _ _ _,by simp⟩,HBS4.out,Below.refl _ _⟩ ?assign ?body ?done ?stop
 case kb=>
  have hlt:=(Array.getElem?_eq_some_iff.1 h1).1;have hb:=HBX.out;have hg:=grownBy_putObj' W l o';refine⟨ft (Below.refl _ _) hg (by omega) (by omega),cG.grown hg (fun r e cs hcs=>by cases e; rw[h1]at hcs; cases hcs; cases h2),hg.block _ (by omega) (fun e=>by cases e; omega),hg.block _ (by omega) (fun e=>by cases e; omega)⟩
 case assign=>
  rintro l pre q W hW hI hD hN
  gi_wp2
  exact⟨KeepsOthers.refl _,⟨Below.refl _ _,cG.refl _,rfl,rfl⟩,hI,hD,hN,rfl⟩
 case body=>
  rintro l pre q a₁ W ⟨hI,hD,hN,rfl⟩;obtain⟨⟨ys,v,h1,h2,h3,h5,h6⟩,h7,h8⟩:=hI;have H1:=ab h1;have H2:=ab h2;have H3:=ab h3;have H5:=ab h5;have H6:=ab h6;have H7:=ab h7;have H8:=ab h8;obtain⟨s,hsE⟩: ∃s,s=eS pre:=⟨_,rfl⟩;rw[<-hsE]at hD H7;have HSE:=ab hsE;have hsz:=h8.size;clear h1 h2 h3 h5 h6 h7 h8 hsE;obtain⟨av,cv,rfl,hvn,hvm⟩:=aj H5.out
  have HDW:=ab (HD2.out.below (by decide) (HB24.out.trans (H8.out.mono (by rw[<-HBX.out]; omega))));have HYW:=ab ((H8.out.block _ (by have:=HWX.out; omega)).trans HY4.out);obtain⟨sa,sc,hsl,hsb⟩:=xm HDW.out hD.1 hD.2;obtain⟨pl,hpl⟩: ∃pl,pl=fc data s q:=⟨_,rfl⟩;rw[<-hpl]at hsl hsb;have HSB:=ab hsb;have HPL:=ab hpl;clear hsb hpl;simp only[sF]
  gi_wp2
  refine tt (fun w'=>w'.cell? ⟨bx,0,none⟩=some (.slice av ys.length cv)/\w'.cell? ⟨w.heap.size+1,0,none⟩=some (.slice da n dcap)/\w'.cell? ⟨bx+1,0,none⟩=some (.int .i64 (s:Int))) (by kernel_rfl) (by kernel_rfl) (by kernel_rfl) ?_;simp only[List.dropLast_cons_cons,List.dropLast_singleton,List.length_cons,List.length_nil,Nat.reduceAdd,Nat.reduceSub];obtain⟨V,hV⟩: ∃V:World,V=W.drew:=⟨_,rfl⟩
  rw[<-hV];have HBV:=ab (show Below W.heap.size W V by rw[hV]; exact(Below.refl _ _).drew);have hsV:V.heap.size=W.heap.size:=by rw[hV]; rfl
  clear hV;have k0:=aa (k:=0) ((HBV.out.block _ (lt_of_block H3.out)).trans H3.out);have k1:=aa (k:=0) ((HBV.out.block _ (lt_of_block HYW.out)).trans HYW.out);have k2:=aa (k:=0) ((HBV.out.block _ (lt_of_block H7.out)).trans H7.out);simp only[List.getElem?_toArray,List.getElem?_cons_zero]at k0 k1 k2;refine af 0 rfl (by kernel_rfl) (by kernel_rfl) (by kernel_rfl) (fun _ _ _ h=>h) rfl ⟨k0,k1,k2⟩ (by rintro w' ⟨hw1,hw2,hw3⟩; go_simp; first | rfl | (rw[hsl]; rfl)) ?_
  simp only[Act.put,az,aA,aB];refine af 1 rfl (by kernel_rfl) (by kernel_rfl) (by kernel_rfl) (fun _ _ _ h=>h) rfl ⟨k0,k1,k2⟩ (by rintro w' ⟨hw1,hw2,hw3⟩; go_simp; first | rfl | (rw[hsl]; rfl)) ?_;simp only[Act.put,az,aA,aB];refine af 2 rfl (by kernel_rfl) (by kernel_rfl) (by kernel_rfl) (fun _ _ _ h=>h) rfl ⟨k0,k1,k2⟩ (by rintro w' ⟨hw1,hw2,hw3⟩; go_simp; first | rfl | (rw[hsl]; rfl)) ?_
  simp only[Act.put,az,aA,aB];refine af 3 rfl (by kernel_rfl) (by kernel_rfl) (by kernel_rfl) (fun _ _ _ h=>h) rfl ⟨k0,k1,k2⟩ (by rintro w' ⟨hw1,hw2,hw3⟩; go_simp; first | rfl | (rw[hsl]; rfl)) ?_;simp only[Act.put,az,aA,aB];refine af 4 rfl (by kernel_rfl) (by kernel_rfl) (by kernel_rfl) (fun _ _ _ h=>h) rfl ⟨k0,k1,k2⟩ (by rintro w' ⟨hw1,hw2,hw3⟩; go_simp; first | rfl | (rw[hsl]; rfl)) ?_
  simp only[Act.put,az,aA,aB];have HSV:=ab (show aC S V (.slice sa pl.length sc) pl from HSB.out.below (by decide) HBV.out);refine am 5 rfl (by kernel_rfl) rfl (fun K hK=> ?_);go_wp2_with fail;refine(vI S _ pl V HSV.out (by rw[HPL.out]; unfold fc; rw[List.length_take,List.length_drop]; rw[<-HN.out]at hD; omega)).mono ?_;rintro e w5 ⟨v5,rfl,ho5,hb5⟩;obtain⟨a5,e5,rfl,hn5,hm5⟩:=aj ho5
  have HO5:=ab ho5;have HB5:=ab (show Below W.heap.size W w5 from HBV.out.trans (by rw[<-hsV]; exact hb5));clear ho5 hb5 k0 k1 k2;have k0:=aa (k:=0) ((HB5.out.block _ (lt_of_block H3.out)).trans H3.out);have k1:=aa (k:=0) ((HB5.out.block _ (lt_of_block HYW.out)).trans HYW.out);have k2:=aa (k:=0) ((HB5.out.block _ (lt_of_block H7.out)).trans H7.out);simp only[List.getElem?_toArray,List.getElem?_cons_zero]at k0 k1 k2
  go_wp2_with fail;refine⟨⟨k0,k1,k2⟩, ?_⟩;have HB6:=ab (show Below w5.heap.size w5 (w5.alloc (.cells #[.slice a5 pl.length e5] 29))from(Below.refl _ _).alloc (Nat.le_refl _) _);have l0:=(HB6.out.cell (aK k0)).trans k0;have l1:=(HB6.out.cell (aK k1)).trans k1;have l2:=(HB6.out.cell (aK k2)).trans k2;refine am 6 rfl (by kernel_rfl) rfl (fun K hK=> ?_);go_wp2_with fail
  refine⟨⟨l0,l1,l2⟩, ?_⟩;clear l0 l1 l2;have HOW:=ab (show w5.ownsRow (bx+4) 29 1 (.slice av ys.length cv) ys.length (ys.map Prod.fst)from aX H5.out HB5.out);have HLN:=ab (show ys.length<1099511627775 by rw[H2.out]; rw[<-HN.out]at hN; omega);have HBS:=ab (show bx+4<=w5.heap.size by have:=HB5.out.size; omega);refine am 7 rfl (by kernel_rfl) rfl (fun K hK=> ?_);go_wp2_with (at_builtin; go_must (refine aH Tryz.appChunks rfl _ _ rfl (bx+4) (.slice av ys.length cv) ys.length (ys.map Prod.fst) rfl w5 [.slice a5 pl.length e5] 29 rfl rfl (by simp[Value.oneCell']) HOW.out HLN.out HBS.out ?_); intro v7 w7 hown' hgrow' hne7 hpl7; obtain⟨a7,c7,rfl,-,-⟩:=aj hown')
  have hge: ∀k,(Value.slice av ys.length cv).ownBlock=some k->bx+4<=k:=fun k e=>(fa HOW.out e).1
  have hb7: ∀k,k<w5.heap.size->k<bx+4->w7.heap[k]? =w5.heap[k]? :=fun k h1 h2=>hgrow'.block k h1 (fun e=>by have:=hge k e.symm; omega)
  have hsz5:=HB5.out.size;have HX7:=ab (show w7.heap[bx]? =some (.cells #[.slice av ys.length cv] 181 (0,0)) by rw[hb7 _ (by omega) (by omega),HB5.out.block _ (lt_of_block H3.out),H3.out]);have HS7:=ab (show w7.heap[bx+1]? =some (.cells #[.int .i64 (s:Int)] 3 (0,0)) by rw[hb7 _ (by omega) (by omega),HB5.out.block _ (lt_of_block H7.out),H7.out]);have HY7:=ab (show w7.heap[w.heap.size+1]? =some (.cells #[.slice da n dcap] 29 (0,0)) by rw[hb7 _ (by have:=HWX.out; omega) (by have:=HWX.out; omega),HB5.out.block _ (lt_of_block HYW.out),HYW.out])
  have HOWN:=ab hown';have HGR:=ab hgrow';clear hown' hgrow' hne7 hpl7 hb7 k0 k1 k2;refine⟨⟨aa HX7.out,aa HY7.out,aa HS7.out⟩, ?_⟩;simp only[Act.put,az,aA,aB];have k0:=aa (k:=0) HX7.out;have f0:=iI (k:=0) HX7.out;have f1:=iI (k:=0) HS7.out;have k2:=aa (k:=0) HS7.out;simp only[List.getElem?_toArray,List.getElem?_cons_zero]at k0 k2;refine aQ (by kernel_rfl) ?_
  refine bM rfl rfl (fun K hK=> ?_);go_wp2_with fail;rw[ql]
  gi_wp2
  have hX1:(w7.setCell ⟨bx,0,none⟩ (.slice a7 (ys.length+1) c7)).heap[bx]? =some (.cells #[.slice a7 (ys.length+1) c7] 181 (0,0)):=by simpa using zd (k:=0) HX7.out (.slice a7 (ys.length+1) c7)
  have hX2:(w7.setCell ⟨bx,0,none⟩ (.slice a7 (ys.length+1) c7)).heap[bx+1]? =some (.cells #[.int .i64 (s:Int)] 3 (0,0)):=nC HS7.out (by omega) _;obtain⟨B,hBe⟩: ∃B,B=(w7.setCell ⟨bx,0,none⟩ (.slice a7 (ys.length+1) c7)).setCell ⟨bx+1,0,none⟩ (.int .i64 (q:Int)):=⟨_,rfl⟩;rw[<-hBe];have hB1:B.heap[bx]? =some (.cells #[.slice a7 (ys.length+1) c7] 181 (0,0)):=by rw[hBe]; exact nC hX1 (by omega) _
  have hB2:B.heap[bx+1]? =some (.cells #[.int .i64 (q:Int)] 3 (0,0)):=by rw[hBe]; simpa using zd (k:=0) hX2 (.int .i64 (q:Int))
  have hg1:=aD (w7) bx 0 (.slice a7 (ys.length+1) c7);have hg2:=aD (w7.setCell ⟨bx,0,none⟩ (.slice a7 (ys.length+1) c7)) (bx+1) 0 (.int .i64 (q:Int));rw[<-hBe]at hg2;have hk7: ∀k,k<w7.heap.size->k≠bx->k≠bx+1->B.heap[k]? =w7.heap[k]? :=fun k h1 h2 h3=>(hg2.block k (Nat.lt_of_lt_of_le h1 hg1.size) (fun e=>h3 (Option.some.inj e))).trans (hg1.block k h1 (fun e=>h2 (Option.some.inj e)))
  have hsz7:=HGR.out.size;have hkW: ∀k,k<W.heap.size->k≠bx->k≠bx+1->(Value.slice av ys.length cv).ownBlock≠some k->B.heap[k]? =W.heap[k]? :=fun k h1 h2 h3 h4=>by
   rw[hk7 k (by omega) h2 h3,HGR.out.block k (by omega) (fun e=>h4 e.symm),HB5.out.block k h1]
  have hszB:W.heap.size<=B.heap.size:=by have:=hg1.size; have:=hg2.size; omega
  have hos:B.os=W.os:=by rw[hg2.os,hg1.os,HGR.out.os,HB5.out.os]
  have htp:B.tape=W.tape:=by rw[hg2.tape,hg1.tape,HGR.out.tape,HB5.out.tape]
  have hou:B.output=W.output:=by rw[hg2.output,hg1.output,HGR.out.output,HB5.out.output]
  have hown: ∀(sz m:Nat) (t:TypeId) (u:Value) (xs:List Value),w5.ownsRow (bx+4) t sz u m xs->t=5->B.ownsRow (bx+4) t sz u m xs:=fun sz m t u xs h ht=>by
   have h7:w7.ownsRow (bx+4) t sz u m xs:=h.kept HGR.out (tQ h HOW.out (by rw[ht]; decide));have h8:=fy h7 hg1 (fun r e cs hc=>by cases e; rw[HX7.out]at hc; cases hc; cases ht);exact fy h8 hg2 (fun r e cs hc=>by cases e; rw[hX2]at hc; cases hc; cases ht)
  have hblk: ∀k,k<bx+4->(Value.slice av ys.length cv).ownBlock≠some k:=fun k h1 e=>by have:=hge k e; omega
  refine⟨⟨hszB,fun k o hko hoc=> ?_⟩,⟨⟨hos,htp,hou,hszB,fun k hk=> ?_⟩,fun k cs hk=> ?_, ?_, ?_⟩,⟨ys++[(.slice a5 pl.length e5,pl)], .slice a7 (ys.length+1) c7, ?_, ?_,hB1, ?_, ?_⟩, ?_, ?_⟩
  ·rw[hkW k (Array.getElem?_eq_some_iff.1 hko).1 (fun e=>by rw[e,H3.out]at hko; cases hko; cases hoc) (fun e=>by rw[e,H7.out]at hko; cases hko; cases hoc) (fun e=>by
    obtain⟨_,cur,hcur⟩:=fa H5.out e;rw[hcur]at hko; cases hko; cases hoc)]
   exact hko
  ·rw[<-HBX.out]at hk;exact hkW k (by omega) (by omega) (by omega) (hblk k (by omega))
  ·exact hkW k (Array.getElem?_eq_some_iff.1 hk).1 (fun e=>by rw[e,H3.out]at hk; cases hk) (fun e=>by rw[e,H7.out]at hk; cases hk) (fun e=>by
    obtain⟨_,cur,hcur⟩:=fa H5.out e;rw[hcur]at hk; cases hk)
  ·exact hkW _ (by omega) (by omega) (by omega) (hblk _ (by omega))
  ·exact hkW _ (by omega) (by omega) (by omega) (hblk _ (by omega))
  ·rw[List.map_append,H1.out,fo,HPL.out,HSE.out]; rfl
  ·rw[List.length_append,List.length_append,H2.out]; rfl
  ·rw[List.length_append,List.map_append];have h8:=fy HOWN.out hg1 (fun r e cs hc=>by cases e; rw[HX7.out]at hc; cases hc);exact fy h8 hg2 (fun r e cs hc=>by cases e; rw[hX2]at hc; cases hc)
  ·intro y hy
   rcases List.mem_append.1 hy with hy | hy
   ·exact hown _ _ _ _ _ (aX (H6.out y hy) HB5.out) rfl
   ·rw[List.mem_singleton.1 hy];exact hown _ _ _ _ _ (bS HO5.out (by omega)) rfl
  ·rw[eH]; exact hB2
  ·refine H8.out.trans ⟨hos,htp,hou,hszB,fun k hk=>hkW k (by omega) (by omega) (by omega) (hblk k (by omega))⟩
 case done=>
  rintro Dl ys W hDl hS ⟨⟨zs,v,h1,h2,h3,h5,h6⟩,h7,h8⟩ hK;have hc:=aa (k:=0) h3;simp only[List.getElem?_toArray,List.getElem?_cons_zero]at hc;go_wp2_with fail;have hb2:=HB2.out;have hbx:=HBX.out;refine⟨by simp, .inl ⟨_,_,rfl,run_takeDeferred hK, ?_⟩⟩;have hsz2:=hb2.size;refine⟨_,results_tmp2 rfl _ _ _,v,rfl,⟨zs,by rw[h1,hS,HN.out],ownsRow_putObj (bS h5 (by omega)) _ hK rfl,fun y hy=>ownsRow_putObj (bS (h6 y hy) (by omega)) _ hK rfl⟩, ?_⟩
  have hWb:Below w.heap.size w W:=(hb2.trans (HB24.out.mono hsz2)).trans (h8.mono (by omega));exact ft hWb (grownBy_putObj' W Dl _) (by omega) hWb.size
 case stop=>
  rintro Dl c pre W _ _ h _;exact h.elim
end Go.Proofs.YtpffpjbkbaleiaaGreatDoor
namespace Go.Proofs.YtpffpjbkbaleiaaGreatDoor
open Go.RowKit
structure bA where
 ref:aN
 con:List UInt8
def iJ (gs:List (ByteArray×Int)) (n:ByteArray):Int:=((gs.find? fun p=>decide (p.1=n)).map Prod.snd).getD 0
def aV (k:bu) (gs:List (ByteArray×Int)) (c:List UInt8):aN:=⟨kn k (iJ gs (kn k 0 c)).toNat c,iJ gs (kn k 0 c),(c.length:Int)⟩
def fJ (k:bu) (gs:List (ByteArray×Int)) (bs:List bA) (c:List UInt8):List bA:=if aV k gs c∈bs.map bA.ref then bs else bs++[⟨aV k gs c,c⟩]
def bw (k:bu) (gs:List (ByteArray×Int)) (cs:List (List UInt8)) (bs:List bA):List bA:=cs.foldl (fJ k gs) bs
def eP (c:de) (data:List UInt8):List (List UInt8):=dF data 0 (ri (qk c data) c.mn.toNat c.mx.toNat data.length)
def lw (dir path:List UInt8):List UInt8:=if(path.drop dir.length).head? =some 47 then(path.drop dir.length).tail else path.drop dir.length
def bO (tree:List bi) (dir:ByteArray):List bi:=tree.filter fun e=>decide (aL (bl e.path)=bl dir)
def cO (k:bu) (gs:List (ByteArray×Int)) (c:de) (dir:ByteArray) (e:bi) (node:aN):aE:=
 ⟨⟨(lw (bl dir) (bl e.path)).toArray⟩,e.kind,e.mode,e.time,if e.kind=1 then(e.data.length:Int)else 0,e.link,if e.kind=1 then(eP c e.data).map (aV k gs)else [],if e.kind=2 then node else bq⟩
def cM (k:bu) (gs:List (ByteArray×Int)) (c:de) (rec:ByteArray->Except Int (List UInt8×List (List UInt8))) (dir:ByteArray):List bi->List aE->List (List UInt8)->Except Int (List aE×List (List UInt8))
 | [],its,cs=> .ok (its,cs)
 | e::r,its,cs=>
  if e.kind=1 then cM k gs c rec dir r (its++[cO k gs c dir e bq]) (cs++eP c e.data)
  else if e.kind=2 then(match rec e.path with
   | .error x=> .error x
   | .ok p=>cM k gs c rec dir r (its++[cO k gs c dir e (aV k gs p.1)]) (cs++p.2))
  else cM k gs c rec dir r (its++[cO k gs c dir e bq]) cs
def bW (k:bu) (gs:List (ByteArray×Int)) (c:de) (tree:List bi):Nat->ByteArray->Except Int (List UInt8×List (List UInt8))
 | 0,_=> .error 0
 | f+1,dir=>match cM k gs c (bW k gs c tree f) dir (bO tree dir) [] []with
  | .error x=> .error x
  | .ok (its,cs)=>if dZ its=true then(if(dg its).length<=32768 then .ok (dg its,cs++[dg its])else .error 2)else .error 1
def cr (k:bu) (c:de) (tree:List bi) (gs:List (ByteArray×Int)):Except Int (aN×List bA):=
 if eW k=true/\gp c=true then(if(gs.all fun p=>decide (0<=p.2) && decide (p.2<=1099511627776))=true then
  (if cu tree=0 then(match bW k gs c tree 514 ⟨#[]⟩with
   | .error x=> .error x
   | .ok p=> .ok (aV k gs p.1,bw k gs p.2 []))
  else .error (cu tree))else .error 1)else .error 1
theorem cI (k:bu) (gs:List (ByteArray×Int)) (a b:List (List UInt8)) (bs:List bA):bw k gs (a++b) bs=bw k gs b (bw k gs a bs):=List.foldl_append
end Go.Proofs.YtpffpjbkbaleiaaGreatDoor
namespace Go.Proofs.YtpffpjbkbaleiaaGreatDoor
open Go Go.RowKit
def jW (w:World) (wb:Nat) (data:List UInt8):Prop:= ∃v,w.heap[wb]? =some (.cells #[v, .int .i64 0] 160 (0,0))/\fO w wb v data
def eY (wb:Nat) (w w':World):Prop:=Below wb w w'/\ ∀t,t≠5->t≠160->cG t w w'
theorem eY.refl (wb:Nat) (w:World):eY wb w w:=⟨Below.refl _ _,fun _ _ _=>cG.refl _⟩
theorem eY.trans {wb:Nat} {A B C:World} (h:eY wb A B) (k:eY wb B C):eY wb A C:=⟨h.1.trans k.1,fun t h1 h2=>(h.2 t h1 h2).trans (k.2 t h1 h2)⟩
theorem eY.row {wb:Nat} {w w':World} {v:Value} {data:List UInt8} (ho:fO w wb v data) (hb:wb<=w.heap.size) (hg:w.grownBy w' v.ownBlock):eY wb w w':=
 ⟨(Below.refl _ _).grown hg hb (fun k e=>(fa ho e).1),fun t h1 _=>cG.grown hg (fun r e cs hcs=>by
  obtain⟨_,cur,hc⟩:=fa ho e;rw[hc]at hcs; cases hcs; exact h1 rfl)⟩
theorem eY.set {wb k:Nat} {w:World} {cs:Array Value} (hb:w.heap[wb]? =some (.cells cs 160 (0,0))) (v:Value):eY wb w (w.setCell ⟨wb,k,none⟩ v):=
 ⟨(Below.refl _ _).grown (aD w wb k v) (Nat.le_of_lt (lt_of_block hb)) (fun k e=>by cases e; exact Nat.le_refl _),fun t _ h2=>cG.grown (aD w wb k v) (fun r e cs' hcs=>by
  cases e; rw[hb]at hcs; cases hcs; exact h2 rfl)⟩
theorem jW.box {w w':World} {wb:Nat} {v:Value} {cs:Array Value} {data:List UInt8} (hb:w.heap[wb]? =some (.cells cs 160 (0,0))) (ho:fO w wb v data) (hg:w.grownBy w' v.ownBlock):w'.heap[wb]? =some (.cells cs 160 (0,0)):=
 (hg.block _ (lt_of_block hb) (fun e=>by
  obtain⟨_,cur,hc⟩:=fa ho e.symm;rw[hc]at hb; cases hb)).trans hb
theorem jW.put {w1:World} {wb:Nat} {v v':Value} {data:List UInt8} (hb:w1.heap[wb]? =some (.cells #[v, .int .i64 0] 160 (0,0))) (ho:fO w1 wb v' data):jW (w1.setCell ⟨wb,0,none⟩ v') wb data:=
 ⟨v',by simpa using zd (k:=0) hb v',World.ownsRow.kept ho (aD w1 wb 0 v') (by
  cases h:v'.ownBlock with
  | none=>exact .inl rfl
  | some k=>
   refine .inr (fun e=> ?_);obtain⟨_,cur,hc⟩:=fa ho h
   cases e
   rw[hc]at hb; cases hb)⟩
theorem oe (w:World):Calls Tryz.prog 48 #[] w fun e w'=>e= .returned (.pointer (some ⟨w.heap.size,0,none⟩))/\jW w' w.heap.size []/\Below w.heap.size w w':=by
 go_enter Tryz.func48,Tryz.ntmps48
 go_wp2_with fail;go_ret;exact⟨rfl,⟨.slice none 0 0,bI w _,World.ownsRow_nil _ _ _ _⟩,(Below.refl _ _).alloc (Nat.le_refl _) _⟩
theorem em (wb n:Nat) (data:List UInt8) (w:World) (hw:jW w wb data) (hl:data.length<1099511000000) (hn:n<18446744073709551616):
  Calls Tryz.prog 51 #[.pointer (some ⟨wb,0,none⟩), .int .u64 (n:Int)] w fun e w'=>e= .returned (.tuple #[])/\jW w' wb (data++aP n)/\eY wb w w':=by
 obtain⟨v,hb,ho⟩:=hw;obtain⟨a0,c0,rfl,h10,h20⟩:=aj ho;have HB:=ab hb;have HO:=ab ho;have hlt:=lt_of_block hb;have k0:=aa (k:=0) hb;have k1:=aa (k:=1) hb;simp only[aW]at k0 k1;clear hb ho
 go_enter Tryz.func51,Tryz.ntmps51
 go_wp2_with fail;refine(jI wb _ data n w HO.out (Nat.le_of_lt hlt) hl hn).mono ?_;rintro e w1 ⟨v',rfl,ho1,hg1,-⟩;obtain⟨a1,c1,hv1,-,-⟩:=aj ho1;obtain⟨m,hm⟩: ∃m,m=(data++aP n).length:=⟨_,rfl⟩;rw[<-hm]at hv1;subst hv1;clear hm;have hb1:=jW.box HB.out HO.out hg1;have HB1:=ab hb1;have HO1:=ab ho1;have HK1:=ab (eY.row HO.out (Nat.le_of_lt hlt) hg1)
 have f0:=iI (k:=0) hb1;clear k0 k1;have k0:=aa (k:=0) hb1;simp only[List.getElem?_toArray,List.getElem?_cons_zero]at k0;clear hb1 ho1 hg1;go_wp2_with fail
 go_end0
 exact⟨rfl,jW.put HB1.out HO1.out,HK1.out.trans (eY.set HB1.out _)⟩
theorem pI (wb:Nat) (t:ByteArray) (data:List UInt8) (w:World) (hw:jW w wb data) (hl:data.length<1099000000000) (hn:t.size<500000000):
  Calls Tryz.prog 50 #[.pointer (some ⟨wb,0,none⟩), .string t] w fun e w'=>e= .returned (.tuple #[])/\jW w' wb (data++(aP t.size++bl t))/\eY wb w w':=by
 obtain⟨v,hb,ho⟩:=hw;obtain⟨a0,c0,rfl,h10,h20⟩:=aj ho;have HB:=ab hb;have HO:=ab ho;have hlt:=lt_of_block hb;have k0:=aa (k:=0) hb;have k1:=aa (k:=1) hb;simp only[aW]at k0 k1;clear hb ho;have hnu:IntKind.u64.wrap (t.size:Int)=((t.size:Nat):Int):=by rw[IntKind.wrap_u64]; omega
 have h10:=cY (n:=t.size) (by omega)
 go_enter Tryz.func50,Tryz.ntmps50
 go_wp2_with fail;refine(jI wb _ data t.size w HO.out (Nat.le_of_lt hlt) (by omega) (by omega)).mono ?_;rintro e w1 ⟨v',rfl,ho1,hg1,-⟩;obtain⟨a1,c1,hv1,-,-⟩:=aj ho1;obtain⟨m,hm⟩: ∃m,m=(data++aP t.size).length:=⟨_,rfl⟩;rw[<-hm]at hv1;subst hv1;have HM:=ab hm;clear hm;have HB1:=ab (jW.box HB.out HO.out hg1);have HO1:=ab ho1;have HK1:=ab (eY.row HO.out (Nat.le_of_lt hlt) hg1)
 have HL1:=ab (show(data++aP t.size).length+t.size<1099511627775 by rw[List.length_append]; omega);have hlt1:=lt_of_block HB1.out;clear k0 k1 ho1 hg1;go_wp2_with (at_builtin; go_must (refine jA rfl _ _ rfl wb (.slice a1 m c1) (data++aP t.size) rfl HO1.out t rfl HL1.out (Nat.le_of_lt hlt1) ?_); intro v2 w2 hown2 hgrow2; obtain⟨a2,c2,hv2,-,-⟩:=aj hown2; obtain⟨m2,hm2⟩: ∃m2,m2=(data++aP t.size).length+t.size:=⟨_,rfl⟩; try (rw[<-hm2]at hv2); subst hv2; clear hm2; have HOW2:=ab hown2; have HG2:=ab hgrow2; clear hown2 hgrow2; have HB2:=ab (jW.box HB1.out HO1.out HG2.out); have f0:=iI (k:=0) HB2.out; have k0:=aa (k:=0) HB2.out; simp only[List.getElem?_toArray,List.getElem?_cons_zero]at k0)
 go_end0
 have ho2:fO w2 wb (.slice a2 m2 c2) (data++(aP t.size++bl t)):=by
  have:=HOW2.out;unfold fO;rw[<-List.append_assoc,List.length_append,List.map_append,<-ar];exact this
 exact⟨rfl,jW.put HB2.out ho2,(HK1.out.trans (eY.row HO1.out (Nat.le_of_lt hlt1) HG2.out)).trans (eY.set HB2.out _)⟩
theorem zA (wb:Nat) (t:ByteArray) (data:List UInt8) (w:World) (hw:jW w wb data) (hl:data.length<1099000000000) (hn:t.size=32):
  Calls Tryz.prog 101 #[.pointer (some ⟨wb,0,none⟩), .string t] w fun e w'=>e= .returned (.tuple #[])/\jW w' wb (data++bl t)/\eY wb w w':=by
 obtain⟨v,hb,ho⟩:=hw;obtain⟨a0,c0,rfl,h10,h20⟩:=aj ho;have HB:=ab hb;have HO:=ab ho;have hlt:=lt_of_block hb;have k0:=aa (k:=0) hb;have k1:=aa (k:=1) hb;simp only[aW]at k0 k1;clear hb ho;have hni:(t.size:Int)=32:=by omega
 have HL0:=ab (show data.length+t.size<1099511627775 by omega);clear hn
 go_enter Tryz.func101,Tryz.ntmps101
 go_wp2_with (at_builtin; go_must (refine jA rfl _ _ rfl wb (.slice a0 data.length c0) data rfl HO.out t rfl HL0.out (Nat.le_of_lt hlt) ?_); intro v2 w2 hown2 hgrow2; obtain⟨a2,c2,hv2,-,-⟩:=aj hown2; obtain⟨m2,hm2⟩: ∃m2,m2=(data.length+t.size):=⟨_,rfl⟩; try (rw[<-hm2]at hv2); subst hv2; clear hm2; have HOW2:=ab hown2; have HG2:=ab hgrow2; clear hown2 hgrow2; have HB2:=ab (jW.box HB.out HO.out HG2.out); have f0:=iI (k:=0) HB2.out; clear k0 k1; have k0:=aa (k:=0) HB2.out; simp only[List.getElem?_toArray,List.getElem?_cons_zero]at k0)
 go_end0
 have ho2:fO w2 wb (.slice a2 m2 c2) (data++bl t):=by
  have:=HOW2.out;unfold fO;rw[List.length_append,List.map_append,<-ar];exact this
 exact⟨rfl,jW.put HB2.out ho2,(eY.row HO.out (Nat.le_of_lt hlt) HG2.out).trans (eY.set HB2.out _)⟩
theorem nM (wb n:Nat) (data:List UInt8) (w:World) (hw:jW w wb data) (hl:data.length<1099511000000) (hn:n<9223372036854775808):
  Calls Tryz.prog 49 #[.pointer (some ⟨wb,0,none⟩), .int .i64 (n:Int)] w fun e w'=>e= .returned (.tuple #[])/\jW w' wb (data++aP n)/\eY wb w w':=by
 have HW:=ab hw;obtain⟨v,hb,ho⟩:=hw;obtain⟨a0,c0,rfl,h10,h20⟩:=aj ho;have HB:=ab hb;have HO:=ab ho;have hlt:=lt_of_block hb;have k0:=aa (k:=0) hb;have k1:=aa (k:=1) hb;simp only[aW]at k0 k1;clear hb ho;have hnu:IntKind.u64.wrap (n:Int)=((n:Nat):Int):=by rw[IntKind.wrap_u64]; omega
 go_enter Tryz.func49,Tryz.ntmps49
 go_wp2_with fail;refine(em wb n data w HW.out hl (by omega)).mono ?_;rintro e w1 ⟨rfl,hw1,hk1⟩;go_wp2_with fail
 go_end0
 exact⟨rfl,hw1,hk1⟩
end Go.Proofs.YtpffpjbkbaleiaaGreatDoor
namespace Go.Proofs.YtpffpjbkbaleiaaGreatDoor
open Go Go.RowKit
theorem eY.below {wb:Nat} {w w':World} (h:Below w.heap.size w w') (hb:wb<=w.heap.size):eY wb w w':=⟨h.mono hb,fun _ _ _=>cG.below h⟩
theorem jW.below {wb:Nat} {data:List UInt8} {w w':World} (h:jW w wb data) (hb:Below w.heap.size w w'):jW w' wb data:=by
 obtain⟨v,h1,h2⟩:=h;exact⟨v,(hb.block _ (lt_of_block h1)).trans h1,aX h2 hb⟩
def zN (data:List UInt8) (w:World) (e:Ending) (w':World):Prop:=
 Below w.heap.size w w'/\if data.length<=1048576 then ∃v,e= .returned (.tuple #[v, .int .i64 0])/\fO w' w.heap.size v data else e= .returned (.tuple #[.slice none 0 0, .int .i64 2])
theorem xA (wb:Nat) (data:List UInt8) (w:World) (hw:jW w wb data) (hl:data.length<1099000000000):Calls Tryz.prog 53 #[.pointer (some ⟨wb,0,none⟩)] w (zN data w):=by
 obtain⟨v,hb,ho⟩:=hw;obtain⟨a0,c0,hv,h10,h20⟩:=aj ho;obtain⟨n,hn⟩: ∃n,n=data.length:=⟨_,rfl⟩;rw[<-hn]at hv h10 hl;subst hv;have HN:=ab hn;have HR:=ab (show aJ (fun k=>wb<=k/\(Value.slice a0 n c0).ownBlock=some k) w 1 (.slice a0 n c0) n (data.map an) by rw[hn]; rw[hn]at ho; exact bm ho);have hlt:=lt_of_block hb;have k0:=aa (k:=0) hb
 have k1:=aa (k:=1) hb;simp only[aW]at k0 k1;clear hb ho hn
 by_cases hbig:n<=1048576
 ·have HBG:=ab hbig;have hbi:(n:Int)<=1048576:=by omega
  have HOR:=ab (World.ownsRow_made (base:=w.heap.size) (e:=5) (size:=1) w #[] 0 (Nat.le_refl _) (by unfold maxLen; omega) rfl);have HB1:=ab ((Below.refl w.heap.size w).alloc (Nat.le_refl _) (.cells #[] 5));have HR1:=ab (HR.out.below (by decide) HB1.out);have HON:=ab (show ∀u∈data.map an,u.oneCell'=true from dm data);have HLE:=ab (show 0+n<1099511627775 by omega)
  have k2:=(HB1.out.cell (aK k0)).trans k0
  go_enter Tryz.func53,Tryz.ntmps53
  go_wp2_with (at_builtin; go_must (refine dB Tryz.appBytes rfl _ _ rfl w.heap.size _ 0 [] rfl HOR.out _ n (data.map an) rfl HR1.out HON.out HLE.out HB1.out.size ?_); intro v6 wz hown6 hgrow6; go_must (rw[Nat.zero_add,List.nil_append]at hown6); have HO6:=ab hown6; have HG6:=ab hgrow6; clear hown6 hgrow6)
  go_ret2
  refine⟨HB1.out.grown HG6.out HB1.out.size (fun k e=>by cases e; exact Nat.le_refl _), ?_⟩;rw[<-HN.out,if_pos HBG.out];exact⟨v6,rfl,by unfold fO; rw[<-HN.out]; exact HO6.out⟩
 ·have HBG:=ab hbig;have hbi:(1048576:Int)<(n:Int):=by omega
  clear hbig
  go_enter Tryz.func53,Tryz.ntmps53
  go_wp2_with fail
  go_ret2
  refine⟨Below.refl _ _, ?_⟩;rw[<-HN.out,if_neg HBG.out]
  rfl
theorem kF (wb:Nat) (r:aN) (data:List UInt8) (w:World) (hw:jW w wb data) (hl:data.length<1098000000000) (hr:eA r=true):
  Calls Tryz.prog 52 #[.pointer (some ⟨wb,0,none⟩),bB r] w fun e w'=>e= .returned (.tuple #[])/\jW w' wb (data++cZ r)/\eY wb w w':=by
 have HW:=ab hw;obtain⟨h32,hg0,hg1,hz0,hz1⟩:=kD.1 hr;obtain⟨g,hg⟩: ∃g,g=r.gen.toNat:=⟨_,rfl⟩;obtain⟨z,hz⟩: ∃z,z=r.size.toNat:=⟨_,rfl⟩;have hgi:r.gen=(g:Int):=by omega
 have hzi:r.size=(z:Int):=by omega
 have HER:=ab (show cZ r=bl r.name++(aP g++aP z) by unfold cZ; rw[hg,hz]);have H32:=ab h32;have hwg:IntKind.u64.wrap (g:Int)=(g:Int):=by rw[IntKind.wrap_u64]; omega
 have hwz:IntKind.u64.wrap (z:Int)=(z:Int):=by rw[IntKind.wrap_u64]; omega
 have hg9:g<1099511627777:=by omega
 have hz9:z<32769:=by omega
 have hlt:wb<w.heap.size:=by obtain⟨_,h,_⟩:=hw; exact lt_of_block h
 unfold bB;rw[hgi,hzi];clear hw hr h32 hg0 hg1 hz0 hz1 hg hz hgi hzi
 go_enter Tryz.func52,Tryz.ntmps52
 go_wp2_with fail;obtain⟨w1,hw1⟩: ∃w1,w1=w.alloc (.cells #[.string r.name, .int .i64 (g:Int), .int .i64 (z:Int)] 26):=⟨_,rfl⟩;rw[<-hw1];have HB1:=ab (show Below w.heap.size w w1 by rw[hw1]; exact(Below.refl _ _).alloc (Nat.le_refl _) _);have HX1:=ab (show w1.heap[w.heap.size]? =some (.cells #[.string r.name, .int .i64 (g:Int), .int .i64 (z:Int)] 26 (0,0)) by rw[hw1]; exact bI w _)
 have HK1:=ab (eY.below HB1.out (Nat.le_of_lt hlt));have HW1:=ab (HW.out.below HB1.out);clear hw1;refine(zA wb r.name data w1 HW1.out (by omega) H32.out).mono ?_;rintro e w2 ⟨rfl,hw2,hk2⟩;have HW2:=ab hw2;have HK2:=ab hk2;have HX2:=ab ((hk2.2 _ (by decide) (by decide) _ _ HX1.out).trans HX1.out);have hl2:(data++bl r.name).length=data.length+32:=by rw[List.length_append,<-ar,H32.out]
 have HL2:=ab hl2;have c1:=aa (k:=1) HX2.out;simp only[aW]at c1;clear hw2 hk2 hl2;go_wp2_with fail;refine(em wb g _ w2 HW2.out (by rw[HL2.out]; omega) (by omega)).mono ?_;rintro e w3 ⟨rfl,hw3,hk3⟩;have HW3:=ab hw3;have HK3:=ab hk3;have HX3:=ab ((hk3.2 _ (by decide) (by decide) _ _ HX2.out).trans HX2.out);have c2:=aa (k:=2) HX3.out;simp only[aW]at c2;clear hw3 hk3 c1
 have h10:=cY (n:=g) (by omega);go_wp2_with fail;refine(em wb z _ w3 HW3.out (by rw[List.length_append,HL2.out]; omega) (by omega)).mono ?_;rintro e w4 ⟨rfl,hw4,hk4⟩;go_wp2_with fail
 go_end0
 refine⟨rfl, ?_,((HK1.out.trans HK2.out).trans HK3.out).trans hk4⟩;rw[HER.out,<-List.append_assoc,<-List.append_assoc];exact hw4
end Go.Proofs.YtpffpjbkbaleiaaGreatDoor
namespace Go.Proofs.YtpffpjbkbaleiaaGreatDoor
open Go.RowKit
theorem fq (S:Nat->Prop) (l:List aE) (v:Value) (b:Bool) (w:World) (hv:bn S w v l) (henv:fN w) (h:dZ l=b):Calls Tryz.prog 47 #[v] w fun e w'=>e= .returned (.bool b)/\Below w.heap.size w w':=by
 rw[<-h]; exact ox S l v w hv henv
theorem kq :bo bq:=⟨by decide,by decide,by decide⟩
theorem ph (S:Nat->Prop) (data:List UInt8) (v:Value) (w:World) (hv:aC S w v data) (henv:fN w):Calls Tryz.prog 18 #[v] w (qD data w):=by
 obtain⟨_,a,cap,rfl,hn,hm,-⟩:=id hv;unfold maxLen at hm;have HV:=ab hv;have HE:=ab henv;clear hv henv
 by_cases hbig:32768<data.length
 ·have HP:=ab (tG hbig)
  go_enter Tryz.func18,Tryz.ntmps18
  go_wp2_with fail
  go_ret2
  exact⟨Below.refl _ _,by rw[HP.out]; rfl⟩
 ·have HBIG:=ab hbig
  go_enter Tryz.func18,Tryz.ntmps18
  go_wp2_with fail;refine(od S data _ w HV.out (by omega)).mono ?_;rintro e w1 ⟨rb,dv,rfl,hge,hrd,hb1⟩;have HRD1:=ab hrd;have HB1:=ab hb1;clear hrd hb1;go_wp2_with fail;refine(uL rb dv data ⟨0,0,0⟩ 4096 _ HRD1.out (by omega)).mono ?_;rintro e w2 ⟨n,s1,hcn,rfl,hrd2,hg2⟩;have hnl:n<=4096:=by have:=pY data 4096 ⟨0,0,0⟩; rw[hcn]at this; exact this
  have HCN:=ab hcn;have HI2:=ab (show mp w1 rb w2 dv (.slice none 0 0) data s1 []from⟨hrd2,⟨_,HRD1.out⟩,⟨[],World.ownsRow_nil _ _ _ _,rfl⟩,hg2⟩);clear hcn hrd2 hg2;go_wp2_with fail
  go_loopw [5,16] (fun v i wr=> ∃(k:Nat) (l:List aE) (s:RS),k<=n/\i= .int .i64 k/\l.length=k/\dP data s1 k=some (l,s)/\mp w1 rb wr dv v data s l) (fun _ i _=>n-(intOf i).toNat)
  case atStart=>exact⟨0,[],s1,Nat.zero_le _,rfl,rfl,rfl,HI2.out⟩
  case round=>
   obtain⟨k,l,s,hk,rfl,hlk,hit,hinv⟩:=hrel;have HIT:=ab hit;have HINV:=ab hinv;have HLK:=ab hlk;obtain⟨cells,hown,hrow⟩:=hinv.row;have HOWN:=ab hown;have HROW:=ab hrow;obtain⟨av,cv0,hvs,hvn,hvm⟩:=aj hown;have HRD:=ab hinv.rd;subst hvs;clear hit hinv hlk hown hrow
   by_cases hlt:k<n
   ·go_wp2_with fail;refine(zq rb dv data s 64 _ HRD.out (by omega)).mono ?_;rintro e w3 ⟨nm,s2,hp1,rfl,h1,h2⟩;have HP1:=ab hp1;have HM0:=ab (du.start HRD.out h1 h2 #[.string ⟨nm.toArray⟩, .int .i64 0, .int .i64 0, .int .i64 0, .int .i64 0, .string ⟨#[]⟩, .slice none 0 0, .string ⟨#[]⟩, .int .i64 0, .int .i64 0]);clear hp1 h1 h2;go_wp2_with fail;refine(nK rb dv data s2 _ HM0.out.rd).mono ?_
    rintro e w4 ⟨kd,s3,hp,rfl,h1,h2⟩;have HP2:=ab hp;have HM1:=ab (HM0.out.call h1 h2);have ck:=HM1.out.cell 1;have fk:=HM1.out.free 1;simp only[aW]at ck;clear hp h1 h2;go_wp2_with fail;obtain⟨kv,hkv⟩: ∃ix:Int,ix=wrap64 (kd:Int):=⟨_,rfl⟩;rw[<-hkv];have Hkv:=ab hkv;clear hkv;obtain⟨w5,hw4⟩: ∃wx:World,wx=w4.setCell ⟨w3.heap.size,1,none⟩ (.int .i64 kv):=⟨_,rfl⟩
    rw[<-hw4];have m4:=HM1.out.set 1 (.int .i64 kv);rw[<-hw4]at m4;simp only[List.setIfInBounds_toArray,List.set_cons_succ,List.set_cons_zero]at m4;have HM2:=ab m4;clear m4 hw4 ck fk HM0 HM1;refine(nK rb dv data s3 _ HM2.out.rd).mono ?_;rintro e w6 ⟨md,s4,hp,rfl,h1,h2⟩;have HP3:=ab hp;have HM3:=ab (HM2.out.call h1 h2);have ck:=HM3.out.cell 2;have fk:=HM3.out.free 2;simp only[aW]at ck
    clear hp h1 h2;go_wp2_with fail;obtain⟨mv,hkv⟩: ∃ix:Int,ix=wrap64 (md:Int):=⟨_,rfl⟩;rw[<-hkv];have Hmv:=ab hkv;clear hkv;obtain⟨w7,hw4⟩: ∃wx:World,wx=w6.setCell ⟨w3.heap.size,2,none⟩ (.int .i64 mv):=⟨_,rfl⟩;rw[<-hw4];have m4:=HM3.out.set 2 (.int .i64 mv);rw[<-hw4]at m4;simp only[List.setIfInBounds_toArray,List.set_cons_succ,List.set_cons_zero]at m4;have HM4:=ab m4
    clear m4 hw4 ck fk HM2 HM3;refine(nK rb dv data s4 _ HM4.out.rd).mono ?_;rintro e w8 ⟨td,s5,hp,rfl,h1,h2⟩;have HP4:=ab hp;have HM5:=ab (HM4.out.call h1 h2);have ck:=HM5.out.cell 3;have fk:=HM5.out.free 3;simp only[aW]at ck;clear hp h1 h2
    go_upto_region 11 with(fail)
    obtain⟨tv,hkv⟩: ∃ix:Int,ix=wrap64 (td:Int):=⟨_,rfl⟩;rw[<-hkv];have Htv:=ab hkv;clear hkv;obtain⟨w9,hw4⟩: ∃wx:World,wx=w8.setCell ⟨w3.heap.size,3,none⟩ (.int .i64 tv):=⟨_,rfl⟩;rw[<-hw4];have m4:=HM5.out.set 3 (.int .i64 tv);rw[<-hw4]at m4;simp only[List.setIfInBounds_toArray,List.set_cons_succ,List.set_cons_zero]at m4;have HM6:=ab m4;clear m4 hw4 ck fk HM4 HM5
    have ck:=HM6.out.cell 1;simp only[aW]at ck;have HH:=ab (tF HP1.out HP2.out HP3.out HP4.out);have hnms:nm.length<=64:=by have:=vf data 64 s; rw[HP1.out]at this; exact this
    by_cases hk1:kv=1
    ·have e1:(kv == 1)=true:=by simp[hk1]
     have HK1:=ab (show gM kd=1 from Hkv.out.symm.trans hk1);clear hk1;go_wp2_with fail;refine(uL rb dv data s5 963 _ HM6.out.rd (by omega)).mono ?_;rintro e wa ⟨n2,s6,hp,rfl,h1,h2⟩;have HP5:=ab hp;have hn2:n2<=963:=by have:=pY data 963 s5; rw[hp]at this; exact this
     have HM7:=ab (HM6.out.call h1 h2);clear hp h1 h2 ck HM6;go_wp2_with fail;obtain⟨wo,hwo⟩: ∃wo:World,wo=wr:=⟨_,rfl⟩;subst hwo
     go_loopw [39] (fun i wq=> ∃(j:Nat) (ch:List aN) (s7:RS) (cv:Value),j<=n2/\i= .int .i64 j/\ch.length=j/\cN data s6 j=(ch,s7)/\du rb w3.heap.size wo wq dv data s7 #[.string ⟨nm.toArray⟩, .int .i64 kv, .int .i64 mv, .int .i64 tv, .int .i64 0, .string ⟨#[]⟩,cv, .string ⟨#[]⟩, .int .i64 0, .int .i64 0]/\wq.ownsRow (w3.heap.size+1) 26 3 cv ch.length (ch.flatMap dj)) (fun i _=>n2-(intOf i).toNat)
     case atStart=>exact⟨0,[],s6, .slice none 0 0,Nat.zero_le _,rfl,rfl,rfl,HM7.out,World.ownsRow_nil _ _ _ _⟩
     case round=>
      obtain⟨j,ch,s7,cv,hj,rfl,hlj,hch,hmid,how⟩:=hrel;have HLJ:=ab hlj;have HCH:=ab hch;have HMQ:=ab hmid;have HOQ:=ab how;obtain⟨a6,c6,hv6,hvn6,hvm6⟩:=aj how;subst hv6;clear hlj hch hmid how
      by_cases hlt2:j<n2
      ·have ck:=HMQ.out.cell 6;have fk:=HMQ.out.free 6;simp only[aW]at ck;go_wp2_with fail;refine bH (fun w'=>w'.cell? ⟨w3.heap.size,6,none⟩=some (.slice a6 ch.length c6)) (by kernel_rfl) (by kernel_rfl) ?_;simp only[List.dropLast_cons_cons,List.dropLast_singleton,List.length_cons,List.length_nil,Nat.reduceAdd,Nat.reduceSub];have HMD:=ab (HMQ.out.below ((Below.refl _ _).drew))
       refine af 0 rfl (by kernel_rfl) (by kernel_rfl) (by kernel_rfl) (fun _ _ _ h=>h) rfl (by go_simp) (by intro w' hw'; go_simp; rfl) ?_;simp only[Act.put,az,aA,aB];refine af 1 rfl (by kernel_rfl) (by kernel_rfl) (by kernel_rfl) (fun _ _ _ h=>h) rfl (by go_simp) (by intro w' hw'; go_simp; rfl) ?_;simp only[Act.put,az,aA,aB];refine af 2 rfl (by kernel_rfl) (by kernel_rfl) (by kernel_rfl) (fun _ _ _ h=>h) rfl (by go_simp) (by intro w' hw'; go_simp; rfl) ?_
       simp only[Act.put,az,aA,aB];refine am 3 rfl (by kernel_rfl) rfl (fun K hK=> ?_);go_wp2_with (go_at_call 62; refine(lD rb dv data s7 _ HMD.out.rd).mono ?_; rintro e wb ⟨r,s8,hp,rfl,h1,h2,hrok⟩; unfold bB);have HP6:=ab hp;have HRO:=ab hrok;have HMB:=ab (HMD.out.call h1 h2);have HOB:=ab (HOQ.out.kept (aw (b:=wr.drew) ⟨rfl,rfl,rfl,Nat.le_refl _,fun _ _ _=>rfl⟩ h2) (.inr (by
        intro e;have:=(HOQ.out.lt _ e).1;have:=aI.lt HRD1.out;have:=HINV.out.grown.size;have:=HMQ.out.ge
        omega)))
       have ck2:=HMB.out.cell 6;have HMC:=ab (HMB.out.below ((Below.refl _ _).alloc (Nat.le_refl _) (.cells #[.string r.name, .int .i64 r.gen, .int .i64 r.size] 26)));have ck3:=HMC.out.cell 6;have fk2:=HMB.out.free 6;have hbz2:w3.heap.size+1<=wb.heap.size:=(Array.getElem?_eq_some_iff.1 HMB.out.box).1;simp only[aW]at ck2 ck3;clear hp h1 h2 hrok ck fk HMQ HMD;refine⟨ck2, ?_⟩;refine am 4 rfl (by kernel_rfl) rfl (fun K hK=> ?_)
       go_wp2_with fail
       (first | (refine⟨ck3, ?_⟩) | skip)
       refine am 5 rfl (by kernel_rfl) rfl (fun K hK=> ?_);go_wp2_with (at_builtin; go_must (refine aH Tryz.appRefs rfl _ _ rfl (w3.heap.size+1) (.slice a6 ch.length c6) ch.length (ch.flatMap dj) rfl wb [.string r.name, .int .i64 r.gen, .int .i64 r.size] _ rfl rfl (ku (r:=r)) HOB.out (by have:=HLJ.out; omega) hbz2 ?_); intro v' wc hown' hgrow' _ hpl; obtain⟨ae,ce,rfl,-,-⟩:=aj hown')
       have HMW:=ab (HMB.out.app hgrow' (fun k hk=>by have:=(HOB.out.lt k hk).1; omega));have HOW:=ab (show wc.ownsRow (w3.heap.size+1) 26 3 (.slice ae (ch.length+1) ce) (ch++[r]).length ((ch++[r]).flatMap dj) by rw[List.length_append,List.flatMap_append]; simpa [dj]using hown');have ck4:=HMW.out.cell 6;have fk4:=HMW.out.free 6;simp only[aW]at ck4;clear hown' hgrow' hpl ck2 ck3 fk2 HMC HMB HOB HOQ
       refine⟨ck4, ?_⟩;refine af 6 rfl (by kernel_rfl) (by kernel_rfl) (by kernel_rfl) (fun _ _ _ h=>h) rfl (by go_simp) (by intro w' hw'; go_simp; rfl) ?_;simp only[Act.put,az,aA,aB];refine aQ (by kernel_rfl) ?_;refine bM rfl rfl (fun K hK=> ?_);go_wp2_with fail
       go_roundw
       case rel=>
        have m4:=HMW.out.set 6 (.slice ae (ch.length+1) ce);simp only[List.setIfInBounds_toArray,List.set_cons_succ,List.set_cons_zero]at m4;refine⟨j+1,ch++[r],s8, .slice ae (ch.length+1) ce,by omega,by go_num,by simp[HLJ.out],qR HCH.out HP6.out,m4,HOW.out.kept (aD _ _ _ _) (.inr (by
         intro e;have:=(HOW.out.lt _ e).1
         omega))⟩
       case measure=>simp[intOf]; omega
      ·obtain rfl:j=n2:=by omega
       have hchok: ∀r∈ch,bo r:=by
        have:=oH data s6 j;rw[HCH.out]at this; exact this
       have HRF:=ab (ij HOQ.out hchok);have ck:=HMQ.out.cell 6;simp only[aW]at ck;clear hchok;go_wp2_with fail;refine(kW _ _ ch _ HRF.out).mono ?_;rintro e wb ⟨rfl,hbt⟩;have HMB:=ab (HMQ.out.below hbt);have HRB:=ab (show aT (fun k=>w3.heap.size<k) wb (.slice a6 ch.length c6) ch from aT.same (aO.below HRF.out (by omega) hbt (fun _ _ _ h=>h)) (fun k hk hS=>⟨by have:=hS.1; omega,rfl⟩))
       have ck4:=HMB.out.cell 4;have fk4:=HMB.out.free 4;simp only[aW]at ck4;obtain⟨tw,htw⟩: ∃tw:Int,tw=eK ch:=⟨_,rfl⟩;rw[<-htw];have HTW:=ab htw;clear hbt ck htw HRF
       go_upto_region 23 with(fail)
       obtain⟨wd,hwd⟩: ∃wx:World,wx=wb.setCell ⟨w3.heap.size,4,none⟩ (.int .i64 tw):=⟨_,rfl⟩;rw[<-hwd];have m4:=HMB.out.set 4 (.int .i64 tw);rw[<-hwd]at m4;simp only[List.setIfInBounds_toArray,List.set_cons_succ,List.set_cons_zero]at m4;have HM8:=ab m4;have HIP:=ab (show fX data s=some (⟨⟨nm.toArray⟩,gM kd,gM md,gM td,tw,⟨#[]⟩,ch,bq⟩,s7) by rw[HH.out,tC HK1.out HP5.out HCH.out,HTW.out])
       have HOK:=ab (show bU ⟨⟨nm.toArray⟩,kv,mv,tv,tw,⟨#[]⟩,ch,bq⟩from⟨by show ByteArray.size ⟨_⟩<=_; unfold maxLen; simp[ByteArray.size]; omega,by show ByteArray.size ⟨_⟩<=_; unfold maxLen; simp[ByteArray.size],kq⟩);have HCV:=ab (show aT (wo.heap.size<= ·) wd (.slice a6 ch.length c6) ch from aT.same HRB.out (fun k hk hS=>⟨by have:=HMQ.out.ge; show wo.heap.size<=k; omega,by rw[hwd]; exact Below.heap_setCell _ _ _ _ (by show k≠w3.heap.size; omega)⟩))
       clear m4 hwd ck4 fk4 HMB HMQ HRB;have d0:=HM8.out.cell 0;have d1:=HM8.out.cell 1;have d2:=HM8.out.cell 2;have d3:=HM8.out.cell 3;have d4:=HM8.out.cell 4;have d5:=HM8.out.cell 5;have d6:=HM8.out.cell 6;have d7:=HM8.out.cell 7;have d8:=HM8.out.cell 8;have d9:=HM8.out.cell 9;simp only[aW]at d0 d1 d2 d3 d4 d5 d6 d7 d8 d9;have HOC:=ab (HOWN.out.kept HM8.out.grown (.inr (by
        intro e;have:=(HOWN.out.lt _ e).1;have:=aI.lt HRD1.out
        omega)))
       have hbz:w1.heap.size<=wd.heap.size:=Nat.le_trans HINV.out.grown.size HM8.out.grown.size;have HXI:=ab (show fX data s=some (⟨⟨nm.toArray⟩,kv,mv,tv,tw,⟨#[]⟩,ch,bq⟩,s7) by rw[HIP.out,Hkv.out,Hmv.out,Htv.out]; rfl);have hlen:l.length<4096:=by have:=HLK.out; omega
       go_wp2_with (at_builtin; go_must (refine aH Tryz.appItems rfl _ _ rfl w1.heap.size (.slice av l.length cv0) l.length cells rfl wd [.string ⟨nm.toArray⟩, .int .i64 kv, .int .i64 mv, .int .i64 tv, .int .i64 (tw), .string ⟨#[]⟩, .slice a6 ch.length c6, .string ⟨#[]⟩, .int .i64 0, .int .i64 0] _ rfl rfl (fw (it:=⟨⟨nm.toArray⟩,kv,mv,tv,tw,⟨#[]⟩,ch,bq⟩)) HOC.out (by omega) hbz ?_); intro v' we hown' hgrow' _ hpl; have HIE:=ab (HINV.out.added (it:=⟨⟨nm.toArray⟩,kv,mv,tv,tw,⟨#[]⟩,ch,bq⟩) HM8.out HCV.out HOK.out HROW.out HOWN.out hown' hgrow' hpl); obtain⟨ae,ce,rfl,-,-⟩:=aj hown'; clear hown' hgrow' hpl)
       go_roundw
       case rel=>exact⟨k+1,l++[⟨⟨nm.toArray⟩,kv,mv,tv,tw,⟨#[]⟩,ch,bq⟩],s7,by omega,by go_num,by simp[HLK.out],iN HIT.out HXI.out,HIE.out⟩
       case measure=>simp[intOf]; omega
    ·have e1:(kv == 1)=false:=by simp[hk1]
     by_cases hk2:kv=2
     ·have e2:(kv == 2)=true:=by simp[hk2]
      have HK2:=ab (show gM kd=2 from Hkv.out.symm.trans hk2);clear hk1 hk2;go_wp2_with fail;refine(lD rb dv data s5 _ HM6.out.rd).mono ?_;rintro e wa ⟨r,s6,hp,rfl,h1,h2,hrok⟩;have HP5:=ab hp;have HRO:=ab hrok;have HM7:=ab (HM6.out.call h1 h2);have c7:=HM7.out.cell 7;have c8:=HM7.out.cell 8;have c9:=HM7.out.cell 9;have f7:=HM7.out.free 7;have f8:=HM7.out.free 8
      have f9:=HM7.out.free 9;simp only[aW]at c7 c8 c9;unfold bB;clear hp h1 h2 hrok ck
      go_upto_region 23 with(fail)
      obtain⟨wb,hwb⟩: ∃wx:World,wx=((wa.setCell ⟨w3.heap.size,7,none⟩ (.string r.name)).setCell ⟨w3.heap.size,8,none⟩ (.int .i64 r.gen)).setCell ⟨w3.heap.size,9,none⟩ (.int .i64 r.size):=⟨_,rfl⟩;rw[<-hwb];have m4:=((HM7.out.set 7 (.string r.name)).set 8 (.int .i64 r.gen)).set 9 (.int .i64 r.size);rw[<-hwb]at m4;simp only[List.setIfInBounds_toArray,List.set_cons_succ,List.set_cons_zero]at m4
      have HM8:=ab m4;have HIP:=ab (HH.out.trans (vT HK2.out HP5.out));have HOK:=ab (show bU ⟨⟨nm.toArray⟩,kv,mv,tv,0,⟨#[]⟩,[],r⟩from⟨by show ByteArray.size ⟨_⟩<=_; unfold maxLen; simp[ByteArray.size]; omega,by show ByteArray.size ⟨_⟩<=_; unfold maxLen; simp[ByteArray.size],HRO.out⟩);have HCV:=ab (show aT (wr.heap.size<= ·) wb (.slice none 0 0) []from aO.nil)
      clear m4 hwb c7 c8 c9 f7 f8 f9 HM7 HM6;have d0:=HM8.out.cell 0;have d1:=HM8.out.cell 1;have d2:=HM8.out.cell 2;have d3:=HM8.out.cell 3;have d4:=HM8.out.cell 4;have d5:=HM8.out.cell 5;have d6:=HM8.out.cell 6;have d7:=HM8.out.cell 7;have d8:=HM8.out.cell 8;have d9:=HM8.out.cell 9;simp only[aW]at d0 d1 d2 d3 d4 d5 d6 d7 d8 d9;have HOC:=ab (HOWN.out.kept HM8.out.grown (.inr (by
       intro e;have:=(HOWN.out.lt _ e).1;have:=aI.lt HRD1.out
       omega)))
      have hbz:w1.heap.size<=wb.heap.size:=Nat.le_trans HINV.out.grown.size HM8.out.grown.size;have HXI:=ab (show fX data s=some (⟨⟨nm.toArray⟩,kv,mv,tv,0,⟨#[]⟩,[],r⟩,s6) by rw[HIP.out,Hkv.out,Hmv.out,Htv.out]; rfl);have hlen:l.length<4096:=by have:=HLK.out; omega
      go_wp2_with (at_builtin; go_must (refine aH Tryz.appItems rfl _ _ rfl w1.heap.size (.slice av l.length cv0) l.length cells rfl wb [.string ⟨nm.toArray⟩, .int .i64 kv, .int .i64 mv, .int .i64 tv, .int .i64 (0), .string ⟨#[]⟩, .slice none 0 0, .string r.name, .int .i64 r.gen, .int .i64 r.size] _ rfl rfl (fw (it:=⟨⟨nm.toArray⟩,kv,mv,tv,0,⟨#[]⟩,[],r⟩)) HOC.out (by omega) hbz ?_); intro v' we hown' hgrow' _ hpl; have HIE:=ab (HINV.out.added (it:=⟨⟨nm.toArray⟩,kv,mv,tv,0,⟨#[]⟩,[],r⟩) HM8.out HCV.out HOK.out HROW.out HOWN.out hown' hgrow' hpl); obtain⟨ae,ce,rfl,-,-⟩:=aj hown'; clear hown' hgrow' hpl)
      go_roundw
      case rel=>exact⟨k+1,l++[⟨⟨nm.toArray⟩,kv,mv,tv,0,⟨#[]⟩,[],r⟩],s6,by omega,by go_num,by simp[HLK.out],iN HIT.out HXI.out,HIE.out⟩
      case measure=>simp[intOf]; omega
     ·have e2:(kv == 2)=false:=by simp[hk2]
      by_cases hk3:kv=3
      ·have e3:(kv == 3)=true:=by simp[hk3]
       have HK3:=ab (show gM kd=3 from Hkv.out.symm.trans hk3);clear hk1 hk2 hk3;go_wp2_with fail;refine(zq rb dv data s5 512 _ HM6.out.rd (by omega)).mono ?_;rintro e wa ⟨lk,s6,hp,rfl,h1,h2⟩;have HP5:=ab hp;have hlks:lk.length<=512:=by have:=vf data 512 s5; rw[hp]at this; exact this
       have HM7:=ab (HM6.out.call h1 h2);have c7:=HM7.out.cell 5;have f7:=HM7.out.free 5;simp only[aW]at c7;clear hp h1 h2 ck
       go_upto_region 23 with(fail)
       obtain⟨wb,hwb⟩: ∃wx:World,wx=wa.setCell ⟨w3.heap.size,5,none⟩ (.string ⟨lk.toArray⟩):=⟨_,rfl⟩;rw[<-hwb];have m4:=HM7.out.set 5 (.string ⟨lk.toArray⟩);rw[<-hwb]at m4;simp only[List.setIfInBounds_toArray,List.set_cons_succ,List.set_cons_zero]at m4;have HM8:=ab m4;have HIP:=ab (HH.out.trans (tD HK3.out HP5.out));have HOK:=ab (show bU ⟨⟨nm.toArray⟩,kv,mv,tv,0,⟨lk.toArray⟩,[],bq⟩from⟨by show ByteArray.size ⟨_⟩<=_; unfold maxLen; simp[ByteArray.size]; omega,by show ByteArray.size ⟨_⟩<=_; unfold maxLen; simp[ByteArray.size]; omega,kq⟩)
       have HCV:=ab (show aT (wr.heap.size<= ·) wb (.slice none 0 0) []from aO.nil);clear m4 hwb c7 f7 HM7 HM6;have d0:=HM8.out.cell 0;have d1:=HM8.out.cell 1;have d2:=HM8.out.cell 2;have d3:=HM8.out.cell 3;have d4:=HM8.out.cell 4;have d5:=HM8.out.cell 5;have d6:=HM8.out.cell 6;have d7:=HM8.out.cell 7;have d8:=HM8.out.cell 8;have d9:=HM8.out.cell 9;simp only[aW]at d0 d1 d2 d3 d4 d5 d6 d7 d8 d9
       have HOC:=ab (HOWN.out.kept HM8.out.grown (.inr (by
        intro e;have:=(HOWN.out.lt _ e).1;have:=aI.lt HRD1.out
        omega)))
       have hbz:w1.heap.size<=wb.heap.size:=Nat.le_trans HINV.out.grown.size HM8.out.grown.size;have HXI:=ab (show fX data s=some (⟨⟨nm.toArray⟩,kv,mv,tv,0,⟨lk.toArray⟩,[],bq⟩,s6) by rw[HIP.out,Hkv.out,Hmv.out,Htv.out]; rfl);have hlen:l.length<4096:=by have:=HLK.out; omega
       go_wp2_with (at_builtin; go_must (refine aH Tryz.appItems rfl _ _ rfl w1.heap.size (.slice av l.length cv0) l.length cells rfl wb [.string ⟨nm.toArray⟩, .int .i64 kv, .int .i64 mv, .int .i64 tv, .int .i64 (0), .string ⟨lk.toArray⟩, .slice none 0 0, .string ⟨#[]⟩, .int .i64 0, .int .i64 0] _ rfl rfl (fw (it:=⟨⟨nm.toArray⟩,kv,mv,tv,0,⟨lk.toArray⟩,[],bq⟩)) HOC.out (by omega) hbz ?_); intro v' we hown' hgrow' _ hpl; have HIE:=ab (HINV.out.added (it:=⟨⟨nm.toArray⟩,kv,mv,tv,0,⟨lk.toArray⟩,[],bq⟩) HM8.out HCV.out HOK.out HROW.out HOWN.out hown' hgrow' hpl); obtain⟨ae,ce,rfl,-,-⟩:=aj hown'; clear hown' hgrow' hpl)
       go_roundw
       case rel=>exact⟨k+1,l++[⟨⟨nm.toArray⟩,kv,mv,tv,0,⟨lk.toArray⟩,[],bq⟩],s6,by omega,by go_num,by simp[HLK.out],iN HIT.out HXI.out,HIE.out⟩
       case measure=>simp[intOf]; omega
      ·have e3:(kv == 3)=false:=by simp[hk3]
       have HIN:=ab (rB HBIG.out HCN.out (rz (rA HIT.out (HH.out.trans (tE (fun e=>hk1 (Hkv.out.trans e)) (fun e=>hk2 (Hkv.out.trans e)) (fun e=>hk3 (Hkv.out.trans e))))) n (by omega)));clear hk1 hk2 hk3;go_wp2_with fail
       go_ret2
       have hfb:Below w.heap.size w w9:=HB1.out.trans ((bP.of_grown (S:=fun k=>k=rb) (aw HINV.out.grown HM6.out.grown) (fun k hk=>by cases hk; rfl)).below HB1.out.size (fun k hk=>by subst hk; exact hge));exact⟨hfb,by rw[HIN.out]; rfl⟩
   ·obtain rfl:k=n:=by omega
    have HIS:=ab (rC HBIG.out HCN.out HIT.out);have HIA:=ab (show bn (w.heap.size<= ·) wr (.slice av l.length cv0) l from by
     have hww:=HB1.out.size;refine⟨cells,(bm HOWN.out).weak (fun k hk=>by have:=hk.1; omega),HROW.out.mono (fun c x _ hx=>hx.same (fun k hk hS=>⟨by have:=hS.1; omega,rfl⟩))⟩)
    have HFB:=ab (show Below w.heap.size w wr from HB1.out.trans ((bP.of_grown (S:=fun k=>k=rb) HINV.out.grown (fun k hk=>by cases hk; rfl)).below HB1.out.size (fun k hk=>by subst hk; exact hge)));go_wp2_with fail;refine(Ak rb dv data s _ HRD.out).mono ?_;rintro e we ⟨rfl,nd,rfl⟩;obtain⟨ev,hev⟩: ∃ev:Int,ev=mO data s:=⟨_,rfl⟩;rw[<-hev];have HEV:=ab hev;clear hev
    by_cases h0:ev=0
    ·subst h0;have HIA2:=ab (show bn (w.heap.size<= ·) (wr.drewN nd) (.slice av l.length cv0) l from bn.below HIA.out (cz (Below.refl _ _) nd));have HE2:=ab (HE.out.below (cz HFB.out nd))
     cases hvn2:dZ l
     ·have HIN:=ab (show cK data=none by rw[HIS.out,hvn2]; simp);have HVN:=ab hvn2;clear hvn2;go_wp2_with fail;refine(fq _ l _ false _ HIA2.out HE2.out HVN.out).mono ?_;rintro e wf ⟨rfl,hbf⟩;have HBF:=ab (ag (cz HFB.out nd) hbf);clear hbf;go_wp2_with fail
      go_ret2
      exact⟨HBF.out,by rw[HIN.out]; rfl⟩
     ·have HIN:=ab (show cK data=some l by rw[HIS.out,hvn2]; simp[HEV.out.symm]);have HVN:=ab hvn2;clear hvn2;go_wp2_with fail;refine(fq _ l _ true _ HIA2.out HE2.out HVN.out).mono ?_;rintro e wf ⟨rfl,hbf⟩;have HBF:=ab (ag (cz HFB.out nd) hbf);have HIF:=ab (bn.below HIA2.out hbf);clear hbf;go_wp2_with fail
      go_ret2
      exact⟨HBF.out,by rw[HIN.out]; exact⟨_,rfl,HIF.out⟩⟩
    ·have HIN:=ab (show cK data=none by rw[HIS.out,if_neg (fun h=>h0 (HEV.out.trans h.1))]);have e6:(ev != 0)=true:=by simp[h0]
     clear h0;go_wp2_with fail
     go_ret2
     exact⟨cz HFB.out nd,by rw[HIN.out]; rfl⟩
end Go.Proofs.YtpffpjbkbaleiaaGreatDoor
namespace Go.Proofs.YtpffpjbkbaleiaaGreatDoor
open Go Go.RowKit
def dE (l:List aE) (k:Nat):List UInt8:=aP l.length++(l.take k).flatMap cX
theorem qf {l:List aE} {k:Nat} {it:aE} (h:l[k]? =some it):dE l (k+1)=dE l k++cX it:=by
 unfold dE;rw[List.take_add_one,h,List.flatMap_append,<-List.append_assoc]; simp
theorem rh (l:List aE):dE l l.length=dg l:=by unfold dE dg; rw[List.take_length]
theorem mM (l:List aE) (k:Nat):(dE l k).length<=(dg l).length:=by
 have:(l.flatMap cX).length=((l.take k).flatMap cX).length+((l.drop k).flatMap cX).length:=by
  rw[<-List.length_append,<-List.flatMap_append,List.take_append_drop]
 unfold dE dg;rw[List.length_append,List.length_append];omega
def mq (l:List aE) (w:World) (e:Ending) (w':World):Prop:=Below w.heap.size w w'/\
 if dZ l=true then(if(dg l).length<=32768 then ∃v,e= .returned (.tuple #[v, .int .i64 0])/\fO w' w.heap.size v (dg l)else e= .returned (.tuple #[.slice none 0 0, .int .i64 2]))
 else e= .returned (.tuple #[.slice none 0 0, .int .i64 1])
theorem rP (S:Nat->Prop) (l:List aE) (v:Value) (w:World) (hv:bn S w v l) (henv:fN w) (hsm:(dg l).length<1000000000000) (htm: ∀it∈l,it.time<9223372036854775808):Calls Tryz.prog 15 #[v] w (mq l w):=by
 obtain⟨a,cap,rfl,hc,hm,-⟩:=aO.shape hv ei.len;unfold maxLen at hm;obtain⟨n,hn⟩: ∃n,n=l.length:=⟨_,rfl⟩;rw[<-hn]at hv hc ⊢;have HV:=ab hv;have HE:=ab henv;have HN:=ab hn;have HSM:=ab hsm;have HTM:=ab htm;clear hv henv hn hsm htm
 by_cases hval:dZ l=true
 ·have HVN:=ab hval;have HALL:=ab (pH hval);clear hval;have hn4:n<=4096:=by rw[HN.out]; exact HALL.out.1
  go_enter Tryz.func15,Tryz.ntmps15
  go_wp2_with fail;refine(fq S l _ true w HV.out HE.out HVN.out).mono ?_;rintro e w1 ⟨rfl,hb1⟩;have HB1:=ab hb1;clear hb1;go_wp2_with fail;refine(oe w1).mono ?_;rintro e w2 ⟨rfl,hw2,hb2⟩;obtain⟨wb,hwb⟩: ∃wb,wb=w1.heap.size:=⟨_,rfl⟩;rw[<-hwb]at hw2 ⊢;have HB2:=ab (ag HB1.out hb2);have HW2:=ab hw2;have HWB:=ab (show w.heap.size<=wb by rw[hwb]; exact HB1.out.size)
  clear hw2 hb2 hwb;go_wp2_with fail;refine(nM wb n [] w2 HW2.out (by simp) (by omega)).mono ?_;rintro e w3 ⟨rfl,hw3,hk3⟩;rw[List.nil_append]at hw3;have HW3:=ab hw3;have HB3:=ab (HB2.out.trans (hk3.1.mono HWB.out));clear hw3 hk3;go_wp2_with fail
  go_loopw [21] (fun i wr=> ∃k:Nat,k<=n/\i= .int .i64 (k:Int)/\jW wr wb (dE l k)/\Below w.heap.size w wr) (fun i _=>n-(intOf i).toNat)
  case atStart=>exact⟨0,Nat.zero_le _,rfl,by have:=HW3.out; rw[HN.out]at this; simpa [dE]using this,HB3.out⟩
  case round=>
   obtain⟨k,hk,rfl,hw,hb⟩:=hrel;have HW:=ab hw;have HB:=ab hb;clear hw hb
   by_cases hlt:k<n
   ·obtain⟨it,hr⟩: ∃it,l[k]? =some it:=⟨l[k]'(by rw[<-HN.out]; exact hlt),by simp⟩;obtain⟨b,o,ca,cc,rfl,hok,hrf,hbl,-,hcl0⟩:=fF HV.out (Below.refl _ _) hr;have hcl: ∀j,j<10->wr.cell? ⟨b,o+k*10+j,none⟩=(dy (.slice ca it.chunks.length cc) it)[j]? :=fun j hj=>(HB.out.cell (p:=⟨b,o+k*10+j,none⟩) hbl).trans (hcl0 j hj)
    have HR:=ab hr;have HO:=ab hok;have HRF:=ab hrf;have HVI:=ab (HALL.out.2 it (List.mem_of_getElem? hr));have q0:=hcl 0 (by omega);have q1:=hcl 1 (by omega);have q2:=hcl 2 (by omega);have q3:=hcl 3 (by omega);have q4:=hcl 4 (by omega);have q5:=hcl 5 (by omega);have q6:=hcl 6 (by omega);have q7:=hcl 7 (by omega);have q8:=hcl 8 (by omega);have q9:=hcl 9 (by omega);simp only[dy,Am,Nat.add_zero]at q0 q1 q2 q3 q4 q5 q6 q7 q8 q9
    have hvi:=HVI.out;unfold bT at hvi;rw[Bool.and_eq_true]at hvi;have hh:=rq.1 hvi.1;have HBK:=ab (vw hvi.2);have HVB:=ab hvi.2;have htm:=HTM.out it (List.mem_of_getElem? hr);obtain⟨kd,hkd⟩: ∃kd,kd=it.kind.toNat:=⟨_,rfl⟩;obtain⟨md,hmd⟩: ∃md,md=it.mode.toNat:=⟨_,rfl⟩;obtain⟨td,htd⟩: ∃td,td=it.time.toNat:=⟨_,rfl⟩;have hk0:=hh.md0;have hm0:=hh.md1
    have ht0:=hh.tm0;have hnm:=qV hh.val hh.nos;have hki:it.kind=(kd:Int):=by rcases HBK.out with h | h | h<;> omega
    have hmi:it.mode=(md:Int):=by omega
    have hti:it.time=(td:Int):=by omega
    have hkd3:kd<=3:=by rcases HBK.out with h | h | h<;> omega
    have hmd9:md<=511:=by omega
    have htd9:td<9223372036854775808:=by omega
    have HIN:=ab (And.intro hkd (And.intro hmd htd));have hns:it.name.size=(bl it.name).length:=ar _;have hwk:IntKind.u64.wrap (kd:Int)=(kd:Int):=by rw[IntKind.wrap_u64]; omega
    have hwm:IntKind.u64.wrap (md:Int)=(md:Int):=by rw[IntKind.wrap_u64]; omega
    have hwt:IntKind.u64.wrap (td:Int)=(td:Int):=by rw[IntKind.wrap_u64]; omega
    rw[hki]at q1;rw[hmi]at q2;rw[hti]at q3;have HBKk:=ab (show kd=1\/kd=2\/kd=3 by rcases HBK.out with h | h | h<;> omega);have HKI:=ab hki;clear hr hok hrf hcl hcl0 hvi hh htm hkd hmd htd hk0 hm0 ht0 hki hmi hti;have l1:=mM l k;have l2:=HSM.out;have l3:=cY (n:=it.name.size) (by omega);have l4:=cY (n:=kd) (by omega);have l5:=cY (n:=md) (by omega)
    have l6:=cY (n:=td) (by omega);have HLN:=ab (show(dE l k).length<1000000000000/\(aP it.name.size).length<=10/\(aP kd).length<=10/\(aP md).length<=10/\(aP td).length<=10/\(bl it.name).length<=64/\it.name.size<=64 from⟨by omega,l3,l4,l5,l6,hnm,by omega⟩);clear l1 l2 l3 l4 l5 l6 hnm hns;have hwbl:wb<wr.heap.size:=by obtain⟨_,h,_⟩:=HW.out; exact lt_of_block h
    have HA:=ab ((Below.refl wr.heap.size wr).alloc (Nat.le_refl _) (.cells #[.string it.name, .int .i64 (kd:Int), .int .i64 (md:Int), .int .i64 (td:Int), .int .i64 it.size, .string it.link, .slice ca it.chunks.length cc, .string it.node.name, .int .i64 it.node.gen, .int .i64 it.node.size] 28));have HX4:=ab (bI wr (.cells #[.string it.name, .int .i64 (kd:Int), .int .i64 (md:Int), .int .i64 (td:Int), .int .i64 it.size, .string it.link, .slice ca it.chunks.length cc, .string it.node.name, .int .i64 it.node.gen, .int .i64 it.node.size] 28))
    have HW4:=ab (HW.out.below HA.out);have HB4:=ab (HB.out.trans (HA.out.mono HB.out.size));go_wp2_with fail;clear q0 q1 q2 q3 q4 q5 q6 q7 q8 q9;refine(pI wb it.name _ _ HW4.out (by have:=HLN.out; omega) (by have:=HLN.out; omega)).mono ?_;rintro e wx ⟨rfl,hw5,hk5⟩;have HX5:=ab ((hk5.2 _ (by decide) (by decide) _ _ HX4.out).trans HX4.out);have HW5:=ab hw5;have HB5:=ab (HB4.out.trans (hk5.1.mono HWB.out))
    clear hw5 hk5 HX4 HW4 HB4;have HX4:=HX5;have HW4:=HW5;have HB4:=HB5;clear HX5 HW5 HB5;have c0:=aa (k:=0) HX4.out;have c1:=aa (k:=1) HX4.out;have c2:=aa (k:=2) HX4.out;have c3:=aa (k:=3) HX4.out;have c5:=aa (k:=5) HX4.out;have c6:=aa (k:=6) HX4.out;have c7:=aa (k:=7) HX4.out;have c8:=aa (k:=8) HX4.out;have c9:=aa (k:=9) HX4.out
    simp only[aW]at c0 c1 c2 c3 c5 c6 c7 c8 c9;go_wp2_with fail;clear c0 c1 c2 c3 c5 c6 c7 c8 c9;refine(em wb kd _ _ HW4.out (by have:=HLN.out; simp only[List.length_append]; omega) (by omega)).mono ?_;rintro e wx ⟨rfl,hw5,hk5⟩;have HX5:=ab ((hk5.2 _ (by decide) (by decide) _ _ HX4.out).trans HX4.out);have HW5:=ab hw5;have HB5:=ab (HB4.out.trans (hk5.1.mono HWB.out));clear hw5 hk5 HX4 HW4 HB4
    have HX4:=HX5;have HW4:=HW5;have HB4:=HB5;clear HX5 HW5 HB5;have c0:=aa (k:=0) HX4.out;have c1:=aa (k:=1) HX4.out;have c2:=aa (k:=2) HX4.out;have c3:=aa (k:=3) HX4.out;have c5:=aa (k:=5) HX4.out;have c6:=aa (k:=6) HX4.out;have c7:=aa (k:=7) HX4.out;have c8:=aa (k:=8) HX4.out;have c9:=aa (k:=9) HX4.out;simp only[aW]at c0 c1 c2 c3 c5 c6 c7 c8 c9
    go_wp2_with fail;clear c0 c1 c2 c3 c5 c6 c7 c8 c9;refine(em wb md _ _ HW4.out (by have:=HLN.out; simp only[List.length_append]; omega) (by omega)).mono ?_;rintro e wx ⟨rfl,hw5,hk5⟩;have HX5:=ab ((hk5.2 _ (by decide) (by decide) _ _ HX4.out).trans HX4.out);have HW5:=ab hw5;have HB5:=ab (HB4.out.trans (hk5.1.mono HWB.out));clear hw5 hk5 HX4 HW4 HB4;have HX4:=HX5;have HW4:=HW5
    have HB4:=HB5;clear HX5 HW5 HB5;have c0:=aa (k:=0) HX4.out;have c1:=aa (k:=1) HX4.out;have c2:=aa (k:=2) HX4.out;have c3:=aa (k:=3) HX4.out;have c5:=aa (k:=5) HX4.out;have c6:=aa (k:=6) HX4.out;have c7:=aa (k:=7) HX4.out;have c8:=aa (k:=8) HX4.out;have c9:=aa (k:=9) HX4.out;simp only[aW]at c0 c1 c2 c3 c5 c6 c7 c8 c9;go_wp2_with fail
    clear c0 c1 c2 c3 c5 c6 c7 c8 c9;have HNX:=ab (qf HR.out);have HLX:=ab (show(dE l (k+1)).length<1000000000000 by have h1:=mM l (k+1); have h2:=HSM.out; omega)
    rcases HBKk.out with h | h | h
    ·subst h;have hbf:=gz (by rw[HKI.out]; rfl) HVB.out;have HBF:=ab hbf.2.2.1;obtain⟨_,_,heq,hcn,hcm,-⟩:=aO.shape HRF.out fP.len;simp only[Value.slice.injEq]at heq;obtain⟨rfl,-,rfl⟩:=heq;obtain⟨n2,hn2⟩: ∃n2,n2=it.chunks.length:=⟨_,rfl⟩;have HN2:=ab hn2;unfold maxLen at hcm;rw[<-hn2]at HX4 HRF hcn;have hn2b:n2<9223372036854775808:=by omega
     have HTL:=ab (show cX it=aP it.name.size++(bl it.name++(aP 1++(aP md++(aP td++(aP n2++it.chunks.flatMap cZ))))) by
      unfold cX kg;rw[if_pos (by rw[HKI.out]; rfl),<-HIN.out.1,<-HIN.out.2.1,<-HIN.out.2.2,<-hn2])
     clear hn2 hbf;refine(em wb td _ _ HW4.out (by have:=HLN.out; simp only[List.length_append]; omega) (by omega)).mono ?_;rintro e wx ⟨rfl,hw5,hk5⟩;have HX5:=ab ((hk5.2 _ (by decide) (by decide) _ _ HX4.out).trans HX4.out);have HW5:=ab hw5;have HB5:=ab (HB4.out.trans (hk5.1.mono HWB.out));clear hw5 hk5 HX4 HW4 HB4;have HX4:=HX5;have HW4:=HW5;have HB4:=HB5;clear HX5 HW5 HB5
     have c0:=aa (k:=0) HX4.out;have c1:=aa (k:=1) HX4.out;have c2:=aa (k:=2) HX4.out;have c3:=aa (k:=3) HX4.out;have c5:=aa (k:=5) HX4.out;have c6:=aa (k:=6) HX4.out;have c7:=aa (k:=7) HX4.out;have c8:=aa (k:=8) HX4.out;have c9:=aa (k:=9) HX4.out;simp only[aW]at c0 c1 c2 c3 c5 c6 c7 c8 c9;go_wp2_with fail;clear c0 c1 c2 c3 c5 c6 c7 c8 c9
     refine(nM wb n2 _ _ HW4.out (by have:=HLN.out; simp only[List.length_append]; omega) hn2b).mono ?_;rintro e wx ⟨rfl,hw5,hk5⟩;have HX5:=ab ((hk5.2 _ (by decide) (by decide) _ _ HX4.out).trans HX4.out);have HW5:=ab hw5;have HB5:=ab (HB4.out.trans (hk5.1.mono HWB.out));clear hw5 hk5 HX4 HW4 HB4;have HX4:=HX5;have HW4:=HW5;have HB4:=HB5;clear HX5 HW5 HB5;have c0:=aa (k:=0) HX4.out
     have c1:=aa (k:=1) HX4.out;have c2:=aa (k:=2) HX4.out;have c3:=aa (k:=3) HX4.out;have c5:=aa (k:=5) HX4.out;have c6:=aa (k:=6) HX4.out;have c7:=aa (k:=7) HX4.out;have c8:=aa (k:=8) HX4.out;have c9:=aa (k:=9) HX4.out;simp only[aW]at c0 c1 c2 c3 c5 c6 c7 c8 c9;go_wp2_with fail;clear c0 c1 c2 c3 c5 c6 c7 c8 c9;obtain⟨D,hDw,hDe⟩: ∃D,jW wx wb D/\D++it.chunks.flatMap cZ=dE l (k+1):=⟨_,HW4.out,by rw[HNX.out,HTL.out]; simp[List.append_assoc]⟩
     have HDW:=ab hDw;have HDE:=ab hDe;clear hDw hDe
     go_loopw [56] (fun j w6=> ∃m:Nat,m<=n2/\j= .int .i64 (m:Int)/\jW w6 wb (D++(it.chunks.take m).flatMap cZ)/\Below w.heap.size w w6) (fun j _=>n2-(intOf j).toNat)
     case atStart=>exact⟨0,Nat.zero_le _,rfl,by simpa using HDW.out,HB4.out⟩
     case round=>
      obtain⟨m,hmn,rfl,hw6,hb6⟩:=hrel;have HW6:=ab hw6;have HB6:=ab hb6;clear hw6 hb6
      by_cases hlm:m<n2
      ·obtain⟨r,hr2⟩: ∃r,it.chunks[m]? =some r:=⟨it.chunks[m]'(by rw[<-HN2.out]; exact hlm),by simp⟩;have HR2:=ab hr2;have HVR:=ab ((HBF.out r (List.mem_of_getElem? hr2)).1);obtain⟨b2,o2,rfl,-,p0,p1,p2⟩:=fp HRF.out HB6.out hr2;have HLD:=ab (show(D++(it.chunks.take m).flatMap cZ).length<1098000000000 by
        have h1:=congrArg List.length HDE.out;have h2:=HLX.out;have h3:(it.chunks.flatMap cZ).length=((it.chunks.take m).flatMap cZ).length+((it.chunks.drop m).flatMap cZ).length:=by
         rw[<-List.length_append,<-List.flatMap_append,List.take_append_drop]
        rw[List.length_append]at h1 ⊢
        omega)
       clear hr2;have HA6:=ab ((Below.refl wr.heap.size wr).alloc (Nat.le_refl _) (.cells #[.string r.name, .int .i64 r.gen, .int .i64 r.size] 26));have HTK:=ab (show(it.chunks.take (m+1)).flatMap cZ=(it.chunks.take m).flatMap cZ++cZ r by
        rw[List.take_add_one,HR2.out,List.flatMap_append]; simp)
       have HR6:=ab (kF wb r _ _ (HW6.out.below HA6.out) HLD.out HVR.out);have HB7:=ab (HB6.out.trans (HA6.out.mono HB6.out.size));go_wp2_with fail;refine HR6.out.mono ?_;rintro e w8 ⟨rfl,hw8,hk8⟩;have HW8:=ab hw8;have HB8:=ab (HB7.out.trans (hk8.1.mono HWB.out));clear hw8 hk8 p0 p1 p2;go_wp2_with fail
       go_roundw
       case rel=>
        refine⟨m+1,by omega,by go_num, ?_,HB8.out⟩;rw[HTK.out,<-List.append_assoc];exact HW8.out
       case measure=>simp[intOf]; omega
      ·have hm2:m=n2:=by omega
       subst hm2;have HWE:=ab (show jW _ wb (dE l (k+1)) by have:=HW6.out; rw[HN2.out,List.take_length,HDE.out]at this; exact this);go_wp2_with fail
       go_roundw
       case rel=>exact⟨k+1,by omega,by go_num,HWE.out,HB6.out⟩
       case measure=>simp[intOf]; omega
    ·subst h;have hbf:=xY (by rw[HKI.out]; rfl) HVB.out;have HBF:=ab hbf.2.2.2;have HTL:=ab (show cX it=aP it.name.size++(bl it.name++(aP 2++(aP md++(aP td++cZ it.node)))) by
      unfold cX kg;rw[if_neg (by rw[HKI.out]; decide),if_pos (by rw[HKI.out]; rfl),<-HIN.out.1,<-HIN.out.2.1,<-HIN.out.2.2])
     clear hbf;refine(em wb td _ _ HW4.out (by have:=HLN.out; simp only[List.length_append]; omega) (by omega)).mono ?_;rintro e wx ⟨rfl,hw5,hk5⟩;have HX5:=ab ((hk5.2 _ (by decide) (by decide) _ _ HX4.out).trans HX4.out);have HW5:=ab hw5;have HB5:=ab (HB4.out.trans (hk5.1.mono HWB.out));clear hw5 hk5 HX4 HW4 HB4;have HX4:=HX5;have HW4:=HW5;have HB4:=HB5;clear HX5 HW5 HB5
     have c0:=aa (k:=0) HX4.out;have c1:=aa (k:=1) HX4.out;have c2:=aa (k:=2) HX4.out;have c3:=aa (k:=3) HX4.out;have c5:=aa (k:=5) HX4.out;have c6:=aa (k:=6) HX4.out;have c7:=aa (k:=7) HX4.out;have c8:=aa (k:=8) HX4.out;have c9:=aa (k:=9) HX4.out;simp only[aW]at c0 c1 c2 c3 c5 c6 c7 c8 c9;go_wp2_with fail;clear c0 c1 c2 c3 c5 c6 c7 c8 c9
     refine(kF wb it.node _ _ HW4.out (by have:=HLN.out; simp only[List.length_append]; omega) HBF.out).mono ?_;rintro e wx ⟨rfl,hw5,hk5⟩;have HX5:=ab ((hk5.2 _ (by decide) (by decide) _ _ HX4.out).trans HX4.out);have HW5:=ab hw5;have HB5:=ab (HB4.out.trans (hk5.1.mono HWB.out));clear hw5 hk5 HX4 HW4 HB4;have HX4:=HX5;have HW4:=HW5;have HB4:=HB5;clear HX5 HW5 HB5;have c0:=aa (k:=0) HX4.out
     have c1:=aa (k:=1) HX4.out;have c2:=aa (k:=2) HX4.out;have c3:=aa (k:=3) HX4.out;have c5:=aa (k:=5) HX4.out;have c6:=aa (k:=6) HX4.out;have c7:=aa (k:=7) HX4.out;have c8:=aa (k:=8) HX4.out;have c9:=aa (k:=9) HX4.out;simp only[aW]at c0 c1 c2 c3 c5 c6 c7 c8 c9;go_wp2_with fail;clear c0 c1 c2 c3 c5 c6 c7 c8 c9
     go_roundw
     case rel=>
      refine⟨k+1,by omega,by go_num, ?_,HB4.out⟩;rw[HNX.out,HTL.out]
      simpa [List.append_assoc]using HW4.out
     case measure=>simp[intOf]; omega
    ·subst h;have hbf:=vy (by rw[HKI.out]; rfl) HVB.out;have HBF:=ab hbf.2.2.2.2.1;have HTL:=ab (show cX it=aP it.name.size++(bl it.name++(aP 3++(aP md++(aP td++(aP it.link.size++bl it.link))))) by
      unfold cX kg;rw[if_neg (by rw[HKI.out]; decide),if_neg (by rw[HKI.out]; decide),<-HIN.out.1,<-HIN.out.2.1,<-HIN.out.2.2])
     clear hbf;refine(em wb td _ _ HW4.out (by have:=HLN.out; simp only[List.length_append]; omega) (by omega)).mono ?_;rintro e wx ⟨rfl,hw5,hk5⟩;have HX5:=ab ((hk5.2 _ (by decide) (by decide) _ _ HX4.out).trans HX4.out);have HW5:=ab hw5;have HB5:=ab (HB4.out.trans (hk5.1.mono HWB.out));clear hw5 hk5 HX4 HW4 HB4;have HX4:=HX5;have HW4:=HW5;have HB4:=HB5;clear HX5 HW5 HB5
     have c0:=aa (k:=0) HX4.out;have c1:=aa (k:=1) HX4.out;have c2:=aa (k:=2) HX4.out;have c3:=aa (k:=3) HX4.out;have c5:=aa (k:=5) HX4.out;have c6:=aa (k:=6) HX4.out;have c7:=aa (k:=7) HX4.out;have c8:=aa (k:=8) HX4.out;have c9:=aa (k:=9) HX4.out;simp only[aW]at c0 c1 c2 c3 c5 c6 c7 c8 c9;go_wp2_with fail;clear c0 c1 c2 c3 c5 c6 c7 c8 c9
     refine(pI wb it.link _ _ HW4.out (by have:=HLN.out; simp only[List.length_append]; omega) (by have:=HBF.out; omega)).mono ?_;rintro e wx ⟨rfl,hw5,hk5⟩;have HX5:=ab ((hk5.2 _ (by decide) (by decide) _ _ HX4.out).trans HX4.out);have HW5:=ab hw5;have HB5:=ab (HB4.out.trans (hk5.1.mono HWB.out));clear hw5 hk5 HX4 HW4 HB4;have HX4:=HX5;have HW4:=HW5;have HB4:=HB5;clear HX5 HW5 HB5
     have c0:=aa (k:=0) HX4.out;have c1:=aa (k:=1) HX4.out;have c2:=aa (k:=2) HX4.out;have c3:=aa (k:=3) HX4.out;have c5:=aa (k:=5) HX4.out;have c6:=aa (k:=6) HX4.out;have c7:=aa (k:=7) HX4.out;have c8:=aa (k:=8) HX4.out;have c9:=aa (k:=9) HX4.out;simp only[aW]at c0 c1 c2 c3 c5 c6 c7 c8 c9;go_wp2_with fail;clear c0 c1 c2 c3 c5 c6 c7 c8 c9
     go_roundw
     case rel=>
      refine⟨k+1,by omega,by go_num, ?_,HB4.out⟩;rw[HNX.out,HTL.out]
      simpa [List.append_assoc]using HW4.out
     case measure=>simp[intOf]; omega
   ·have hk2:k=n:=by omega
    subst hk2;have HWE:=ab (show jW wr wb (dg l) by have:=HW.out; rw[HN.out,rh]at this; exact this);go_wp2_with fail;refine(xA wb (dg l) wr HWE.out (by have:=HSM.out; omega)).mono ?_;rintro e w9 ⟨hb9,hif⟩;obtain⟨m,hm0⟩: ∃m,m=(dg l).length:=⟨_,rfl⟩;rw[<-hm0]at hif;have HM0:=ab hm0;have HB9:=ab (HB.out.trans (hb9.mono HB.out.size));have hbs:=HB.out.size
    by_cases hbig:m<=1048576
    ·rw[if_pos hbig]at hif;obtain⟨v9,rfl,ho9⟩:=hif;obtain⟨a9,c9,hv9,-,-⟩:=aj ho9;rw[<-hm0]at hv9;subst hv9;have HO9:=ab (bS ho9 hbs);clear hm0 ho9 hb9
     by_cases hsmall:m<=32768
     ·have hmi:(m:Int)<=32768:=by omega
      go_wp2_with fail
      go_ret2
      refine⟨HB9.out, ?_⟩;rw[if_pos HVN.out,<-HM0.out,if_pos hsmall];exact⟨_,rfl,HO9.out⟩
     ·have hmi:(32768:Int)<(m:Int):=by omega
      have HSB:=ab hsmall;clear hsmall;go_wp2_with fail
      go_ret2
      refine⟨HB9.out, ?_⟩;rw[if_pos HVN.out,<-HM0.out,if_neg HSB.out]
      rfl
    ·rw[if_neg hbig]at hif;subst hif;have HSB:=ab (show ¬m<=32768 by omega);clear hm0 hb9 hbig;go_wp2_with fail
     go_ret2
     refine⟨HB9.out, ?_⟩;rw[if_pos HVN.out,<-HM0.out,if_neg HSB.out]
     rfl
 ·have HVN:=ab (show dZ l=false by simpa using hval);clear hval
  go_enter Tryz.func15,Tryz.ntmps15
  go_wp2_with fail;refine(fq S l _ false w HV.out HE.out HVN.out).mono ?_;rintro e w1 ⟨rfl,hb1⟩;have HB1:=ab hb1;clear hb1;go_wp2_with fail
  go_ret2
  refine⟨HB1.out, ?_⟩;rw[HVN.out]
  rfl
end Go.Proofs.YtpffpjbkbaleiaaGreatDoor
namespace Go.Proofs.YtpffpjbkbaleiaaGreatDoor
open Go.RowKit Go.Maps
def be (S:Nat->Prop) (w:World):List (Value×Value)->List (ByteArray×List UInt8)->Prop
 | [],[]=>True
 | (k,v)::m,(n,bs)::cs=>k= .string n/\aC S w v bs/\be S w m cs
 | _,_=>False
theorem be.mono {S:Nat->Prop} {w w':World} : ∀ {m:List (Value×Value)} {cs:List (ByteArray×List UInt8)},be S w m cs->(∀v bs,aC S w v bs->aC S w' v bs)->be S w' m cs
 | [],[],_,_=>trivial
 | [],_::_,h,_=>h
 | _::_,[],h,_=>h
 | (_,_)::_,(_,_)::_,h,hm=>⟨h.1,hm _ _ h.2.1,be.mono h.2.2 hm⟩
def cB :List (ByteArray×List UInt8)->ByteArray->Option (List UInt8)
 | [],_=>none
 | (k,bs)::cs,n=>if k=n then some bs else cB cs n
theorem be.hit {S:Nat->Prop} {w:World} {n:ByteArray} {bs:List UInt8} : ∀ {m:List (Value×Value)} {cs:List (ByteArray×List UInt8)},be S w m cs->cB cs n=some bs-> ∃v,(Value.string n,v)∈m/\aC S w v bs
 | [],[],_,hf=>by simp[cB]at hf
 | [],_::_,h,_=>False.elim h
 | _::_,[],h,_=>False.elim h
 | (k,v)::m,(n',bs')::cs,h,hf=>by
  simp only[cB]at hf
  split at hf
  ·rename_i e;simp only[Option.some.injEq]at hf;subst hf e;exact⟨v,by rw[h.1]; simp,h.2.1⟩
  ·obtain⟨v',h1,h2⟩:=be.hit h.2.2 hf;exact⟨v',by simp[h1],h2⟩
theorem be.miss {S:Nat->Prop} {w:World} {n:ByteArray} : ∀ {m:List (Value×Value)} {cs:List (ByteArray×List UInt8)},be S w m cs->cB cs n=none-> ∀p∈m,p.1≠Value.string n
 | [],[],_,_,_,hp=>by simp at hp
 | [],_::_,h,_,_,_=>False.elim h
 | _::_,[],h,_,_,_=>False.elim h
 | (k,v)::m,(n',bs')::cs,h,hf,p,hp=>by
  simp only[cB]at hf
  split at hf
  ·simp at hf
  ·rename_i e
   rcases List.mem_cons.1 hp with rfl | hp
   ·intro e2;have:=h.1.symm.trans e2;simp only[Value.string.injEq]at this;exact e this
   ·exact be.miss h.2.2 hf p hp
def br (S:Nat->Prop) (w:World) (cv:Value) (cs:List (ByteArray×List UInt8)):Prop:=
 (cv= .map none/\cs=[])\/ ∃b m,cv= .map (some b)/\S b/\cS Tryz.prog 9 w b m/\be S w m cs
theorem br.below {S:Nat->Prop} {w w':World} {cv:Value} {cs:List (ByteArray×List UInt8)} (h:br S w cv cs) (hb:Below w.heap.size w w'):br S w' cv cs:=by
 rcases h with h | ⟨b,m,h1,h0,h2,h3⟩
 ·exact .inl h
 ·exact .inr ⟨b,m,h1,h0,h2.same (hb.block b h2.lt),h3.mono (fun v bs hv=>aJ.below hv (by omega) hb)⟩
theorem iO :Keyed Tryz.prog 9:=string_keyed Tryz.underlying9
theorem kM {n:ByteArray} (h:n.size<=maxLen): ∃l,keyOf Tryz.prog 9 (.string n)=some l:=⟨.string n.data.toList,by simp[keyOf,mapKey,Tryz.underlying9,h]⟩
theorem br.hitL {S:Nat->Prop} {w:World} {cv:Value} {cs:List (ByteArray×List UInt8)} (h:br S w cv cs) {n:ByteArray} {bs:List UInt8} (hn:n.size<=maxLen) (hf:cB cs n=some bs):
  ∃v,(Instr.lookup 133 cv (.string n) true).run Tryz.prog w= .ok (.tuple #[v, .bool true]) w/\aC S w v bs:=by
 rcases h with⟨_,rfl⟩ | ⟨b,m,rfl,_,h2,h3⟩
 ·simp[cB]at hf
 ·obtain⟨v,hv,hb⟩:=h3.hit hf;exact⟨v,h2.hit iO (t:=133) (e:=29) (by kernel_rfl) (kM hn) hv true,hb⟩
theorem br.missL {S:Nat->Prop} {w:World} {cv:Value} {cs:List (ByteArray×List UInt8)} (h:br S w cv cs) {n:ByteArray} (hn:n.size<=maxLen) (hf:cB cs n=none):
  (Instr.lookup 133 cv (.string n) true).run Tryz.prog w= .ok (.tuple #[.slice none 0 0, .bool false]) w:=by
 obtain⟨l,hl⟩:=kM hn
 rcases h with⟨rfl,_⟩ | ⟨b,m,rfl,_,h2,h3⟩
 ·exact Maps.look_nil true iO (t:=133) (e:=29) (by kernel_rfl) (by kernel_rfl) hl
 ·exact h2.miss iO (t:=133) (e:=29) (by kernel_rfl) (by kernel_rfl) (kM hn) (h3.miss hf) true
def bR (cs:List (ByteArray×List UInt8)) (r:aN):Except Int (List UInt8):=match cB cs r.name with
 | none=> .error 10
 | some bs=>if(bs.length:Int)=r.size then .ok bs else .error 9
def dh (cs:List (ByteArray×List UInt8)) (r:aN):Except Int (List aE):=match bR cs r with
 | .error e=> .error e
 | .ok bs=>match cK bs with
  | none=> .error 9
  | some l=> .ok l
def jX (cs:List (ByteArray×List UInt8)) (r:aN) (S:Nat->Prop) (w:World) (e:Ending) (w':World):Prop:=Below w.heap.size w w'/\match bR cs r with
 | .error x=>e= .returned (.tuple #[.slice none 0 0, .int .i64 x])/\x≠0
 | .ok bs=> ∃v,e= .returned (.tuple #[v, .int .i64 0])/\aC S w' v bs
theorem oI (S:Nat->Prop) (cv:Value) (cs:List (ByteArray×List UInt8)) (r:aN) (w:World) (hc:br S w cv cs) (hr:bo r):Calls Tryz.prog 129 #[cv,bB r] w (jX cs r S w):=by
 have hnm:=hr.nm;have HC:=ab (hc.below ((Below.refl _ _).alloc (Nat.le_refl _) (.cells #[.string r.name, .int .i64 r.gen, .int .i64 r.size] 26)));have HB:=ab ((Below.refl w.heap.size w).alloc (Nat.le_refl _) (.cells #[.string r.name, .int .i64 r.gen, .int .i64 r.size] 26));unfold bB;clear hc hr
 cases hf:cB cs r.name with
 | none=>
  have hlk:=HC.out.missL hnm hf;have HF:=ab (show bR cs r= .error 10 by unfold bR; rw[hf]);clear hf hnm
  go_enter Tryz.func129,Tryz.ntmps129
  go_wp2_with fail
  go_ret2
  exact⟨HB.out,by rw[HF.out]; exact⟨rfl,by decide⟩⟩
 | some bs=>
  obtain⟨v,hlk,hv⟩:=HC.out.hitL hnm hf;have HV:=ab hv;obtain⟨_,a,cap,rfl,hn,hm,-⟩:=hv;unfold maxLen at hm
  by_cases hl:(bs.length:Int)=r.size
  ·have HF:=ab (show bR cs r= .ok bs by unfold bR; rw[hf]; simp only[if_pos hl]);have e1:((bs.length:Int) != r.size)=false:=by simp[hl]
   clear hf hnm hl
   go_enter Tryz.func129,Tryz.ntmps129
   go_wp2_with fail
   go_ret2
   exact⟨HB.out,by rw[HF.out]; exact⟨_,rfl,HV.out⟩⟩
  ·have HF:=ab (show bR cs r= .error 9 by unfold bR; rw[hf]; simp only[if_neg hl]);have e1:((bs.length:Int) != r.size)=true:=by simp[hl]
   clear hf hnm hl
   go_enter Tryz.func129,Tryz.ntmps129
   go_wp2_with fail
   go_ret2
   exact⟨HB.out,by rw[HF.out]; exact⟨rfl,by decide⟩⟩
def pR (cs:List (ByteArray×List UInt8)) (r:aN) (w:World) (e:Ending) (w':World):Prop:=Below w.heap.size w w'/\match dh cs r with
 | .error x=>e= .returned (.tuple #[.slice none 0 0, .int .i64 x])/\x≠0
 | .ok l=> ∃v,e= .returned (.tuple #[v, .int .i64 0])/\bn (w.heap.size<= ·) w' v l
theorem kr (S:Nat->Prop) (cv:Value) (cs:List (ByteArray×List UInt8)) (r:aN) (w:World) (hc:br S w cv cs) (hr:bo r) (henv:fN w):Calls Tryz.prog 83 #[cv,bB r] w (pR cs r w):=by
 have HB:=ab ((Below.refl w.heap.size w).alloc (Nat.le_refl _) (.cells #[.string r.name, .int .i64 r.gen, .int .i64 r.size] 26));have HC:=ab (hc.below HB.out);have HR:=ab hr;have HE:=ab (henv.below HB.out);unfold bB;clear hc hr henv
 go_enter Tryz.func83,Tryz.ntmps83
 go_wp2_with fail;refine(oI S cv cs r _ HC.out HR.out).mono ?_;rintro e w1 ⟨hb1,hres⟩;have HB1:=ab (ag HB.out hb1);have HE1:=ab (HE.out.below hb1);clear hb1
 cases hch:bR cs r with
 | error x=>
  rw[hch]at hres;obtain⟨rfl,hx⟩:=hres;have HN:=ab (show dh cs r= .error x by unfold dh; rw[hch]);have HX:=ab hx;have e1:(x != 0)=true:=by simp[hx]
  clear hch hx;go_wp2_with fail
  go_ret2
  exact⟨HB1.out,by rw[HN.out]; exact⟨rfl,HX.out⟩⟩
 | ok bs=>
  rw[hch]at hres;obtain⟨v,rfl,hv⟩:=hres;have HV:=ab hv;obtain⟨_,a,cap,rfl,hn,hm,-⟩:=hv;unfold maxLen at hm;have HCH:=ab hch;clear hch;go_wp2_with fail;refine(ph S bs _ w1 HV.out HE1.out).mono ?_;rintro e w2 ⟨hb2,hres⟩;have HB2:=ab (ag HB1.out hb2);clear hb2
  cases hit:cK bs with
  | none=>
   rw[hit]at hres;simp only at hres;subst hres;have HN:=ab (show dh cs r= .error 9 by unfold dh; rw[HCH.out]; simp only[hit]);clear hit;go_wp2_with fail
   go_ret2
   exact⟨HB2.out,by rw[HN.out]; exact⟨rfl,by decide⟩⟩
  | some l=>
   rw[hit]at hres;simp only at hres;obtain⟨v,rfl,hv⟩:=hres;have hwz:=HB1.out.size;have HV2:=ab (show bn (w.heap.size<= ·) w2 v l from by
    obtain⟨cells,h1,h2⟩:=hv;exact⟨cells,h1.weak (fun k hk=>Nat.le_trans hwz hk),h2.mono (fun c x _ hx=>hx.same (fun k _ hS=>⟨Nat.le_trans hwz hS,rfl⟩))⟩)
   obtain⟨a2,c2,rfl,-,-,-⟩:=aO.shape hv ei.len;have HN:=ab (show dh cs r= .ok l by unfold dh; rw[HCH.out]; simp only[hit]);clear hit hv;go_wp2_with fail
   go_ret2
   exact⟨HB2.out,by rw[HN.out]; exact⟨_,rfl,HV2.out⟩⟩
end Go.Proofs.YtpffpjbkbaleiaaGreatDoor
namespace Go.Proofs.YtpffpjbkbaleiaaGreatDoor
open Go Go.RowKit
def dq (cs:List (ByteArray×List UInt8)):List aN->List UInt8->Except Int (List UInt8)
 | [],acc=> .ok acc
 | r::rs,acc=>match bR cs r with
  | .error x=> .error x
  | .ok bs=>dq cs rs (acc++bs)
def lV (cs:List (ByteArray×List UInt8)) (rs:List aN) (w:World) (e:Ending) (w':World):Prop:=Below w.heap.size w w'/\match dq cs rs []with
 | .error x=>e= .returned (.tuple #[.slice none 0 0, .int .i64 x])/\x≠0
 | .ok bs=> ∃v,e= .returned (.tuple #[v, .int .i64 0])/\fO w' w.heap.size v bs
theorem zt (S:Nat->Prop) (v:Value) (rs:List aN) (n:Nat) (w:World) (hv:aT S w v rs) (h:eK rs=(n:Int)):Calls Tryz.prog 63 #[v] w fun e w'=>e= .returned (.int .i64 (n:Int))/\Below w.heap.size w w':=by
 rw[<-h]; exact kW S v rs w hv
theorem iP (S:Nat->Prop) (cv rv:Value) (cs:List (ByteArray×List UInt8)) (rs:List aN) (w:World) (hc:br S w cv cs) (hv:aT S w rv rs) (ht0:0<=eK rs) (ht1:eK rs<=1048576) (hn6:rs.length<=1048576) (hrs: ∀r∈rs,eA r=true):
  Calls Tryz.prog 97 #[cv,rv] w (lV cs rs w):=by
 obtain⟨a,cap,rfl,hcap,hcm,-⟩:=aO.shape hv fP.len;obtain⟨t,ht⟩: ∃t,t=(eK rs).toNat:=⟨_,rfl⟩;have hti:eK rs=(t:Int):=by omega
 have ht6:t<=1048576:=by omega
 obtain⟨n,hn⟩: ∃n,n=rs.length:=⟨_,rfl⟩;rw[<-hn]at hv hcap hn6 ⊢;unfold maxLen at hcm;have HC:=ab hc;have HV:=ab hv;have HN:=ab hn;have HTI:=ab hti;have HRS:=ab hrs;clear hrs;obtain⟨ht9,⟨i9,z9,h91,h92,h93,h94,h95⟩,-,-⟩:=Tryz.appBytes;have hb32:i9.bytes*t<=281474976710656:=by rw[h94]; omega
 have H9:=ab (And.intro h91 (And.intro h92 (And.intro h93 hb32)));clear hc hv hn ht0 ht1 ht hti h91 h92 h93 h94 h95 hb32
 go_enter Tryz.func97,Tryz.ntmps97
 have HT6:=ab (show t<=maxLen by unfold maxLen; omega);go_wp2_with fail;refine(zt S _ rs t w HV.out HTI.out).mono ?_;rintro e w1 ⟨rfl,hb1⟩;have HB1:=ab hb1;clear hb1;go_wp2_with (first | ((refine wpList_make_own _ rfl _ _ 29 rfl w.heap.size 5 i9 z9 1 Tryz.underlying29 H9.out.1 H9.out.2.1 H9.out.2.2.1 .i64 .i64 (t:Int) t rfl rfl rfl H9.out.2.2.2 HT6.out HB1.out.size ?_); intro w4 hown4 hg4; have HO4:=ab hown4; have HG4:=ab hg4; clear hown4 hg4))
 have HB4:=ab ((dQ HG4.out).mono HB1.out.size |> HB1.out.trans)
 go_loopw [16,6] (fun i x wr=> ∃(k:Nat) (acc:List UInt8),k<=n/\i= .int .i64 (k:Int)/\dq cs rs []=dq cs (rs.drop k) acc/\acc.length<=k*32768/\fO wr w.heap.size x acc/\Below w.heap.size w wr) (fun i _ _=>n-(intOf i).toNat)
 case atStart=>exact⟨0,[],Nat.zero_le _,rfl,rfl,by simp,HO4.out,HB4.out⟩
 case round=>
  obtain⟨k,acc,hk,rfl,hf,hal,ho,hb⟩:=hrel;obtain⟨ax,cx,rfl,hx1,hx2⟩:=aj ho;have HF:=ab hf;have HO:=ab ho;have HB:=ab hb;clear hf ho hb
  by_cases hlt:k<n
  ·obtain⟨r,hr⟩: ∃r,rs[k]? =some r:=⟨rs[k]'(by rw[<-HN.out]; exact hlt),by simp⟩;obtain⟨b,o,rfl,hok,p0,p1,p2⟩:=fp HV.out HB.out hr;have HA:=ab ((Below.refl wr.heap.size wr).alloc (Nat.le_refl _) (.cells #[.string r.name, .int .i64 r.gen, .int .i64 r.size] 26));have hch:=oI S cv cs r _ ((HC.out.below HB.out).below HA.out) hok;have hsz:=(kD.1 (HRS.out r (List.mem_of_getElem? hr))).2.2.2
   have HBA:=ab (HB.out.trans (HA.out.mono HB.out.size));have HOA:=ab (aX HO.out HA.out);have HDR:=ab (show rs.drop k=r::rs.drop (k+1) by
    rw[List.drop_eq_getElem_cons (by rw[<-HN.out]; exact hlt)]
    congr 1
    exact(List.getElem?_eq_some_iff.1 hr).2)
   unfold jX at hch
   cases hcp:bR cs r with
   | error x=>
    rw[hcp]at hch;have HCH:=ab hch;have HFE:=ab (show dq cs rs []= .error x by rw[HF.out,HDR.out,dq,hcp]);clear hcp hch hr hok hsz;go_wp2_with fail;refine HCH.out.mono ?_;rintro e w5 ⟨hb5,rfl,hx⟩;have HB5:=ab (HBA.out.trans (hb5.mono HBA.out.size));clear hb5;go_wp2_with fail
    go_ret2
    refine⟨HB5.out, ?_⟩;rw[HFE.out];exact⟨rfl,hx⟩
   | ok bs=>
    rw[hcp]at hch;have HCH:=ab hch;have HFE:=ab (show dq cs rs []=dq cs (rs.drop (k+1)) (acc++bs) by rw[HF.out,HDR.out,dq,hcp]);have hbl:bs.length<=32768:=by
     unfold bR at hcp
     cases hf:cB cs r.name with
     | none=>rw[hf]at hcp; cases hcp
     | some y=>
      rw[hf]at hcp;simp only at hcp
      split at hcp
      ·cases hcp; omega
      ·cases hcp
    clear hcp hch hr hok hsz;go_wp2_with fail;refine HCH.out.mono ?_;rintro e w5 ⟨hb5,v5,rfl,hby⟩;obtain⟨_,a5,c5,rfl,-,-,-⟩:=id hby
    obtain⟨m,hm⟩: ∃m,m=bs.length:=⟨_,rfl⟩;have HM:=ab hm;have HB5:=ab (HBA.out.trans (hb5.mono HBA.out.size));have HO5:=ab (aX HOA.out hb5);have HBY:=ab (show aJ S w5 1 (.slice a5 m c5) m (bs.map an) by rw[hm]; exact hby);rw[<-hm]at hbl ⊢;have HON:=ab (show ∀u∈bs.map an,u.oneCell'=true from dm bs);have HLE:=ab (show acc.length+m<1099511627775 by omega)
    clear hb5 hby hm p0 p1 p2;go_wp2_with (at_builtin; go_must (refine dB Tryz.appBytes rfl _ _ rfl w.heap.size (.slice ax acc.length cx) acc.length (acc.map an) rfl HO5.out _ m (bs.map an) rfl HBY.out HON.out HLE.out HB5.out.size ?_); intro v6 wz hown6 hgrow6; have HO6:=ab hown6; have HG6:=ab hgrow6; clear hown6 hgrow6)
    go_roundw
    case rel=>
     refine⟨k+1,acc++bs,by omega,by go_num,HFE.out, ?_, ?_,HB5.out.grown HG6.out HB5.out.size (fun k e=>(fa HO5.out e).1)⟩
     ·rw[List.length_append,<-HM.out]; omega
     ·unfold fO;rw[List.length_append,List.map_append,<-HM.out];exact HO6.out
    case measure=>simp[intOf]; omega
  ·have hk2:k=n:=by omega
   subst hk2;go_wp2_with fail
   go_ret2
   refine⟨HB.out, ?_⟩;rw[HF.out,HN.out,List.drop_length];exact⟨_,rfl,HO.out⟩
end Go.Proofs.YtpffpjbkbaleiaaGreatDoor
namespace Go.Proofs.YtpffpjbkbaleiaaGreatDoor
open Go Go.RowKit
theorem kC {l:List aN} (hl:l.length<=1048576) (h: ∀r∈l,eA r=true): ∀k,k<=l.length->0<=eK (l.take k)/\eK (l.take k)<=(k:Int)*32768
 | 0,_=>by simp[eK]
 | k+1,hk=>by
  have ih:=kC hl h k (by omega);have hr:l[k]? =some (l[k]'(by omega)):=by simp
  have hz:=(kD.1 (h _ (List.getElem_mem (by omega:k<l.length)))).2.2.2;rw[bV hr,kV];unfold wrap64;omega
def jD (cs:List (ByteArray×List UInt8)) (it:aE) (w:World) (e:Ending) (w':World):Prop:=
 Below w.heap.size w w'/\if it.kind=1/\bT it=true then(match dq cs it.chunks []with
  | .error x=>e= .returned (.tuple #[.slice none 0 0, .int .i64 x])/\x≠0
  | .ok bs=> ∃v,e= .returned (.tuple #[v, .int .i64 0])/\fO w' w.heap.size v bs)
 else e= .returned (.tuple #[.slice none 0 0, .int .i64 1])
theorem rN (S:Nat->Prop) (cv rv:Value) (cs:List (ByteArray×List UInt8)) (it:aE) (w:World) (hc:br S w cv cs) (hv:aT S w rv it.chunks) (hok:bU it) (henv:fN w) (hn6:it.chunks.length<=1048576):
  Calls Tryz.prog 40 #[dr rv it,cv] w (jD cs it w):=by
 obtain⟨a,cap,rfl,hcap,hcm,-⟩:=aO.shape hv fP.len;have HC:=ab hc;have HV:=ab hv;have HO:=ab hok;have HE:=ab henv;clear hc hv hok henv;have HA:=ab ((Below.refl w.heap.size w).alloc (Nat.le_refl _) (.cells #[.string it.name, .int .i64 it.kind, .int .i64 it.mode, .int .i64 it.time, .int .i64 it.size, .string it.link, .slice a it.chunks.length cap, .string it.node.name, .int .i64 it.node.gen, .int .i64 it.node.size] 28))
 by_cases hk:it.kind=1
 ·cases hvi:bT it with
  | true=>
   have HVI:=ab hvi;unfold bT at hvi;rw[Bool.and_eq_true]at hvi;have HBF:=ab (gz hk hvi.2);have HK:=ab hk;clear hvi;have HEA:=ab (HE.out.below HA.out);have hvc:=dH S it (.slice a it.chunks.length cap) true _ (aO.below HV.out (by omega) HA.out (fun _ _ _ h=>h)) HO.out HEA.out HVI.out;unfold dr at hvc ⊢;rw[hk]at hvc HA ⊢
   go_enter Tryz.func40,Tryz.ntmps40
   go_wp2_with fail;refine hvc.mono ?_;rintro e w1 ⟨rfl,hb1⟩;have HB1:=ab (ag HA.out hb1);have q6:=(hb1.cell (by simp)).trans (aa (k:=6) (bI w (.cells #[.string it.name, .int .i64 1, .int .i64 it.mode, .int .i64 it.time, .int .i64 it.size, .string it.link, .slice a it.chunks.length cap, .string it.node.name, .int .i64 it.node.gen, .int .i64 it.node.size] 28)));simp only[aW]at q6
   clear hvc hb1;have hfl:=iP S cv (.slice a it.chunks.length cap) cs it.chunks w1 (HC.out.below HB1.out) (aO.below HV.out (by omega) HB1.out (fun _ _ _ h=>h)) (by have:=kC hn6 (fun r hr=>(HBF.out.2.2.1 r hr).1) _ (Nat.le_refl _); rw[List.take_length]at this; exact this.1) (by rw[<-HBF.out.2.2.2.1]; exact HBF.out.2.2.2.2) hn6 (fun r hr=>(HBF.out.2.2.1 r hr).1);unfold lV at hfl
   cases hfp:dq cs it.chunks []with
   | error x=>
    rw[hfp]at hfl;have HFL:=ab hfl;have HFP:=ab hfp;clear hfl hfp;go_wp2_with fail;refine HFL.out.mono ?_;rintro e w2 ⟨hb2,rfl,hx⟩;have HB2:=ab (ag HB1.out hb2);clear hb2;go_wp2_with fail
    go_ret2
    refine⟨HB2.out, ?_⟩;rw[if_pos ⟨HK.out,HVI.out⟩,HFP.out];exact⟨rfl,hx⟩
   | ok bs=>
    rw[hfp]at hfl;have HFL:=ab hfl;have HFP:=ab hfp;clear hfl hfp;go_wp2_with fail;refine HFL.out.mono ?_;rintro e w2 ⟨hb2,v2,rfl,ho2⟩;obtain⟨a2,c2,hv2,-,-⟩:=aj ho2;obtain⟨m,hm⟩: ∃m,m=bs.length:=⟨_,rfl⟩;rw[<-hm]at hv2;subst hv2;have HB2:=ab (ag HB1.out hb2);have HO2:=ab (bS ho2 HB1.out.size);clear hb2 ho2 hm;go_wp2_with fail
    go_ret2
    refine⟨HB2.out, ?_⟩;rw[if_pos ⟨HK.out,HVI.out⟩,HFP.out];exact⟨_,rfl,HO2.out⟩
  | false=>
   have HVI:=ab hvi;have HK:=ab hk;clear hvi;have HEA:=ab (HE.out.below HA.out);have hvc:=dH S it (.slice a it.chunks.length cap) false _ (aO.below HV.out (by omega) HA.out (fun _ _ _ h=>h)) HO.out HEA.out HVI.out;unfold dr at hvc ⊢;rw[hk]at hvc HA ⊢
   go_enter Tryz.func40,Tryz.ntmps40
   go_wp2_with fail;refine hvc.mono ?_;rintro e w1 ⟨rfl,hb1⟩;have HB1:=ab (ag HA.out hb1);clear hvc hb1;go_wp2_with fail
   go_ret2
   refine⟨HB1.out, ?_⟩;rw[if_neg (fun h=>by rw[HVI.out]at h; cases h.2)]
   rfl
 ·have HK:=ab hk;have hkb:(it.kind != 1)=true:=by simp[hk]
  clear hk;unfold dr
  go_enter Tryz.func40,Tryz.ntmps40
  go_wp2_with fail
  go_ret2
  refine⟨HA.out, ?_⟩;rw[if_neg (fun h=>HK.out h.1)]
  rfl
end Go.Proofs.YtpffpjbkbaleiaaGreatDoor
namespace Go.Proofs.YtpffpjbkbaleiaaGreatDoor
open Go.RowKit
def eu (dir name:ByteArray):ByteArray:=if dir.size=0 then name else dir++⟨#[47]⟩++name
def jx (cs:List (ByteArray×List UInt8)) (it:aE):List UInt8×Int:=
 if it.kind=1 then(match dq cs it.chunks []with | .error x=>([],x) | .ok bs=>(bs,0))else([],0)
def dJ (cs:List (ByteArray×List UInt8)) (rec:ByteArray->aN->List bi->Int×List bi) (dir:ByteArray):List aE->List bi->Int×List bi
 | [],acc=>(0,acc)
 | it::r,acc=>
  if aZ (bl (eu dir it.name))=true/\acc.length<4096 then
   let acc1:=acc++[⟨eu dir it.name,it.kind,it.mode,it.time,(jx cs it).1,it.link⟩]
   let p:=if it.kind=2 then rec (eu dir it.name) it.node acc1 else((jx cs it).2,acc1)
   if p.1=0 then dJ cs rec dir r p.2 else p
  else(2,acc)
def cE (cs:List (ByteArray×List UInt8)):Nat->ByteArray->aN->List bi->Int×List bi
 | 0,_,_,acc=>(0,acc)
 | f+1,dir,ref,acc=>match dh cs ref with
  | .error x=>(x,acc)
  | .ok l=>dJ cs (cE cs f) dir l acc
def ly (cs:List (ByteArray×List UInt8)) (root:aN):Except Int (List bi):=
 if eA root=true then(if(cE cs 514 ⟨#[]⟩ root []).1=0 then .ok (cE cs 514 ⟨#[]⟩ root []).2 else .error (cE cs 514 ⟨#[]⟩ root []).1)else .error 1
end Go.Proofs.YtpffpjbkbaleiaaGreatDoor
namespace Go.Proofs.YtpffpjbkbaleiaaGreatDoor
open Go.RowKit
def xL (xs:List ByteArray) (w:World) (e:Ending) (w':World):Prop:=
 ∃a cap,e= .returned (.tuple #[.slice a xs.length cap, .int .i64 0])/\xs.length<=cap/\cap<=maxLen/\gO (w.heap.size<= ·) w' (.slice a xs.length cap) xs/\Below w.heap.size w w'
theorem mz : ∀ {xs ys:List ByteArray},xs.map bl=ys.map bl->xs=ys
 | [],[],_=>rfl
 | [],_::_,h=>by simp at h
 | _::_,[],h=>by simp at h
 | x::xs,y::ys,h=>by
  simp only[List.map_cons,List.cons.injEq]at h;rw[eE h.1,mz h.2]
def ii (l:List UInt8):List ByteArray:=(aM 47 l).map fun p=>⟨p.toArray⟩
theorem wE (l:List UInt8):(ii l).map bl=aM 47 l:=by
 unfold ii;rw[List.map_map];have:(bl ∘ fun p:List UInt8=>(⟨p.toArray⟩:ByteArray))=id:=by funext p; exact er p
 rw[this,List.map_id]
theorem sG (s:ByteArray) (w:World) (he:fN w) (hv:aZ (bl s)=true):Calls Tryz.prog 82 #[.string s] w (xL (ii (bl s)) w):=by
 refine(ja s w he).mono ?_;rintro e w' (⟨_,v,xs,rfl,hx,hs,hb⟩ | ⟨hf,_⟩)
 ·have:xs=ii (bl s):=mz (hx.trans (wE _).symm);subst this;obtain⟨a,cap,rfl,h1,h2,_⟩:=hs.shape;exact⟨a,cap,rfl,h1,h2,hs,hb⟩
 ·rw[hv]at hf; cases hf
theorem xq (s:ByteArray) (w:World) (he:fN w) (hv:aZ (bl s)=false):Calls Tryz.prog 82 #[.string s] w fun e w'=>e= .returned (.tuple #[.slice none 0 0, .int .i64 1])/\Below w.heap.size w w':=by
 refine(ja s w he).mono ?_;rintro e w' (⟨ht,_⟩ | ⟨_,rfl,hb⟩)
 ·rw[hv]at ht; cases ht
 ·exact⟨rfl,hb⟩
end Go.Proofs.YtpffpjbkbaleiaaGreatDoor
namespace Go.Proofs.YtpffpjbkbaleiaaGreatDoor
open Go.RowKit
def gE (cs:List (ByteArray×List UInt8)):List ByteArray->aE->Except Int aE
 | [],it=> .ok it
 | c::r,it=>if it.kind=2 then(match dh cs it.node with
  | .error x=> .error x
  | .ok l=>match l.find? (fun y=>decide (y.name=c))with
   | none=> .error 4
   | some y=>gE cs r y)else .error 4
def fm (root:aN):aE:=⟨⟨#[]⟩,2,0,0,0,⟨#[]⟩,[],root⟩
def dU (cs:List (ByteArray×List UInt8)) (root:aN) (path:ByteArray):Except Int aE:=
 if aZ (bl path)=true/\eA root=true then gE cs (ii (bl path)) (fm root)else .error 1
end Go.Proofs.YtpffpjbkbaleiaaGreatDoor
namespace Go.Proofs.YtpffpjbkbaleiaaGreatDoor
open Go.RowKit
structure fh (w : World) (base wb eb sb : Nat) (fv v : Value) (ex rs : List aN) : Prop where
 box:w.heap[wb]? =some (.cells #[fv, .map (some eb), .map (some sb),v] 191 (0,0))
 exs:cT w eb ex
 see:cT w sb rs
 row:w.ownsRow base 26 3 v rs.length (rs.flatMap dj)
 ne:eb≠sb
def gy (wb eb sb:Nat) (v:Value) (k:Nat):Prop:=k=wb\/k=eb\/k=sb\/v.ownBlock=some k
section
variable {w w' : World} {base wb eb sb : Nat} {fv v : Value} {ex rs : List aN}
theorem cT.cells {b:Nat} {l:List aN} (h:cT w b l) {cs:Array Value} {t:TypeId} {z:Nat×Nat} :w.heap[b]? ≠some (.cells cs t z):=fun e=>by
 obtain⟨es,clock,hb,_⟩:=h.map;rw[hb]at e; cases e
theorem fh.wne (h:fh w base wb eb sb fv v ex rs):wb≠eb/\wb≠sb:=⟨fun e=>h.exs.cells (e▸h.box),fun e=>h.see.cells (e▸h.box)⟩
theorem ay {e:TypeId} {sz:Nat} {n:Nat} {xs:List Value} {k:Nat} (h:w.ownsRow base e sz v n xs) (hk:v.ownBlock=some k): ∃cs,w.heap[k]? =some (.cells cs e (0,0)):=by
 obtain⟨_,h2⟩:=h
 rcases h2 with⟨rfl,rfl⟩ | ⟨g,cap,cur,rfl,_,hh,_⟩
 ·cases hk
 ·have:g=k:=by simpa [Value.ownBlock]using hk
  subst this;exact⟨cur,hh⟩
theorem fh.own (h:fh w base wb eb sb fv v ex rs) {k:Nat} (hk:v.ownBlock=some k):k≠wb/\k≠eb/\k≠sb:=by
 obtain⟨cs,hc⟩:=ay h.row hk;refine⟨fun e=> ?_,fun e=> ?_,fun e=> ?_⟩
 ·subst e;have:=hc.symm.trans h.box;simp at this
 ·subst e; exact h.exs.cells hc
 ·subst e; exact h.see.cells hc
theorem fh.keep (h:fh w base wb eb sb fv v ex rs) (hs: ∀k,k<w.heap.size->gy wb eb sb v k->w'.heap[k]? =w.heap[k]?):fh w' base wb eb sb fv v ex rs:=by
 refine⟨(hs wb (lt_of_block h.box) (.inl rfl)).trans h.box,h.exs.same (hs eb h.exs.map.lt (.inr (.inl rfl))),h.see.same (hs sb h.see.map.lt (.inr (.inr (.inl rfl)))), ?_,h.ne⟩;obtain⟨hl,h2⟩:=h.row;refine⟨hl, ?_⟩
 rcases h2 with h2 | ⟨g,cap,cur,rfl,hg,hh,h3⟩
 ·exact .inl h2
 ·exact .inr ⟨g,cap,cur,rfl,hg,(hs g (lt_of_block hh) (.inr (.inr (.inr rfl)))).trans hh,h3⟩
theorem fh.below (h:fh w base wb eb sb fv v ex rs) (hb:Below w.heap.size w w'):fh w' base wb eb sb fv v ex rs:=h.keep (fun k hk _=>hb.block k hk)
theorem fh.ok (h:fh w base wb eb sb fv v ex rs): ∀r∈rs,bo r:=h.see.ok
theorem fh.shape (h:fh w base wb eb sb fv v ex rs): ∃a cap,v= .slice a rs.length cap:=by
 obtain⟨a,cap,h1,_⟩:=aj h.row;exact⟨a,cap,h1⟩
end
def aY (r:aN) (rs:List aN):List aN:=if r∈rs then rs else rs++[r]
def xR (base wb eb sb:Nat) (fv v:Value) (ex rs:List aN) (w w':World):Prop:=
 ∃v',fh w' base wb eb sb fv v' ex rs/\bP (gy wb eb sb v) w w'/\ ∀k,v'.ownBlock=some k->v.ownBlock=some k\/w.heap.size<=k
theorem lz (base wb eb sb:Nat) (fv v:Value) (ex rs:List aN) (r:aN) (w:World) (h:fh w base wb eb sb fv v ex rs) (hr:bo r) (hl:rs.length<1099511627775) (hbase:base<=w.heap.size):
  Calls Tryz.prog 161 #[.pointer (some ⟨wb,0,none⟩),bB r] w fun e w'=>e= .returned (.tuple #[])/\xR base wb eb sb fv v ex (aY r rs) w w':=by
 obtain⟨av,cv,rfl⟩:=h.shape;obtain⟨W,hW⟩: ∃W:World,W=(w.alloc (.cells #[.string r.name, .int .i64 r.gen, .int .i64 r.size] 26)).drew:=⟨_,rfl⟩;have hbW:Below w.heap.size w W:=by rw[hW]; exact((Below.refl _ _).alloc (Nat.le_refl _) _).drew
 have HBW:=ab hbW;have HK:=ab (h.below hbW);have bx:W.heap[w.heap.size]? =some (.cells #[.string r.name, .int .i64 r.gen, .int .i64 r.size] 26 (0,0)):=by rw[hW]; exact heap_alloc_new w _
 have HBX:=ab bx;have HR:=ab hr;have HW:=ab hW;have q0:=ai (k:=0) bx;have q1:=ai (k:=1) bx;have q2:=ai (k:=2) bx;have c2:=ai (k:=2) HK.out.box;have hlk:=HK.out.see.look hr;simp only[aW]at q0 q1 q2 c2;have hwb:wb<w.heap.size:=lt_of_block h.box;have H0:=ab h;unfold bB at hlk ⊢;clear h hr bx hbW
 by_cases hm:r∈rs
 ·have e1:decide (r∈rs)=true:=by simp[hm]
  have HM:=ab (show aY r rs=rs by unfold aY; rw[if_pos hm]);rw[e1]at hlk;clear e1 hm
  go_enter Tryz.func161,Tryz.ntmps161
  go_wp2_with fail;refine au [some 7] (by kernel_rfl) (by kernel_rfl) (by kernel_rfl) ?_;simp only[bh,List.take_succ_cons,List.take_zero];rw[<-HW.out];clear hW
  repeat (first | (refine aG rfl ?_; simp only[Act.put,az,aA,aB]) | (refine aS rfl (fun K hK=> ?_); go_simp; refine hK _ ?_; clear hK K))
  refine aR ?_;go_wp2_with fail
  go_end0
  exact⟨rfl, .slice av rs.length cv,by rw[HM.out]; exact HK.out,bP.of_below HBW.out,fun k hk=> .inl hk⟩
 ·have e1:decide (r∈rs)=false:=by simp[hm]
  have HM:=ab (show aY r rs=rs++[r] by unfold aY; rw[if_neg hm]);have HNM:=ab hm;rw[e1]at hlk;clear e1 hm
  go_enter Tryz.func161,Tryz.ntmps161
  go_wp2_with fail;refine au [some 7] (by kernel_rfl) (by kernel_rfl) (by kernel_rfl) ?_;simp only[bh,List.take_succ_cons,List.take_zero];rw[<-HW.out];clear hW
  repeat (first | (refine aG rfl ?_; simp only[Act.put,az,aA,aB]) | (refine aS rfl (fun K hK=> ?_); go_simp; refine hK _ ?_; clear hK K))
  refine aR ?_;go_wp2_with fail;refine au [some 5,none] (by kernel_rfl) (by kernel_rfl) (by kernel_rfl) ?_;simp only[bh,List.take_succ_cons,List.take_zero,List.drop_succ_cons,List.drop_zero];have HK1:=ab (HK.out.below ((Below.refl _ W).drew))
  repeat (first | (refine aG rfl ?_; simp only[Act.put,az,aA,aB]) | (refine aS rfl (fun K hK=> ?_); go_simp; refine hK _ ?_; clear hK K))
  refine aR ?_;refine bJ rfl (fun K hK=> ?_);go_wp2_with (at_mapUpdate; go_must (refine eO rfl _ _ _ rfl sb rs HK1.out.see rfl r HR.out rfl rfl HNM.out ?_); intro w2 hset hg2);have hsb:sb<w.heap.size:=H0.out.see.map.lt;have heb:eb<w.heap.size:=H0.out.exs.map.lt;have hbs:=HBW.out.size;obtain⟨W3,hW3⟩: ∃W3:World,W3=w2.drew:=⟨_,rfl⟩;have hg3:W.grownBy W3 (some sb):=by rw[hW3]; exact aw (b:=W.drew) ⟨rfl,rfl,rfl,Nat.le_refl _,fun _ _ _=>rfl⟩ (aw hg2 ⟨rfl,rfl,rfl,Nat.le_refl _,fun _ _ _=>rfl⟩)
  have hz3:=hg3.size;have HSET:=ab (show cT W3 sb (rs++[r]) by rw[hW3]; exact hset.same rfl);have HEX:=ab (HK.out.exs.same (w':=W3) (hg3.block eb HK.out.exs.map.lt (by simp; exact HK.out.ne)));have HROW:=ab (HK.out.row.kept hg3 (.inr (fun e=>(HK.out.own e).2.2 rfl)));have HWB:=ab (fg hg3 HK.out.box HK.out.wne.2);have HRB:=ab (fg hg3 HBX.out (by omega));have HG3:=ab hg3
  have c3:=ai (k:=3) HWB.out;have f3:=ah (k:=3) HWB.out;have r0:=ai (k:=0) HRB.out;have r1:=ai (k:=1) HRB.out;have r2:=ai (k:=2) HRB.out;simp only[aW]at c3 r0 r1 r2;clear q0 q1 q2 c2 hlk hset hg2 hg3;refine bH (fun w'=>w'.cell? ⟨wb,3,none⟩=some (.slice av rs.length cv)/\w'.cell? ⟨w.heap.size,0,none⟩=some (.string r.name)/\w'.cell? ⟨w.heap.size,1,none⟩=some (.int .i64 r.gen)/\w'.cell? ⟨w.heap.size,2,none⟩=some (.int .i64 r.size)) (by kernel_rfl) (by kernel_rfl) ?_
  simp only[List.dropLast_cons_cons,List.dropLast_singleton,List.length_cons,List.length_nil,Nat.reduceAdd,Nat.reduceSub];rw[<-hW3];clear hW3;refine af 0 rfl (by kernel_rfl) (by kernel_rfl) (by kernel_rfl) (fun _ _ _ h=>h) rfl (by go_simp) (by rintro w' ⟨hw1,hw2,hw3,hw4⟩; go_simp; rfl) ?_;simp only[Act.put,az,aA,aB];refine af 1 rfl (by kernel_rfl) (by kernel_rfl) (by kernel_rfl) (fun _ _ _ h=>h) rfl (by go_simp) (by rintro w' ⟨hw1,hw2,hw3,hw4⟩; go_simp; rfl) ?_
  simp only[Act.put,az,aA,aB];refine af 2 rfl (by kernel_rfl) (by kernel_rfl) (by kernel_rfl) (fun _ _ _ h=>h) rfl (by go_simp) (by rintro w' ⟨hw1,hw2,hw3,hw4⟩; go_simp; rfl) ?_;simp only[Act.put,az,aA,aB];refine af 3 rfl (by kernel_rfl) (by kernel_rfl) (by kernel_rfl) (fun _ _ _ h=>h) rfl (by go_simp) (by rintro w' ⟨hw1,hw2,hw3,hw4⟩; go_simp; rfl) ?_;simp only[Act.put,az,aA,aB]
  refine af 4 rfl (by kernel_rfl) (by kernel_rfl) (by kernel_rfl) (fun _ _ _ h=>h) rfl (by go_simp) (by rintro w' ⟨hw1,hw2,hw3,hw4⟩; go_simp; rfl) ?_;simp only[Act.put,az,aA,aB];refine af 5 rfl (by kernel_rfl) (by kernel_rfl) (by kernel_rfl) (fun _ _ _ h=>h) rfl (by go_simp) (by rintro w' ⟨hw1,hw2,hw3,hw4⟩; go_simp; rfl) ?_;simp only[Act.put,az,aA,aB];have hltw:wb<W3.heap.size:=lt_of_block HWB.out
  have hltr:w.heap.size<W3.heap.size:=lt_of_block HRB.out;have HAL:=ab ((Below.refl W3.heap.size W3).alloc (Nat.le_refl _) (.cells #[.string r.name, .int .i64 r.gen, .int .i64 r.size] 26));have hS2:=And.intro ((HAL.out.cell (p:=⟨wb,3,none⟩) hltw).trans c3) (And.intro ((HAL.out.cell (p:=⟨w.heap.size,0,none⟩) hltr).trans r0) (And.intro ((HAL.out.cell (p:=⟨w.heap.size,1,none⟩) hltr).trans r1) ((HAL.out.cell (p:=⟨w.heap.size,2,none⟩) hltr).trans r2)))
  have HS2:=ab hS2;clear hS2;refine am 6 rfl (by kernel_rfl) rfl (fun K hK=> ?_);go_wp2_with fail
  (first | (refine⟨HS2.out, ?_⟩) | skip)
  refine am 7 rfl (by kernel_rfl) rfl (fun K hK=> ?_);go_wp2_with (at_builtin; go_must (refine aH Tryz.appRefs rfl _ _ rfl base (.slice av rs.length cv) rs.length (rs.flatMap dj) rfl W3 [.string r.name, .int .i64 r.gen, .int .i64 r.size] _ rfl rfl (ku (r:=r)) HROW.out (by omega) (by omega) ?_); intro v' wc hown' hgrow' _ hpl; obtain⟨ae,ce,rfl,-,-⟩:=aj hown')
  have hne: ∀k,(Value.slice av rs.length cv).ownBlock=some k->k≠wb/\k≠eb/\k≠sb:=fun k hk=>H0.out.own hk
  have hner:(Value.slice av rs.length cv).ownBlock≠some w.heap.size:=fun e=>by have:=(H0.out.row.lt _ e).2; omega
  have HWB2:=ab ((hgrow'.block wb hltw (fun e=>(hne wb e.symm).1 rfl)).trans HWB.out);have HRB2:=ab ((hgrow'.block w.heap.size hltr (fun e=>hner e.symm)).trans HRB.out);have HEX2:=ab (HEX.out.same (hgrow'.block eb HEX.out.map.lt (fun e=>(hne eb e.symm).2.1 rfl)));have HSET2:=ab (HSET.out.same (hgrow'.block sb HSET.out.map.lt (fun e=>(hne sb e.symm).2.2 rfl)));have HGR:=ab hgrow'
  have HPL:=ab hpl;have HOW:=ab (show wc.ownsRow base 26 3 (.slice ae (rs.length+1) ce) (rs++[r]).length ((rs++[r]).flatMap dj) by rw[List.length_append,List.flatMap_append]; simpa [dj]using hown');have c4:=ai (k:=3) HWB2.out;have f4:=ah (k:=3) HWB2.out;have s0:=ai (k:=0) HRB2.out;have s1:=ai (k:=1) HRB2.out;have s2:=ai (k:=2) HRB2.out;simp only[aW]at c4 s0 s1 s2
  clear hown' hgrow' hpl c3 f3 r0 r1 r2 hne hner;refine⟨⟨c4,s0,s1,s2⟩, ?_⟩;refine af 8 rfl (by kernel_rfl) (by kernel_rfl) (by kernel_rfl) (fun _ _ _ h=>h) rfl (by go_simp) (by rintro w' ⟨hw1,hw2,hw3,hw4⟩; go_simp; rfl) ?_;simp only[Act.put,az,aA,aB];refine af 9 rfl (by kernel_rfl) (by kernel_rfl) (by kernel_rfl) (fun _ _ _ h=>h) rfl (by go_simp) (by rintro w' ⟨hw1,hw2,hw3,hw4⟩; go_simp; rfl) ?_
  simp only[Act.put,az,aA,aB];refine aQ (by kernel_rfl) ?_;refine bM rfl rfl (fun K hK=> ?_);go_wp2_with fail
  go_end0
  refine⟨rfl, .slice ae (rs.length+1) ce, ?_, ?_, ?_⟩
  ·rw[HM.out];have hws:=H0.out.wne;have hx:=cQ (k:=3) HWB2.out (.slice ae (rs.length+1) ce);simp only[List.setIfInBounds_toArray,List.set_cons_succ,List.set_cons_zero]at hx;refine⟨hx,HEX2.out.same (Below.heap_setCell _ _ _ _ (Ne.symm hws.1)),HSET2.out.same (Below.heap_setCell _ _ _ _ (Ne.symm hws.2)),HOW.out.kept (aD _ _ _ _) (.inr (fun e=> ?_)),H0.out.ne⟩
   rcases HPL.out wb e with h1 | h1
   ·exact(H0.out.own h1).1 rfl
   ·omega
  ·refine bP.trans (bP.of_below HBW.out) (bP.trans (S:=gy wb eb sb (.slice av rs.length cv)) (bP.of_grown HG3.out (fun k hk=>by cases hk; exact .inr (.inr (.inl rfl)))) (bP.trans (S:=gy wb eb sb (.slice av rs.length cv)) (bP.of_grown HGR.out (fun k hk=> .inr (.inr (.inr hk)))) (bP.of_grown (S:=gy wb eb sb (.slice av rs.length cv)) (aD wc wb 3 _) (fun k hk=>by cases hk; exact .inl rfl)) (fun i _ h=>h)) (fun i _ h=>h)) (fun i _ h=>h)
  ·intro k hk
   rcases HPL.out k hk with h1 | h1
   ·exact .inl h1
   ·exact .inr (by omega)
end Go.Proofs.YtpffpjbkbaleiaaGreatDoor
namespace Go.Proofs.YtpffpjbkbaleiaaGreatDoor
open Go.RowKit
def bY (cs rs:List aN):List aN:=cs.foldl (fun rs r=>aY r rs) rs
def eT (f:aN->List aN×List aN->Option (Int×(List aN×List aN))):List aE->List aN×List aN->Option (Int×(List aN×List aN))
 | [],st=>some (0,st)
 | it::l,st=>if it.kind≠2 then eT f l (st.1,bY it.chunks st.2)else
  (f it.node (st.1,bY it.chunks st.2)).bind fun p=>if p.1≠0 then some p else eT f l p.2
def dK (visit:aN->Except Int (List aE)):Nat->aN->List aN×List aN->Option (Int×(List aN×List aN))
 | 0,_,_=>none
 | n+1,r,st=>if r∈st.1 then some (0,(st.1,aY r st.2))else match visit r with
  | .error x=>some (x,(st.1++[r],aY r st.2))
  | .ok l=>eT (dK visit n) l (st.1++[r],aY r st.2)
theorem iQ (r:aN) (rs:List aN):rs.length<=(aY r rs).length:=by
 unfold aY
 split
 ·exact Nat.le_refl _
 ·simp
theorem jn : ∀(cs rs:List aN),rs.length<=(bY cs rs).length
 | [],_=>Nat.le_refl _
 | c::cs,rs=>Nat.le_trans (iQ c rs) (jn cs (aY c rs))
theorem rQ (cs:List aN) (c:aN) (rs:List aN):bY (cs++[c]) rs=aY c (bY cs rs):=by
 unfold bY; rw[List.foldl_append]; rfl
theorem nh (cs rs:List aN) (j:Nat):(bY (cs.take j) rs).length<=(bY cs rs).length:=by
 have:bY cs rs=bY (cs.drop j) (bY (cs.take j) rs):=by
  unfold bY;rw[<-List.foldl_append,List.take_append_drop]
 rw[this];exact jn _ _
theorem fH {f:aN->List aN×List aN->Option (Int×(List aN×List aN))} (hf: ∀r st x st',f r st=some (x,st')->st.2.length<=st'.2.length):
  ∀(l:List aE) (st:List aN×List aN) (x:Int) (st':List aN×List aN),eT f l st=some (x,st')->st.2.length<=st'.2.length
 | [],st,x,st',h=>by
  simp only[eT,Option.some.injEq,Prod.mk.injEq]at h;obtain⟨_,rfl⟩:=h;exact Nat.le_refl _
 | it::l,st,x,st',h=>by
  rw[eT]at h
  split at h
  ·exact Nat.le_trans (jn it.chunks st.2) (fH hf l _ x st' h)
  ·rw[Option.bind_eq_some_iff]at h;obtain⟨⟨y,st2⟩,h1,h2⟩:=h;have h3:=hf _ _ _ _ h1;have h4:=jn it.chunks st.2;simp only at h2 h3
   split at h2
   ·simp only[Option.some.injEq,Prod.mk.injEq]at h2;obtain⟨_,rfl⟩:=h2;exact Nat.le_trans h4 h3
   ·exact Nat.le_trans (Nat.le_trans h4 h3) (fH hf l _ x st' h2)
theorem gJ (visit:aN->Except Int (List aE)): ∀(n:Nat) (r:aN) (st:List aN×List aN) (x:Int) (st':List aN×List aN),dK visit n r st=some (x,st')->st.2.length<=st'.2.length
 | 0,_,_,_,_,h=>by simp[dK]at h
 | n+1,r,st,x,st',h=>by
  have hm:=iQ r st.2;rw[dK]at h
  split at h
  ·simp only[Option.some.injEq,Prod.mk.injEq]at h;obtain⟨_,rfl⟩:=h;exact hm
  ·split at h
   ·simp only[Option.some.injEq,Prod.mk.injEq]at h;obtain⟨_,rfl⟩:=h;exact hm
   ·exact Nat.le_trans hm (fH (gJ visit n) _ _ x st' h)
def Bl (res:Except Int (List aE)) (w:World) (e:Ending) (w':World):Prop:=Below w.heap.size w w'/\match res with
 | .error x=>e= .returned (.tuple #[.slice none 0 0, .int .i64 x])/\x≠0
 | .ok l=> ∃v,e= .returned (.tuple #[v, .int .i64 0])/\bn (w.heap.size<= ·) w' v l
theorem fh.notown {w:World} {base wb eb sb:Nat} {fv v:Value} {ex rs:List aN} (h:fh w base wb eb sb fv v ex rs) {k:Nat} {cs:Array Value} {t:TypeId} {z:Nat×Nat} (hb:w.heap[k]? =some (.cells cs t z)) (h1:t≠191) (h2:t≠26): ¬gy wb eb sb v k:=by
 rintro(e | e | e | e)
 ·subst e;have:=hb.symm.trans h.box;simp at this;exact h1 this.2.1
 ·subst e; exact h.exs.cells hb
 ·subst e; exact h.see.cells hb
 ·obtain⟨cs',hc⟩:=ay h.row e;have:=hb.symm.trans hc;simp at this;exact h2 this.2.1
structure ms (w : World) (B h5 h6 base wb eb sb : Nat) (fv v itv : Value) (l : List aE) (wr : World) (v2 : Value) (ex rs : List aN) : Prop where
 at':fh wr base wb eb sb fv v2 ex rs
 gr:bP (gy wb eb sb v) w wr
 own: ∀k,v2.ownBlock=some k->v.ownBlock=some k\/w.heap.size<=k
 apart: ∀k,v2.ownBlock=some k->k<h5\/h6<=k
 lo:wb<h5/\eb<h5/\sb<h5
 ord:w.heap.size<=h5/\h5<=h6/\h6<=wr.heap.size
 its:bn (fun k=>h5<=k/\k<h6) wr itv l
theorem bn.same {S:Nat->Prop} {w w':World} {v:Value} {l:List aE} (h:bn S w v l) (hs: ∀k,k<w.heap.size->S k->w'.heap[k]? =w.heap[k]?):bn S w' v l:=by
 obtain⟨cells,hr,hin⟩:=h;have h2:=hr.mono (T:=fun k=>k<w.heap.size/\S k) (fun k hk hS=>⟨hk,hS⟩) (by omega);have h3:=h2.same (w':=w') (fun k hk=>hs k hk.1 hk.2);exact⟨cells,h3.weak (fun k hk=>hk.2),hin.mono (fun c x _ hx=>hx.same (fun k hk hS=>⟨hS,hs k hk hS⟩))⟩
section
variable {w wr w' : World} {B h5 h6 base wb eb sb : Nat} {fv v itv v2 v3 : Value} {l : List aE} {ex rs ex3 rs3 : List aN}
theorem ms.below (h:ms w B h5 h6 base wb eb sb fv v itv l wr v2 ex rs) (hb:Below wr.heap.size wr w'):ms w B h5 h6 base wb eb sb fv v itv l w' v2 ex rs:=
 ⟨h.at'.below hb,h.gr.trans (bP.of_below hb (S:=fun _=>False)) (fun _ _ h=>False.elim h),h.own,h.apart,h.lo,⟨h.ord.1,h.ord.2.1,Nat.le_trans h.ord.2.2 hb.size⟩,h.its.below hb⟩
theorem ms.notown (h:ms w B h5 h6 base wb eb sb fv v itv l wr v2 ex rs) {k:Nat} (hk:h5<=k/\k<h6): ¬gy wb eb sb v2 k:=by
 have:=h.lo;rintro(e | e | e | e)
 ·omega
 ·omega
 ·omega
 ·have:=h.apart k e; omega
theorem ms.step (h:ms w B h5 h6 base wb eb sb fv v itv l wr v2 ex rs) (hr:xR base wb eb sb fv v2 ex3 rs3 wr w'): ∃v3,ms w B h5 h6 base wb eb sb fv v itv l w' v3 ex3 rs3/\bP (gy wb eb sb v2) wr w':=by
 obtain⟨v3,h1,h2,h3⟩:=hr;have hz:=h.gr.size;refine⟨v3,⟨h1,h.gr.trans h2 (fun i hi ho=> ?_),fun k hk=> ?_,fun k hk=> ?_,h.lo,⟨h.ord.1,h.ord.2.1,Nat.le_trans h.ord.2.2 h2.size⟩,h.its.same (fun k hk hS=>h2.block k hk (h.notown hS))⟩,h2⟩
 ·rcases ho with e | e | e | e
  ·exact .inl e
  ·exact .inr (.inl e)
  ·exact .inr (.inr (.inl e))
  ·rcases h.own i e with e | e
   ·exact .inr (.inr (.inr e))
   ·omega
 ·rcases h3 k hk with e | e
  ·exact h.own k e
  ·exact .inr (by omega)
 ·rcases h3 k hk with e | e
  ·exact h.apart k e
  ·have:=h.ord; exact .inr (by omega)
end
end Go.Proofs.YtpffpjbkbaleiaaGreatDoor
namespace Go.Proofs.YtpffpjbkbaleiaaGreatDoor
open Go.RowKit
def xQ (visit:aN->Except Int (List aE)) (F:Nat) (cv:Value) (I:World->Prop) (B n:Nat):Prop:= ∀(r:aN) (st:List aN×List aN) (x:Int) (st':List aN×List aN) (base wb eb sb:Nat) (v:Value) (w:World),dK visit n r st=some (x,st')->st'.2.length<1099511627775->
 fh w base wb eb sb (.func (.func F) #[cv] #[]) v st.1 st.2->bo r->I w->(B<=base/\B<=wb/\B<=eb/\B<=sb)->base<=w.heap.size->
 Calls Tryz.prog 133 #[.pointer (some ⟨wb,0,none⟩),bB r] w fun e w'=>e= .returned (.int .i64 x)/\xR base wb eb sb (.func (.func F) #[cv] #[]) v st'.1 st'.2 w w'
def xP (visit:aN->Except Int (List aE)) (F:Nat) (cv:Value) (I:World->Prop):Prop:= ∀(W:World) (r:aN),I W->bo r->Calls Tryz.prog F #[cv,bB r] W (Bl (visit r) W)
def uv (I:World->Prop) (B:Nat):Prop:= ∀w w':World,I w->bP (B<= ·) w w'->I w'
theorem tR {B base wb eb sb:Nat} {w:World} {fv v:Value} {ex rs:List aN} (h:fh w base wb eb sb fv v ex rs) (hB:B<=base/\B<=wb/\B<=eb/\B<=sb) {k:Nat} (hk:gy wb eb sb v k):B<=k:=by
 rcases hk with e | e | e | e
 ·omega
 ·omega
 ·omega
 ·have:=(h.row.lt k e).1; omega
theorem mV {S T:Nat->Prop} {w w':World} (h:bP S w w') (hs: ∀k,S k->T k):bP T w w':=⟨h.os,h.tape,h.output,h.size,fun k hk hn=>h.block k hk (fun hS=>hn (hs k hS))⟩
theorem bn.lt {S:Nat->Prop} {w:World} {v:Value} {l:List aE} (h:bn S w v l):bn (fun k=>S k/\k<w.heap.size) w v l:=by
 obtain⟨cells,hr,hin⟩:=h;exact⟨cells,hr.mono (fun k hk hS=>⟨hS,hk⟩) (by omega),hin.mono (fun c x _ hx=>hx.same (fun k hk hS=>⟨⟨hS,hk⟩,rfl⟩))⟩
theorem no {f:aN->List aN×List aN->Option (Int×(List aN×List aN))} {it:aE} {l:List aE} {ex rs:List aN} {q:Int×(List aN×List aN)} (h:eT f (it::l) (ex,rs)=some q):
  (it.kind≠2/\eT f l (ex,bY it.chunks rs)=some q)\/(it.kind=2/\ ∃y st2,f it.node (ex,bY it.chunks rs)=some (y,st2)/\((y≠0/\q=(y,st2))\/(y=0/\eT f l st2=some q))):=by
 rw[eT]at h
 split at h
 ·rename_i hk;exact .inl ⟨hk,h⟩
 ·rename_i hk;rw[Option.bind_eq_some_iff]at h;obtain⟨⟨y,st2⟩,h1,h2⟩:=h;refine .inr ⟨Decidable.not_not.1 hk,y,st2,h1, ?_⟩;simp only at h2
  split at h2
  ·rename_i hy;exact .inl ⟨hy,(Option.some.inj h2).symm⟩
  ·rename_i hy;exact .inr ⟨Decidable.not_not.1 hy,h2⟩
theorem wB {visit:aN->Except Int (List aE)} {n:Nat} {it:aE} {l:List aE} {ex rs:List aN} {x:Int} {st':List aN×List aN} (h:eT (dK visit n) (it::l) (ex,rs)=some (x,st')):(bY it.chunks rs).length<=st'.2.length:=by
 rcases no h with⟨_,h2⟩ | ⟨_,y,st2,h1,h2⟩
 ·exact fH (gJ visit n) l _ x st' h2
 ·have h3:=gJ visit n _ _ _ _ h1
  rcases h2 with⟨_,h2⟩ | ⟨_,h2⟩
  ·obtain⟨_,rfl⟩:=Prod.mk.inj h2;exact h3
  ·exact Nat.le_trans h3 (fH (gJ visit n) l _ x st' h2)
end Go.Proofs.YtpffpjbkbaleiaaGreatDoor
namespace Go.Proofs.YtpffpjbkbaleiaaGreatDoor
open Go.RowKit
def ko (visit:aN->Except Int (List aE)) (n:Nat) (root:aN):Option (Except Int (List aN)):=
 if eA root=true then(dK visit n root ([],[])).map fun p=>if p.1=0 then .ok p.2.2 else .error p.1 else some (.error 1)
def pQ (res:Except Int (List aN)) (w:World) (e:Ending) (w':World):Prop:=Below w.heap.size w w'/\match res with
 | .error x=>e= .returned (.tuple #[.slice none 0 0, .int .i64 x])/\x≠0
 | .ok rs=> ∃v,e= .returned (.tuple #[v, .int .i64 0])/\aT (w.heap.size<= ·) w' v rs
theorem zD {w:World} {B:Nat} {fv:Value} :fh (((w.alloc (.map #[] 0)).alloc (.map #[] 0)).alloc (.cells #[fv, .map (some w.heap.size), .map (some (w.heap.size+1)), .slice none 0 0] 191)) B (w.heap.size+1+1) w.heap.size (w.heap.size+1) fv (.slice none 0 0) [] []:=by
 have e1:(w.alloc (.map #[] 0)).heap.size=w.heap.size+1:=by simp
 have e2:((w.alloc (.map #[] 0)).alloc (.map #[] 0)).heap.size=w.heap.size+1+1:=by simp
 have h1:=cT.made w;have h2:=cT.made (w.alloc (.map #[] 0));rw[e1]at h2;have h3:=heap_alloc_new ((w.alloc (.map #[] 0)).alloc (.map #[] 0)) (.cells #[fv, .map (some w.heap.size), .map (some (w.heap.size+1)), .slice none 0 0] 191);rw[e2]at h3;refine⟨h3, ?_,h2.same (Below.heap_alloc _ _ _ (by rw[e2]; omega)),World.ownsRow_nil _ _ _ _,by omega⟩;exact h1.same ((Below.heap_alloc _ _ _ (by rw[e2]; omega)).trans (Below.heap_alloc _ _ _ (by rw[e1]; omega)))
structure eo (B : Nat) (cv : Value) (cs : List (ByteArray × List UInt8)) (w : World) : Prop where
 cont:br (· <B) w cv cs
 env:fN w
 lt:1<B/\3<B/\4<B
 size:B<=w.heap.size
theorem aJ.lt' {S:Nat->Prop} {w:World} {sz:Nat} {v:Value} {n:Nat} {cells:List Value} (h:aJ S w sz v n cells) (hs:0<sz):aJ (· <w.heap.size) w sz v n cells:=h.mono (fun _ hk _=>hk) hs
theorem br.lt {S:Nat->Prop} {w:World} {cv:Value} {cs:List (ByteArray×List UInt8)} (h:br S w cv cs):br (· <w.heap.size) w cv cs:=by
 rcases h with h | ⟨b,m,h1,h0,h2,h3⟩
 ·exact .inl h
 ·refine .inr ⟨b,m,h1,h2.lt,h2, ?_⟩;clear h1 h2 h0
  induction m generalizing cs with
  | nil=>cases cs with
   | nil=>trivial
   | cons=>exact h3
  | cons p m ih=>cases cs with
   | nil=>exact h3
   | cons q cs=>exact⟨h3.1,aJ.lt' h3.2.1 (by omega),ih h3.2.2⟩
theorem eo.keep {B:Nat} {cv:Value} {cs:List (ByteArray×List UInt8)} :uv (eo B cv cs) B:=by
 intro w w' h hg;have hb:Below B w w':=hg.below h.size (fun k hk=>hk);refine⟨?_,h.env.belowB hb h.lt.1 h.lt.2.1 h.lt.2.2,h.lt,Nat.le_trans h.size hg.size⟩
 rcases h.cont with h1 | ⟨b,m,h1,h0,h2,h3⟩
 ·exact .inl h1
 ·exact .inr ⟨b,m,h1,h0,h2.same (hb.block b h0),h3.mono (fun v bs hv=>aJ.same hv (fun k hk=>hb.block k hk))⟩
theorem eo.visit {B:Nat} {cv:Value} {cs:List (ByteArray×List UInt8)} :xP (dh cs) 83 cv (eo B cv cs):=fun W r hI hr=>(kr (· <B) cv cs r W hI.cont hr hI.env).mono fun _ _ h=>h
theorem eo.start {S:Nat->Prop} {w:World} {cv:Value} {cs:List (ByteArray×List UInt8)} (h:br S w cv cs) (he:fN w):eo w.heap.size cv cs w:=⟨h.lt,he,he.lt,Nat.le_refl _⟩
end Go.Proofs.YtpffpjbkbaleiaaGreatDoor
namespace Go.Proofs.YtpffpjbkbaleiaaGreatDoor
open Go.RowKit
theorem ks : ∀ {l U:List aN},l.Nodup->(∀x∈l,x∈U)->l.length<=U.length
 | [],_,_,_=>Nat.zero_le _
 | a::l,U,hn,hs=>by
  obtain⟨h1,h2⟩:=List.nodup_cons.1 hn;have ha:a∈U:=hs a (by simp);have h3:=ks (l:=l) (U:=U.erase a) h2 (fun x hx=>(List.mem_erase_of_ne (fun e=>by subst e; exact h1 hx)).2 (hs x (by simp[hx])));have h4:=List.length_erase_of_mem ha;have h5:0<U.length:=List.length_pos_of_mem ha;simp only[List.length_cons];omega
def iL (it:aE):List aN:=it.chunks++[it.node]
def BE (l:List aE):List aN:=l.flatMap iL
def jH (cs:List (ByteArray×List UInt8)):List aN:=cs.flatMap fun p=>match cK p.2 with
 | some l=>BE l
 | none=>[]
theorem vN {cs:List (ByteArray×List UInt8)} {n:ByteArray} {bs:List UInt8} (h:cB cs n=some bs): ∃k,(k,bs)∈cs:=by
 induction cs with
 | nil=>simp[cB]at h
 | cons p cs ih=>
  obtain⟨k,b⟩:=p;simp only[cB]at h
  split at h
  ·simp only[Option.some.injEq]at h; subst h; exact⟨k,by simp⟩
  ·obtain⟨k',hk⟩:=ih h;exact⟨k',by simp[hk]⟩
theorem pn {cs:List (ByteArray×List UInt8)} {r:aN} {l:List aE} (h:dh cs r= .ok l): ∃k bs,(k,bs)∈cs/\cK bs=some l:=by
 unfold dh at h
 cases hc:bR cs r with
 | error x=>rw[hc]at h; simp at h
 | ok bs=>
  rw[hc]at h;simp only at h
  cases hi:cK bs with
  | none=>rw[hi]at h; simp at h
  | some l'=>
   rw[hi]at h;simp only[Except.ok.injEq]at h;subst h;unfold bR at hc
   cases hf:cB cs r.name with
   | none=>rw[hf]at hc; simp at hc
   | some b=>
    rw[hf]at hc;simp only at hc
    split at hc
    ·simp only[Except.ok.injEq]at hc; subst hc;obtain⟨k,hk⟩:=vN hf;exact⟨k,b,hk,hi⟩
    ·simp at hc
theorem tP {cs:List (ByteArray×List UInt8)} {r:aN} {l:List aE} (h:dh cs r= .ok l) {it:aE} (hit:it∈l): ∀c∈iL it,c∈jH cs:=fun c hc=>by
 obtain⟨k,bs,h1,h2⟩:=pn h;refine List.mem_flatMap.2 ⟨(k,bs),h1, ?_⟩;simp only[h2];exact List.mem_flatMap.2 ⟨it,hit,hc⟩
structure nS (U : List aN) (st : List aN × List aN) : Prop where
 e1:st.1.Nodup
 e2: ∀x∈st.1,x∈U
 l1:st.2.Nodup
 l2: ∀x∈st.2,x∈U
theorem iR {r:aN} {rs:List aN} (h:rs.Nodup):(aY r rs).Nodup:=by
 unfold aY
 split
 ·exact h
 ·rename_i hm;exact List.nodup_append.2 ⟨h,by simp,fun a ha b hb e=>by simp only[List.mem_singleton]at hb; subst hb e; exact hm ha⟩
theorem km {r x:aN} {rs:List aN} :x∈aY r rs<->x∈rs\/x=r:=by
 unfold aY
 split
 ·rename_i hm;exact⟨.inl,fun h=>by rcases h with h | rfl; exact h; exact hm⟩
 ·simp
theorem kk : ∀(cs:List aN) {rs:List aN},rs.Nodup->(bY cs rs).Nodup
 | [],_,h=>h
 | _c::cs,_,h=>kk cs (iR h)
theorem ng : ∀(cs:List aN) {rs:List aN} {x:aN},x∈bY cs rs<->x∈rs\/x∈cs
 | [],rs,x=>by simp[bY]
 | c::cs,rs,x=>by
  show x∈bY cs (aY c rs)<->_
  rw[ng cs,km,List.mem_cons,or_assoc]
theorem nS.men {U:List aN} {st:List aN×List aN} (h:nS U st) {cs:List aN} (hc: ∀c∈cs,c∈U):nS U (st.1,bY cs st.2):=
 ⟨h.e1,h.e2,kk cs h.l1,fun x hx=>by
  rcases(ng cs).1 hx with hx | hx
  ·exact h.l2 x hx
  ·exact hc x hx⟩
def Ba (U:List aN) (f:aN->List aN×List aN->Option (Int×(List aN×List aN))) (n:Nat):Prop:= ∀r st,r∈U->nS U st->U.length<n+st.1.length-> ∃x st',f r st=some (x,st')/\nS U st'/\st.1.length<=st'.1.length
theorem jP {U:List aN} {f:aN->List aN×List aN->Option (Int×(List aN×List aN))} {n:Nat} (hf:Ba U f n):
  ∀(l:List aE) (st:List aN×List aN),(∀it∈l,∀c∈iL it,c∈U)->nS U st->U.length<n+st.1.length-> ∃x st',eT f l st=some (x,st')/\nS U st'/\st.1.length<=st'.1.length
 | [],st,_,hi,_=>⟨0,st,rfl,hi,Nat.le_refl _⟩
 | it::l,st,hl,hi,hn=>by
  have hi2:=hi.men (cs:=it.chunks) (fun c hc=>hl it (by simp) _ (by simp[iL,hc]));rw[eT]
  split
  ·exact jP hf l _ (fun x hx=>hl x (by simp[hx])) hi2 hn
  ·obtain⟨x,st2,h1,h2,h3⟩:=hf it.node _ (hl it (by simp) _ (by simp[iL])) hi2 hn;rw[h1,Option.bind_some];simp only at h3
   split
   ·exact⟨x,st2,rfl,h2,h3⟩
   ·obtain⟨y,st3,k1,k2,k3⟩:=jP hf l st2 (fun x hx=>hl x (by simp[hx])) h2 (by omega);exact⟨y,st3,k1,k2,Nat.le_trans h3 k3⟩
def lq (cs:List (ByteArray×List UInt8)):Nat:=(jH cs).length+2
theorem vH {data:List UInt8} {s s1:RS} {it:aE} (h:fX data s=some (it,s1)):it.chunks.length<=963:=by
 unfold fX iM at h
 split at h
 ·simp only[Option.some.injEq,Prod.mk.injEq]at h;obtain⟨rfl,_⟩:=h;simp only[mF];exact pY _ _ _
 ·split at h
  ·simp only[Option.some.injEq,Prod.mk.injEq]at h;obtain⟨rfl,_⟩:=h;simp
  ·split at h
   ·simp only[Option.some.injEq,Prod.mk.injEq]at h;obtain⟨rfl,_⟩:=h;simp
   ·simp at h
theorem pd {data:List UInt8} {s0:RS} : ∀ {k:Nat} {l:List aE} {s:RS},dP data s0 k=some (l,s)->l.length=k/\ ∀it∈l,it.chunks.length<=963
 | 0,l,s,h=>by
  simp only[dP,Option.some.injEq,Prod.mk.injEq]at h;obtain⟨rfl,_⟩:=h;exact⟨rfl,by simp⟩
 | k+1,l,s,h=>by
  rw[fY,Option.bind_eq_some_iff]at h;obtain⟨⟨l0,s1⟩,h1,h2⟩:=h;rw[Option.map_eq_some_iff]at h2;obtain⟨⟨it,s2⟩,h3,h4⟩:=h2;simp only[Prod.mk.injEq]at h4;obtain⟨rfl,_⟩:=h4;obtain⟨k1,k2⟩:=pd h1;refine⟨by simp[k1],fun x hx=> ?_⟩
  rcases List.mem_append.1 hx with hx | hx
  ·exact k2 x hx
  ·simp only[List.mem_singleton]at hx; subst hx; exact vH h3
theorem pg {data:List UInt8} {l:List aE} (h:cK data=some l):l.length<=4096/\ ∀it∈l,it.chunks.length<=963:=by
 unfold cK at h
 split at h
 ·simp at h
 ·rw[Option.bind_eq_some_iff]at h;obtain⟨⟨l0,s1⟩,h1,h2⟩:=h
  split at h2
  ·simp only[Option.some.injEq]at h2;subst h2;obtain⟨k1,k2⟩:=pd h1;exact⟨by rw[k1]; exact pY _ _ _,k2⟩
  ·simp at h2
theorem eR {α β:Type} (f:α->List β) (m:Nat): ∀(l:List α),(∀x∈l,(f x).length<=m)->(l.flatMap f).length<=l.length*m
 | [],_=>by simp
 | a::l,h=>by
  have h1:=eR f m l (fun x hx=>h x (by simp[hx]));have h2:=h a (by simp);rw[List.flatMap_cons,List.length_append,List.length_cons,Nat.succ_mul];omega
theorem vL {cs:List (ByteArray×List UInt8)} :(jH cs).length<=cs.length*3948544:=eR _ _ cs (fun p _=>by
 cases h:cK p.2 with
 | none=>simp
 | some l=>
  obtain⟨h1,h2⟩:=pg h;simp only;have h3:=eR iL 964 l (fun it hit=>by have:=h2 it hit; simp[iL]; omega);exact Nat.le_trans h3 (Nat.le_trans (Nat.mul_le_mul_right 964 h1) (by decide)))
theorem ni {cs:List (ByteArray×List UInt8)} {r:aN} {l:List aE} (h:dh cs r= .ok l):l.length<=4096/\dZ l=true/\ ∀it∈l,it.chunks.length<=963:=by
 obtain⟨k,bs,_,h2⟩:=pn h;have h3:=pg h2;refine⟨h3.1, ?_,h3.2⟩;unfold cK at h2
 split at h2
 ·simp at h2
 ·rw[Option.bind_eq_some_iff]at h2;obtain⟨⟨l0,s1⟩,_,h4⟩:=h2
  split at h4
  ·rename_i h5;simp only[Option.some.injEq]at h4;subst h4;exact h5.2
  ·simp at h4
end Go.Proofs.YtpffpjbkbaleiaaGreatDoor
namespace Go.Proofs.YtpffpjbkbaleiaaGreatDoor
open Go Go.RowKit
def ed (w:World) (base eb:Nat) (v:Value) (acc:List bi):Prop:=
 w.heap[eb]? =some (.cells #[v] 46 (0,0))/\ ∃ys:List gP,ys.map Prod.snd=acc/\w.ownsRow base 79 6 v ys.length (cA ys)/\ ∀y∈ys,w.ownsRow base 5 1 y.1 y.2.data.length (y.2.data.map an)
structure jC (base eb : Nat) (v v' : Value) (w w' : World) : Prop where
 below:Below base w w'
 same: ∀k,k<w.heap.size->k≠eb->v.ownBlock≠some k->w'.heap[k]? =w.heap[k]?
 place: ∀k,v'.ownBlock=some k->v.ownBlock=some k\/w.heap.size<=k
theorem jC.refl (base eb:Nat) (v:Value) (w:World):jC base eb v v w w:=⟨Below.refl _ _,fun _ _ _ _=>rfl,fun _ h=> .inl h⟩
theorem jC.trans {base eb:Nat} {v v1 v2:Value} {A B C:World} (h:jC base eb v v1 A B) (k:jC base eb v1 v2 B C) (hs:A.heap.size<=B.heap.size):jC base eb v v2 A C:=
 ⟨h.below.trans k.below,fun i h1 h2 h3=>(k.same i (by omega) h2 (fun e=>by
  rcases h.place i e with e2 | e2
  ·exact h3 e2
  ·omega)).trans (h.same i h1 h2 h3),fun i e=>by
  rcases k.place i e with e2 | e2
  ·exact h.place i e2
  ·exact .inr (by omega)⟩
theorem jC.ofBelow {base eb:Nat} {v:Value} {w w':World} (h:Below w.heap.size w w') (hb:base<=w.heap.size):jC base eb v v w w':=⟨h.mono hb,fun k h1 _ _=>h.block k h1,fun _ e=> .inl e⟩
theorem ed.below {w w':World} {base eb:Nat} {v:Value} {acc:List bi} (h:ed w base eb v acc) (hb:Below w.heap.size w w'):ed w' base eb v acc:=by
 obtain⟨h1,ys,h2,h3,h4⟩:=h;exact⟨(hb.block _ (lt_of_block h1)).trans h1,ys,h2,aX h3 hb,fun y hy=>aX (h4 y hy) hb⟩
theorem aF {w:World} {k:Nat} {cs cs':Array Value} {t t':TypeId} {z z':Nat×Nat} (h:w.heap[k]? =some (.cells cs t z)) (h':w.heap[k]? =some (.cells cs' t' z')):t=t':=by
 have:=h.symm.trans h';simp at this;exact this.2.1
theorem cP {w w':World} {base sz n:Nat} {e:TypeId} {v:Value} {xs:List Value} (h:w.ownsRow base e sz v n xs) (hs: ∀k,k<w.heap.size->v.ownBlock=some k->w'.heap[k]? =w.heap[k]?):w'.ownsRow base e sz v n xs:=by
 obtain⟨hl,h2⟩:=h;refine⟨hl, ?_⟩
 rcases h2 with h2 | ⟨g,cap,cur,rfl,hg,hh,h3⟩
 ·exact .inl h2
 ·exact .inr ⟨g,cap,cur,rfl,hg,(hs g (lt_of_block hh) rfl).trans hh,h3⟩
theorem ed.push {w w2:World} {base eb:Nat} {v v' dv:Value} {ys:List gP} {e:bi} (hx:w.heap[eb]? =some (.cells #[v] 46 (0,0))) (hr:w.ownsRow base 79 6 v ys.length (cA ys)) (hd: ∀y∈ys,w.ownsRow base 5 1 y.1 y.2.data.length (y.2.data.map an)) (hn:w.ownsRow base 5 1 dv e.data.length (e.data.map an))
  (hown:w2.ownsRow base 79 6 v' (ys.length+1) (cA ys++mR dv e)) (hg:w.grownBy w2 v.ownBlock) (hpl: ∀k,v'.ownBlock=some k->v.ownBlock=some k\/w.heap.size<=k) (hbe:base<=eb) (hbz:base<=w.heap.size):
  ed (w2.setCell ⟨eb,0,none⟩ v') base eb v' (ys.map Prod.snd++[e])/\jC base eb v v' w (w2.setCell ⟨eb,0,none⟩ v'):=by
 have hlt:=lt_of_block hx;have hne:v.ownBlock≠some eb:=fun h=>by
  obtain⟨cs,hc⟩:=ay hr h;exact absurd (aF hx hc) (by decide)
 have hne':v'.ownBlock≠some eb:=fun h=>by
  rcases hpl eb h with h | h
  ·exact hne h
  ·omega
 have hb2:=(hg.block eb hlt (fun h=>hne h.symm)).trans hx;have hdat: ∀(u:Value) (bs:List UInt8),w.ownsRow base 5 1 u bs.length (bs.map an)->(w2.setCell ⟨eb,0,none⟩ v').ownsRow base 5 1 u bs.length (bs.map an):=by
  intro u bs h;refine cP h (fun k hk hu=> ?_);obtain⟨cs,hc⟩:=ay h hu;rw[Below.heap_setCell _ _ _ _ (show k≠eb from fun e=>absurd (aF (e▸hc) hx) (by decide))];refine hg.block k hk (fun e=> ?_);obtain⟨cs2,hc2⟩:=ay hr e.symm;exact absurd (aF hc hc2) (by decide)
 refine⟨⟨?_,ys++[(dv,e)],by simp, ?_,fun y hy=> ?_⟩,⟨?_,fun k hk h1 h2=> ?_,hpl⟩⟩
 ·have:=cQ (k:=0) hb2 v'
  simpa using this
 ·rw[List.length_append,List.length_singleton,mS];exact hown.kept (aD _ _ _ _) (.inr (fun h=>hne' h))
 ·rcases List.mem_append.1 hy with hy | hy
  ·exact hdat _ _ (hd y hy)
  ·rw[List.mem_singleton]at hy;subst hy;exact hdat _ _ hn
 ·exact((Below.refl base w).grown hg hbz (fun k hk=>(hr.lt k hk).1)).grown (aD w2 eb 0 v') (Nat.le_trans hbz hg.size) (fun k hk=>by cases hk; exact hbe)
 ·rw[Below.heap_setCell _ _ _ _ (show k≠eb from h1)];exact hg.block k hk (fun e=>h2 e.symm)
structure lJ (w : World) (h5 h6 base eb : Nat) (v itv : Value) (l : List aE) (wr : World) (v2 : Value) (acc : List bi) : Prop where
 box:ed wr base eb v2 acc
 kp:jC base eb v v2 w wr
 apart: ∀k,v2.ownBlock=some k->k<h5\/h6<=k
 lo:eb<h5
 ord:w.heap.size<=h5/\h5<=h6/\h6<=wr.heap.size
 its:bn (fun k=>h5<=k/\k<h6) wr itv l
theorem lJ.step {w wr w':World} {h5 h6 base eb:Nat} {v itv v2 v3:Value} {l:List aE} {acc acc3:List bi} (h:lJ w h5 h6 base eb v itv l wr v2 acc) (h1:ed w' base eb v3 acc3) (h2:jC base eb v2 v3 wr w'):lJ w h5 h6 base eb v itv l w' v3 acc3:=by
 have ho:=h.ord;have hl:=h.lo;have hz:=h2.below.size;refine⟨h1,h.kp.trans h2 (by omega),fun k hk=> ?_,hl,⟨ho.1,ho.2.1,by omega⟩,h.its.same (fun k hk hS=>h2.same k hk (by omega) (fun e=> ?_))⟩
 ·rcases h2.place k hk with e | e
  ·exact h.apart k e
  ·exact .inr (by omega)
 ·have:=h.apart k e;omega
theorem lJ.below {w wr w':World} {h5 h6 base eb:Nat} {v itv v2:Value} {l:List aE} {acc:List bi} (h:lJ w h5 h6 base eb v itv l wr v2 acc) (hb:Below wr.heap.size wr w') (hbz:base<=wr.heap.size):lJ w h5 h6 base eb v itv l w' v2 acc:=
 h.step (h.box.below hb) (jC.ofBelow hb hbz)
end Go.Proofs.YtpffpjbkbaleiaaGreatDoor
namespace Go.Proofs.YtpffpjbkbaleiaaGreatDoor
open Go Go.RowKit
theorem ze {w:World} {b:Nat} {a0 a1 a2 x0 x1 x2:Value} {t:TypeId} (h:w.heap[b]? =some (.cells #[a0,a1,a2] t (0,0))):
  (((w.setCell ⟨b,0,none⟩ x0).setCell ⟨b,1,none⟩ x1).setCell ⟨b,2,none⟩ x2).heap[b]? =some (.cells #[x0,x1,x2] t (0,0)):=by
 have:=cQ (k:=2) (cQ (k:=1) (cQ (k:=0) h x0) x1) x2
 simpa using this
theorem zb {w:World} {b:Nat} {a0 a1 a2 a3 a4 a5 a6 a7 a8 a9 x0 x1 x2 x3 x4 x5 x6 x7 x8 x9:Value} {t:TypeId} (h:w.heap[b]? =some (.cells #[a0,a1,a2,a3,a4,a5,a6,a7,a8,a9] t (0,0))):
  ((((((((((w.setCell ⟨b,0,none⟩ x0).setCell ⟨b,1,none⟩ x1).setCell ⟨b,2,none⟩ x2).setCell ⟨b,3,none⟩ x3).setCell ⟨b,4,none⟩ x4).setCell ⟨b,5,none⟩ x5).setCell ⟨b,6,none⟩ x6).setCell ⟨b,7,none⟩ x7).setCell ⟨b,8,none⟩ x8).setCell ⟨b,9,none⟩ x9).heap[b]? =some (.cells #[x0,x1,x2,x3,x4,x5,x6,x7,x8,x9] t (0,0)):=by
 have:=cQ (k:=9) (cQ (k:=8) (cQ (k:=7) (cQ (k:=6) (cQ (k:=5) (cQ (k:=4) (cQ (k:=3) (cQ (k:=2) (cQ (k:=1) (cQ (k:=0) (h) x0) x1) x2) x3) x4) x5) x6) x7) x8) x9
 simpa using this
theorem cH {B b:Nat} {a w:World} {x0 x1 x2:Value} (h:Below B a w) (hb:B<=b):Below B a (((w.setCell ⟨b,0,none⟩ x0).setCell ⟨b,1,none⟩ x1).setCell ⟨b,2,none⟩ x2):=(Below.setCell (Below.setCell (Below.setCell h hb x0) hb x1) hb x2)
theorem cU {B b:Nat} {a w:World} {x0 x1 x2 x3 x4 x5 x6 x7 x8 x9:Value} (h:Below B a w) (hb:B<=b):Below B a ((((((((((w.setCell ⟨b,0,none⟩ x0).setCell ⟨b,1,none⟩ x1).setCell ⟨b,2,none⟩ x2).setCell ⟨b,3,none⟩ x3).setCell ⟨b,4,none⟩ x4).setCell ⟨b,5,none⟩ x5).setCell ⟨b,6,none⟩ x6).setCell ⟨b,7,none⟩ x7).setCell ⟨b,8,none⟩ x8).setCell ⟨b,9,none⟩ x9):=(Below.setCell (Below.setCell (Below.setCell (Below.setCell (Below.setCell (Below.setCell (Below.setCell (Below.setCell (Below.setCell (Below.setCell h hb x0) hb x1) hb x2) hb x3) hb x4) hb x5) hb x6) hb x7) hb x8) hb x9)
theorem bC {b k:Nat} {w:World} {x0 x1 x2:Value} (hk:k≠b):(((w.setCell ⟨b,0,none⟩ x0).setCell ⟨b,1,none⟩ x1).setCell ⟨b,2,none⟩ x2).heap[k]? =w.heap[k]? :=(Below.heap_setCell _ _ _ _ hk).trans ((Below.heap_setCell _ _ _ _ hk).trans (Below.heap_setCell _ _ _ _ hk))
theorem jM {b k:Nat} {w:World} {x0 x1 x2 x3 x4 x5 x6 x7 x8 x9:Value} (hk:k≠b):((((((((((w.setCell ⟨b,0,none⟩ x0).setCell ⟨b,1,none⟩ x1).setCell ⟨b,2,none⟩ x2).setCell ⟨b,3,none⟩ x3).setCell ⟨b,4,none⟩ x4).setCell ⟨b,5,none⟩ x5).setCell ⟨b,6,none⟩ x6).setCell ⟨b,7,none⟩ x7).setCell ⟨b,8,none⟩ x8).setCell ⟨b,9,none⟩ x9).heap[k]? =w.heap[k]? :=(Below.heap_setCell _ _ _ _ hk).trans ((Below.heap_setCell _ _ _ _ hk).trans ((Below.heap_setCell _ _ _ _ hk).trans ((Below.heap_setCell _ _ _ _ hk).trans ((Below.heap_setCell _ _ _ _ hk).trans ((Below.heap_setCell _ _ _ _ hk).trans ((Below.heap_setCell _ _ _ _ hk).trans ((Below.heap_setCell _ _ _ _ hk).trans ((Below.heap_setCell _ _ _ _ hk).trans (Below.heap_setCell _ _ _ _ hk)))))))))
def mY (c:ByteArray):List aE->Nat->Int
 | [],_=> -1
 | x::t,k=>if x.name=c then(k:Int)else mY c t (k+1)
theorem oX {c:ByteArray} {l:List aE} {k:Nat} {x:aE} (h:l[k]? =some x):mY c (l.drop k) k=if x.name=c then(k:Int)else mY c (l.drop (k+1)) (k+1):=by
 obtain⟨hk,rfl⟩:=List.getElem?_eq_some_iff.1 h;rw[List.drop_eq_getElem_cons hk,mY]
theorem oY (c:ByteArray): ∀(l:List aE) (k:Nat),(l.find? (fun y=>decide (y.name=c))=none/\mY c l k= -1)\/ ∃(j:Nat) (y:aE),l[j]? =some y/\l.find? (fun y=>decide (y.name=c))=some y/\mY c l k=((k+j:Nat):Int)
 | [],_=> .inl ⟨rfl,rfl⟩
 | x::t,k=>by
  by_cases h:x.name=c
  ·exact .inr ⟨0,x,rfl,by rw[List.find?_cons_of_pos (by simp[h])],by rw[mY,if_pos h]; rfl⟩
  ·rw[List.find?_cons_of_neg (by simp[h]),mY,if_neg h]
   rcases oY c t (k+1)with⟨h1,h2⟩ | ⟨j,y,h1,h2,h3⟩
   ·exact .inl ⟨h1,h2⟩
   ·exact .inr ⟨j+1,y,by simpa using h1,h2,by rw[h3]; congr 1; omega⟩
theorem pk (it:aE) (cv:Value) (c:ByteArray) (pb:Nat) (w:World) (hc:w.cell? ⟨pb,0,none⟩=some (.string c)):
  Calls Tryz.prog 85 #[dr cv it, .pointer (some ⟨pb,0,none⟩)] w fun e w'=>e= .returned (.bool (decide (it.name=c)))/\Below w.heap.size w w':=by
 have hlt:=aK hc;simp only at hlt;have hne: ¬pb=w.heap.size:=by omega
 unfold dr
 go_enter Tryz.func85,Tryz.ntmps85
 go_wp2_with fail;go_ret;refine⟨ak ?_,(Below.refl _ _).alloc (Nat.le_refl _) _⟩;rw[Bool.eq_iff_iff];simp only[bZ,beq_iff_eq,decide_eq_true_eq];exact⟨fun h=>eE h,fun h=>by rw[h]⟩
theorem nX (S:Nat->Prop) (l:List aE) (c:ByteArray) (pb:Nat) (v:Value) (w:World) (hv:bn S w v l) (hc:w.cell? ⟨pb,0,none⟩=some (.string c)):
  Calls Tryz.prog 84 #[v, .func (.func 85) #[] #[.pointer (some ⟨pb,0,none⟩)]] w fun e w'=>e= .returned (.int .i64 (mY c l 0))/\Below w.heap.size w w':=by
 obtain⟨a,cap,rfl,hcp,hm,-⟩:=aO.shape hv ei.len;unfold maxLen at hm;have HV:=ab hv;have HC:=ab hc;clear hv hc
 go_enter Tryz.func84,Tryz.ntmps84
 go_wp2_with fail
 go_loopw [8] (fun i wr=> ∃k:Nat,k<=l.length/\i= .int .i64 k/\Below w.heap.size w wr/\mY c l 0=mY c (l.drop k) k) (fun i _=>l.length-(intOf i).toNat)
 case atStart=>exact⟨0,Nat.zero_le _,rfl,Below.refl _ _,rfl⟩
 case round=>
  obtain⟨k,hk,rfl,hb,hd⟩:=hrel;have HB:=ab hb;have HD:=ab hd;clear hb hd
  by_cases hlt:k<l.length
  ·obtain⟨it,hr⟩: ∃it,l[k]? =some it:=⟨l[k],by simp[hlt]⟩;obtain⟨b,o,ca,cc,rfl,-,-,hbl,-,hcl⟩:=fF HV.out HB.out hr;have q0:=hcl 0 (by omega);have q1:=hcl 1 (by omega);have q2:=hcl 2 (by omega);have q3:=hcl 3 (by omega);have q4:=hcl 4 (by omega);have q5:=hcl 5 (by omega);have q6:=hcl 6 (by omega);have q7:=hcl 7 (by omega);have q8:=hcl 8 (by omega);have q9:=hcl 9 (by omega)
   simp only[dy,Am,Nat.add_zero]at q0 q1 q2 q3 q4 q5 q6 q7 q8 q9;have HC2:=ab ((HB.out.cell (p:=⟨pb,0,none⟩) (aK HC.out)).trans HC.out);have HR:=ab hr;clear hcl hr
   by_cases hin:it.name=c
   ·have HIN:=ab hin;clear hin;go_wp2_with (go_at_call 85; refine(pk it (.slice ca it.chunks.length cc) c pb _ HC2.out).mono ?_; rintro e w1 ⟨rfl,hb1⟩; rw[decide_eq_true HIN.out]; have HB1:=ab hb1; clear hb1);go_ret;exact⟨bQ (by rw[HD.out,oX HR.out,if_pos HIN.out]),ag HB.out HB1.out⟩
   ·have HIN:=ab hin;clear hin;go_wp2_with (go_at_call 85; refine(pk it (.slice ca it.chunks.length cc) c pb _ HC2.out).mono ?_; rintro e w1 ⟨rfl,hb1⟩; rw[decide_eq_false HIN.out]; have HB1:=ab hb1; clear hb1)
    go_roundw
    case rel=>exact⟨k+1,by omega,by go_num,ag HB.out HB1.out,by rw[HD.out,oX HR.out,if_neg HIN.out]⟩
    case measure=>simp[intOf]; omega
  ·go_wp2_with fail;go_ret;exact⟨bQ (by rw[HD.out,List.drop_eq_nil_of_le (by omega)]; rfl),HB.out⟩
end Go.Proofs.YtpffpjbkbaleiaaGreatDoor
namespace Go.Proofs.YtpffpjbkbaleiaaGreatDoor
open Go.RowKit
theorem qY (a:Option Addr) (c:Nat) (w:World):(convert 29 9 (.slice a 0 c)).run Tryz.prog w= .ok (.string ⟨#[]⟩) w:=by cases a<;> kernel_rfl
theorem vJ {S:Nat->Prop} {w:World} {v:Value} {bs:List UInt8} (hd:bt S w v bs):(convert 29 9 v).run Tryz.prog w= .ok (.string (strOfNums (bs.map fun b=>(b.toNat:Int)))) w:=by
 obtain⟨_,a,cap,rfl,hn,hm,h0⟩:=hd
 rcases h0 with h0 | ⟨b,o,rfl,_,hc⟩
 ·obtain rfl:=List.eq_nil_of_length_eq_zero h0;exact qY a cap w
 ·exact run_convert_bytes_arg (P:=Tryz.prog) w 29 5 Tryz.underlying29 Tryz.underlying5 b o bs.length cap (bs.map fun b=>(b.toNat:Int)) (by simp) (fun i hi=>by
   rw[hc i (u8V bs[i]) (by simp[hi])];simp[u8V,List.getD,hi]) 9 Tryz.underlying9
end Go.Proofs.YtpffpjbkbaleiaaGreatDoor
namespace Go.Proofs.YtpffpjbkbaleiaaGreatDoor
open Go.RowKit Go.Maps
theorem dW (p q:ByteArray) (w:World) (he:fN w) (hv:aZ (bl p)=true) (hq:q=⟨(aL (bl p)).toArray⟩):
  Calls Tryz.prog 72 #[.string p] w fun e w'=>e= .returned (.tuple #[.string q, .bool true])/\Below w.heap.size w w':=by
 rw[hq]; exact tT p w he hv
theorem mf (q:ByteArray):q.toList.isEmpty=decide (bl q=[]):=by rw[bZ,Bool.eq_iff_iff]; simp
end Go.Proofs.YtpffpjbkbaleiaaGreatDoor
namespace Go.Proofs.YtpffpjbkbaleiaaGreatDoor
open Go.RowKit Go.Maps
theorem jt (S:Nat->Prop) (en:bi) (v:Value) (b:Bool) (w:World) (hd:bt S w v en.data) (hok:fR en) (henv:fN w) (h:gq en=b):Calls Tryz.prog 117 #[Bq v en] w fun e w'=>e= .returned (.bool b)/\Below w.heap.size w w':=by
 rw[<-h]; exact uj S en v w hd hok henv
end Go.Proofs.YtpffpjbkbaleiaaGreatDoor
namespace Go.Proofs.YtpffpjbkbaleiaaGreatDoor
open Go.RowKit Go.Maps
theorem oG : ∀ {m pre:List bi} (r:List bi),Tr (pre++m)->gm pre (m++r)=gm (pre++m) r
 | [],pre,r,_=>by simp
 | e::m,pre,r,h=>by
  have h1:Tr (pre++[e]):=Tr.pre (M:=m) (by simpa using h);have h2:=(iE h1.pre e).2 h1;have h3:=oG (m:=m) (pre:=pre++[e]) r (by simpa using h);rw[List.cons_append,gm,if_pos h2,h3];simp
theorem qQ {L:List bi} (hl:L.length<=4096) {k:Nat} (h:Tr (L.take k)):cu L=gm (L.take k) (L.drop k):=by
 have h1:=oG (m:=L.take k) (pre:=[]) (L.drop k) (by simpa using h);rw[List.take_append_drop,List.nil_append]at h1;unfold cu;rw[if_neg (by omega),h1]
theorem oP {α:Type} {L:List α} {k:Nat} {e:α} (h:L[k]? =some e):L.drop k=e::L.drop (k+1):=by
 obtain⟨h1,h2⟩:=List.getElem?_eq_some_iff.1 h;rw[List.drop_eq_getElem_cons h1,h2]
theorem eF {L:List bi} (hl:L.length<=4096) {k:Nat} (h:Tr (L.take k)) {e:bi} (he:L[k]? =some e) {x:Int} (hx:cd (L.take k) e=x) (h0:x≠0):cu L=x:=by
 rw[qQ hl h,oP he,gm,hx,if_neg h0]
theorem gS {L:List bi} {k:Nat} (h:Tr (L.take k)) {e:bi} (he:L[k]? =some e) (hx:cd (L.take k) e=0):Tr (L.take (k+1)):=by
 rw[List.take_add_one,he];exact(iE h e).1 hx
theorem sY {L:List bi} (hl:L.length<=4096) (h:Tr (L.take L.length)):cu L=0:=by
 rw[qQ hl h,List.drop_length]; rfl
theorem vG {L:List bi} (hl:4096<L.length):cu L=2:=by unfold cu; rw[if_pos hl]
def nc (e:bi):Value×Value:=(.string e.path, .int .i64 e.kind)
theorem dV :Tryz.prog.underlying 47=some (.map 9 3):=Tryz.underlying47
theorem tN (w:World) (n:Nat) (hn:n<=4096):(Instr.makeMap 47 (some (.int .i64 (n:Int)))).run Tryz.prog w= .ok (.map (some w.heap.size)) (w.alloc (.map #[] 0)):=by
 have h1:IntKind.i64.wrap (n:Int)=n:=by rw[IntKind.wrap_i64]; omega
 simp[Instr.makeMap,asInt,asIntOf]
theorem jk {w:World} {mb:Nat} {M:List bi} (h:ci Tryz.prog 9 w mb (M.map nc)) {p:ByteArray} (hp:p.size<=maxLen) {f:bi} (hf:fV M p=some f):
  (Instr.lookup 47 (.map (some mb)) (.string p) true).run Tryz.prog w= .ok (.tuple #[.int .i64 f.kind, .bool true]) w:=by
 obtain⟨h1,h2⟩:=jJ hf;have h3:(Value.string p,Value.int .i64 f.kind)∈M.map nc:=List.mem_map.2 ⟨f,h1,by rw[<-h2]; rfl⟩;have:=h.is.hit bE dV (bX hp) h3 true
 simpa only[if_true]using this
theorem nf {w:World} {mb:Nat} {M:List bi} (h:ci Tryz.prog 9 w mb (M.map nc)) {p:ByteArray} (hp:p.size<=maxLen) (hf:fV M p=none):
  (Instr.lookup 47 (.map (some mb)) (.string p) true).run Tryz.prog w= .ok (.tuple #[.int .i64 0, .bool false]) w:=by
 have hz:(zeroValue 3).run Tryz.prog w= .ok (.int .i64 0) w:=by kernel_rfl
 have:=h.is.miss bE dV hz (bX hp) (fun q hq e=>by
  obtain⟨x,hx,rfl⟩:=List.mem_map.1 hq;simp only[nc,Value.string.injEq]at e;exact mU hf x hx e) true
 simpa only[if_true]using this
theorem jl {M:List bi} {e:bi} (h:Tr (M++[e])): ∀q∈M.map nc,q.1≠Value.string e.path:=by
 intro q hq hc;obtain⟨x,hx,rfl⟩:=List.mem_map.1 hq;simp only[nc,Value.string.injEq]at hc;have hn:=h.ord.nodup;rw[List.map_append,List.nodup_append]at hn;exact hn.2.2 x.path (List.mem_map.2 ⟨x,hx,rfl⟩) e.path (by simp) hc
theorem oL (a b:ByteArray) (o:Int) (w:World) (ha:a.size<=maxLen) (h:cj (bl a) (bl b)=o):Calls Tryz.prog 118 #[.string a, .string b] w fun e w'=>e= .returned (.int .i64 o)/\Below w.heap.size w w':=by
 rw[<-h]; exact qW a b w (by unfold maxLen at ha; omega)
theorem xT {L:List bi} {k:Nat} {f e:bi} (hf:L[k]? =some f):iC (L.take (k+1)) e=decide (cj (bl f.path) (bl e.path)<0):=by
 have:(L.take (k+1)).getLast? =some f:=by rw[List.take_add_one,hf]; simp
 unfold iC;rw[this]; rfl
end Go.Proofs.YtpffpjbkbaleiaaGreatDoor
namespace Go.Proofs.YtpffpjbkbaleiaaGreatDoor
open Go.RowKit Go.Maps
def Bj (L:List bi) (mb:Nat) (w:World) (k:Nat) (wr:World):Prop:=Tr (L.take k)/\ci Tryz.prog 9 wr mb ((L.take k).map nc)/\Below w.heap.size w wr
theorem vF (S:Nat->Prop) (L:List bi) (v:Value) (w:World) (hv:cW S w v L) (henv:fN w):Calls Tryz.prog 71 #[v] w fun e w'=>e= .returned (.int .i64 (cu L))/\Below w.heap.size w w':=by
 have HV:=ab hv;have HE:=ab henv;obtain⟨a,cap,rfl,hc,hm,-⟩:=aO.shape hv nR.len;unfold maxLen at hm;obtain⟨n,hn⟩: ∃n,n=L.length:=⟨_,rfl⟩;have HN:=ab hn;rw[<-hn]at hc HV ⊢;clear hv henv
 by_cases hbig:4096<n
 ·have hbi:(4096:Int)<(n:Int):=by omega
  have HC:=ab (vG (by rw[<-hn]; exact hbig));clear hbig hn
  go_enter Tryz.func71,Tryz.ntmps71
  go_wp2_with fail;go_ret;exact⟨bQ (by rw[HC.out]),Below.refl _ _⟩
 ·have hbi:(n:Int)<=(4096:Int):=by omega
  have hmk:=tN w n (by omega);have HL4:=ab (show L.length<=4096 by omega);clear hbig hn
  go_enter Tryz.func71,Tryz.ntmps71
  go_wp2_with fail;obtain⟨W0,hW0⟩: ∃W0,W0=w.alloc (.map #[] 0):=⟨_,rfl⟩;rw[<-hW0];have HM0:=ab (show ci Tryz.prog 9 W0 w.heap.size [] by rw[hW0]; exact ci.made w);have HB0:=ab (show Below w.heap.size w W0 by rw[hW0]; exact(Below.refl _ _).alloc (Nat.le_refl _) _);clear hW0;clear hmk
  go_loopw [18] (fun i wr=> ∃k:Nat,k<=n/\i= .int .i64 k/\Bj L w.heap.size w k wr) (fun i _=>n-(intOf i).toNat)
  case atStart=>exact⟨0,Nat.zero_le _,rfl,⟨List.Pairwise.nil,by simp,by simp⟩,HM0.out,HB0.out⟩
  case round=>
   obtain⟨k,hk,rfl,htr,hkm,hbr⟩:=hrel;have HTR:=ab htr;have HKM:=ab hkm;have HBR:=ab hbr;clear htr hkm hbr
   by_cases hlt:k<n
   ·obtain⟨e,he⟩: ∃e,L[k]? =some e:=⟨L[k]'(by rw[<-HN.out]; exact hlt),by simp⟩;obtain⟨b,o,dv,rfl,-,hb,hd,hok,-,q0,q1,q2,q3,q4,q5⟩:=jh (HV.out.below HBR.out) he;have HAT:=ab he;have HD:=ab hd;have HOK:=ab hok;obtain⟨a1,cap1,rfl,hd1,hd2⟩:=hd.slice;unfold maxLen at hd2;clear he hd hok
    cases hve:gq e
    ·have HVE:=ab hve;have HCA:=ab (show cd (L.take k) e=1 by unfold cd; rw[hve]; rfl);clear hve;go_wp2_with fail;obtain⟨W,hW⟩: ∃W,W=wr.alloc (.cells #[.string e.path, .int .i64 e.kind, .int .i64 e.mode, .int .i64 e.time, .slice a1 e.data.length cap1, .string e.link] 79):=⟨_,rfl⟩;rw[<-hW];have HX:=ab (show W.heap[wr.heap.size]? =some (.cells #[.string e.path, .int .i64 e.kind, .int .i64 e.mode, .int .i64 e.time, .slice a1 e.data.length cap1, .string e.link] 79 (0,0)) by rw[hW]; exact bI wr _)
     have HWL:=ab (show Below wr.heap.size wr W by rw[hW]; exact(Below.refl _ _).alloc (Nat.le_refl _) _);have HBW:=ab (ag HBR.out HWL.out);clear hW;refine(jt S e _ false _ (HD.out.below HWL.out) HOK.out (HE.out.below HBW.out) HVE.out).mono ?_;rintro e7 w7 ⟨rfl,hb7⟩;have HB9:=ab (ag HBW.out hb7);clear hb7;go_wp2_with fail;go_ret;exact⟨bQ (by rw[eF HL4.out HTR.out HAT.out (x:=1) HCA.out (by decide)]),HB9.out⟩
    ·have HVE:=ab hve;obtain⟨q,hq⟩: ∃q:ByteArray,q=⟨(aL (bl e.path)).toArray⟩:=⟨_,rfl⟩;have HBQ:=ab (show bl q=aL (bl e.path) by rw[hq]; exact er _);have HQ:=ab hq;have HQS:=ab (show q.size<=maxLen by
      have h1:=fI (bD hve);have h2:=uk (bD hve);rw[ar,HBQ.out]; unfold maxLen; omega)
     clear hve hq
     rcases Nat.eq_zero_or_pos k with hk0 | hk0
     ·have e9:decide (0<k)=false:=by simp; omega
      have e8:(k:Int)<=0:=by omega
      have HCV:=ab (show(gq e && iC (L.take k) e)=true by rw[hk0,HVE.out]; rfl);clear hk0;go_wp2_with fail;obtain⟨W,hW⟩: ∃W,W=wr.alloc (.cells #[.string e.path, .int .i64 e.kind, .int .i64 e.mode, .int .i64 e.time, .slice a1 e.data.length cap1, .string e.link] 79):=⟨_,rfl⟩;rw[<-hW];have HX:=ab (show W.heap[wr.heap.size]? =some (.cells #[.string e.path, .int .i64 e.kind, .int .i64 e.mode, .int .i64 e.time, .slice a1 e.data.length cap1, .string e.link] 79 (0,0)) by rw[hW]; exact bI wr _)
      have HWL:=ab (show Below wr.heap.size wr W by rw[hW]; exact(Below.refl _ _).alloc (Nat.le_refl _) _);have HBW:=ab (ag HBR.out HWL.out);clear hW;refine(jt S e _ true _ (HD.out.below HWL.out) HOK.out (HE.out.below HBW.out) HVE.out).mono ?_;rintro e7 w7 ⟨rfl,hb7⟩;have HX7:=ab ((hb7.block wr.heap.size (lK HX.out)).trans HX.out);have HL7:=ab (HWL.out.trans (hb7.mono HWL.out.size))
      have c0:=aa (k:=0) HX7.out;have c1:=aa (k:=1) HX7.out;have c2:=aa (k:=2) HX7.out;have c3:=aa (k:=3) HX7.out;have c4:=aa (k:=4) HX7.out;have c5:=aa (k:=5) HX7.out;simp only[aW]at c0 c1 c2 c3 c4 c5;clear hb7;go_wp2_with fail;refine au [some 11,none,some 2] (by kernel_rfl) (by kernel_rfl) (by kernel_rfl) ?_;simp only[bh,List.take_succ_cons,List.take_zero,List.drop_succ_cons,List.drop_zero]
      obtain⟨wd,hwd⟩: ∃wd:World,wd=w7.drew:=⟨_,rfl⟩;rw[<-hwd];have HLD:=ab (show Below wr.heap.size wr wd by rw[hwd]; exact HL7.out.trans ((Below.refl w7.heap.size w7).drew.mono HL7.out.size));have HXD:=ab (show wd.heap[wr.heap.size]? =some (.cells #[.string e.path, .int .i64 e.kind, .int .i64 e.mode, .int .i64 e.time, .slice a1 e.data.length cap1, .string e.link] 79 (0,0)) by rw[hwd]; exact HX7.out)
      clear hwd c0 c1 c2 c3 c4 c5;have c0:=aa (k:=0) HXD.out;have c1:=aa (k:=1) HXD.out;have c2:=aa (k:=2) HXD.out;have c3:=aa (k:=3) HXD.out;have c4:=aa (k:=4) HXD.out;have c5:=aa (k:=5) HXD.out;simp only[aW]at c0 c1 c2 c3 c4 c5
      repeat (first | (refine aG rfl ?_; simp only[Act.put,az,aA,aB]) | (refine aS rfl (fun K hK=> ?_); go_simp; refine hK _ ?_; clear hK K))
      refine aR ?_;refine xW rfl ?_;simp only[Act.put,az,aA,aB]
      repeat (first | (refine aG rfl ?_; simp only[Act.put,az,aA,aB]) | (refine aS rfl (fun K hK=> ?_); go_simp; refine hK _ ?_; clear hK K))
      refine aR ?_;clear c0 c1 c2 c3 c4 c5;have HL8:=ab HLD.out;have HX8:=ab HXD.out;have HB8:=ab (ag HBR.out HLD.out);have c0:=aa (k:=0) HX8.out;have c1:=aa (k:=1) HX8.out;have c2:=aa (k:=2) HX8.out;have c3:=aa (k:=3) HX8.out;have c4:=aa (k:=4) HX8.out;have c5:=aa (k:=5) HX8.out;simp only[aW]at c0 c1 c2 c3 c4 c5;go_wp2_with fail
      by_cases h0:aL (bl e.path)=[]
      ·have e1:q.toList.isEmpty=true:=by rw[mf,HBQ.out,decide_eq_true h0]
       have HTN:=ab (gS HTR.out HAT.out (show cd (L.take k) e=0 by unfold cd; rw[if_pos HCV.out]; unfold kf; rw[if_pos h0]));clear h0;refine(dW e.path q _ (HE.out.below HB8.out) (bD HVE.out) HQ.out).mono ?_;rintro e9 w9 ⟨rfl,hb9⟩;have HL9:=ab (HL8.out.trans (hb9.mono HL8.out.size));have HB9:=ab (ag HB8.out hb9);have HX9:=ab ((hb9.block wr.heap.size (lK HX8.out)).trans HX8.out)
       have HK9:=ab (HKM.out.same (HL9.out.block w.heap.size HKM.out.lt));clear hb9;have c0:=aa (k:=0) HX9.out;have c1:=aa (k:=1) HX9.out;have c2:=aa (k:=2) HX9.out;have c3:=aa (k:=3) HX9.out;have c4:=aa (k:=4) HX9.out;have c5:=aa (k:=5) HX9.out;simp only[aW]at c0 c1 c2 c3 c4 c5;go_wp2_with (at_mapUpdate; go_must (refine dC bE rfl _ _ _ _ rfl dV w.heap.size _ HK9.out rfl (.string e.path) (.int .i64 e.kind) rfl rfl (bX HOK.out.pth) (jl (by have h1:=HTN.out; rw[List.take_add_one,HAT.out]at h1; exact h1)) ?_); intro w10 hm10 hg10)
       have HM10:=ab hm10;have HG10:=ab hg10;clear hm10 hg10 c0 c1 c2 c3 c4 c5;go_wp2_with fail
       go_roundw
       case rel=>
        refine⟨k+1,by omega,by go_num,HTN.out, ?_, ?_⟩
        ·rw[List.take_add_one,HAT.out,List.map_append]; exact HM10.out
        ·exact HB9.out.grown HG10.out HB9.out.size (fun k e=>by cases e; exact Nat.le_refl _)
       case measure=>simp[intOf]; omega
      ·have e1:q.toList.isEmpty=false:=by rw[mf,HBQ.out,decide_eq_false h0]
       have HDI:=ab (show ∀x,(match fV (L.take k) q with | none=>(4:Int) | some f=>if f.kind=2 then 0 else 13)=x->cd (L.take k) e=x from fun x hx=>by unfold cd; rw[if_pos HCV.out]; unfold kf; rw[if_neg h0,<-HQ.out]; exact hx);clear h0
       cases hf:fV (L.take k) q with
       | none=>
        have HF:=ab hf;have HCA:=ab (HDI.out 4 (by rw[hf]));clear hf;refine(dW e.path q _ (HE.out.below HB8.out) (bD HVE.out) HQ.out).mono ?_;rintro e9 w9 ⟨rfl,hb9⟩;have HL9:=ab (HL8.out.trans (hb9.mono HL8.out.size));have HB9:=ab (ag HB8.out hb9);have HX9:=ab ((hb9.block wr.heap.size (lK HX8.out)).trans HX8.out);have HK9:=ab (HKM.out.same (HL9.out.block w.heap.size HKM.out.lt))
        clear hb9;have c0:=aa (k:=0) HX9.out;have c1:=aa (k:=1) HX9.out;have c2:=aa (k:=2) HX9.out;have c3:=aa (k:=3) HX9.out;have c4:=aa (k:=4) HX9.out;have c5:=aa (k:=5) HX9.out;simp only[aW]at c0 c1 c2 c3 c4 c5;have hlk:=nf HK9.out HQS.out HF.out;go_wp2_with fail;go_ret;exact⟨bQ (by rw[eF HL4.out HTR.out HAT.out (x:=4) HCA.out (by decide)]),HB9.out⟩
       | some f=>
        have HF:=ab hf
        by_cases hk2:f.kind=2
        ·have e3:(f.kind != 2)=false:=by simp[hk2]
         have HTN:=ab (gS HTR.out HAT.out (HDI.out 0 (by rw[hf]; simp only[if_pos hk2])));clear hf hk2;refine(dW e.path q _ (HE.out.below HB8.out) (bD HVE.out) HQ.out).mono ?_;rintro e9 w9 ⟨rfl,hb9⟩;have HL9:=ab (HL8.out.trans (hb9.mono HL8.out.size));have HB9:=ab (ag HB8.out hb9);have HX9:=ab ((hb9.block wr.heap.size (lK HX8.out)).trans HX8.out);have HK9:=ab (HKM.out.same (HL9.out.block w.heap.size HKM.out.lt))
         clear hb9;have c0:=aa (k:=0) HX9.out;have c1:=aa (k:=1) HX9.out;have c2:=aa (k:=2) HX9.out;have c3:=aa (k:=3) HX9.out;have c4:=aa (k:=4) HX9.out;have c5:=aa (k:=5) HX9.out;simp only[aW]at c0 c1 c2 c3 c4 c5;have hlk:=jk HK9.out HQS.out HF.out;go_wp2_with (at_mapUpdate; go_must (refine dC bE rfl _ _ _ _ rfl dV w.heap.size _ HK9.out rfl (.string e.path) (.int .i64 e.kind) rfl rfl (bX HOK.out.pth) (jl (by have h1:=HTN.out; rw[List.take_add_one,HAT.out]at h1; exact h1)) ?_); intro w10 hm10 hg10)
         have HM10:=ab hm10;have HG10:=ab hg10;clear hm10 hg10 c0 c1 c2 c3 c4 c5;go_wp2_with fail
         go_roundw
         case rel=>
          refine⟨k+1,by omega,by go_num,HTN.out, ?_, ?_⟩
          ·rw[List.take_add_one,HAT.out,List.map_append]; exact HM10.out
          ·exact HB9.out.grown HG10.out HB9.out.size (fun k e=>by cases e; exact Nat.le_refl _)
         case measure=>simp[intOf]; omega
        ·have e3:(f.kind != 2)=true:=by simp[hk2]
         have HCA:=ab (HDI.out 13 (by rw[hf]; simp only[if_neg hk2]));clear hf hk2;refine(dW e.path q _ (HE.out.below HB8.out) (bD HVE.out) HQ.out).mono ?_;rintro e9 w9 ⟨rfl,hb9⟩;have HL9:=ab (HL8.out.trans (hb9.mono HL8.out.size));have HB9:=ab (ag HB8.out hb9);have HX9:=ab ((hb9.block wr.heap.size (lK HX8.out)).trans HX8.out);have HK9:=ab (HKM.out.same (HL9.out.block w.heap.size HKM.out.lt))
         clear hb9;have c0:=aa (k:=0) HX9.out;have c1:=aa (k:=1) HX9.out;have c2:=aa (k:=2) HX9.out;have c3:=aa (k:=3) HX9.out;have c4:=aa (k:=4) HX9.out;have c5:=aa (k:=5) HX9.out;simp only[aW]at c0 c1 c2 c3 c4 c5;have hlk:=jk HK9.out HQS.out HF.out;go_wp2_with fail;go_ret;exact⟨bQ (by rw[eF HL4.out HTR.out HAT.out (x:=13) HCA.out (by decide)]),HB9.out⟩
     ·obtain⟨j,rfl⟩: ∃j,k=j+1:=⟨k-1,by omega⟩;obtain⟨f,hf⟩: ∃f,L[j]? =some f:=⟨L[j]'(by rw[<-HN.out]; omega),by simp⟩;obtain⟨b',o',dv',he',-,-,-,hokf,-,p0,-⟩:=jh (HV.out.below HBR.out) hf;simp only[Option.some.injEq,Addr.mk.injEq,and_true]at he';obtain⟨rfl,rfl⟩:=he';have HPF:=ab hokf.pth;obtain⟨c,hc⟩: ∃c,cj (bl f.path) (bl e.path)=c:=⟨_,rfl⟩
      have HC:=ab hc;have e9:decide (0<j+1)=true:=by simp
      have hjn:j<n:=by omega
      have hjn2:(j:Int)<(n:Int):=by omega
      have hjn3:decide (j<n)=true:=by simp; omega
      have hwj:IntKind.i64.wrap (j:Int)=j:=by rw[IntKind.wrap_i64]; omega
      have HAF:=ab (show iC (L.take (j+1)) e=decide (c<0) by rw[xT hf,hc]);clear hf hokf hc hk0
      by_cases hneg:c<0
      ·have HCV:=ab (show(gq e && iC (L.take (j+1)) e)=true by rw[HVE.out,HAF.out,decide_eq_true hneg]; rfl);have e8:decide (0<=c)=false:=by simp; omega
       go_wp2_with fail;obtain⟨W,hW⟩: ∃W,W=wr.alloc (.cells #[.string e.path, .int .i64 e.kind, .int .i64 e.mode, .int .i64 e.time, .slice a1 e.data.length cap1, .string e.link] 79):=⟨_,rfl⟩;rw[<-hW];have HX:=ab (show W.heap[wr.heap.size]? =some (.cells #[.string e.path, .int .i64 e.kind, .int .i64 e.mode, .int .i64 e.time, .slice a1 e.data.length cap1, .string e.link] 79 (0,0)) by rw[hW]; exact bI wr _)
       have HWL:=ab (show Below wr.heap.size wr W by rw[hW]; exact(Below.refl _ _).alloc (Nat.le_refl _) _);have HBW:=ab (ag HBR.out HWL.out);clear hW;refine(jt S e _ true _ (HD.out.below HWL.out) HOK.out (HE.out.below HBW.out) HVE.out).mono ?_;rintro e7 w7 ⟨rfl,hb7⟩;have HX7:=ab ((hb7.block wr.heap.size (lK HX.out)).trans HX.out);have HL7:=ab (HWL.out.trans (hb7.mono HWL.out.size))
       have c0:=aa (k:=0) HX7.out;have c1:=aa (k:=1) HX7.out;have c2:=aa (k:=2) HX7.out;have c3:=aa (k:=3) HX7.out;have c4:=aa (k:=4) HX7.out;have c5:=aa (k:=5) HX7.out;simp only[aW]at c0 c1 c2 c3 c4 c5;clear hb7;go_wp2_with fail;refine au [some 11,none,some 2] (by kernel_rfl) (by kernel_rfl) (by kernel_rfl) ?_;simp only[bh,List.take_succ_cons,List.take_zero,List.drop_succ_cons,List.drop_zero]
       obtain⟨wd,hwd⟩: ∃wd:World,wd=w7.drew:=⟨_,rfl⟩;rw[<-hwd];have HLD:=ab (show Below wr.heap.size wr wd by rw[hwd]; exact HL7.out.trans ((Below.refl w7.heap.size w7).drew.mono HL7.out.size));have HXD:=ab (show wd.heap[wr.heap.size]? =some (.cells #[.string e.path, .int .i64 e.kind, .int .i64 e.mode, .int .i64 e.time, .slice a1 e.data.length cap1, .string e.link] 79 (0,0)) by rw[hwd]; exact HX7.out)
       clear hwd c0 c1 c2 c3 c4 c5;have c0:=aa (k:=0) HXD.out;have c1:=aa (k:=1) HXD.out;have c2:=aa (k:=2) HXD.out;have c3:=aa (k:=3) HXD.out;have c4:=aa (k:=4) HXD.out;have c5:=aa (k:=5) HXD.out;simp only[aW]at c0 c1 c2 c3 c4 c5;have y0:=(HLD.out.cell (aK p0)).trans p0
       repeat (first | (refine aG rfl ?_; simp only[Act.put,az,aA,aB]) | (refine aS rfl (fun K hK=> ?_); go_simp; refine hK _ ?_; clear hK K))
       refine aR ?_;refine bJ rfl (fun K hK=> ?_);go_wp2_with (go_at_call 118; refine(oL f.path e.path c _ HPF.out HC.out).mono ?_; rintro e8' w8 ⟨rfl,hb8⟩; have HL8:=ab (HLD.out.trans (hb8.mono HLD.out.size)); have HX8:=ab ((hb8.block wr.heap.size (lK HXD.out)).trans HXD.out); clear hb8 c0 c1 c2 c3 c4 c5 y0)
       repeat (first | (refine aG rfl ?_; simp only[Act.put,az,aA,aB]) | (refine aS rfl (fun K hK=> ?_); go_simp; refine hK _ ?_; clear hK K))
       refine aR ?_;have HB8:=ab (ag HBR.out HL8.out);have c0:=aa (k:=0) HX8.out;have c1:=aa (k:=1) HX8.out;have c2:=aa (k:=2) HX8.out;have c3:=aa (k:=3) HX8.out;have c4:=aa (k:=4) HX8.out;have c5:=aa (k:=5) HX8.out;simp only[aW]at c0 c1 c2 c3 c4 c5;go_wp2_with fail
       by_cases h0:aL (bl e.path)=[]
       ·have e1:q.toList.isEmpty=true:=by rw[mf,HBQ.out,decide_eq_true h0]
        have HTN:=ab (gS HTR.out HAT.out (show cd (L.take (j+1)) e=0 by unfold cd; rw[if_pos HCV.out]; unfold kf; rw[if_pos h0]));clear h0;refine(dW e.path q _ (HE.out.below HB8.out) (bD HVE.out) HQ.out).mono ?_;rintro e9 w9 ⟨rfl,hb9⟩;have HL9:=ab (HL8.out.trans (hb9.mono HL8.out.size));have HB9:=ab (ag HB8.out hb9);have HX9:=ab ((hb9.block wr.heap.size (lK HX8.out)).trans HX8.out)
        have HK9:=ab (HKM.out.same (HL9.out.block w.heap.size HKM.out.lt));clear hb9;have c0:=aa (k:=0) HX9.out;have c1:=aa (k:=1) HX9.out;have c2:=aa (k:=2) HX9.out;have c3:=aa (k:=3) HX9.out;have c4:=aa (k:=4) HX9.out;have c5:=aa (k:=5) HX9.out;simp only[aW]at c0 c1 c2 c3 c4 c5;go_wp2_with (at_mapUpdate; go_must (refine dC bE rfl _ _ _ _ rfl dV w.heap.size _ HK9.out rfl (.string e.path) (.int .i64 e.kind) rfl rfl (bX HOK.out.pth) (jl (by have h1:=HTN.out; rw[List.take_add_one,HAT.out]at h1; exact h1)) ?_); intro w10 hm10 hg10)
        have HM10:=ab hm10;have HG10:=ab hg10;clear hm10 hg10 c0 c1 c2 c3 c4 c5;go_wp2_with fail
        go_roundw
        case rel=>
         refine⟨j+1+1,by omega,by go_num,HTN.out, ?_, ?_⟩
         ·rw[List.take_add_one,HAT.out,List.map_append]; exact HM10.out
         ·exact HB9.out.grown HG10.out HB9.out.size (fun k e=>by cases e; exact Nat.le_refl _)
        case measure=>simp[intOf]; omega
       ·have e1:q.toList.isEmpty=false:=by rw[mf,HBQ.out,decide_eq_false h0]
        have HDI:=ab (show ∀x,(match fV (L.take (j+1)) q with | none=>(4:Int) | some g=>if g.kind=2 then 0 else 13)=x->cd (L.take (j+1)) e=x from fun x hx=>by unfold cd; rw[if_pos HCV.out]; unfold kf; rw[if_neg h0,<-HQ.out]; exact hx);clear h0
        cases hf:fV (L.take (j+1)) q with
        | none=>
         have HF:=ab hf;have HCA:=ab (HDI.out 4 (by rw[hf]));clear hf;refine(dW e.path q _ (HE.out.below HB8.out) (bD HVE.out) HQ.out).mono ?_;rintro e9 w9 ⟨rfl,hb9⟩;have HL9:=ab (HL8.out.trans (hb9.mono HL8.out.size));have HB9:=ab (ag HB8.out hb9);have HX9:=ab ((hb9.block wr.heap.size (lK HX8.out)).trans HX8.out);have HK9:=ab (HKM.out.same (HL9.out.block w.heap.size HKM.out.lt))
         clear hb9;have c0:=aa (k:=0) HX9.out;have c1:=aa (k:=1) HX9.out;have c2:=aa (k:=2) HX9.out;have c3:=aa (k:=3) HX9.out;have c4:=aa (k:=4) HX9.out;have c5:=aa (k:=5) HX9.out;simp only[aW]at c0 c1 c2 c3 c4 c5;have hlk:=nf HK9.out HQS.out HF.out;go_wp2_with fail;go_ret;exact⟨bQ (by rw[eF HL4.out HTR.out HAT.out (x:=4) HCA.out (by decide)]),HB9.out⟩
        | some g=>
         have HF:=ab hf
         by_cases hk2:g.kind=2
         ·have e3:(g.kind != 2)=false:=by simp[hk2]
          have HTN:=ab (gS HTR.out HAT.out (HDI.out 0 (by rw[hf]; simp only[if_pos hk2])));clear hf hk2;refine(dW e.path q _ (HE.out.below HB8.out) (bD HVE.out) HQ.out).mono ?_;rintro e9 w9 ⟨rfl,hb9⟩;have HL9:=ab (HL8.out.trans (hb9.mono HL8.out.size));have HB9:=ab (ag HB8.out hb9);have HX9:=ab ((hb9.block wr.heap.size (lK HX8.out)).trans HX8.out);have HK9:=ab (HKM.out.same (HL9.out.block w.heap.size HKM.out.lt))
          clear hb9;have c0:=aa (k:=0) HX9.out;have c1:=aa (k:=1) HX9.out;have c2:=aa (k:=2) HX9.out;have c3:=aa (k:=3) HX9.out;have c4:=aa (k:=4) HX9.out;have c5:=aa (k:=5) HX9.out;simp only[aW]at c0 c1 c2 c3 c4 c5;have hlk:=jk HK9.out HQS.out HF.out;go_wp2_with (at_mapUpdate; go_must (refine dC bE rfl _ _ _ _ rfl dV w.heap.size _ HK9.out rfl (.string e.path) (.int .i64 e.kind) rfl rfl (bX HOK.out.pth) (jl (by have h1:=HTN.out; rw[List.take_add_one,HAT.out]at h1; exact h1)) ?_); intro w10 hm10 hg10)
          have HM10:=ab hm10;have HG10:=ab hg10;clear hm10 hg10 c0 c1 c2 c3 c4 c5;go_wp2_with fail
          go_roundw
          case rel=>
           refine⟨j+1+1,by omega,by go_num,HTN.out, ?_, ?_⟩
           ·rw[List.take_add_one,HAT.out,List.map_append]; exact HM10.out
           ·exact HB9.out.grown HG10.out HB9.out.size (fun k e=>by cases e; exact Nat.le_refl _)
          case measure=>simp[intOf]; omega
         ·have e3:(g.kind != 2)=true:=by simp[hk2]
          have HCA:=ab (HDI.out 13 (by rw[hf]; simp only[if_neg hk2]));clear hf hk2;refine(dW e.path q _ (HE.out.below HB8.out) (bD HVE.out) HQ.out).mono ?_;rintro e9 w9 ⟨rfl,hb9⟩;have HL9:=ab (HL8.out.trans (hb9.mono HL8.out.size));have HB9:=ab (ag HB8.out hb9);have HX9:=ab ((hb9.block wr.heap.size (lK HX8.out)).trans HX8.out);have HK9:=ab (HKM.out.same (HL9.out.block w.heap.size HKM.out.lt))
          clear hb9;have c0:=aa (k:=0) HX9.out;have c1:=aa (k:=1) HX9.out;have c2:=aa (k:=2) HX9.out;have c3:=aa (k:=3) HX9.out;have c4:=aa (k:=4) HX9.out;have c5:=aa (k:=5) HX9.out;simp only[aW]at c0 c1 c2 c3 c4 c5;have hlk:=jk HK9.out HQS.out HF.out;go_wp2_with fail;go_ret;exact⟨bQ (by rw[eF HL4.out HTR.out HAT.out (x:=13) HCA.out (by decide)]),HB9.out⟩
      ·have HCA:=ab (show cd (L.take (j+1)) e=1 by unfold cd; rw[HAF.out,decide_eq_false hneg]; simp);have e8:decide (0<=c)=true:=by simp; omega
       have e7:0<=c:=by omega
       go_wp2_with fail;obtain⟨W,hW⟩: ∃W,W=wr.alloc (.cells #[.string e.path, .int .i64 e.kind, .int .i64 e.mode, .int .i64 e.time, .slice a1 e.data.length cap1, .string e.link] 79):=⟨_,rfl⟩;rw[<-hW];have HX:=ab (show W.heap[wr.heap.size]? =some (.cells #[.string e.path, .int .i64 e.kind, .int .i64 e.mode, .int .i64 e.time, .slice a1 e.data.length cap1, .string e.link] 79 (0,0)) by rw[hW]; exact bI wr _)
       have HWL:=ab (show Below wr.heap.size wr W by rw[hW]; exact(Below.refl _ _).alloc (Nat.le_refl _) _);have HBW:=ab (ag HBR.out HWL.out);clear hW;refine(jt S e _ true _ (HD.out.below HWL.out) HOK.out (HE.out.below HBW.out) HVE.out).mono ?_;rintro e7 w7 ⟨rfl,hb7⟩;have HX7:=ab ((hb7.block wr.heap.size (lK HX.out)).trans HX.out);have HL7:=ab (HWL.out.trans (hb7.mono HWL.out.size))
       have c0:=aa (k:=0) HX7.out;have c1:=aa (k:=1) HX7.out;have c2:=aa (k:=2) HX7.out;have c3:=aa (k:=3) HX7.out;have c4:=aa (k:=4) HX7.out;have c5:=aa (k:=5) HX7.out;simp only[aW]at c0 c1 c2 c3 c4 c5;clear hb7;go_wp2_with fail;refine au [some 11,none,some 2] (by kernel_rfl) (by kernel_rfl) (by kernel_rfl) ?_;simp only[bh,List.take_succ_cons,List.take_zero,List.drop_succ_cons,List.drop_zero]
       obtain⟨wd,hwd⟩: ∃wd:World,wd=w7.drew:=⟨_,rfl⟩;rw[<-hwd];have HLD:=ab (show Below wr.heap.size wr wd by rw[hwd]; exact HL7.out.trans ((Below.refl w7.heap.size w7).drew.mono HL7.out.size));have HXD:=ab (show wd.heap[wr.heap.size]? =some (.cells #[.string e.path, .int .i64 e.kind, .int .i64 e.mode, .int .i64 e.time, .slice a1 e.data.length cap1, .string e.link] 79 (0,0)) by rw[hwd]; exact HX7.out)
       clear hwd c0 c1 c2 c3 c4 c5;have c0:=aa (k:=0) HXD.out;have c1:=aa (k:=1) HXD.out;have c2:=aa (k:=2) HXD.out;have c3:=aa (k:=3) HXD.out;have c4:=aa (k:=4) HXD.out;have c5:=aa (k:=5) HXD.out;simp only[aW]at c0 c1 c2 c3 c4 c5;have y0:=(HLD.out.cell (aK p0)).trans p0
       repeat (first | (refine aG rfl ?_; simp only[Act.put,az,aA,aB]) | (refine aS rfl (fun K hK=> ?_); go_simp; refine hK _ ?_; clear hK K))
       refine aR ?_;refine bJ rfl (fun K hK=> ?_);go_wp2_with (go_at_call 118; refine(oL f.path e.path c _ HPF.out HC.out).mono ?_; rintro e8' w8 ⟨rfl,hb8⟩; have HL8:=ab (HLD.out.trans (hb8.mono HLD.out.size)); clear hb8 c0 c1 c2 c3 c4 c5 y0)
       repeat (first | (refine aG rfl ?_; simp only[Act.put,az,aA,aB]) | (refine aS rfl (fun K hK=> ?_); go_simp; refine hK _ ?_; clear hK K))
       refine aR ?_;have HB9:=ab (ag HBR.out HL8.out);go_wp2_with fail;go_ret;exact⟨bQ (by rw[eF HL4.out HTR.out HAT.out (x:=1) HCA.out (by decide)]),HB9.out⟩
   ·have hk2:k=n:=by omega
    subst hk2;go_wp2_with fail;go_ret;exact⟨bQ (by rw[sY HL4.out (by rw[<-HN.out]; exact HTR.out)]),HBR.out⟩
end Go.Proofs.YtpffpjbkbaleiaaGreatDoor
namespace Go.Proofs.YtpffpjbkbaleiaaGreatDoor
open Go Go.RowKit Go.Maps
def rk (p:ByteArray×Int):Value×Value:=(.string p.1, .int .i64 p.2)
def gi (S:Nat->Prop) (w:World) (gv:Value) (gs:List (ByteArray×Int)):Prop:=
 (gv= .map none/\gs=[])\/ ∃b,gv= .map (some b)/\S b/\ci Tryz.prog 9 w b (gs.map rk)
theorem gi.keep {S:Nat->Prop} {w w':World} {gv:Value} {gs:List (ByteArray×Int)} (h:gi S w gv gs) (hs: ∀k,S k->k<w.heap.size->w'.heap[k]? =w.heap[k]?):gi S w' gv gs:=by
 rcases h with h | ⟨b,h1,h0,h2⟩
 ·exact .inl h
 ·exact .inr ⟨b,h1,h0,h2.same (hs b h0 h2.lt)⟩
theorem yq {S:Nat->Prop} {w:World} {gv:Value} {gs:List (ByteArray×Int)} (h:gi S w gv gs) {n:ByteArray} (hn:n.size<=maxLen):
  (Instr.lookup 47 gv (.string n) false).run Tryz.prog w= .ok (.int .i64 (iJ gs n)) w:=by
 have hz:(zeroValue 3).run Tryz.prog w= .ok (.int .i64 0) w:=by kernel_rfl
 obtain⟨l,hl⟩:=bX hn
 rcases h with⟨rfl,rfl⟩ | ⟨b,rfl,_,h2⟩
 ·have:=Maps.look_nil false bE (t:=47) (e:=3) dV hz hl
  simpa [iJ]using this
 ·unfold iJ
  cases hf:gs.find? (fun p=>decide (p.1=n))with
  | none=>
   have:=h2.is.miss bE dV hz ⟨l,hl⟩ (fun q hq e=>by
    obtain⟨x,hx,rfl⟩:=List.mem_map.1 hq;simp only[rk,Value.string.injEq]at e;have:=List.find?_eq_none.1 hf x hx;simp[e]at this) false
   simpa using this
  | some p=>
   have h3:=List.mem_of_find?_eq_some hf;have h4:=List.find?_some hf;simp only[decide_eq_true_eq]at h4;have:=h2.is.hit bE dV ⟨l,hl⟩ (val:= .int .i64 p.2) (List.mem_map.2 ⟨p,h3,by rw[<-h4]; rfl⟩) false
   simpa using this
def iu (v:Value) (b:bA):List Value:=[.string b.ref.name, .int .i64 b.ref.gen, .int .i64 b.ref.size,v]
abbrev gx :=Value×bA
def dN (zs:List gx):List Value:=zs.flatMap fun z=>iu z.1 z.2
theorem qI (zs:List gx) (z:gx):dN (zs++[z])=dN zs++iu z.1 z.2:=by simp[dN]
theorem oB {a:Option Addr} {n c:Nat} {b:bA} : ∀u∈iu (.slice a n c) b,u.oneCell'=true:=by
 intro u hu;simp only[iu,List.mem_cons,List.not_mem_nil,or_false]at hu
 rcases hu with rfl | rfl | rfl | rfl<;> rfl
theorem Tryz.appBlobs :eh Tryz.prog 49 53 4 56:=eh.mk' (z:= .agg #[.string ⟨#[]⟩, .int .i64 0, .int .i64 0, .slice none 0 0]) Tryz.underlying49 (by kernel_rfl) rfl (by decide) (by decide)
structure dt (w : World) (base : Nat) (v : Value) (zs : List gx) : Prop where
 row:w.ownsRow base 53 4 v zs.length (dN zs)
 dat: ∀z∈zs,w.ownsRow base 5 1 z.1 z.2.con.length (z.2.con.map an)
def fj (k:bu) (c:de) (gv:Value) (im kb:Nat) (v:Value):List Value:=cD k++cR c++[gv, .map (some im),v, .map (some kb)]
structure dD (w : World) (base bb : Nat) (k : bu) (c : de) (gv : Value) (im kb : Nat) (v : Value) (bs : List bA) : Prop where
 box:w.heap[bb]? =some (.cells (fj k c gv im kb v).toArray 122 (0,0))
 own: ∃zs:List gx,zs.map Prod.snd=bs/\dt w base v zs
 known:cT w kb (bs.map bA.ref)
structure cy (base bb kb : Nat) (v v' : Value) (w w' : World) : Prop where
 below:Below base w w'
 same: ∀k,k<w.heap.size->k≠bb->k≠kb->v.ownBlock≠some k->w'.heap[k]? =w.heap[k]?
 place: ∀k,v'.ownBlock=some k->v.ownBlock=some k\/w.heap.size<=k
theorem cy.refl (base bb kb:Nat) (v:Value) (w:World):cy base bb kb v v w w:=⟨Below.refl _ _,fun _ _ _ _ _=>rfl,fun _ h=> .inl h⟩
theorem cy.trans {base bb kb:Nat} {v v1 v2:Value} {A B C:World} (h:cy base bb kb v v1 A B) (k:cy base bb kb v1 v2 B C):cy base bb kb v v2 A C:=by
 have hs:=h.below.size;refine⟨h.below.trans k.below,fun i h1 h2 h2' h3=>(k.same i (by omega) h2 h2' (fun e=> ?_)).trans (h.same i h1 h2 h2' h3),fun i e=> ?_⟩
 ·rcases h.place i e with e2 | e2
  ·exact h3 e2
  ·omega
 ·rcases k.place i e with e2 | e2
  ·exact h.place i e2
  ·exact .inr (by omega)
theorem cy.ofBelow {base bb kb:Nat} {v:Value} {w w':World} (h:Below w.heap.size w w') (hb:base<=w.heap.size):cy base bb kb v v w w':=⟨h.mono hb,fun k h1 _ _ _=>h.block k h1,fun _ e=> .inl e⟩
theorem dt.below {w w':World} {base:Nat} {v:Value} {zs:List gx} (h:dt w base v zs) (hb:Below w.heap.size w w'):dt w' base v zs:=⟨aX h.row hb,fun z hz=>aX (h.dat z hz) hb⟩
theorem dD.below {w w':World} {base bb im kb:Nat} {k:bu} {c:de} {gv v:Value} {bs:List bA} (h:dD w base bb k c gv im kb v bs) (hb:Below w.heap.size w w'):dD w' base bb k c gv im kb v bs:=by
 obtain⟨zs,h1,h2⟩:=h.own;exact⟨(hb.block _ (lt_of_block h.box)).trans h.box,⟨zs,h1,h2.below hb⟩,h.known.same (hb.block _ h.known.map.lt)⟩
theorem dD.push {w w1 w2:World} {base bb im kb:Nat} {k:bu} {c:de} {gv v v' dv:Value} {bs:List bA} {zs:List gx} {b:bA} (hz:zs.map Prod.snd=bs) (h:dt w base v zs) (hx:w.heap[bb]? =some (.cells (fj k c gv im kb v).toArray 122 (0,0))) (hs:cT w kb ((bs++[b]).map bA.ref))
  (hb:Below w.heap.size w w1) (hn:w1.ownsRow base 5 1 dv b.con.length (b.con.map an)) (hown:w2.ownsRow base 53 4 v' (zs.length+1) (dN zs++iu dv b)) (hg:w1.grownBy w2 v.ownBlock) (hpl: ∀k,v'.ownBlock=some k->v.ownBlock=some k\/w1.heap.size<=k) (hbe:base<=bb) (hbz:base<=w.heap.size):
  dD (w2.setCell ⟨bb,12,none⟩ v') base bb k c gv im kb v' (bs++[b])/\cy base bb kb v v' w (w2.setCell ⟨bb,12,none⟩ v'):=by
 have h1:=h.below hb;have hx1:=(hb.block bb (lt_of_block hx)).trans hx;have hlt:=lt_of_block hx1;have hz1:=hb.size;have hne:v.ownBlock≠some bb:=fun e=>by
  obtain⟨cs,hc⟩:=ay h1.row e;exact absurd (aF hx1 hc) (by decide)
 have hne':v'.ownBlock≠some bb:=fun e=>by
  rcases hpl bb e with e | e
  ·exact hne e
  ·omega
 have hb2:=(hg.block bb hlt (fun e=>hne e.symm)).trans hx1;have hdat: ∀(u:Value) (ds:List UInt8),w1.ownsRow base 5 1 u ds.length (ds.map an)->(w2.setCell ⟨bb,12,none⟩ v').ownsRow base 5 1 u ds.length (ds.map an):=by
  intro u ds hd;refine cP hd (fun i hi hu=> ?_);obtain⟨cs,hc⟩:=ay hd hu;rw[Below.heap_setCell _ _ _ _ (show i≠bb from fun e=>absurd (aF (e▸hc) hx1) (by decide))];refine hg.block i hi (fun e=> ?_);obtain⟨cs2,hc2⟩:=ay h1.row e.symm;exact absurd (aF hc hc2) (by decide)
 have hkb:kb<w1.heap.size:=Nat.lt_of_lt_of_le hs.map.lt hz1;have hks:(w2.setCell ⟨bb,12,none⟩ v').heap[kb]? =w.heap[kb]? :=by
  rw[Below.heap_setCell _ _ _ _ (show kb≠bb from fun e=>hs.cells (by rw[e]; exact hx))];refine(hg.block kb hkb (fun e=> ?_)).trans (hb.block kb hs.map.lt);obtain⟨cs,hc⟩:=ay h.row e.symm;exact hs.cells hc
 refine⟨⟨?_,⟨zs++[(dv,b)],by simp[hz], ?_,fun z hz=> ?_⟩,hs.same hks⟩,⟨?_,fun i hi e1 e2 e3=> ?_,fun i e=> ?_⟩⟩
 ·have:=cQ (k:=12) hb2 v'
  simpa [fj,cD,cR]using this
 ·rw[List.length_append,List.length_singleton,qI];exact hown.kept (aD _ _ _ _) (.inr (fun e=>hne' e))
 ·rcases List.mem_append.1 hz with hz | hz
  ·exact hdat _ _ (h1.dat z hz)
  ·rw[List.mem_singleton]at hz;subst hz;exact hdat _ _ hn
 ·exact((hb.mono hbz).grown hg (Nat.le_trans hbz hz1) (fun i hi=>(h.row.lt i hi).1)).grown (aD w2 bb 12 v') (Nat.le_trans hbz (Nat.le_trans hz1 hg.size)) (fun i hi=>by cases hi; exact hbe)
 ·rw[Below.heap_setCell _ _ _ _ (show i≠bb from e1)];exact(hg.block i (by omega) (fun e=>e3 e.symm)).trans (hb.block i hi)
 ·rcases hpl i e with e | e
  ·exact .inl e
  ·exact .inr (by omega)
end Go.Proofs.YtpffpjbkbaleiaaGreatDoor
