/- Texts of this proof, one after the other: Refs24, AwP, BldF, BldG, AwQ, AwR, LookB, AwS, Few, Few24, File24, Ld24A, Luk24. -/
import Derived.Test.YtpffpjbkbaleiaaGreatDoorCLoadsG
set_option maxRecDepth 100000
set_option maxHeartbeats 8000000
namespace Go.Proofs.YtpffpjbkbaleiaaGreatDoor
open Go Go.RowKit Go.Maps
theorem xH {cs:List (ByteArray×List UInt8)} {r:aN} {l:List aB} (h:fc cs r= .ok l) {it:aB} (hit:it∈l): ∀c∈jN it,c∈kZ cs:=by
 unfold fc at h
 cases hn:cI cs r with
 | error x=>
  rw[hn]at h;simp only at h
  split at h
  ·simp only[Except.ok.injEq]at h; subst h; simp at hit
  ·simp at h
 | ok l'=>
  rw[hn]at h;simp only[Except.ok.injEq]at h;subst h;exact xC hn hit
theorem qx {cs:List (ByteArray×List UInt8)} {U:List aN} (hU: ∀c∈kZ cs,c∈U): ∀n,Ff U (eC (fc cs) n) n
 | 0=>fun r st hr hi hn=>by
  have:=mg hi.e1 hi.e2;omega
 | n+1=>fun r st hr hi hn=>by
  have hm:qA U (st.1,bm r st.2):=⟨hi.e1,hi.e2,jS hi.l1,fun x hx=>by
   rcases lY.1 hx with hx | rfl
   ·exact hi.l2 x hx
   ·exact hr⟩
  rw[eC]
  split
  ·exact⟨0,_,rfl,hm,Nat.le_refl _⟩
  ·rename_i hne;have he:qA U (st.1++[r],bm r st.2):=⟨List.nodup_append.2 ⟨hi.e1,by simp,fun a ha b hb e=>by simp only[List.mem_singleton]at hb; subst hb e; exact hne ha⟩,fun x hx=>by
    rcases List.mem_append.1 hx with hx | hx
    ·exact hi.e2 x hx
    ·simp only[List.mem_singleton]at hx; subst hx; exact hr,hm.l1,hm.l2⟩
   cases hv:fc cs r with
   | error x=>exact⟨x,_,rfl,he,by simp⟩
   | ok l=>
    obtain⟨x,st',h1,h2,h3⟩:=lq (qx hU n) l (st.1++[r],bm r st.2) (fun it hit c hc=>hU c (xH hv hit c hc)) he (by simp; omega);exact⟨x,st',h1,h2,by simp at h3; omega⟩
theorem pV (cs:List (ByteArray×List UInt8)) (r:aN): ∃x st',eC (fc cs) (no cs) r ([],[])=some (x,st')/\qA (r::kZ cs) st':=by
 obtain⟨x,st',h1,h2,_⟩:=qx (cs:=cs) (U:=r::kZ cs) (fun c hc=>by simp[hc]) (no cs) r ([],[]) (by simp) ⟨by simp,by simp,by simp,by simp⟩ (by simp[no]);exact⟨x,st',h1,h2⟩
def yO (cs:List (ByteArray×List UInt8)) (r:aN):Except Int (List aN):=(me (fc cs) (no cs) r).getD (.error 0)
def Cs (cs:List (ByteArray×List UInt8)) (r:aN):Except Int (List aN):=Fi cs (yO cs r)
theorem pU {cs:List (ByteArray×List UInt8)} (h:cs.length<=80) (r:aN):me (fc cs) (no cs) r=some (yO cs r)/\ ∀p,eC (fc cs) (no cs) r ([],[])=some p->p.2.2.length<=1000000000:=by
 obtain⟨x,st',h1,h2⟩:=pV cs r;refine⟨?_,fun p hp=> ?_⟩
 ·unfold yO;have: ∃y,me (fc cs) (no cs) r=some y:=by
   unfold me
   split
   ·rw[h1]; exact⟨_,rfl⟩
   ·exact⟨_,rfl⟩
  obtain⟨y,hy⟩:=this;rw[hy]; rfl
 ·rw[h1]at hp;simp only[Option.some.injEq]at hp;subst hp;have h3:=mg h2.l1 h2.l2;have h4:=zE (cs:=cs);have h5:cs.length*3948544<=80*3948544:=Nat.mul_le_mul_right _ h;simp only[List.length_cons]at h3;simp only;omega
theorem CO {cs:List (ByteArray×List UInt8)} (h:cs.length<=80) {r:aN} {l:List aN} (hl:yO cs r= .ok l):l.length<=1000000000:=by
 obtain⟨h1,h2⟩:=pU h r;obtain⟨x,st',h3,_⟩:=pV cs r;have h4:=h2 _ h3;rw[hl]at h1;unfold me at h1
 split at h1
 ·rw[h3]at h1;simp only[Option.map_some,Option.some.injEq]at h1
  split at h1
  ·simp only[Except.ok.injEq]at h1; subst h1; exact h4
  ·simp at h1
 ·simp at h1
theorem qJ {cs:List (ByteArray×List UInt8)} (h:cs.length<=80):DW cs (Cs cs):=fun S cv root w hc he hr=>by
 obtain⟨h1,h2⟩:=pU h root;exact tC S cv cs (no cs) root _ w hc he hr h1 (fun p hp=>by have:=h2 p hp; omega) (fun rs hrs=>by have:=CO h hrs; omega)
end Go.Proofs.YtpffpjbkbaleiaaGreatDoor
namespace Go.Proofs.YtpffpjbkbaleiaaGreatDoor
open Go.RowKit
def pH (c:UInt8):ByteArray:=⟨#[c,49,50,51,52,53,54,55,56,57,97,98,99,100,101,102,48,49,50,51,52,53,54,55,56,57,97,98,99,100,101,102]⟩
def dh :bH:=⟨pH 110,pH 115,pH 99,pH 105,pH 116⟩
def jI :dK:=⟨2,6,1,1,0⟩
def iq :List bp:=[⟨⟨#[97]⟩,1,0,0,[],⟨#[]⟩⟩,⟨⟨#[100]⟩,2,0,0,[],⟨#[]⟩⟩,⟨⟨#[100,47,108]⟩,3,5,6,[],⟨#[97]⟩⟩]
def kH :List UInt8:=[1,1,108,3,5,6,1,97]
def jZ :aN:=bc dh [] kH
def lT :aB:=⟨⟨#[97]⟩,1,0,0,0,⟨#[]⟩,[],bg⟩
def Bl :aB:=⟨⟨#[100]⟩,2,0,0,0,⟨#[]⟩,[],jZ⟩
def itL :aB:=⟨⟨#[108]⟩,3,5,6,0,⟨#[97]⟩,[],bg⟩
def mG :List UInt8:=dP [lT,Bl]
def fW :aN:=bc dh [] mG
def pd :List (ByteArray×List UInt8):=[(fW.name,mG)]
theorem vk :fP dh=true:=by decide+kernel
theorem yC :iH jI=true:=by decide+kernel
theorem Dx :cX iq=0:=by decide+kernel
theorem El :dP [itL]=kH:=by decide+kernel
theorem FF :cz iq ⟨#[]⟩=[⟨⟨#[97]⟩,1,0,0,[],⟨#[]⟩⟩,⟨⟨#[100]⟩,2,0,0,[],⟨#[]⟩⟩]:=by decide+kernel
theorem FG :cz iq ⟨#[100]⟩=[⟨⟨#[100,47,108]⟩,3,5,6,[],⟨#[97]⟩⟩]:=by decide+kernel
theorem FD :bB [0]=some []:=by kernel_rfl
theorem vn0 :cr []=true:=by decide+kernel
theorem vnL :cr [itL]=true:=by decide+kernel
theorem vnT :cr [lT,Bl]=true:=by decide+kernel
theorem Gu :jZ≠fW:=by decide+kernel
theorem FL :jZ.name≠fW.name:=by decide+kernel
theorem GA (n:Nat):cL dh [] jI [] (n+1) ⟨#[]⟩= .ok ([0],[[0]]):=by
 rw[cL,show dw dh [] jI (cL dh [] jI [] n) ⟨#[]⟩ (cz [] ⟨#[]⟩) [] []= .ok ([],[])from rfl];simp only[if_pos vn0];rw[if_pos (show(dP []).length<=32768 by decide)]
 rfl
theorem GI :bI dh [] [[0]] []=[⟨bc dh [] [0],[0]⟩]:=by
 show gI dh [] [] [0]=_
 unfold gI;rw[if_neg (by simp),List.nil_append]
theorem Fx :cW dh jI [] []= .ok (bc dh [] [0],[⟨bc dh [] [0],[0]⟩]):=by
 unfold cW;rw[if_pos ⟨vk,yC⟩,if_pos (show([]:List (ByteArray×Int)).all (fun p=>decide (0<=p.2) && decide (p.2<=1099511627776))=true from rfl),if_pos (show cX []=0 from rfl),GA 513]
 dsimp only
 rw[GI]
theorem Gs :bI dh [] [kH,mG] []=[⟨jZ,kH⟩,⟨fW,mG⟩]:=by
 unfold bI;rw[List.foldl_cons,List.foldl_cons,List.foldl_nil];have h1:gI dh [] [] kH=[⟨jZ,kH⟩]:=by
  unfold gI;rw[if_neg (by simp),List.nil_append]
  rfl
 rw[h1];unfold gI;rw[if_neg]
 ·rfl
 ·intro h;simp only[List.map_cons,List.map_nil,List.mem_singleton]at h;exact Gu h.symm
theorem GB (n:Nat):cL dh [] jI iq (n+1) ⟨#[100]⟩= .ok (kH,[kH]):=by
 have h:dw dh [] jI (cL dh [] jI iq n) ⟨#[100]⟩ (cz iq ⟨#[100]⟩) [] []= .ok ([itL],[]):=by
  rw[FG]; rfl
 rw[cL,h];simp only[if_pos vnL,El]
 rfl
theorem GC (n:Nat):cL dh [] jI iq (n+2) ⟨#[]⟩= .ok (mG,[kH,mG]):=by
 have h:dw dh [] jI (cL dh [] jI iq (n+1)) ⟨#[]⟩ (cz iq ⟨#[]⟩) [] []= .ok ([lT,Bl],[kH]):=by
  rw[FF];rw[rV (by rfl),pI (by rfl),show cL dh [] jI iq (n+1) ⟨#[100]⟩= .ok (kH,[kH])from GB n]
  rfl
 rw[cL,h];simp only[if_pos vnT];rw[if_pos (show(dP [lT,Bl]).length<=32768 by decide+kernel)]
 rfl
theorem Fy :cW dh jI iq []= .ok (fW,[⟨jZ,kH⟩,⟨fW,mG⟩]):=by
 unfold cW;rw[if_pos ⟨vk,yC⟩,if_pos (by rfl),if_pos Dx,show(514:Nat)=512+2 from rfl,GC 512]
 show Except.ok (fW,bI dh [] [kH,mG] [])=_
 rw[Gs]
theorem FE :bB mG=some [lT,Bl]:=by kernel_rfl
theorem GH :((mG.length:Nat):Int)=fW.size:=by kernel_rfl
theorem CC :cI pd fW= .ok [lT,Bl]:=by
 have h:cy pd fW= .ok mG:=by
  unfold cy pd;rw[dg,if_pos rfl]
  show(if((mG.length:Nat):Int)=fW.size then Except.ok mG else .error 9)=_
  rw[if_pos GH]
 unfold cI;rw[h];simp only[FE]
theorem Fk :cI pd jZ= .error 10:=by
 have h:cy pd jZ= .error 10:=by
  unfold cy pd;rw[dg,if_neg (fun e=>FL e.symm),dg]
 unfold cI;rw[h]
theorem DD :dJ fW=true:=by decide+kernel
theorem Gk (n:Nat):cA pd (bD pd (n+1)) ⟨#[]⟩ [lT,Bl] []=(10,[⟨⟨#[97]⟩,1,0,0,[],⟨#[]⟩⟩,⟨⟨#[100]⟩,2,0,0,[],⟨#[]⟩⟩]):=by
 rw[ly (p:=⟨#[97]⟩) (bs:=[]) rfl (by decide+kernel) (by decide) rfl rfl,kC (p:=⟨#[100]⟩) rfl (by decide+kernel) (by decide) rfl];have h1: ∀X,bD pd (n+1) ⟨#[100]⟩ Bl.node X=(10,X):=fun X=>by
  rw[bD,show Bl.node=jZ from rfl,Fk]
 rw[h1]
 rfl
theorem Gl (n:Nat):bD pd (n+2) ⟨#[]⟩ fW []=(10,[⟨⟨#[97]⟩,1,0,0,[],⟨#[]⟩⟩,⟨⟨#[100]⟩,2,0,0,[],⟨#[]⟩⟩]):=by
 rw[bD,CC];exact Gk n
theorem Gj :fp pd fW= .error 10:=by
 unfold fp;rw[if_pos DD,show(514:Nat)=512+2 from rfl,Gl 512]
 rfl
theorem Gm :eN pd fW ⟨#[97]⟩= .ok lT:=by
 unfold eN;rw[if_pos ⟨by decide+kernel,DD⟩,show jr (bl ⟨#[97]⟩)=[⟨#[97]⟩] by decide+kernel];rw[iT,if_pos (show(gj fW).kind=2 from rfl),show(gj fW).node=fW from rfl,CC]
 rfl
theorem FI :eN pd fW ⟨#[100,47,108]⟩= .error 10:=by
 unfold eN;rw[if_pos ⟨by decide+kernel,DD⟩,show jr (bl ⟨#[100,47,108]⟩)=[⟨#[100]⟩,⟨#[108]⟩] by decide+kernel];rw[iT,if_pos (show(gj fW).kind=2 from rfl),show(gj fW).node=fW from rfl,CC]
 show iT pd [⟨#[108]⟩] Bl=_
 rw[iT,if_pos (show Bl.kind=2 from rfl),show Bl.node=jZ from rfl,Fk]
theorem Gn :Cs pd fW= .ok [jZ]:=by kernel_rfl
end Go.Proofs.YtpffpjbkbaleiaaGreatDoor
namespace Go.Proofs.YtpffpjbkbaleiaaGreatDoor
open Go Go.RowKit Go.Maps
theorem ik {tree:List bp} {j:Nat} {e:bp} (h:tree[j]? =some e) (d:ByteArray):cz (tree.take (j+1)) d=cz (tree.take j) d++(if aU (bl e.path)=bl d then [e]else []):=by
 unfold cz;rw[bZ h,List.filter_append]
 congr 1
 by_cases hp:aU (bl e.path)=bl d
 ·simp[hp]
 ·simp[hp]
theorem nk {G:List ua} {d:ByteArray} (h:G.find? (fun g=>decide (g.dir=d))=none):fw G d=[]:=by unfold fw; rw[h]
theorem gY {G:List ua} {d:ByteArray} {g:ua} (h:G.find? (fun g=>decide (g.dir=d))=some g):fw G d=g.ents.map Prod.snd:=by unfold fw; rw[h]
theorem nn {A B:List ua} {g g':ua} (hd:g'.dir=g.dir) (hA: ∀x∈A,x.dir≠g.dir) (d:ByteArray):fw (A++g'::B) d=if g.dir=d then g'.ents.map Prod.snd else fw (A++g::B) d:=by
 by_cases h:g.dir=d
 ·rw[if_pos h];refine gY ?_;rw[List.find?_append,List.find?_eq_none.2 (fun x hx=>by rw[decide_eq_true_eq]; intro e; exact hA x hx (e.trans h.symm))];simp[hd,h]
 ·rw[if_neg h];unfold fw;rw[List.find?_append,List.find?_append,List.find?_cons,List.find?_cons,decide_eq_false (show ¬g'.dir=d by rw[hd]; exact h),decide_eq_false h]
theorem pp {G:List ua} {g:ua} (h:G.find? (fun x=>decide (x.dir=g.dir))=none) (d:ByteArray):fw (G++[g]) d=if g.dir=d then g.ents.map Prod.snd else fw G d:=by
 by_cases hd:g.dir=d
 ·rw[if_pos hd];refine gY ?_;rw[<-hd,List.find?_append,h];simp
 ·rw[if_neg hd];unfold fw;rw[List.find?_append]
  cases G.find? (fun x=>decide (x.dir=d))with
  | none=>simp[hd]
  | some x=>simp
section
variable {w w1 w2 : World} {base im : Nat} {A B G : List ua} {g : ua} {v' : Value} {y : gP} {q : ByteArray}
theorem jC.over (h:jC w base im (A++g::B)) (hb:base<=im) (hd:bw (· <base) w y.1 y.2.data/\dL y.2) (hown:w1.ownsRow base 79 6 v' (g.ents.length+1) (bY g.ents++mI y.1 y.2)) (hg:w.grownBy w1 g.val.ownBlock) (hpl: ∀i,v'.ownBlock=some i->g.val.ownBlock=some i\/w.heap.size<=i)
  (hm:cT Tryz.prog 9 w2 im (A.map gD++(.string g.dir,v')::B.map gD)) (hg2:w1.grownBy w2 (some im)):jC w2 base im (A++⟨g.dir,v',g.ents++[y]⟩::B):=by
 have hgo:w.ownsRow base 79 6 g.val g.ents.length (bY g.ents):=h.own g (by simp);have him:w.heap[im]? =w1.heap[im]? ->True:=fun _=>trivial
 have hmc: ∀ {u:Value} {n:Nat} {xs:List Value} {t:TypeId} {sz:Nat},w1.ownsRow base t sz u n xs->w2.ownsRow base t sz u n xs:=fun {u n xs t sz} hr=>by
  refine hr.kept hg2 (.inr (fun e=> ?_));obtain⟨cs,hc⟩:=aA hr e;have h0:=h.map.lt;have hi:w1.heap[im]? =w.heap[im]? :=hg.block im h0 (fun e2=>by
   obtain⟨cs2,hc2⟩:=aA hgo e2.symm;exact h.map.ncells hc2)
  exact h.map.ncells (hi.symm.trans hc)
 have hoth: ∀x,x∈A\/x∈B-> ∀i,x.val.ownBlock=some i->g.val.ownBlock≠some i:=by
  intro x hx i hi;have hp:=List.pairwise_append.1 h.apart
  rcases hx with hx | hx
  ·exact hp.2.2 x hx g (by simp) i hi
  ·intro e;exact(List.pairwise_cons.1 hp.2.1).1 x hx i e hi
 have hdat: ∀ {u:Value} {bs:List UInt8},bw (· <base) w u bs->bw (· <base) w2 u bs:=fun {u bs} hu=>by
  refine aT.same hu (fun i hi=>(hg2.block i ?_ ?_).trans (hg.block i ?_ ?_))
  ·by_cases hlt:i<w.heap.size
   ·exact Nat.lt_of_lt_of_le hlt hg.size
   ·exact absurd h.map.lt (by omega)
  ·intro e;have:i=im:=by simpa using e
   omega
  ·have:=h.map.lt;omega
  ·intro e;have:=(hgo.lt i e.symm).1;omega
 have hmem: ∀x,x∈A++g::B->(x∈A\/x∈B)\/x=g:=by
  intro x hx;simp only[List.mem_append,List.mem_cons]at hx
  rcases hx with hx | hx | hx
  ·exact .inl (.inl hx)
  ·exact .inr hx
  ·exact .inl (.inr hx)
 refine⟨by simpa [gD]using hm,fun x hx=> ?_,fun x hx z hz=> ?_, ?_,fun x hx=> ?_⟩
 ·simp only[List.mem_append,List.mem_cons]at hx
  rcases hx with hx | hx | hx
  ·refine hmc ((h.own x (by simp[hx])).kept hg ?_)
   cases hv:x.val.ownBlock with
   | none=>exact .inl rfl
   | some i=>exact .inr (fun e=>hoth x (.inl hx) i hv e.symm)
  ·subst hx;simp only;rw[List.length_append,List.length_singleton,ld];exact hmc hown
  ·refine hmc ((h.own x (by simp[hx])).kept hg ?_)
   cases hv:x.val.ownBlock with
   | none=>exact .inl rfl
   | some i=>exact .inr (fun e=>hoth x (.inr hx) i hv e.symm)
 ·simp only[List.mem_append,List.mem_cons]at hx
  rcases hx with hx | hx | hx
  ·have:=h.dat x (by simp[hx]) z hz;exact⟨hdat this.1,this.2⟩
  ·subst hx
   rcases List.mem_append.1 hz with hz | hz
   ·have:=h.dat g (by simp) z hz;exact⟨hdat this.1,this.2⟩
   ·rw[List.mem_singleton]at hz;subst hz;exact⟨hdat hd.1,hd.2⟩
  ·have:=h.dat x (by simp[hx]) z hz;exact⟨hdat this.1,this.2⟩
 ·have hp:=List.pairwise_append.1 h.apart;have hc:=List.pairwise_cons.1 hp.2.1;have hlow: ∀x,x∈A\/x∈B-> ∀i,x.val.ownBlock=some i->i<w.heap.size:=by
   intro x hx i hi;have hx2:x∈A++g::B:=by rcases hx with hx | hx<;> simp[hx]
   exact((h.own x hx2).lt i hi).2
  refine List.pairwise_append.2 ⟨hp.1,List.pairwise_cons.2 ⟨fun x hx i hi e=> ?_,hc.2⟩,fun x hx z hz i hi e=> ?_⟩
  ·rcases hpl i hi with h2 | h2
   ·exact hc.1 x hx i h2 e
   ·have:=hlow x (.inr hx) i e;omega
  ·rcases List.mem_cons.1 hz with hz | hz
   ·subst hz
    rcases hpl i e with h2 | h2
    ·exact hoth x (.inl hx) i hi h2
    ·have:=hlow x (.inl hx) i hi;omega
   ·exact hp.2.2 x hx z (by simp[hz]) i hi e
 ·simp only[List.mem_append,List.mem_cons]at hx
  rcases hx with hx | hx | hx
  ·exact h.key x (by simp[hx])
  ·subst hx;exact h.key g (by simp)
  ·exact h.key x (by simp[hx])
theorem jC.new (h:jC w base im G) (hb:base<=im) (hq:q.size<=maxLen) (hd:bw (· <base) w y.1 y.2.data/\dL y.2) (hown:w1.ownsRow base 79 6 v' 1 (mI y.1 y.2)) (hg:w.grownBy w1 none) (hpl: ∀i,v'.ownBlock=some i->w.heap.size<=i)
  (hm:cT Tryz.prog 9 w2 im (G.map gD++[(.string q,v')])) (hg2:w1.grownBy w2 (some im)):jC w2 base im (G++[⟨q,v',[y]⟩]):=by
 have hmc: ∀ {u:Value} {n:Nat} {xs:List Value} {t:TypeId} {sz:Nat},w1.ownsRow base t sz u n xs->w2.ownsRow base t sz u n xs:=fun {u n xs t sz} hr=>by
  refine hr.kept hg2 (.inr (fun e=> ?_));obtain⟨cs,hc⟩:=aA hr e;have h0:=h.map.lt;have hi:w1.heap[im]? =w.heap[im]? :=hg.block im h0 (by simp);exact h.map.ncells (hi.symm.trans hc)
 have hdat: ∀ {u:Value} {bs:List UInt8},bw (· <base) w u bs->bw (· <base) w2 u bs:=fun {u bs} hu=>by
  have h0:=h.map.lt;refine aT.same hu (fun i hi=>(hg2.block i ?_ ?_).trans (hg.block i ?_ (by simp)))
  ·have:=hg.size;omega
  ·intro e;have:i=im:=by simpa using e
   omega
  ·skip
   omega
 refine⟨by simpa [gD]using hm,fun x hx=> ?_,fun x hx z hz=> ?_,List.pairwise_append.2 ⟨h.apart,by simp,fun x hx z hz i hi e=> ?_⟩,fun x hx=> ?_⟩
 ·rcases List.mem_append.1 hx with hx | hx
  ·exact hmc ((h.own x hx).kept hg (by cases hv:x.val.ownBlock<;> simp))
  ·rw[List.mem_singleton]at hx;subst hx
   simpa [bY]using hmc hown
 ·rcases List.mem_append.1 hx with hx | hx
  ·have:=h.dat x hx z hz;exact⟨hdat this.1,this.2⟩
  ·rw[List.mem_singleton]at hx;subst hx;simp only[List.mem_singleton]at hz;subst hz;exact⟨hdat hd.1,hd.2⟩
 ·rw[List.mem_singleton]at hz;subst hz;have h1:=hpl i e;have h2:=((h.own x hx).lt i hi).2;omega
 ·rcases List.mem_append.1 hx with hx | hx
  ·exact h.key x hx
  ·rw[List.mem_singleton]at hx;subst hx;exact hq
end
def zm (k:bH) (gs:List (ByteArray×Int)) (c:dK) (tree:List bp):List aN:=
 (tree.flatMap fun e=>(fG c e.data).map (bc k gs))++(List.range 515).flatMap fun n=>(⟨#[]⟩::tree.map bp.path).flatMap fun d=>match cL k gs c tree n d with
  | .ok p=>[bc k gs p.1]
  | .error _=>[]
theorem yo {k:bH} {gs:List (ByteArray×Int)} {c:dK} {tree:List bp} (hc:iH c=true) (hl:tree.length<=4096) (hv: ∀e∈tree,iI e=true):(zm k gs c tree).length<=100000000000:=by
 have h1:=fI (fun e:bp=>(fG c e.data).map (bc k gs)) 1048576 tree (fun e he=>by
  rw[List.length_map];have:=tp hc e.data;have:=(iQ (hv e he)).2.2
  omega)
 have h2:=fI (fun n:Nat=>(⟨#[]⟩::tree.map bp.path).flatMap fun d=>match cL k gs c tree n d with
  | .ok p=>[bc k gs p.1]
  | .error _=>[]) 4097 (List.range 515) (fun n _=>by
   have h3:=fI (fun d=>match cL k gs c tree n d with
    | .ok p=>[bc k gs p.1]
    | .error _=>[]) 1 (⟨#[]⟩::tree.map bp.path) (fun d _=>by
     cases cL k gs c tree n d<;> simp)
   simp only[List.length_cons,List.length_map]at h3
   omega)
 rw[List.length_range]at h2;have h4:tree.length*1048576<=4096*1048576:=Nat.mul_le_mul_right _ hl;unfold zm;rw[List.length_append];omega
theorem yq {k:bH} {gs:List (ByteArray×Int)} {c:dK} {tree:List bp} : ∀e∈tree,∀y∈fG c e.data,bc k gs y∈zm k gs c tree:=fun e he y hy=>
 List.mem_append.2 (.inl (List.mem_flatMap.2 ⟨e,he,List.mem_map.2 ⟨y,hy,rfl⟩⟩))
theorem yr {k:bH} {gs:List (ByteArray×Int)} {c:dK} {tree:List bp} : ∀(n:Nat) (d:ByteArray) (p:List UInt8×List (List UInt8)),n<=514->(d.size=0\/ ∃e∈tree,e.path=d)->cL k gs c tree n d= .ok p->bc k gs p.1∈zm k gs c tree:=fun n d p hn hd hp=>by
 refine List.mem_append.2 (.inr (List.mem_flatMap.2 ⟨n,List.mem_range.2 (by omega),List.mem_flatMap.2 ⟨d, ?_, ?_⟩⟩))
 ·rcases hd with hd | ⟨e,he,rfl⟩
  ·have:d=⟨#[]⟩:=by
    apply fg
    exact List.eq_nil_of_length_eq_zero (by rw[<-az]; exact hd)
   simp[this]
  ·exact List.mem_cons_of_mem _ (List.mem_map.2 ⟨e,he,rfl⟩)
 ·rw[hp]; simp
end Go.Proofs.YtpffpjbkbaleiaaGreatDoor
namespace Go.Proofs.YtpffpjbkbaleiaaGreatDoor
open Go Go.RowKit Go.Maps
theorem zw {a:Act} {w:World} {b:Nat} {x0 x1 x2 e9 e10:Value} (h:w.heap[b]? =some (.cells #[x0,x1,x2] 26 (0,0)))
  (h8:a.tmps[8]? =some (.pointer (some ⟨b,0,none⟩))) (h9:a.tmps[9]? =some e9) (h10:a.tmps[10]? =some e10):(results Tryz.f22 a.tmps).run Tryz.prog w= .ok (.tuple #[.agg #[x0,x1,x2],e9,e10]) w:=by
 have m0:=ak (k:=0) h;have m1:=ak (k:=1) h;have m2:=ak (k:=2) h;simp only[aP]at m0 m1 m2;simp[results,Tryz.results22,go_sem,h8,h9,h10,m0,m1,m2]
theorem dS {a:Act} {w:World} {b:Nat} {a0 a1 a2 x0 x1 x2 e9 e10:Value} {Q:Ending->World->Prop} (h:w.heap[b]? =some (.cells #[a0,a1,a2] 26 (0,0)))
  (h8:a.tmps[8]? =some (.pointer (some ⟨b,0,none⟩))) (h9:a.tmps[9]? =some e9) (h10:a.tmps[10]? =some e10) (hd:a.defers=[])
  (hQ:Q (.returned (.tuple #[.agg #[x0,x1,x2],e9,e10])) (((w.setCell ⟨b,0,none⟩ x0).setCell ⟨b,1,none⟩ x1).setCell ⟨b,2,none⟩ x2)):
  bodyPost Tryz.prog Tryz.f22 Q Exit.ret a (((w.setCell ⟨b,0,none⟩ x0).setCell ⟨b,1,none⟩ x1).setCell ⟨b,2,none⟩ x2):=bodyPost_ret (zw (Di h) h8 h9 h10) hd hQ
def uc (res:Except Int (aN×List bN)) (w:World) (e:Ending) (w':World):Prop:=Below w.heap.size w w'/\match res with
 | .error x=>e= .returned (.tuple #[.agg #[.string ⟨#[]⟩, .int .i64 0, .int .i64 0], .slice none 0 0, .int .i64 x])/\x≠0
 | .ok p=> ∃v zs,e= .returned (.tuple #[bu p.1,v, .int .i64 0])/\zs.map Prod.snd=p.2/\dY w' w.heap.size v zs
theorem dY.other {w w':World} {base B b:Nat} {v:Value} {zs:List iL} {cs:Array Value} {t:TypeId} {z:Nat×Nat} (h:dY w base v zs) (hb:w.heap[b]? =some (.cells cs t z)) (h1:t≠53) (h2:t≠5) (hB:B<=base) (hs: ∀i,i≠b->w'.heap[i]? =w.heap[i]?):dY w' B v zs:=by
 refine⟨ci (cZ h.row (fun i hi hu=>hs i (fun e=> ?_))) hB,fun y hy=>ci (cZ (h.dat y hy) (fun i hi hu=>hs i (fun e=> ?_))) hB⟩
 ·subst e;obtain⟨cs2,hc2⟩:=aA h.row hu;exact h1 (aK hb hc2)
 ·subst e;obtain⟨cs2,hc2⟩:=aA (h.dat y hy) hu;exact h2 (aK hb hc2)
theorem yy (S:Nat->Prop) (L:List bp) (v:Value) (x:Int) (w:World) (hv:cD S w v L) (henv:gN w) (hx:cX L=x):Calls Tryz.prog 71 #[v] w fun e w'=>e= .returned (.int .i64 x)/\Below w.heap.size w w':=by
 rw[<-hx]; exact zz S L v w hv henv
theorem ep.nilKeep {w w':World} {base bb im kb:Nat} {k:bH} {c:dK} {gv:Value} (h:ep w base bb k c gv im kb (.slice none 0 0) []) (hs:w'.heap[bb]? =w.heap[bb]?) (hk:w'.heap[kb]? =w.heap[kb]?):ep w' base bb k c gv im kb (.slice none 0 0) []:=
 ⟨hs.trans h.box,⟨[],rfl,World.ownsRow_nil _ _ _ _,by simp⟩,h.known.same hk⟩
structure BgI (w4 : World) (base bb im kb : Nat) (k : bH) (c : dK) (gv : Value) (T : List bp) (wr : World) (G : List ua) : Prop where
 bd:ep wr base bb k c gv im kb (.slice none 0 0) []
 grp:jC wr base im G
 ents: ∀d,fw G d=cz T d
 below:Below base w4 wr
theorem rj (S T:Nat->Prop) (k:bH) (c:dK) (tree:List bp) (gs:List (ByteArray×Int)) (tv gv:Value) (w:World) (hsd:c.seed<18446744073709551616) (ht:cD S w tv tree) (hg:iw T w gv gs) (hE:kQ w):
  Calls Tryz.prog 22 #[iS k,fH c,tv,gv] w (uc (cW k c tree gs) w):=by
 obtain⟨ta,tc,rfl,htn,htm,-⟩:=aS.shape ht lD.len;unfold maxLen at htm;obtain⟨n,hn⟩: ∃n,n=tree.length:=⟨_,rfl⟩;rw[<-hn]at ht htn ⊢;have HN:=ag hn;have HT:=ag ht;have HG:=ag hg;have HE:=ag hE;obtain⟨W0,hW0⟩: ∃W0,W0=((w.alloc (.cells #[.string k.nm, .string k.st, .string k.ck, .string k.ix, .string k.tk] 42)).alloc (.cells #[.int .i64 c.mn, .int .i64 c.mx, .int .i64 c.win, .int .i64 c.bits, .int .u64 (c.seed:Int)] 45)).alloc (.cells #[.string ⟨#[]⟩, .int .i64 0, .int .i64 0] 26):=⟨_,rfl⟩
 have hb0:Below w.heap.size w W0:=by rw[hW0]; exact(((Below.refl _ _).alloc (Nat.le_refl _) _).alloc (by simp) _).alloc (by simp; omega) _
 have HB0:=ag hb0;have HKX:=ag (show W0.heap[w.heap.size]? =some (.cells #[.string k.nm, .string k.st, .string k.ck, .string k.ix, .string k.tk] 42 (0,0)) by rw[hW0]; exact cQ (cQ (bS w _) _) _);have HCX:=ag (show W0.heap[w.heap.size+1]? =some (.cells #[.int .i64 c.mn, .int .i64 c.mx, .int .i64 c.win, .int .i64 c.bits, .int .u64 (c.seed:Int)] 45 (0,0)) by rw[hW0]; exact cQ (jT w _ _) _)
 have HRX:=ag (show W0.heap[w.heap.size+2]? =some (.cells #[.string ⟨#[]⟩, .int .i64 0, .int .i64 0] 26 (0,0)) by
  rw[hW0];have:=bS ((w.alloc (.cells #[.string k.nm, .string k.st, .string k.ck, .string k.ix, .string k.tk] 42)).alloc (.cells #[.int .i64 c.mn, .int .i64 c.mx, .int .i64 c.win, .int .i64 c.bits, .int .u64 (c.seed:Int)] 45)) (.cells #[.string ⟨#[]⟩, .int .i64 0, .int .i64 0] 26);rw[show((w.alloc (.cells #[.string k.nm, .string k.st, .string k.ck, .string k.ix, .string k.tk] 42)).alloc (.cells #[.int .i64 c.mn, .int .i64 c.mx, .int .i64 c.win, .int .i64 c.bits, .int .u64 (c.seed:Int)] 45)).heap.size=w.heap.size+2 by simp]at this
  exact this)
 have hsc:=qS k W0 (hE.below hb0).envh;unfold iS at hsc ⊢;unfold fH;have HSC:=ag hsc;clear ht hg hE hn hb0 hsc
 go_enter Tryz.func22,Tryz.ntmps22
 go_upto_region 1 with(fail)
 rw[<-hW0];clear hW0;have a0:=af (k:=0) HKX.out;have a1:=af (k:=1) HKX.out;have a2:=af (k:=2) HKX.out;have a3:=af (k:=3) HKX.out;have a4:=af (k:=4) HKX.out;simp only[aP]at a0 a1 a2 a3 a4
 cases hkv:fP k with
 | false=>
  rw[hkv]at HSC;have HM:=ag (show cW k c tree gs= .error 1 by unfold cW; rw[if_neg (by rw[hkv]; simp)]);clear hkv;go_wp2_with fail;refine HSC.out.mono ?_;rintro e w1 ⟨⟨sv,rfl⟩,hb1⟩;have HB1:=ag (ai HB0.out hb1);have HR1:=ag ((hb1.block _ (lt_of_block HRX.out)).trans HRX.out);clear hb1 a0 a1 a2 a3 a4;have z0:=af (k:=0) HR1.out;have z1:=af (k:=1) HR1.out
  have z2:=af (k:=2) HR1.out;have y0:=aj (k:=0) HR1.out;have y1:=aj (k:=1) HR1.out;have y2:=aj (k:=2) HR1.out;simp only[aP]at z0 z1 z2;go_wp2_with fail;refine dS HR1.out rfl rfl rfl rfl ⟨dn HB1.out (by show w.heap.size<=w.heap.size+2; omega), ?_⟩;rw[HM.out];exact⟨rfl,by decide⟩
 | true=>
  rw[hkv]at HSC;have HKV:=ag hkv;go_wp2_with fail;refine HSC.out.mono ?_;rintro e w1 ⟨⟨sv,rfl⟩,hb1⟩;have HB1:=ag (ai HB0.out hb1);have HW1:=ag hb1;have HR1:=ag ((hb1.block _ (lt_of_block HRX.out)).trans HRX.out);have HK1:=ag ((hb1.block _ (lt_of_block HKX.out)).trans HKX.out);have HC1:=ag ((hb1.block _ (lt_of_block HCX.out)).trans HCX.out);clear hb1 a0 a1 a2 a3 a4;have b0:=af (k:=0) HC1.out
  have b1:=af (k:=1) HC1.out;have b2:=af (k:=2) HC1.out;have b3:=af (k:=3) HC1.out;have b4:=af (k:=4) HC1.out;simp only[aP]at b0 b1 b2 b3 b4
  cases hcv:iH c with
  | false=>
   have HCV:=ag hcv;have HM:=ag (show cW k c tree gs= .error 1 by unfold cW; rw[if_neg (by rw[hcv]; simp)]);have hvc:=gX c false w1 hcv;unfold fH at hvc;have HVC:=ag hvc;clear hkv hcv hvc;go_wp2_with fail;refine HVC.out.mono ?_;rintro e w2 ⟨rfl,hb2⟩;have HB2:=ag (ai HB1.out hb2);have HR2:=ag ((hb2.block _ (lt_of_block HR1.out)).trans HR1.out);clear hb2 b0 b1 b2 b3 b4
   have z0:=af (k:=0) HR2.out;have z1:=af (k:=1) HR2.out;have z2:=af (k:=2) HR2.out;have y0:=aj (k:=0) HR2.out;have y1:=aj (k:=1) HR2.out;have y2:=aj (k:=2) HR2.out;simp only[aP]at z0 z1 z2;go_wp2_with fail;refine dS HR2.out rfl rfl rfl rfl ⟨dn HB2.out (by show w.heap.size<=w.heap.size+2; omega), ?_⟩;rw[HM.out];exact⟨rfl,by decide⟩
  | true=>
   have HCV:=ag hcv;have HM0:=ag (show cW k c tree gs=(if(gs.all fun p=>decide (0<=p.2) && decide (p.2<=1099511627776))=true then
    (if cX tree=0 then(match cL k gs c tree 514 ⟨#[]⟩with
     | .error x=> .error x
     | .ok p=> .ok (bc k gs p.1,bI k gs p.2 []))
    else .error (cX tree))else .error 1) by unfold cW; rw[if_pos ⟨hkv,hcv⟩]; rfl)
   have hvc:=gX c true w1 hcv;unfold fH at hvc;have HVC:=ag hvc;clear hkv hcv hvc;go_wp2_with fail;refine HVC.out.mono ?_;rintro e w2 ⟨rfl,hb2⟩;have HB2:=ag (ai HB1.out hb2);have HR2:=ag ((hb2.block _ (lt_of_block HR1.out)).trans HR1.out);have HK2:=ag ((hb2.block _ (lt_of_block HK1.out)).trans HK1.out);have HC2:=ag ((hb2.block _ (lt_of_block HC1.out)).trans HC1.out)
   clear hb2 b0 b1 b2 b3 b4
   rcases HG.out with⟨rfl,hgs⟩ | ⟨gb,rfl,hTg,hgm⟩
   ·have HGS:=ag hgs;have hr:=fun(w:World)=>run_range_nilMap (P:=Tryz.prog) w 47 9 3 Tryz.underlying47
    have hnx:=fun(w:World) (ty:TypeId) (a b:Nat) (s:Array Nat)=>run_next_nilMap (P:=Tryz.prog) w ty a b s
    clear hgs;go_wp2_with fail;obtain⟨W3,hW3⟩: ∃W3:World,W3=w2.alloc (.mapIter none 0 #[] 0):=⟨_,rfl⟩;have hnx2: ∀ty,(Instr.next (.pointer (some ⟨w2.heap.size,0,none⟩)) false ty).run Tryz.prog W3= .ok (.tuple #[.bool false]) W3:=by rw[hW3]; exact fun ty=>hnx w2 ty _ _ _
    have hb3:Below w2.heap.size w2 W3:=by rw[hW3]; exact(Below.refl _ _).alloc (Nat.le_refl _) _
    have HB3:=ag (ai HB2.out hb3);have HR3:=ag ((hb3.block _ (lt_of_block HR2.out)).trans HR2.out);have HK3:=ag ((hb3.block _ (lt_of_block HK2.out)).trans HK2.out);have HC3:=ag ((hb3.block _ (lt_of_block HC2.out)).trans HC2.out);have HALL:=ag (show gs.all (fun p=>decide (0<=p.2) && decide (p.2<=1099511627776))=true by rw[HGS.out]; rfl);rw[<-hW3];clear hr hnx hb3 hW3
    go_loopw [14] (fun _ wr=>wr=W3) (fun _ _=>0)
    case atStart=>rfl
    case round=>
     subst hrel
     go_upto_region 9 with(fail)
     have HM1:=ag (show cW k c tree gs=(if cX tree=0 then(match cL k gs c tree 514 ⟨#[]⟩with
      | .error x=> .error x
      | .ok p=> .ok (bc k gs p.1,bI k gs p.2 []))
     else .error (cX tree)) by rw[HM0.out,if_pos HALL.out])
     have htr:cD S (wr) (.slice ta n tc) tree:=cD.below HT.out HB3.out;have hev:=HE.out.below HB3.out;obtain⟨x,hx⟩: ∃x,cX tree=x:=⟨_,rfl⟩;have hck:=yy S tree (.slice ta n tc) x (wr) htr hev.env hx;have HCK:=ag hck;have HCX2:=ag hx;clear htr hev hck hx;go_wp2_with fail;refine HCK.out.mono ?_;rintro e w4 ⟨rfl,hb4⟩;have HB4:=ag (ai HB3.out hb4);have HR4:=ag ((hb4.block _ (lt_of_block HR3.out)).trans HR3.out)
     have HK4:=ag ((hb4.block _ (lt_of_block HK3.out)).trans HK3.out);have HC4:=ag ((hb4.block _ (lt_of_block HC3.out)).trans HC3.out);clear hb4
     by_cases hx0:x=0
     ·have e1:(x != 0)=false:=by simp[hx0]
      have HTO:=ag (oN.1 (HCX2.out.trans hx0));have HM2:=ag (show cW k c tree gs=(match cL k gs c tree 514 ⟨#[]⟩with
       | .error x=> .error x
       | .ok p=> .ok (bc k gs p.1,bI k gs p.2 [])) by rw[HM1.out,if_pos (HCX2.out.trans hx0)])
      clear hx0;have a0:=af (k:=0) HK4.out;have a1:=af (k:=1) HK4.out;have a2:=af (k:=2) HK4.out;have a3:=af (k:=3) HK4.out;have a4:=af (k:=4) HK4.out;have b0:=af (k:=0) HC4.out;have b1:=af (k:=1) HC4.out;have b2:=af (k:=2) HC4.out;have b3:=af (k:=3) HC4.out;have b4:=af (k:=4) HC4.out;simp only[aP]at a0 a1 a2 a3 a4 b0 b1 b2 b3 b4
      have hmm:= @run_makeMap Tryz.prog
      go_upto_region 13 with(fail)
      obtain⟨W5,hW5⟩: ∃W5:World,W5=((w4.alloc (.map #[] 0)).alloc (.map #[] 0)).alloc (.cells #[.string k.nm, .string k.st, .string k.ck, .string k.ix, .string k.tk, .int .i64 c.mn, .int .i64 c.mx, .int .i64 c.win, .int .i64 c.bits, .int .u64 (c.seed:Int), .map none, .map (some w4.heap.size), .slice none 0 0, .map (some (w4.heap.size+1))] 122):=⟨_,rfl⟩;rw[<-hW5];obtain⟨base,hbase⟩: ∃base,base=w4.heap.size:=⟨_,rfl⟩
      rw[<-hbase]at hW5 ⊢;have HBS:=ag hbase;have hbgi:BgI w4 base (base+1+1) base (base+1) k c (.map none) [] W5 []:=by
       have e1:(w4.alloc (.map #[] 0)).heap.size=base+1:=by simp[hbase]
       have e2:((w4.alloc (.map #[] 0)).alloc (.map #[] 0)).heap.size=base+1+1:=by simp[hbase]
       have h1:=cT.made (P:=Tryz.prog) (k:=9) w4;have h2:=dC.made (w4.alloc (.map #[] 0));rw[e1]at h2;rw[<-hbase]at h1;have h3:=bS ((w4.alloc (.map #[] 0)).alloc (.map #[] 0)) (.cells #[.string k.nm, .string k.st, .string k.ck, .string k.ix, .string k.tk, .int .i64 c.mn, .int .i64 c.mx, .int .i64 c.win, .int .i64 c.bits, .int .u64 (c.seed:Int), .map none, .map (some base), .slice none 0 0, .map (some (base+1))] 122)
       rw[e2]at h3;have hs1:W5.heap[base]? =(w4.alloc (.map #[] 0)).heap[base]? :=by rw[hW5]; exact(Below.heap_alloc _ _ _ (by rw[e2]; omega)).trans (Below.heap_alloc _ _ _ (by rw[e1]; omega))
       have hs2:W5.heap[base+1]? =((w4.alloc (.map #[] 0)).alloc (.map #[] 0)).heap[base+1]? :=by rw[hW5]; exact Below.heap_alloc _ _ _ (by rw[e2]; omega)
       refine⟨⟨by rw[hW5]; exact h3,⟨[],rfl,World.ownsRow_nil _ _ _ _,by simp⟩,h2.same hs2⟩,⟨h1.same hs1,by simp,by simp,List.Pairwise.nil,by simp⟩,fun d=>rfl, ?_⟩;rw[hW5,hbase];exact(((Below.refl _ _).alloc (Nat.le_refl _) _).alloc (by simp) _).alloc (by simp; omega) _
      have HBG:=ag hbgi;have hne2:w.heap.size+2<base:=by have:=lt_of_block HR4.out; omega
      have hwb:w.heap.size<=base:=by omega
      clear hW5 a0 a1 a2 a3 a4 b0 b1 b2 b3 b4 hmm hbase hbgi;go_wp2_with fail
      go_loopw [64] (fun i wr=> ∃(j:Nat) (G:List ua),j<=n/\i= .int .i64 (j:Int)/\BgI w4 base (base+1+1) base (base+1) k c (.map none) (tree.take j) wr G) (fun i _=>n-(intOf i).toNat)
      case atStart=>exact⟨0,[],Nat.zero_le _,rfl,HBG.out⟩
      case round=>
       obtain⟨j,G,hj,rfl,hin⟩:=hrel;rename_i wq;have HIN:=ag hin;clear hin HBG
       by_cases hlt:j<n
       ·obtain⟨e,he⟩: ∃e,tree[j]? =some e:=⟨tree[j]'(by rw[<-HN.out]; exact hlt),by simp⟩;have hbw:Below w.heap.size w wr:=HB4.out.trans (HIN.out.below.mono hwb);obtain⟨b,o,dv,rfl,-,-,hdd,heok,-,p0,p1,p2,p3,p4,p5⟩:=gZ (cD.below HT.out hbw) he;obtain⟨da,dc,rfl,-,-⟩:=bw.slice hdd;have HDY:=ag (show bw (· <base) wr (.slice da e.data.length dc) e.data/\dL e from by
         obtain⟨b9,o9,dv9,he9,_,_,hd9,_,_,_,_,_,_,hp9,_⟩:=gZ HT.out he
         cases he9
         have hq:=(hbw.cell (p:=⟨b,o+j*6+4,none⟩) (aC (a:=⟨b,o+j*6+4,none⟩) hp9)).trans hp9;rw[p4]at hq
         cases hq
         have hd0:=aT.lt' hd9 (by decide);exact⟨aT.same (aT.weak (T:=(· <w.heap.size)) hd0 (fun _ h=>h)) (fun i hi=>hbw.block i hi) |> fun h=>aT.weak h (fun i hi=>Nat.lt_of_lt_of_le hi hwb),heok⟩)
        have hval:=HTO.out.val e (List.mem_of_getElem? he);have hep:=bQ hval;have hes:e.path.size<=512:=(iQ hval).1;obtain⟨q,hq⟩: ∃q:ByteArray,q=⟨(aU (bl e.path)).toArray⟩:=⟨_,rfl⟩;have HQ:=ag hq;have hqs:q.size<=maxLen:=by
         have h1:=lr (l:=bl e.path) (fun h=>by have:=gM hep; rw[h]at this; simp at this);rw[hq,az,eK];rw[<-az e.path]at h1;unfold maxLen;omega
        have HEA:=ag he;have hpc:=fun W hE=>eP e.path q W hE hep hq
        have HPC:=ag hpc;have hbz:base<=wr.heap.size:=by have h1:=HIN.out.grp.map.lt; omega
        have h7:7<=base:=Nat.le_trans HE.out.seven hwb;clear hval hep hq hdd heok he hpc
        go_upto_region 16 with(fail)
        obtain⟨W6,hW6⟩: ∃W6:World,W6=wr.alloc (.cells #[.string e.path, .int .i64 e.kind, .int .i64 e.mode, .int .i64 e.time, .slice da e.data.length dc, .string e.link] 79):=⟨_,rfl⟩;rw[<-hW6];have hb6:Below wr.heap.size wr W6:=by rw[hW6]; exact(Below.refl _ _).alloc (Nat.le_refl _) _
        have HB6:=ag hb6;have HX6:=ag (show W6.heap[wr.heap.size]? =some (.cells #[.string e.path, .int .i64 e.kind, .int .i64 e.mode, .int .i64 e.time, .slice da e.data.length dc, .string e.link] 79 (0,0)) by rw[hW6]; exact bS wr _);have HE6:=ag (HE.out.keep (HB4.out.trans ((HIN.out.below.mono hwb).trans (hb6.mono (Nat.le_trans hwb hbz)))) HE.out.seven);clear hW6 hb6 p0 p1 p2 p3 p4 p5
        have d0:=af (k:=0) HX6.out;have d1:=af (k:=1) HX6.out;have d2:=af (k:=2) HX6.out;have d3:=af (k:=3) HX6.out;have d4:=af (k:=4) HX6.out;have d5:=af (k:=5) HX6.out;simp only[aP]at d0 d1 d2 d3 d4 d5;go_wp2_with fail;refine(HPC.out W6 HE6.out.env).mono ?_;rintro e' w7 ⟨rfl,hb7⟩;have HX7:=ag ((hb7.block _ (lt_of_block HX6.out)).trans HX6.out)
        have HB7:=ag (ai HB6.out hb7);clear hb7 d0 d1 d2 d3 d4 d5;go_wp2_with fail;obtain⟨W8,hW8⟩: ∃W8:World,W8=w7.drew:=⟨_,rfl⟩;have hb8:Below w7.heap.size w7 W8:=by rw[hW8]; exact(Below.refl _ _).drew
        have HB8:=ag (ai HB7.out hb8);have HX8:=ag ((hb8.block _ (lt_of_block HX7.out)).trans HX7.out);have hkp8:=dd.ofBelow (bb:=base+1+1) (kb:=base+1) (v:= .slice none 0 0) HB8.out hbz;have HBD8:=ag (HIN.out.bd.below HB8.out);have HGR8:=ag (HIN.out.grp.keep HIN.out.bd hkp8 (by omega));have HBX8:=ag HBD8.out.box;have hltx:wr.heap.size<W8.heap.size:=lt_of_block HX8.out
        have HDY8:=ag (show bw (· <base) W8 (.slice da e.data.length dc) e.data/\dL e from⟨ji HDY.out.1 (HB8.out.mono hbz),HDY.out.2⟩);have ht:Tryz.prog.underlying 119=some (.map 9 46):=Tryz.underlying119;have HTY:=ag ht;clear ht hb8 hkp8;have k0:=af (k:=0) HBX8.out;have k1:=af (k:=1) HBX8.out;have k2:=af (k:=2) HBX8.out;have k3:=af (k:=3) HBX8.out
        have k4:=af (k:=4) HBX8.out;have k10:=af (k:=10) HBX8.out;have k11:=af (k:=11) HBX8.out;have k12:=af (k:=12) HBX8.out;have k13:=af (k:=13) HBX8.out;simp only[gg,di,dA,List.cons_append,List.nil_append,aP]at k0 k1 k2 k3 k4 k10 k11 k12 k13;clear k0 k1 k2 k3 k4 k10 k12 k13;have d0:=af (k:=0) HX8.out;have d1:=af (k:=1) HX8.out
        have d2:=af (k:=2) HX8.out;have d3:=af (k:=3) HX8.out;have d4:=af (k:=4) HX8.out;have d5:=af (k:=5) HX8.out;simp only[aP]at d0 d1 d2 d3 d4 d5
        cases hf:G.find? (fun g=>decide (g.dir=q))with
        | none=>
         have HF:=ag hf;clear hf;have hnew: ∀p∈G.map gD,p.1≠Value.string q:=by
          intro p hp e9;obtain⟨g9,hg9,rfl⟩:=List.mem_map.1 hp;simp only[gD,Value.string.injEq]at e9;have:=List.find?_eq_none.1 HF.out g9 hg9;simp[e9]at this
         have HNEW:=ag hnew;have HLK:=ag (show ∀W:World,W.heap[base]? =W8.heap[base]? ->(Instr.lookup 119 (.map (some base)) (.string q) false).run Tryz.prog W= .ok (.slice none 0 0) W from fun W hW=>by
          have:=(HGR8.out.map.same hW).is.miss bR HTY.out (show(zeroValue 46).run Tryz.prog W= .ok (.slice none 0 0) W by kernel_rfl) (cM hqs) HNEW.out false
          simpa using this)
         clear hnew;have HNE:=ag (show(Value.slice none 0 0).ownBlock≠some (base+1+1)/\(Value.slice none 0 0).ownBlock≠some wr.heap.size/\(Value.slice none 0 0).ownBlock≠some base from⟨by simp[Value.ownBlock],by simp[Value.ownBlock],by simp[Value.ownBlock]⟩);have HNK:=ag (show(Value.slice none 0 0).ownBlock≠some (base+1) by simp[Value.ownBlock]);have HLOW:=ag (show ∀i,(Value.slice none 0 0).ownBlock=some i->base<=i from fun i hi=>by simp[Value.ownBlock]at hi)
         have HLNB:=ag (show(0:Nat)<1099511627775 by decide);have hlk:=HLK.out W8 rfl;refine bU (fun w'=>w'.cell? ⟨base+1+1,11,none⟩=some (.map (some base))/\(Instr.lookup 119 (.map (some base)) (.string (q)) false).run Tryz.prog w'= .ok (.slice none 0 0) w'/\w'.cell? ⟨wr.heap.size,0,none⟩=some (.string e.path)/\w'.cell? ⟨wr.heap.size,1,none⟩=some (.int .i64 e.kind)/\w'.cell? ⟨wr.heap.size,2,none⟩=some (.int .i64 e.mode)/\w'.cell? ⟨wr.heap.size,3,none⟩=some (.int .i64 e.time)/\w'.cell? ⟨wr.heap.size,4,none⟩=some (.slice da e.data.length dc)/\w'.cell? ⟨wr.heap.size,5,none⟩=some (.string e.link)) (by kernel_rfl) (by kernel_rfl) ?_
         simp only[List.dropLast_cons_cons,List.dropLast_singleton,List.length_cons,List.length_nil,Nat.reduceAdd,Nat.reduceSub];rw[<-hW8];clear hW8;refine ah 0 rfl (by kernel_rfl) (by kernel_rfl) (by kernel_rfl) (fun _ _ _ h=>h) rfl ⟨k11,hlk,d0,d1,d2,d3,d4,d5⟩ (by rintro w' ⟨hw1,hw2,hw3,hw4,hw5,hw6,hw7,hw8⟩; go_simp; rfl) ?_;simp only[Act.put,aE,aF,aG];refine ah 1 rfl (by kernel_rfl) (by kernel_rfl) (by kernel_rfl) (fun _ _ _ h=>h) rfl ⟨k11,hlk,d0,d1,d2,d3,d4,d5⟩ (by rintro w' ⟨hw1,hw2,hw3,hw4,hw5,hw6,hw7,hw8⟩; go_simp; rfl) ?_
         simp only[Act.put,aE,aF,aG];refine ah 2 rfl (by kernel_rfl) (by kernel_rfl) (by kernel_rfl) (fun _ _ _ h=>h) rfl ⟨k11,hlk,d0,d1,d2,d3,d4,d5⟩ (by rintro w' ⟨hw1,hw2,hw3,hw4,hw5,hw6,hw7,hw8⟩; go_simp; rfl) ?_;simp only[Act.put,aE,aF,aG];refine ah 3 rfl (by kernel_rfl) (by kernel_rfl) (by kernel_rfl) (fun _ _ _ h=>h) rfl ⟨k11,hlk,d0,d1,d2,d3,d4,d5⟩ (by rintro w' ⟨hw1,hw2,hw3,hw4,hw5,hw6,hw7,hw8⟩; go_simp; rfl) ?_
         simp only[Act.put,aE,aF,aG];refine ah 4 rfl (by kernel_rfl) (by kernel_rfl) (by kernel_rfl) (fun _ _ _ h=>h) rfl ⟨k11,hlk,d0,d1,d2,d3,d4,d5⟩ (by rintro w' ⟨hw1,hw2,hw3,hw4,hw5,hw6,hw7,hw8⟩; go_simp; rfl) ?_;simp only[Act.put,aE,aF,aG];refine ah 5 rfl (by kernel_rfl) (by kernel_rfl) (by kernel_rfl) (fun _ _ _ h=>h) rfl ⟨k11,hlk,d0,d1,d2,d3,d4,d5⟩ (by rintro w' ⟨hw1,hw2,hw3,hw4,hw5,hw6,hw7,hw8⟩; go_simp; rfl) ?_
         simp only[Act.put,aE,aF,aG];refine ah 6 rfl (by kernel_rfl) (by kernel_rfl) (by kernel_rfl) (fun _ _ _ h=>h) rfl ⟨k11,hlk,d0,d1,d2,d3,d4,d5⟩ (by rintro w' ⟨hw1,hw2,hw3,hw4,hw5,hw6,hw7,hw8⟩; go_simp; rfl) ?_;simp only[Act.put,aE,aF,aG];refine ah 7 rfl (by kernel_rfl) (by kernel_rfl) (by kernel_rfl) (fun _ _ _ h=>h) rfl ⟨k11,hlk,d0,d1,d2,d3,d4,d5⟩ (by rintro w' ⟨hw1,hw2,hw3,hw4,hw5,hw6,hw7,hw8⟩; go_simp; rfl) ?_
         simp only[Act.put,aE,aF,aG];refine ah 8 rfl (by kernel_rfl) (by kernel_rfl) (by kernel_rfl) (fun _ _ _ h=>h) rfl ⟨k11,hlk,d0,d1,d2,d3,d4,d5⟩ (by rintro w' ⟨hw1,hw2,hw3,hw4,hw5,hw6,hw7,hw8⟩; go_simp; rfl) ?_;simp only[Act.put,aE,aF,aG];refine ah 9 rfl (by kernel_rfl) (by kernel_rfl) (by kernel_rfl) (fun _ _ _ h=>h) rfl ⟨k11,hlk,d0,d1,d2,d3,d4,d5⟩ (by rintro w' ⟨hw1,hw2,hw3,hw4,hw5,hw6,hw7,hw8⟩; go_simp; rfl) ?_
         simp only[Act.put,aE,aF,aG];refine ah 10 rfl (by kernel_rfl) (by kernel_rfl) (by kernel_rfl) (fun _ _ _ h=>h) rfl ⟨k11,hlk,d0,d1,d2,d3,d4,d5⟩ (by rintro w' ⟨hw1,hw2,hw3,hw4,hw5,hw6,hw7,hw8⟩; go_simp; rfl) ?_;simp only[Act.put,aE,aF,aG];refine ah 11 rfl (by kernel_rfl) (by kernel_rfl) (by kernel_rfl) (fun _ _ _ h=>h) rfl ⟨k11,hlk,d0,d1,d2,d3,d4,d5⟩ (by rintro w' ⟨hw1,hw2,hw3,hw4,hw5,hw6,hw7,hw8⟩; go_simp; rfl) ?_
         simp only[Act.put,aE,aF,aG];have HAL:=ag ((Below.refl W8.heap.size W8).alloc (Nat.le_refl _) (.cells #[.string e.path, .int .i64 e.kind, .int .i64 e.mode, .int .i64 e.time, .slice da e.data.length dc, .string e.link] 79));have hltb:base+1+1<W8.heap.size:=lt_of_block HBX8.out;have hS2:=And.intro ((HAL.out.cell (p:=⟨base+1+1,11,none⟩) hltb).trans k11) (And.intro (HLK.out _ (HAL.out.block base (by omega))) (And.intro ((HAL.out.cell (p:=⟨wr.heap.size,0,none⟩) hltx).trans d0) (And.intro ((HAL.out.cell (p:=⟨wr.heap.size,1,none⟩) hltx).trans d1) (And.intro ((HAL.out.cell (p:=⟨wr.heap.size,2,none⟩) hltx).trans d2) (And.intro ((HAL.out.cell (p:=⟨wr.heap.size,3,none⟩) hltx).trans d3) (And.intro ((HAL.out.cell (p:=⟨wr.heap.size,4,none⟩) hltx).trans d4) ((HAL.out.cell (p:=⟨wr.heap.size,5,none⟩) hltx).trans d5)))))))
         have HS2:=ag hS2;clear hS2;refine ay 12 rfl (by kernel_rfl) rfl (fun K hK=> ?_);go_wp2_with fail
         (first | (refine⟨HS2.out, ?_⟩) | skip)
         refine ay 13 rfl (by kernel_rfl) rfl (fun K hK=> ?_);have hz8:base<=W8.heap.size:=by omega
         go_wp2_with (at_builtin; go_must (refine aJ Tryz.appEnts rfl _ _ rfl base (.slice none 0 0) (0) ([]) rfl W8 [.string e.path, .int .i64 e.kind, .int .i64 e.mode, .int .i64 e.time, .slice da e.data.length dc, .string e.link] _ rfl rfl (dy (e:=e)) ((World.ownsRow_nil _ _ _ _)) HLNB.out hz8 ?_); intro v' wc hown' hgrow' _ hpl; obtain⟨ae,ce,rfl,-,-⟩:=am hown');have hbxc:=(hgrow'.block (base+1+1) hltb (fun e9=>HNE.out.1 e9.symm)).trans HBX8.out
         have hxc:=(hgrow'.block wr.heap.size hltx (fun e9=>HNE.out.2.1 e9.symm)).trans HX8.out;have hmc:=hgrow'.block base (by omega) (fun e9=>HNE.out.2.2 e9.symm);have hlkc:=HLK.out wc hmc;have HBXC:=ag hbxc;have HXC:=ag hxc;have HMC:=ag hmc;have HOWC:=ag hown';have HGRC:=ag hgrow';have HPLC:=ag hpl;clear hbxc hxc hmc hown' hgrow' hpl hlk k11 d0 d1 d2 d3 d4 d5;have d0:=af (k:=0) HXC.out
         have d1:=af (k:=1) HXC.out;have d2:=af (k:=2) HXC.out;have d3:=af (k:=3) HXC.out;have d4:=af (k:=4) HXC.out;have d5:=af (k:=5) HXC.out;simp only[aP]at d0 d1 d2 d3 d4 d5;have k11:=af (k:=11) HBXC.out;simp only[gg,di,dA,List.cons_append,List.nil_append,aP]at k11;refine⟨⟨k11,hlkc,d0,d1,d2,d3,d4,d5⟩, ?_⟩;refine aV (by kernel_rfl) ?_
         refine cj rfl rfl (fun K hK=> ?_);clear k11 hlkc d0 d1 d2 d3 d4 d5;have HMS:=ag (HGR8.out.map.same HMC.out);go_wp2_with (at_mapUpdate; go_must (refine eo bR rfl _ _ _ _ rfl HTY.out base (G.map gD) HMS.out rfl (.string q) (.slice ae (0+1) ce) rfl rfl (cM hqs) HNEW.out ?_); intro w10 hm10 hg10);have HG10:=ag hg10;have HGRN:=ag (HGR8.out.new (Nat.le_refl _) hqs (y:=(.slice da e.data.length dc,e)) HDY8.out HOWC.out HGRC.out (fun i hi=>by
          rcases HPLC.out i hi with h9 | h9
          ·simp[Value.ownBlock]at h9
          ·exact h9) hm10 hg10)
         clear hm10 hg10;have hb10:=HIN.out.below.trans ((HB8.out.mono hbz).trans (((Below.refl base W8).grown HGRC.out hz8 (fun i hi=>HLOW.out i hi)).grown HG10.out (Nat.le_trans hz8 HGRC.out.size) (fun i hi=>by cases hi; exact Nat.le_refl _)));have hbd10:=HBD8.out.nilKeep (w':=w10) ((HG10.out.block _ (Nat.lt_of_lt_of_le hltb HGRC.out.size) (fun e9=>by have:=Option.some.inj e9; omega)).trans (HBXC.out.trans HBX8.out.symm)) ((HG10.out.block _ (Nat.lt_of_lt_of_le HBD8.out.known.map.lt HGRC.out.size) (fun e9=>by have:=Option.some.inj e9; omega)).trans (HGRC.out.block _ HBD8.out.known.map.lt (fun e9=>HNK.out e9.symm)))
         go_roundw
         case rel=>
          refine⟨j+1,(G++[⟨q, .slice ae (0+1) ce,[(.slice da e.data.length dc,e)]⟩]),by omega,by go_num,⟨hbd10,HGRN.out,fun d=> ?_,hb10⟩⟩;rw[ik HEA.out];rw[pp (g:=⟨q, .slice ae (0+1) ce,[(.slice da e.data.length dc,e)]⟩) HF.out]
          by_cases hqd:q=d
          ·rw[if_pos hqd,if_pos (show aU (bl e.path)=bl d by rw[<-hqd,HQ.out]; exact(eK _).symm),<-HIN.out.ents d,<-hqd,nk HF.out]
           rfl
          ·rw[if_neg hqd,if_neg (fun h9=>hqd (fg (by rw[HQ.out]; exact(eK _).trans h9))),List.append_nil];exact HIN.out.ents d
         case measure=>simp[intOf]; omega
        | some g=>
         obtain⟨A,B,hAB,hgd,hA⟩: ∃A B,G=A++g::B/\g.dir=q/\ ∀x∈A,x.dir≠q:=by
          have h9:=List.find?_eq_some_iff_append.1 hf;obtain⟨h1,A,B,h2,h3⟩:=h9;exact⟨A,B,h2,by simpa using h1,fun x hx=>by simpa using h3 x hx⟩
         have hent:=gY hf;subst hgd;subst hAB;have HENT:=ag hent;have HA:=ag hA;have hgo:=HGR8.out.own g (by simp);have hgo0:=HIN.out.grp.own g (by simp);obtain⟨ga,gc,hgv,hgn,-⟩:=am hgo;have hgl:g.ents.length<=4096:=by
          have h1:=HIN.out.ents g.dir;rw[hent]at h1;have h2:=congrArg List.length h1;rw[List.length_map]at h2;rw[h2];have h3:(cz (tree.take j) g.dir).length<=(tree.take j).length:=List.length_filter_le _ _;rw[List.length_take]at h3;have h4:=HTO.out.len;omega
         obtain⟨gl,hgl2⟩: ∃gl,gl=g.ents.length:=⟨_,rfl⟩;have HGL:=ag hgl2;rw[<-hgl2]at hgv hgl;have HLNB:=ag (show gl<1099511627775 by omega);have HGO:=ag (show W8.ownsRow base 79 6 (.slice ga gl gc) gl (bY g.ents) by rw[<-hgv,hgl2]; exact hgo);have HGV:=ag hgv;have HNE:=ag (show(Value.slice ga gl gc).ownBlock≠some (base+1+1)/\(Value.slice ga gl gc).ownBlock≠some wr.heap.size/\(Value.slice ga gl gc).ownBlock≠some base from by
          rw[<-hgv];refine⟨fun e9=> ?_,fun e9=> ?_,fun e9=> ?_⟩
          ·obtain⟨cs2,hc2⟩:=aA hgo e9;exact absurd (aK HBX8.out hc2) (by decide)
          ·have:=(hgo0.lt _ e9).2;omega
          ·obtain⟨cs2,hc2⟩:=aA hgo e9;exact HGR8.out.map.ncells hc2)
         have HNK:=ag (show(Value.slice ga gl gc).ownBlock≠some (base+1)from by
          rw[<-hgv];intro e9;obtain⟨cs2,hc2⟩:=aA hgo e9;exact HBD8.out.known.cells hc2)
         have HLOW:=ag (show ∀i,(Value.slice ga gl gc).ownBlock=some i->base<=i from fun i hi=>by
          rw[<-hgv]at hi;exact(hgo.lt i hi).1)
         have HLK:=ag (show ∀W:World,W.heap[base]? =W8.heap[base]? ->(Instr.lookup 119 (.map (some base)) (.string g.dir) false).run Tryz.prog W= .ok (.slice ga gl gc) W from fun W hW=>by
          have:=(HGR8.out.map.same hW).is.hit bR HTY.out (cM hqs) (val:=g.val) (List.mem_map.2 ⟨g,by simp,rfl⟩) false;rw[hgv]at this
          simpa using this)
         clear hf hent hA hgo hgo0 hgv hgl2;have hlk:=HLK.out W8 rfl;refine bU (fun w'=>w'.cell? ⟨base+1+1,11,none⟩=some (.map (some base))/\(Instr.lookup 119 (.map (some base)) (.string (g.dir)) false).run Tryz.prog w'= .ok (.slice ga gl gc) w'/\w'.cell? ⟨wr.heap.size,0,none⟩=some (.string e.path)/\w'.cell? ⟨wr.heap.size,1,none⟩=some (.int .i64 e.kind)/\w'.cell? ⟨wr.heap.size,2,none⟩=some (.int .i64 e.mode)/\w'.cell? ⟨wr.heap.size,3,none⟩=some (.int .i64 e.time)/\w'.cell? ⟨wr.heap.size,4,none⟩=some (.slice da e.data.length dc)/\w'.cell? ⟨wr.heap.size,5,none⟩=some (.string e.link)) (by kernel_rfl) (by kernel_rfl) ?_
         simp only[List.dropLast_cons_cons,List.dropLast_singleton,List.length_cons,List.length_nil,Nat.reduceAdd,Nat.reduceSub];rw[<-hW8];clear hW8;refine ah 0 rfl (by kernel_rfl) (by kernel_rfl) (by kernel_rfl) (fun _ _ _ h=>h) rfl ⟨k11,hlk,d0,d1,d2,d3,d4,d5⟩ (by rintro w' ⟨hw1,hw2,hw3,hw4,hw5,hw6,hw7,hw8⟩; go_simp; rfl) ?_;simp only[Act.put,aE,aF,aG];refine ah 1 rfl (by kernel_rfl) (by kernel_rfl) (by kernel_rfl) (fun _ _ _ h=>h) rfl ⟨k11,hlk,d0,d1,d2,d3,d4,d5⟩ (by rintro w' ⟨hw1,hw2,hw3,hw4,hw5,hw6,hw7,hw8⟩; go_simp; rfl) ?_
         simp only[Act.put,aE,aF,aG];refine ah 2 rfl (by kernel_rfl) (by kernel_rfl) (by kernel_rfl) (fun _ _ _ h=>h) rfl ⟨k11,hlk,d0,d1,d2,d3,d4,d5⟩ (by rintro w' ⟨hw1,hw2,hw3,hw4,hw5,hw6,hw7,hw8⟩; go_simp; rfl) ?_;simp only[Act.put,aE,aF,aG];refine ah 3 rfl (by kernel_rfl) (by kernel_rfl) (by kernel_rfl) (fun _ _ _ h=>h) rfl ⟨k11,hlk,d0,d1,d2,d3,d4,d5⟩ (by rintro w' ⟨hw1,hw2,hw3,hw4,hw5,hw6,hw7,hw8⟩; go_simp; rfl) ?_
         simp only[Act.put,aE,aF,aG];refine ah 4 rfl (by kernel_rfl) (by kernel_rfl) (by kernel_rfl) (fun _ _ _ h=>h) rfl ⟨k11,hlk,d0,d1,d2,d3,d4,d5⟩ (by rintro w' ⟨hw1,hw2,hw3,hw4,hw5,hw6,hw7,hw8⟩; go_simp; rfl) ?_;simp only[Act.put,aE,aF,aG];refine ah 5 rfl (by kernel_rfl) (by kernel_rfl) (by kernel_rfl) (fun _ _ _ h=>h) rfl ⟨k11,hlk,d0,d1,d2,d3,d4,d5⟩ (by rintro w' ⟨hw1,hw2,hw3,hw4,hw5,hw6,hw7,hw8⟩; go_simp; rfl) ?_
         simp only[Act.put,aE,aF,aG];refine ah 6 rfl (by kernel_rfl) (by kernel_rfl) (by kernel_rfl) (fun _ _ _ h=>h) rfl ⟨k11,hlk,d0,d1,d2,d3,d4,d5⟩ (by rintro w' ⟨hw1,hw2,hw3,hw4,hw5,hw6,hw7,hw8⟩; go_simp; rfl) ?_;simp only[Act.put,aE,aF,aG];refine ah 7 rfl (by kernel_rfl) (by kernel_rfl) (by kernel_rfl) (fun _ _ _ h=>h) rfl ⟨k11,hlk,d0,d1,d2,d3,d4,d5⟩ (by rintro w' ⟨hw1,hw2,hw3,hw4,hw5,hw6,hw7,hw8⟩; go_simp; rfl) ?_
         simp only[Act.put,aE,aF,aG];refine ah 8 rfl (by kernel_rfl) (by kernel_rfl) (by kernel_rfl) (fun _ _ _ h=>h) rfl ⟨k11,hlk,d0,d1,d2,d3,d4,d5⟩ (by rintro w' ⟨hw1,hw2,hw3,hw4,hw5,hw6,hw7,hw8⟩; go_simp; rfl) ?_;simp only[Act.put,aE,aF,aG];refine ah 9 rfl (by kernel_rfl) (by kernel_rfl) (by kernel_rfl) (fun _ _ _ h=>h) rfl ⟨k11,hlk,d0,d1,d2,d3,d4,d5⟩ (by rintro w' ⟨hw1,hw2,hw3,hw4,hw5,hw6,hw7,hw8⟩; go_simp; rfl) ?_
         simp only[Act.put,aE,aF,aG];refine ah 10 rfl (by kernel_rfl) (by kernel_rfl) (by kernel_rfl) (fun _ _ _ h=>h) rfl ⟨k11,hlk,d0,d1,d2,d3,d4,d5⟩ (by rintro w' ⟨hw1,hw2,hw3,hw4,hw5,hw6,hw7,hw8⟩; go_simp; rfl) ?_;simp only[Act.put,aE,aF,aG];refine ah 11 rfl (by kernel_rfl) (by kernel_rfl) (by kernel_rfl) (fun _ _ _ h=>h) rfl ⟨k11,hlk,d0,d1,d2,d3,d4,d5⟩ (by rintro w' ⟨hw1,hw2,hw3,hw4,hw5,hw6,hw7,hw8⟩; go_simp; rfl) ?_
         simp only[Act.put,aE,aF,aG];have HAL:=ag ((Below.refl W8.heap.size W8).alloc (Nat.le_refl _) (.cells #[.string e.path, .int .i64 e.kind, .int .i64 e.mode, .int .i64 e.time, .slice da e.data.length dc, .string e.link] 79));have hltb:base+1+1<W8.heap.size:=lt_of_block HBX8.out;have hS2:=And.intro ((HAL.out.cell (p:=⟨base+1+1,11,none⟩) hltb).trans k11) (And.intro (HLK.out _ (HAL.out.block base (by omega))) (And.intro ((HAL.out.cell (p:=⟨wr.heap.size,0,none⟩) hltx).trans d0) (And.intro ((HAL.out.cell (p:=⟨wr.heap.size,1,none⟩) hltx).trans d1) (And.intro ((HAL.out.cell (p:=⟨wr.heap.size,2,none⟩) hltx).trans d2) (And.intro ((HAL.out.cell (p:=⟨wr.heap.size,3,none⟩) hltx).trans d3) (And.intro ((HAL.out.cell (p:=⟨wr.heap.size,4,none⟩) hltx).trans d4) ((HAL.out.cell (p:=⟨wr.heap.size,5,none⟩) hltx).trans d5)))))))
         have HS2:=ag hS2;clear hS2;refine ay 12 rfl (by kernel_rfl) rfl (fun K hK=> ?_);go_wp2_with fail
         (first | (refine⟨HS2.out, ?_⟩) | skip)
         refine ay 13 rfl (by kernel_rfl) rfl (fun K hK=> ?_);have hz8:base<=W8.heap.size:=by omega
         go_wp2_with (at_builtin; go_must (refine aJ Tryz.appEnts rfl _ _ rfl base (.slice ga gl gc) (gl) ((bY g.ents)) rfl W8 [.string e.path, .int .i64 e.kind, .int .i64 e.mode, .int .i64 e.time, .slice da e.data.length dc, .string e.link] _ rfl rfl (dy (e:=e)) (HGO.out) HLNB.out hz8 ?_); intro v' wc hown' hgrow' _ hpl; obtain⟨ae,ce,rfl,-,-⟩:=am hown');have hbxc:=(hgrow'.block (base+1+1) hltb (fun e9=>HNE.out.1 e9.symm)).trans HBX8.out
         have hxc:=(hgrow'.block wr.heap.size hltx (fun e9=>HNE.out.2.1 e9.symm)).trans HX8.out;have hmc:=hgrow'.block base (by omega) (fun e9=>HNE.out.2.2 e9.symm);have hlkc:=HLK.out wc hmc;have HBXC:=ag hbxc;have HXC:=ag hxc;have HMC:=ag hmc;have HOWC:=ag hown';have HGRC:=ag hgrow';have HPLC:=ag hpl;clear hbxc hxc hmc hown' hgrow' hpl hlk k11 d0 d1 d2 d3 d4 d5;have d0:=af (k:=0) HXC.out
         have d1:=af (k:=1) HXC.out;have d2:=af (k:=2) HXC.out;have d3:=af (k:=3) HXC.out;have d4:=af (k:=4) HXC.out;have d5:=af (k:=5) HXC.out;simp only[aP]at d0 d1 d2 d3 d4 d5;have k11:=af (k:=11) HBXC.out;simp only[gg,di,dA,List.cons_append,List.nil_append,aP]at k11;refine⟨⟨k11,hlkc,d0,d1,d2,d3,d4,d5⟩, ?_⟩;refine aV (by kernel_rfl) ?_
         refine cj rfl rfl (fun K hK=> ?_);clear k11 hlkc d0 d1 d2 d3 d4 d5;have HMS:=ag (show cT Tryz.prog 9 wc base (A.map gD++(.string g.dir,g.val)::B.map gD)from by
          have:=HGR8.out.map.same HMC.out
          simpa [gD]using this)
         go_wp2_with (at_mapUpdate; go_must (refine jv bR rfl _ _ _ _ rfl HTY.out base (A.map gD) (B.map gD) (.string g.dir) (.slice ae (gl+1) ce) g.val HMS.out rfl rfl rfl ?_); intro w10 hm10 hg10);have HG10:=ag hg10;have HGRN:=ag (HGR8.out.over (Nat.le_refl _) (y:=(.slice da e.data.length dc,e)) HDY8.out (by rw[<-HGL.out]; exact HOWC.out) (by rw[HGV.out]; exact HGRC.out) (by rw[HGV.out]; exact HPLC.out) hm10 hg10)
         clear hm10 hg10;have hb10:=HIN.out.below.trans ((HB8.out.mono hbz).trans (((Below.refl base W8).grown HGRC.out hz8 (fun i hi=>HLOW.out i hi)).grown HG10.out (Nat.le_trans hz8 HGRC.out.size) (fun i hi=>by cases hi; exact Nat.le_refl _)));have hbd10:=HBD8.out.nilKeep (w':=w10) ((HG10.out.block _ (Nat.lt_of_lt_of_le hltb HGRC.out.size) (fun e9=>by have:=Option.some.inj e9; omega)).trans (HBXC.out.trans HBX8.out.symm)) ((HG10.out.block _ (Nat.lt_of_lt_of_le HBD8.out.known.map.lt HGRC.out.size) (fun e9=>by have:=Option.some.inj e9; omega)).trans (HGRC.out.block _ HBD8.out.known.map.lt (fun e9=>HNK.out e9.symm)))
         go_roundw
         case rel=>
          refine⟨j+1,(A++⟨g.dir, .slice ae (gl+1) ce,g.ents++[(.slice da e.data.length dc,e)]⟩::B),by omega,by go_num,⟨hbd10,HGRN.out,fun d=> ?_,hb10⟩⟩;rw[ik HEA.out];rw[nn (A:=A) (B:=B) (g:=g) (g':=(⟨g.dir, .slice ae (gl+1) ce,g.ents++[((Value.slice da e.data.length dc,e):gP)]⟩:ua)) rfl HA.out d]
          by_cases hqd:g.dir=d
          ·rw[if_pos hqd,if_pos (show aU (bl e.path)=bl d by rw[<-hqd,HQ.out]; exact(eK _).symm),<-HIN.out.ents d,<-hqd,HENT.out,List.map_append]
           rfl
          ·rw[if_neg hqd,if_neg (fun h9=>hqd (fg (by rw[HQ.out]; exact(eK _).trans h9))),List.append_nil];exact HIN.out.ents d
         case measure=>simp[intOf]; omega
       ·have hk2:j=n:=by omega
        have hgl:wF wr base base tree:=⟨G,HIN.out.grp,fun d=>by have:=HIN.out.ents d; rwa [show tree.take j=tree by rw[hk2,HN.out,List.take_length]]at this⟩;have hbz:base<=wr.heap.size:=by have h1:=HIN.out.grp.map.lt; omega
        have h7:7<=base:=Nat.le_trans HE.out.seven hwb;have hgok: ∀p∈gs,0<=p.2/\p.2<=1099511627776:=fun p hp=>by have:=List.all_eq_true.1 HALL.out p hp; simpa using this
        have hX:Bo base (base+1+1) (base+1) base k c gs tree (zm k gs c tree):=⟨HKV.out,HCV.out,hsd,hgok,by omega,by omega,h7,by omega,HTO.out.val,HTO.out.len,yo HCV.out HTO.out.len HTO.out.val,yq,yr⟩;have hbw:Below w.heap.size w wr:=HB4.out.trans (HIN.out.below.mono hwb);have hgw:iw (· <base) wr (.map none) gs:=by
         rcases HG.out with⟨h1,h2⟩ | ⟨gb9,h1,_,h3⟩
         ·exact .inl ⟨h1,h2⟩
         ·exact .inr ⟨gb9,h1,Nat.lt_of_lt_of_le h3.lt hwb,h3.same (hbw.block _ h3.lt)⟩
        have hdr:=tt hX 514 (Nat.le_refl _) ⟨#[]⟩ (.slice none 0 0) [] wr (by show 514<=0+514; omega) (.inl rfl) HIN.out.bd hgw hgl (by intro b hb; simp at hb) (HE.out.keep hbw HE.out.seven) hbz;unfold sR at hdr;clear hgl hX hgw
        cases hdp:cL k gs c tree 514 ⟨#[]⟩with
        | error x9=>
         rw[hdp]at hdr;have HM3:=ag (show cW k c tree gs= .error x9 by rw[HM2.out,hdp]);have HDR:=ag hdr;clear hdr hdp;go_wp2_with fail;refine HDR.out.mono ?_;rintro e' w5 ⟨rfl,hx9,v5,bs5,hbd5,hkp5⟩;have HB5:=ag (hbw.trans (hkp5.below.mono hwb));have HR5:=ag ((hkp5.below.block (w.heap.size+2) hne2).trans ((HIN.out.below.block (w.heap.size+2) hne2).trans HR4.out));have HX9:=ag hx9
         have e4:(x9 != 0)=true:=by simp[hx9]
         clear hx9 hbd5 hkp5 hbw
         go_upto_region 20 with(fail)
         obtain⟨W6,hW6⟩: ∃W6:World,W6=w5.alloc (.cells #[.string ⟨#[]⟩, .int .i64 0, .int .i64 0] 26):=⟨_,rfl⟩;rw[<-hW6];have hb6:Below w5.heap.size w5 W6:=by rw[hW6]; exact(Below.refl _ _).alloc (Nat.le_refl _) _
         have HB6:=ag (ai HB5.out hb6);have HR6:=ag ((hb6.block _ (lt_of_block HR5.out)).trans HR5.out);clear hb6 hW6;have z0:=af (k:=0) HR6.out;have z1:=af (k:=1) HR6.out;have z2:=af (k:=2) HR6.out;have y0:=aj (k:=0) HR6.out;have y1:=aj (k:=1) HR6.out;have y2:=aj (k:=2) HR6.out;simp only[aP]at z0 z1 z2;go_wp2_with fail;refine dS HR6.out rfl rfl rfl rfl ⟨dn HB6.out (by show w.heap.size<=w.heap.size+2; omega), ?_⟩
         rw[HM3.out];exact⟨rfl,HX9.out⟩
        | ok p=>
         rw[hdp]at hdr
         dsimp only at hdr
         have HM3:=ag (show cW k c tree gs= .ok (bc k gs p.1,bI k gs p.2 []) by rw[HM2.out,hdp]);obtain⟨r,hr⟩: ∃r,r=bc k gs p.1:=⟨_,rfl⟩;rw[<-hr]at hdr;have HRE:=ag hr;have HDR:=ag hdr;unfold bu at HDR;clear hdr hdp hr;go_wp2_with fail;refine HDR.out.mono ?_;rintro e' w5 ⟨rfl,-,v5,hbd5,hkp5⟩;have HB5:=ag (hbw.trans (hkp5.below.mono hwb));have HR5:=ag ((hkp5.below.block (w.heap.size+2) hne2).trans ((HIN.out.below.block (w.heap.size+2) hne2).trans HR4.out))
         have HBD5:=ag hbd5;clear hbd5 hkp5 hbw
         go_upto_region 22 with(fail)
         obtain⟨W6,hW6⟩: ∃W6:World,W6=(w5.alloc (.cells #[.string r.name, .int .i64 r.gen, .int .i64 r.size] 26)).drew:=⟨_,rfl⟩;have hb6:Below w5.heap.size w5 W6:=by rw[hW6]; exact((Below.refl _ _).alloc (Nat.le_refl _) _).drew
         have HB6:=ag (ai HB5.out hb6);have HR6:=ag ((hb6.block _ (lt_of_block HR5.out)).trans HR5.out);have HF6:=ag (show W6.heap[w5.heap.size]? =some (.cells #[.string r.name, .int .i64 r.gen, .int .i64 r.size] 26 (0,0)) by rw[hW6]; exact bS w5 _);have HBD6:=ag (HBD5.out.below hb6);obtain⟨zs,hzs,hbo⟩:=HBD6.out.own;obtain⟨va,vc,hv6,-,-⟩:=am hbo.row;subst hv6
         have HZS:=ag hzs;have HBO:=ag hbo;have HBX6:=ag HBD6.out.box;clear hb6 hzs hbo;have k12:=af (k:=12) HBX6.out;have f0:=af (k:=0) HF6.out;have f1:=af (k:=1) HF6.out;have f2:=af (k:=2) HF6.out;simp only[gg,di,dA,List.cons_append,List.nil_append,aP]at k12 f0 f1 f2;have z0:=af (k:=0) HR6.out;have z1:=af (k:=1) HR6.out;have z2:=af (k:=2) HR6.out
         have y0:=aj (k:=0) HR6.out;have y1:=aj (k:=1) HR6.out;have y2:=aj (k:=2) HR6.out;simp only[aP]at z0 z1 z2;refine cH (fun w'=>w'.cell? ⟨base+1+1,12,none⟩=some (.slice va zs.length vc)/\w'.cell? ⟨w5.heap.size,0,none⟩=some (.string r.name)/\w'.cell? ⟨w5.heap.size,1,none⟩=some (.int .i64 r.gen)/\w'.cell? ⟨w5.heap.size,2,none⟩=some (.int .i64 r.size)) (by kernel_rfl) ?_
         rw[<-hW6];clear hW6;refine ah 0 rfl (by kernel_rfl) (by kernel_rfl) (by kernel_rfl) (fun _ _ _ h=>h) rfl ⟨k12,f0,f1,f2⟩ (by rintro w' ⟨hw1,hw2,hw3,hw4⟩; go_simp; rfl) ?_;simp only[Act.put,aE,aF,aG];refine ah 1 rfl (by kernel_rfl) (by kernel_rfl) (by kernel_rfl) (fun _ _ _ h=>h) rfl ⟨k12,f0,f1,f2⟩ (by rintro w' ⟨hw1,hw2,hw3,hw4⟩; go_simp; rfl) ?_;simp only[Act.put,aE,aF,aG]
         refine ah 2 rfl (by kernel_rfl) (by kernel_rfl) (by kernel_rfl) (fun _ _ _ h=>h) rfl ⟨k12,f0,f1,f2⟩ (by rintro w' ⟨hw1,hw2,hw3,hw4⟩; go_simp; rfl) ?_;simp only[Act.put,aE,aF,aG];refine ah 3 rfl (by kernel_rfl) (by kernel_rfl) (by kernel_rfl) (fun _ _ _ h=>h) rfl ⟨k12,f0,f1,f2⟩ (by rintro w' ⟨hw1,hw2,hw3,hw4⟩; go_simp; rfl) ?_;simp only[Act.put,aE,aF,aG]
         refine ah 4 rfl (by kernel_rfl) (by kernel_rfl) (by kernel_rfl) (fun _ _ _ h=>h) rfl ⟨k12,f0,f1,f2⟩ (by rintro w' ⟨hw1,hw2,hw3,hw4⟩; go_simp; rfl) ?_;simp only[Act.put,aE,aF,aG];refine ay 5 rfl (by kernel_rfl) rfl (fun K hK=> ?_);have hw5:w.heap.size+1+1<w5.heap.size:=lt_of_block HR5.out;have hbwb:base+1+1≠w.heap.size+1+1:=by omega
         have hwfb:w5.heap.size≠w.heap.size+1+1:=by omega
         have hS2:=fun(u0 u1 u2:Value)=>And.intro ((World.cell?_of_block (a:=⟨base+1+1,12,none⟩) (bP (w:=W6) (x0:=u0) (x1:=u1) (x2:=u2) hbwb)).trans k12) (And.intro ((World.cell?_of_block (a:=⟨w5.heap.size,0,none⟩) (bP (w:=W6) (x0:=u0) (x1:=u1) (x2:=u2) hwfb)).trans f0) (And.intro ((World.cell?_of_block (a:=⟨w5.heap.size,1,none⟩) (bP (w:=W6) (x0:=u0) (x1:=u1) (x2:=u2) hwfb)).trans f1) ((World.cell?_of_block (a:=⟨w5.heap.size,2,none⟩) (bP (w:=W6) (x0:=u0) (x1:=u1) (x2:=u2) hwfb)).trans f2)))
         have HS2:=ag hS2;clear hS2 k12 f0 f1 f2;go_wp2_with fail;refine⟨HS2.out _ _ _, ?_⟩;refine ah 6 rfl (by kernel_rfl) (by kernel_rfl) (by kernel_rfl) (fun _ _ _ h=>h) rfl (HS2.out _ _ _) (by rintro w' ⟨hw1,hw2,hw3,hw4⟩; go_simp; rfl) ?_;simp only[Act.put,aE,aF,aG];refine ah 7 rfl (by kernel_rfl) (by kernel_rfl) (by kernel_rfl) (fun _ _ _ h=>h) rfl (HS2.out _ _ _) (by rintro w' ⟨hw1,hw2,hw3,hw4⟩; go_simp; rfl) ?_
         simp only[Act.put,aE,aF,aG];refine aV (by kernel_rfl) ?_;go_wp2_with fail;refine dS HR6.out rfl rfl rfl rfl ⟨dn HB6.out (by show w.heap.size<=w.heap.size+2; omega), ?_⟩;rw[HM3.out];refine⟨_,zs,by rw[<-HRE.out]; rfl,HZS.out,HBO.out.other HR6.out (by decide) (by decide) hwb (fun i hi=>bP hi)⟩
     ·have e1:(x != 0)=true:=by simp[hx0]
      have HX0:=ag hx0;clear hx0;have z0:=af (k:=0) HR4.out;have z1:=af (k:=1) HR4.out;have z2:=af (k:=2) HR4.out;have y0:=aj (k:=0) HR4.out;have y1:=aj (k:=1) HR4.out;have y2:=aj (k:=2) HR4.out;simp only[aP]at z0 z1 z2;go_wp2_with fail;refine dS HR4.out rfl rfl rfl rfl ⟨dn HB4.out (by show w.heap.size<=w.heap.size+2; omega), ?_⟩
      rw[HM1.out,if_neg (by rw[HCX2.out]; exact HX0.out)];rw[HCX2.out];exact⟨rfl,HX0.out⟩
   ·have HGM:=ag (hgm.same (w':=w2) (HB2.out.block gb hgm.lt));have hgbw:gb<w.heap.size:=hgm.lt;clear hgm hTg;go_wp2_with (at_range; go_must (refine qY rfl _ _ rfl eO gb _ rfl HGM.out ?_); intro w0 hrg0 hb0 hs0);obtain⟨r9,hr9⟩: ∃r9,r9=w2.heap.size:=⟨_,rfl⟩;rw[<-hr9]at hrg0 ⊢;have HR9:=ag hr9;have HB20:=ag hb0;clear hr9 hs0 hb0
    go_frame
    go_loopw [14] (fun _ wr=> ∃vis,jD Tryz.prog 9 wr gb r9 (gs.map uO) vis/\(∀p∈vis,∃z:Int,p.2= .int .i64 z/\0<=z/\z<=1099511627776)/\Below w2.heap.size w2 wr) (fun _ wr=>wr.rangeLeft gb r9)
    case atStart=>exact⟨[],hrg0,by simp,HB20.out⟩
    case round=>
     obtain⟨vis,hrg,hvis,hb2r⟩:=hrel;have HRG:=ag hrg;have HVIS:=ag hvis;have HB2R:=ag hb2r;clear hrg hvis hb2r;go_wp2_with (at_next; go_must (refine tZ rfl _ rfl gb r9 _ _ rfl HRG.out ?_ ?_))
     ·intro hdone;have HALL:=ag (show gs.all (fun p=>decide (0<=p.2) && decide (p.2<=1099511627776))=true from by
       rw[List.all_eq_true];intro p hp;obtain⟨z,hz1,hz2,hz3⟩:=HVIS.out (uO p) (hdone.mem_iff.2 (List.mem_map.2 ⟨p,hp,rfl⟩));simp only[uO,Value.int.injEq,true_and]at hz1;subst hz1;simp[hz2,hz3])
      have HB3:=ag (ai HB2.out HB2R.out);have HR3:=ag ((HB2R.out.block _ (lt_of_block HR2.out)).trans HR2.out);have HK3:=ag ((HB2R.out.block _ (lt_of_block HK2.out)).trans HK2.out);have HC3:=ag ((HB2R.out.block _ (lt_of_block HC2.out)).trans HC2.out);clear hdone HRG hrg0
      go_upto_region 9 with(fail)
      have HM1:=ag (show cW k c tree gs=(if cX tree=0 then(match cL k gs c tree 514 ⟨#[]⟩with
       | .error x=> .error x
       | .ok p=> .ok (bc k gs p.1,bI k gs p.2 []))
      else .error (cX tree)) by rw[HM0.out,if_pos HALL.out])
      have htr:cD S (wr) (.slice ta n tc) tree:=cD.below HT.out HB3.out;have hev:=HE.out.below HB3.out;obtain⟨x,hx⟩: ∃x,cX tree=x:=⟨_,rfl⟩;have hck:=yy S tree (.slice ta n tc) x (wr) htr hev.env hx;have HCK:=ag hck;have HCX2:=ag hx;clear htr hev hck hx;go_wp2_with fail;refine HCK.out.mono ?_;rintro e w4 ⟨rfl,hb4⟩;have HB4:=ag (ai HB3.out hb4);have HR4:=ag ((hb4.block _ (lt_of_block HR3.out)).trans HR3.out)
      have HK4:=ag ((hb4.block _ (lt_of_block HK3.out)).trans HK3.out);have HC4:=ag ((hb4.block _ (lt_of_block HC3.out)).trans HC3.out);clear hb4
      by_cases hx0:x=0
      ·have e1:(x != 0)=false:=by simp[hx0]
       have HTO:=ag (oN.1 (HCX2.out.trans hx0));have HM2:=ag (show cW k c tree gs=(match cL k gs c tree 514 ⟨#[]⟩with
        | .error x=> .error x
        | .ok p=> .ok (bc k gs p.1,bI k gs p.2 [])) by rw[HM1.out,if_pos (HCX2.out.trans hx0)])
       clear hx0;have a0:=af (k:=0) HK4.out;have a1:=af (k:=1) HK4.out;have a2:=af (k:=2) HK4.out;have a3:=af (k:=3) HK4.out;have a4:=af (k:=4) HK4.out;have b0:=af (k:=0) HC4.out;have b1:=af (k:=1) HC4.out;have b2:=af (k:=2) HC4.out;have b3:=af (k:=3) HC4.out;have b4:=af (k:=4) HC4.out;simp only[aP]at a0 a1 a2 a3 a4 b0 b1 b2 b3 b4
       have hmm:= @run_makeMap Tryz.prog
       go_upto_region 13 with(fail)
       obtain⟨W5,hW5⟩: ∃W5:World,W5=((w4.alloc (.map #[] 0)).alloc (.map #[] 0)).alloc (.cells #[.string k.nm, .string k.st, .string k.ck, .string k.ix, .string k.tk, .int .i64 c.mn, .int .i64 c.mx, .int .i64 c.win, .int .i64 c.bits, .int .u64 (c.seed:Int), .map (some gb), .map (some w4.heap.size), .slice none 0 0, .map (some (w4.heap.size+1))] 122):=⟨_,rfl⟩;rw[<-hW5];obtain⟨base,hbase⟩: ∃base,base=w4.heap.size:=⟨_,rfl⟩
       rw[<-hbase]at hW5 ⊢;have HBS:=ag hbase;have hbgi:BgI w4 base (base+1+1) base (base+1) k c (.map (some gb)) [] W5 []:=by
        have e1:(w4.alloc (.map #[] 0)).heap.size=base+1:=by simp[hbase]
        have e2:((w4.alloc (.map #[] 0)).alloc (.map #[] 0)).heap.size=base+1+1:=by simp[hbase]
        have h1:=cT.made (P:=Tryz.prog) (k:=9) w4;have h2:=dC.made (w4.alloc (.map #[] 0));rw[e1]at h2;rw[<-hbase]at h1;have h3:=bS ((w4.alloc (.map #[] 0)).alloc (.map #[] 0)) (.cells #[.string k.nm, .string k.st, .string k.ck, .string k.ix, .string k.tk, .int .i64 c.mn, .int .i64 c.mx, .int .i64 c.win, .int .i64 c.bits, .int .u64 (c.seed:Int), .map (some gb), .map (some base), .slice none 0 0, .map (some (base+1))] 122)
        rw[e2]at h3;have hs1:W5.heap[base]? =(w4.alloc (.map #[] 0)).heap[base]? :=by rw[hW5]; exact(Below.heap_alloc _ _ _ (by rw[e2]; omega)).trans (Below.heap_alloc _ _ _ (by rw[e1]; omega))
        have hs2:W5.heap[base+1]? =((w4.alloc (.map #[] 0)).alloc (.map #[] 0)).heap[base+1]? :=by rw[hW5]; exact Below.heap_alloc _ _ _ (by rw[e2]; omega)
        refine⟨⟨by rw[hW5]; exact h3,⟨[],rfl,World.ownsRow_nil _ _ _ _,by simp⟩,h2.same hs2⟩,⟨h1.same hs1,by simp,by simp,List.Pairwise.nil,by simp⟩,fun d=>rfl, ?_⟩;rw[hW5,hbase];exact(((Below.refl _ _).alloc (Nat.le_refl _) _).alloc (by simp) _).alloc (by simp; omega) _
       have HBG:=ag hbgi;have hne2:w.heap.size+2<base:=by have:=lt_of_block HR4.out; omega
       have hwb:w.heap.size<=base:=by omega
       clear hW5 a0 a1 a2 a3 a4 b0 b1 b2 b3 b4 hmm hbase hbgi;go_wp2_with fail
       go_loopw [64] (fun i wr=> ∃(j:Nat) (G:List ua),j<=n/\i= .int .i64 (j:Int)/\BgI w4 base (base+1+1) base (base+1) k c (.map (some gb)) (tree.take j) wr G) (fun i _=>n-(intOf i).toNat)
       case atStart=>exact⟨0,[],Nat.zero_le _,rfl,HBG.out⟩
       case round=>
        obtain⟨j,G,hj,rfl,hin⟩:=hrel;rename_i wq;have HIN:=ag hin;clear hin HBG
        by_cases hlt:j<n
        ·obtain⟨e,he⟩: ∃e,tree[j]? =some e:=⟨tree[j]'(by rw[<-HN.out]; exact hlt),by simp⟩;have hbw:Below w.heap.size w wr:=HB4.out.trans (HIN.out.below.mono hwb);obtain⟨b,o,dv,rfl,-,-,hdd,heok,-,p0,p1,p2,p3,p4,p5⟩:=gZ (cD.below HT.out hbw) he;obtain⟨da,dc,rfl,-,-⟩:=bw.slice hdd;have HDY:=ag (show bw (· <base) wr (.slice da e.data.length dc) e.data/\dL e from by
          obtain⟨b9,o9,dv9,he9,_,_,hd9,_,_,_,_,_,_,hp9,_⟩:=gZ HT.out he
          cases he9
          have hq:=(hbw.cell (p:=⟨b,o+j*6+4,none⟩) (aC (a:=⟨b,o+j*6+4,none⟩) hp9)).trans hp9;rw[p4]at hq
          cases hq
          have hd0:=aT.lt' hd9 (by decide);exact⟨aT.same (aT.weak (T:=(· <w.heap.size)) hd0 (fun _ h=>h)) (fun i hi=>hbw.block i hi) |> fun h=>aT.weak h (fun i hi=>Nat.lt_of_lt_of_le hi hwb),heok⟩)
         have hval:=HTO.out.val e (List.mem_of_getElem? he);have hep:=bQ hval;have hes:e.path.size<=512:=(iQ hval).1;obtain⟨q,hq⟩: ∃q:ByteArray,q=⟨(aU (bl e.path)).toArray⟩:=⟨_,rfl⟩;have HQ:=ag hq;have hqs:q.size<=maxLen:=by
          have h1:=lr (l:=bl e.path) (fun h=>by have:=gM hep; rw[h]at this; simp at this);rw[hq,az,eK];rw[<-az e.path]at h1;unfold maxLen;omega
         have HEA:=ag he;have hpc:=fun W hE=>eP e.path q W hE hep hq
         have HPC:=ag hpc;have hbz:base<=wr.heap.size:=by have h1:=HIN.out.grp.map.lt; omega
         have h7:7<=base:=Nat.le_trans HE.out.seven hwb;clear hval hep hq hdd heok he hpc
         go_upto_region 16 with(fail)
         obtain⟨W6,hW6⟩: ∃W6:World,W6=wr.alloc (.cells #[.string e.path, .int .i64 e.kind, .int .i64 e.mode, .int .i64 e.time, .slice da e.data.length dc, .string e.link] 79):=⟨_,rfl⟩;rw[<-hW6];have hb6:Below wr.heap.size wr W6:=by rw[hW6]; exact(Below.refl _ _).alloc (Nat.le_refl _) _
         have HB6:=ag hb6;have HX6:=ag (show W6.heap[wr.heap.size]? =some (.cells #[.string e.path, .int .i64 e.kind, .int .i64 e.mode, .int .i64 e.time, .slice da e.data.length dc, .string e.link] 79 (0,0)) by rw[hW6]; exact bS wr _);have HE6:=ag (HE.out.keep (HB4.out.trans ((HIN.out.below.mono hwb).trans (hb6.mono (Nat.le_trans hwb hbz)))) HE.out.seven);clear hW6 hb6 p0 p1 p2 p3 p4 p5
         have d0:=af (k:=0) HX6.out;have d1:=af (k:=1) HX6.out;have d2:=af (k:=2) HX6.out;have d3:=af (k:=3) HX6.out;have d4:=af (k:=4) HX6.out;have d5:=af (k:=5) HX6.out;simp only[aP]at d0 d1 d2 d3 d4 d5;go_wp2_with fail;refine(HPC.out W6 HE6.out.env).mono ?_;rintro e' w7 ⟨rfl,hb7⟩;have HX7:=ag ((hb7.block _ (lt_of_block HX6.out)).trans HX6.out)
         have HB7:=ag (ai HB6.out hb7);clear hb7 d0 d1 d2 d3 d4 d5;go_wp2_with fail;obtain⟨W8,hW8⟩: ∃W8:World,W8=w7.drew:=⟨_,rfl⟩;have hb8:Below w7.heap.size w7 W8:=by rw[hW8]; exact(Below.refl _ _).drew
         have HB8:=ag (ai HB7.out hb8);have HX8:=ag ((hb8.block _ (lt_of_block HX7.out)).trans HX7.out);have hkp8:=dd.ofBelow (bb:=base+1+1) (kb:=base+1) (v:= .slice none 0 0) HB8.out hbz;have HBD8:=ag (HIN.out.bd.below HB8.out);have HGR8:=ag (HIN.out.grp.keep HIN.out.bd hkp8 (by omega));have HBX8:=ag HBD8.out.box;have hltx:wr.heap.size<W8.heap.size:=lt_of_block HX8.out
         have HDY8:=ag (show bw (· <base) W8 (.slice da e.data.length dc) e.data/\dL e from⟨ji HDY.out.1 (HB8.out.mono hbz),HDY.out.2⟩);have ht:Tryz.prog.underlying 119=some (.map 9 46):=Tryz.underlying119;have HTY:=ag ht;clear ht hb8 hkp8;have k0:=af (k:=0) HBX8.out;have k1:=af (k:=1) HBX8.out;have k2:=af (k:=2) HBX8.out;have k3:=af (k:=3) HBX8.out
         have k4:=af (k:=4) HBX8.out;have k10:=af (k:=10) HBX8.out;have k11:=af (k:=11) HBX8.out;have k12:=af (k:=12) HBX8.out;have k13:=af (k:=13) HBX8.out;simp only[gg,di,dA,List.cons_append,List.nil_append,aP]at k0 k1 k2 k3 k4 k10 k11 k12 k13;clear k0 k1 k2 k3 k4 k10 k12 k13;have d0:=af (k:=0) HX8.out;have d1:=af (k:=1) HX8.out
         have d2:=af (k:=2) HX8.out;have d3:=af (k:=3) HX8.out;have d4:=af (k:=4) HX8.out;have d5:=af (k:=5) HX8.out;simp only[aP]at d0 d1 d2 d3 d4 d5
         cases hf:G.find? (fun g=>decide (g.dir=q))with
         | none=>
          have HF:=ag hf;clear hf;have hnew: ∀p∈G.map gD,p.1≠Value.string q:=by
           intro p hp e9;obtain⟨g9,hg9,rfl⟩:=List.mem_map.1 hp;simp only[gD,Value.string.injEq]at e9;have:=List.find?_eq_none.1 HF.out g9 hg9;simp[e9]at this
          have HNEW:=ag hnew;have HLK:=ag (show ∀W:World,W.heap[base]? =W8.heap[base]? ->(Instr.lookup 119 (.map (some base)) (.string q) false).run Tryz.prog W= .ok (.slice none 0 0) W from fun W hW=>by
           have:=(HGR8.out.map.same hW).is.miss bR HTY.out (show(zeroValue 46).run Tryz.prog W= .ok (.slice none 0 0) W by kernel_rfl) (cM hqs) HNEW.out false
           simpa using this)
          clear hnew;have HNE:=ag (show(Value.slice none 0 0).ownBlock≠some (base+1+1)/\(Value.slice none 0 0).ownBlock≠some wr.heap.size/\(Value.slice none 0 0).ownBlock≠some base from⟨by simp[Value.ownBlock],by simp[Value.ownBlock],by simp[Value.ownBlock]⟩);have HNK:=ag (show(Value.slice none 0 0).ownBlock≠some (base+1) by simp[Value.ownBlock]);have HLOW:=ag (show ∀i,(Value.slice none 0 0).ownBlock=some i->base<=i from fun i hi=>by simp[Value.ownBlock]at hi)
          have HLNB:=ag (show(0:Nat)<1099511627775 by decide);have hlk:=HLK.out W8 rfl;refine bU (fun w'=>w'.cell? ⟨base+1+1,11,none⟩=some (.map (some base))/\(Instr.lookup 119 (.map (some base)) (.string (q)) false).run Tryz.prog w'= .ok (.slice none 0 0) w'/\w'.cell? ⟨wr.heap.size,0,none⟩=some (.string e.path)/\w'.cell? ⟨wr.heap.size,1,none⟩=some (.int .i64 e.kind)/\w'.cell? ⟨wr.heap.size,2,none⟩=some (.int .i64 e.mode)/\w'.cell? ⟨wr.heap.size,3,none⟩=some (.int .i64 e.time)/\w'.cell? ⟨wr.heap.size,4,none⟩=some (.slice da e.data.length dc)/\w'.cell? ⟨wr.heap.size,5,none⟩=some (.string e.link)) (by kernel_rfl) (by kernel_rfl) ?_
          simp only[List.dropLast_cons_cons,List.dropLast_singleton,List.length_cons,List.length_nil,Nat.reduceAdd,Nat.reduceSub];rw[<-hW8];clear hW8;refine ah 0 rfl (by kernel_rfl) (by kernel_rfl) (by kernel_rfl) (fun _ _ _ h=>h) rfl ⟨k11,hlk,d0,d1,d2,d3,d4,d5⟩ (by rintro w' ⟨hw1,hw2,hw3,hw4,hw5,hw6,hw7,hw8⟩; go_simp; rfl) ?_;simp only[Act.put,aE,aF,aG];refine ah 1 rfl (by kernel_rfl) (by kernel_rfl) (by kernel_rfl) (fun _ _ _ h=>h) rfl ⟨k11,hlk,d0,d1,d2,d3,d4,d5⟩ (by rintro w' ⟨hw1,hw2,hw3,hw4,hw5,hw6,hw7,hw8⟩; go_simp; rfl) ?_
          simp only[Act.put,aE,aF,aG];refine ah 2 rfl (by kernel_rfl) (by kernel_rfl) (by kernel_rfl) (fun _ _ _ h=>h) rfl ⟨k11,hlk,d0,d1,d2,d3,d4,d5⟩ (by rintro w' ⟨hw1,hw2,hw3,hw4,hw5,hw6,hw7,hw8⟩; go_simp; rfl) ?_;simp only[Act.put,aE,aF,aG];refine ah 3 rfl (by kernel_rfl) (by kernel_rfl) (by kernel_rfl) (fun _ _ _ h=>h) rfl ⟨k11,hlk,d0,d1,d2,d3,d4,d5⟩ (by rintro w' ⟨hw1,hw2,hw3,hw4,hw5,hw6,hw7,hw8⟩; go_simp; rfl) ?_
          simp only[Act.put,aE,aF,aG];refine ah 4 rfl (by kernel_rfl) (by kernel_rfl) (by kernel_rfl) (fun _ _ _ h=>h) rfl ⟨k11,hlk,d0,d1,d2,d3,d4,d5⟩ (by rintro w' ⟨hw1,hw2,hw3,hw4,hw5,hw6,hw7,hw8⟩; go_simp; rfl) ?_;simp only[Act.put,aE,aF,aG];refine ah 5 rfl (by kernel_rfl) (by kernel_rfl) (by kernel_rfl) (fun _ _ _ h=>h) rfl ⟨k11,hlk,d0,d1,d2,d3,d4,d5⟩ (by rintro w' ⟨hw1,hw2,hw3,hw4,hw5,hw6,hw7,hw8⟩; go_simp; rfl) ?_
          simp only[Act.put,aE,aF,aG];refine ah 6 rfl (by kernel_rfl) (by kernel_rfl) (by kernel_rfl) (fun _ _ _ h=>h) rfl ⟨k11,hlk,d0,d1,d2,d3,d4,d5⟩ (by rintro w' ⟨hw1,hw2,hw3,hw4,hw5,hw6,hw7,hw8⟩; go_simp; rfl) ?_;simp only[Act.put,aE,aF,aG];refine ah 7 rfl (by kernel_rfl) (by kernel_rfl) (by kernel_rfl) (fun _ _ _ h=>h) rfl ⟨k11,hlk,d0,d1,d2,d3,d4,d5⟩ (by rintro w' ⟨hw1,hw2,hw3,hw4,hw5,hw6,hw7,hw8⟩; go_simp; rfl) ?_
          simp only[Act.put,aE,aF,aG];refine ah 8 rfl (by kernel_rfl) (by kernel_rfl) (by kernel_rfl) (fun _ _ _ h=>h) rfl ⟨k11,hlk,d0,d1,d2,d3,d4,d5⟩ (by rintro w' ⟨hw1,hw2,hw3,hw4,hw5,hw6,hw7,hw8⟩; go_simp; rfl) ?_;simp only[Act.put,aE,aF,aG];refine ah 9 rfl (by kernel_rfl) (by kernel_rfl) (by kernel_rfl) (fun _ _ _ h=>h) rfl ⟨k11,hlk,d0,d1,d2,d3,d4,d5⟩ (by rintro w' ⟨hw1,hw2,hw3,hw4,hw5,hw6,hw7,hw8⟩; go_simp; rfl) ?_
          simp only[Act.put,aE,aF,aG];refine ah 10 rfl (by kernel_rfl) (by kernel_rfl) (by kernel_rfl) (fun _ _ _ h=>h) rfl ⟨k11,hlk,d0,d1,d2,d3,d4,d5⟩ (by rintro w' ⟨hw1,hw2,hw3,hw4,hw5,hw6,hw7,hw8⟩; go_simp; rfl) ?_;simp only[Act.put,aE,aF,aG];refine ah 11 rfl (by kernel_rfl) (by kernel_rfl) (by kernel_rfl) (fun _ _ _ h=>h) rfl ⟨k11,hlk,d0,d1,d2,d3,d4,d5⟩ (by rintro w' ⟨hw1,hw2,hw3,hw4,hw5,hw6,hw7,hw8⟩; go_simp; rfl) ?_
          simp only[Act.put,aE,aF,aG];have HAL:=ag ((Below.refl W8.heap.size W8).alloc (Nat.le_refl _) (.cells #[.string e.path, .int .i64 e.kind, .int .i64 e.mode, .int .i64 e.time, .slice da e.data.length dc, .string e.link] 79));have hltb:base+1+1<W8.heap.size:=lt_of_block HBX8.out;have hS2:=And.intro ((HAL.out.cell (p:=⟨base+1+1,11,none⟩) hltb).trans k11) (And.intro (HLK.out _ (HAL.out.block base (by omega))) (And.intro ((HAL.out.cell (p:=⟨wr.heap.size,0,none⟩) hltx).trans d0) (And.intro ((HAL.out.cell (p:=⟨wr.heap.size,1,none⟩) hltx).trans d1) (And.intro ((HAL.out.cell (p:=⟨wr.heap.size,2,none⟩) hltx).trans d2) (And.intro ((HAL.out.cell (p:=⟨wr.heap.size,3,none⟩) hltx).trans d3) (And.intro ((HAL.out.cell (p:=⟨wr.heap.size,4,none⟩) hltx).trans d4) ((HAL.out.cell (p:=⟨wr.heap.size,5,none⟩) hltx).trans d5)))))))
          have HS2:=ag hS2;clear hS2;refine ay 12 rfl (by kernel_rfl) rfl (fun K hK=> ?_);go_wp2_with fail
          (first | (refine⟨HS2.out, ?_⟩) | skip)
          refine ay 13 rfl (by kernel_rfl) rfl (fun K hK=> ?_);have hz8:base<=W8.heap.size:=by omega
          go_wp2_with (at_builtin; go_must (refine aJ Tryz.appEnts rfl _ _ rfl base (.slice none 0 0) (0) ([]) rfl W8 [.string e.path, .int .i64 e.kind, .int .i64 e.mode, .int .i64 e.time, .slice da e.data.length dc, .string e.link] _ rfl rfl (dy (e:=e)) ((World.ownsRow_nil _ _ _ _)) HLNB.out hz8 ?_); intro v' wc hown' hgrow' _ hpl; obtain⟨ae,ce,rfl,-,-⟩:=am hown')
          have hbxc:=(hgrow'.block (base+1+1) hltb (fun e9=>HNE.out.1 e9.symm)).trans HBX8.out;have hxc:=(hgrow'.block wr.heap.size hltx (fun e9=>HNE.out.2.1 e9.symm)).trans HX8.out;have hmc:=hgrow'.block base (by omega) (fun e9=>HNE.out.2.2 e9.symm);have hlkc:=HLK.out wc hmc;have HBXC:=ag hbxc;have HXC:=ag hxc;have HMC:=ag hmc;have HOWC:=ag hown';have HGRC:=ag hgrow'
          have HPLC:=ag hpl;clear hbxc hxc hmc hown' hgrow' hpl hlk k11 d0 d1 d2 d3 d4 d5;have d0:=af (k:=0) HXC.out;have d1:=af (k:=1) HXC.out;have d2:=af (k:=2) HXC.out;have d3:=af (k:=3) HXC.out;have d4:=af (k:=4) HXC.out;have d5:=af (k:=5) HXC.out;simp only[aP]at d0 d1 d2 d3 d4 d5;have k11:=af (k:=11) HBXC.out;simp only[gg,di,dA,List.cons_append,List.nil_append,aP]at k11
          refine⟨⟨k11,hlkc,d0,d1,d2,d3,d4,d5⟩, ?_⟩;refine aV (by kernel_rfl) ?_;refine cj rfl rfl (fun K hK=> ?_);clear k11 hlkc d0 d1 d2 d3 d4 d5;have HMS:=ag (HGR8.out.map.same HMC.out);go_wp2_with (at_mapUpdate; go_must (refine eo bR rfl _ _ _ _ rfl HTY.out base (G.map gD) HMS.out rfl (.string q) (.slice ae (0+1) ce) rfl rfl (cM hqs) HNEW.out ?_); intro w10 hm10 hg10)
          have HG10:=ag hg10;have HGRN:=ag (HGR8.out.new (Nat.le_refl _) hqs (y:=(.slice da e.data.length dc,e)) HDY8.out HOWC.out HGRC.out (fun i hi=>by
           rcases HPLC.out i hi with h9 | h9
           ·simp[Value.ownBlock]at h9
           ·exact h9) hm10 hg10)
          clear hm10 hg10;have hb10:=HIN.out.below.trans ((HB8.out.mono hbz).trans (((Below.refl base W8).grown HGRC.out hz8 (fun i hi=>HLOW.out i hi)).grown HG10.out (Nat.le_trans hz8 HGRC.out.size) (fun i hi=>by cases hi; exact Nat.le_refl _)));have hbd10:=HBD8.out.nilKeep (w':=w10) ((HG10.out.block _ (Nat.lt_of_lt_of_le hltb HGRC.out.size) (fun e9=>by have:=Option.some.inj e9; omega)).trans (HBXC.out.trans HBX8.out.symm)) ((HG10.out.block _ (Nat.lt_of_lt_of_le HBD8.out.known.map.lt HGRC.out.size) (fun e9=>by have:=Option.some.inj e9; omega)).trans (HGRC.out.block _ HBD8.out.known.map.lt (fun e9=>HNK.out e9.symm)))
          go_roundw
          case rel=>
           refine⟨j+1,(G++[⟨q, .slice ae (0+1) ce,[(.slice da e.data.length dc,e)]⟩]),by omega,by go_num,⟨hbd10,HGRN.out,fun d=> ?_,hb10⟩⟩;rw[ik HEA.out];rw[pp (g:=⟨q, .slice ae (0+1) ce,[(.slice da e.data.length dc,e)]⟩) HF.out]
           by_cases hqd:q=d
           ·rw[if_pos hqd,if_pos (show aU (bl e.path)=bl d by rw[<-hqd,HQ.out]; exact(eK _).symm),<-HIN.out.ents d,<-hqd,nk HF.out]
            rfl
           ·rw[if_neg hqd,if_neg (fun h9=>hqd (fg (by rw[HQ.out]; exact(eK _).trans h9))),List.append_nil];exact HIN.out.ents d
          case measure=>simp[intOf]; omega
         | some g=>
          obtain⟨A,B,hAB,hgd,hA⟩: ∃A B,G=A++g::B/\g.dir=q/\ ∀x∈A,x.dir≠q:=by
           have h9:=List.find?_eq_some_iff_append.1 hf;obtain⟨h1,A,B,h2,h3⟩:=h9;exact⟨A,B,h2,by simpa using h1,fun x hx=>by simpa using h3 x hx⟩
          have hent:=gY hf;subst hgd;subst hAB;have HENT:=ag hent;have HA:=ag hA;have hgo:=HGR8.out.own g (by simp);have hgo0:=HIN.out.grp.own g (by simp);obtain⟨ga,gc,hgv,hgn,-⟩:=am hgo;have hgl:g.ents.length<=4096:=by
           have h1:=HIN.out.ents g.dir;rw[hent]at h1;have h2:=congrArg List.length h1;rw[List.length_map]at h2;rw[h2];have h3:(cz (tree.take j) g.dir).length<=(tree.take j).length:=List.length_filter_le _ _;rw[List.length_take]at h3;have h4:=HTO.out.len;omega
          obtain⟨gl,hgl2⟩: ∃gl,gl=g.ents.length:=⟨_,rfl⟩;have HGL:=ag hgl2;rw[<-hgl2]at hgv hgl;have HLNB:=ag (show gl<1099511627775 by omega);have HGO:=ag (show W8.ownsRow base 79 6 (.slice ga gl gc) gl (bY g.ents) by rw[<-hgv,hgl2]; exact hgo);have HGV:=ag hgv;have HNE:=ag (show(Value.slice ga gl gc).ownBlock≠some (base+1+1)/\(Value.slice ga gl gc).ownBlock≠some wr.heap.size/\(Value.slice ga gl gc).ownBlock≠some base from by
           rw[<-hgv];refine⟨fun e9=> ?_,fun e9=> ?_,fun e9=> ?_⟩
           ·obtain⟨cs2,hc2⟩:=aA hgo e9;exact absurd (aK HBX8.out hc2) (by decide)
           ·have:=(hgo0.lt _ e9).2;omega
           ·obtain⟨cs2,hc2⟩:=aA hgo e9;exact HGR8.out.map.ncells hc2)
          have HNK:=ag (show(Value.slice ga gl gc).ownBlock≠some (base+1)from by
           rw[<-hgv];intro e9;obtain⟨cs2,hc2⟩:=aA hgo e9;exact HBD8.out.known.cells hc2)
          have HLOW:=ag (show ∀i,(Value.slice ga gl gc).ownBlock=some i->base<=i from fun i hi=>by
           rw[<-hgv]at hi;exact(hgo.lt i hi).1)
          have HLK:=ag (show ∀W:World,W.heap[base]? =W8.heap[base]? ->(Instr.lookup 119 (.map (some base)) (.string g.dir) false).run Tryz.prog W= .ok (.slice ga gl gc) W from fun W hW=>by
           have:=(HGR8.out.map.same hW).is.hit bR HTY.out (cM hqs) (val:=g.val) (List.mem_map.2 ⟨g,by simp,rfl⟩) false;rw[hgv]at this
           simpa using this)
          clear hf hent hA hgo hgo0 hgv hgl2;have hlk:=HLK.out W8 rfl;refine bU (fun w'=>w'.cell? ⟨base+1+1,11,none⟩=some (.map (some base))/\(Instr.lookup 119 (.map (some base)) (.string (g.dir)) false).run Tryz.prog w'= .ok (.slice ga gl gc) w'/\w'.cell? ⟨wr.heap.size,0,none⟩=some (.string e.path)/\w'.cell? ⟨wr.heap.size,1,none⟩=some (.int .i64 e.kind)/\w'.cell? ⟨wr.heap.size,2,none⟩=some (.int .i64 e.mode)/\w'.cell? ⟨wr.heap.size,3,none⟩=some (.int .i64 e.time)/\w'.cell? ⟨wr.heap.size,4,none⟩=some (.slice da e.data.length dc)/\w'.cell? ⟨wr.heap.size,5,none⟩=some (.string e.link)) (by kernel_rfl) (by kernel_rfl) ?_
          simp only[List.dropLast_cons_cons,List.dropLast_singleton,List.length_cons,List.length_nil,Nat.reduceAdd,Nat.reduceSub];rw[<-hW8];clear hW8;refine ah 0 rfl (by kernel_rfl) (by kernel_rfl) (by kernel_rfl) (fun _ _ _ h=>h) rfl ⟨k11,hlk,d0,d1,d2,d3,d4,d5⟩ (by rintro w' ⟨hw1,hw2,hw3,hw4,hw5,hw6,hw7,hw8⟩; go_simp; rfl) ?_;simp only[Act.put,aE,aF,aG];refine ah 1 rfl (by kernel_rfl) (by kernel_rfl) (by kernel_rfl) (fun _ _ _ h=>h) rfl ⟨k11,hlk,d0,d1,d2,d3,d4,d5⟩ (by rintro w' ⟨hw1,hw2,hw3,hw4,hw5,hw6,hw7,hw8⟩; go_simp; rfl) ?_
          simp only[Act.put,aE,aF,aG];refine ah 2 rfl (by kernel_rfl) (by kernel_rfl) (by kernel_rfl) (fun _ _ _ h=>h) rfl ⟨k11,hlk,d0,d1,d2,d3,d4,d5⟩ (by rintro w' ⟨hw1,hw2,hw3,hw4,hw5,hw6,hw7,hw8⟩; go_simp; rfl) ?_;simp only[Act.put,aE,aF,aG];refine ah 3 rfl (by kernel_rfl) (by kernel_rfl) (by kernel_rfl) (fun _ _ _ h=>h) rfl ⟨k11,hlk,d0,d1,d2,d3,d4,d5⟩ (by rintro w' ⟨hw1,hw2,hw3,hw4,hw5,hw6,hw7,hw8⟩; go_simp; rfl) ?_
          simp only[Act.put,aE,aF,aG];refine ah 4 rfl (by kernel_rfl) (by kernel_rfl) (by kernel_rfl) (fun _ _ _ h=>h) rfl ⟨k11,hlk,d0,d1,d2,d3,d4,d5⟩ (by rintro w' ⟨hw1,hw2,hw3,hw4,hw5,hw6,hw7,hw8⟩; go_simp; rfl) ?_;simp only[Act.put,aE,aF,aG];refine ah 5 rfl (by kernel_rfl) (by kernel_rfl) (by kernel_rfl) (fun _ _ _ h=>h) rfl ⟨k11,hlk,d0,d1,d2,d3,d4,d5⟩ (by rintro w' ⟨hw1,hw2,hw3,hw4,hw5,hw6,hw7,hw8⟩; go_simp; rfl) ?_
          simp only[Act.put,aE,aF,aG];refine ah 6 rfl (by kernel_rfl) (by kernel_rfl) (by kernel_rfl) (fun _ _ _ h=>h) rfl ⟨k11,hlk,d0,d1,d2,d3,d4,d5⟩ (by rintro w' ⟨hw1,hw2,hw3,hw4,hw5,hw6,hw7,hw8⟩; go_simp; rfl) ?_;simp only[Act.put,aE,aF,aG];refine ah 7 rfl (by kernel_rfl) (by kernel_rfl) (by kernel_rfl) (fun _ _ _ h=>h) rfl ⟨k11,hlk,d0,d1,d2,d3,d4,d5⟩ (by rintro w' ⟨hw1,hw2,hw3,hw4,hw5,hw6,hw7,hw8⟩; go_simp; rfl) ?_
          simp only[Act.put,aE,aF,aG];refine ah 8 rfl (by kernel_rfl) (by kernel_rfl) (by kernel_rfl) (fun _ _ _ h=>h) rfl ⟨k11,hlk,d0,d1,d2,d3,d4,d5⟩ (by rintro w' ⟨hw1,hw2,hw3,hw4,hw5,hw6,hw7,hw8⟩; go_simp; rfl) ?_;simp only[Act.put,aE,aF,aG];refine ah 9 rfl (by kernel_rfl) (by kernel_rfl) (by kernel_rfl) (fun _ _ _ h=>h) rfl ⟨k11,hlk,d0,d1,d2,d3,d4,d5⟩ (by rintro w' ⟨hw1,hw2,hw3,hw4,hw5,hw6,hw7,hw8⟩; go_simp; rfl) ?_
          simp only[Act.put,aE,aF,aG];refine ah 10 rfl (by kernel_rfl) (by kernel_rfl) (by kernel_rfl) (fun _ _ _ h=>h) rfl ⟨k11,hlk,d0,d1,d2,d3,d4,d5⟩ (by rintro w' ⟨hw1,hw2,hw3,hw4,hw5,hw6,hw7,hw8⟩; go_simp; rfl) ?_;simp only[Act.put,aE,aF,aG];refine ah 11 rfl (by kernel_rfl) (by kernel_rfl) (by kernel_rfl) (fun _ _ _ h=>h) rfl ⟨k11,hlk,d0,d1,d2,d3,d4,d5⟩ (by rintro w' ⟨hw1,hw2,hw3,hw4,hw5,hw6,hw7,hw8⟩; go_simp; rfl) ?_
          simp only[Act.put,aE,aF,aG];have HAL:=ag ((Below.refl W8.heap.size W8).alloc (Nat.le_refl _) (.cells #[.string e.path, .int .i64 e.kind, .int .i64 e.mode, .int .i64 e.time, .slice da e.data.length dc, .string e.link] 79));have hltb:base+1+1<W8.heap.size:=lt_of_block HBX8.out;have hS2:=And.intro ((HAL.out.cell (p:=⟨base+1+1,11,none⟩) hltb).trans k11) (And.intro (HLK.out _ (HAL.out.block base (by omega))) (And.intro ((HAL.out.cell (p:=⟨wr.heap.size,0,none⟩) hltx).trans d0) (And.intro ((HAL.out.cell (p:=⟨wr.heap.size,1,none⟩) hltx).trans d1) (And.intro ((HAL.out.cell (p:=⟨wr.heap.size,2,none⟩) hltx).trans d2) (And.intro ((HAL.out.cell (p:=⟨wr.heap.size,3,none⟩) hltx).trans d3) (And.intro ((HAL.out.cell (p:=⟨wr.heap.size,4,none⟩) hltx).trans d4) ((HAL.out.cell (p:=⟨wr.heap.size,5,none⟩) hltx).trans d5)))))))
          have HS2:=ag hS2;clear hS2;refine ay 12 rfl (by kernel_rfl) rfl (fun K hK=> ?_);go_wp2_with fail
          (first | (refine⟨HS2.out, ?_⟩) | skip)
          refine ay 13 rfl (by kernel_rfl) rfl (fun K hK=> ?_);have hz8:base<=W8.heap.size:=by omega
          go_wp2_with (at_builtin; go_must (refine aJ Tryz.appEnts rfl _ _ rfl base (.slice ga gl gc) (gl) ((bY g.ents)) rfl W8 [.string e.path, .int .i64 e.kind, .int .i64 e.mode, .int .i64 e.time, .slice da e.data.length dc, .string e.link] _ rfl rfl (dy (e:=e)) (HGO.out) HLNB.out hz8 ?_); intro v' wc hown' hgrow' _ hpl; obtain⟨ae,ce,rfl,-,-⟩:=am hown');have hbxc:=(hgrow'.block (base+1+1) hltb (fun e9=>HNE.out.1 e9.symm)).trans HBX8.out
          have hxc:=(hgrow'.block wr.heap.size hltx (fun e9=>HNE.out.2.1 e9.symm)).trans HX8.out;have hmc:=hgrow'.block base (by omega) (fun e9=>HNE.out.2.2 e9.symm);have hlkc:=HLK.out wc hmc;have HBXC:=ag hbxc;have HXC:=ag hxc;have HMC:=ag hmc;have HOWC:=ag hown';have HGRC:=ag hgrow';have HPLC:=ag hpl;clear hbxc hxc hmc hown' hgrow' hpl hlk k11 d0 d1 d2 d3 d4 d5;have d0:=af (k:=0) HXC.out
          have d1:=af (k:=1) HXC.out;have d2:=af (k:=2) HXC.out;have d3:=af (k:=3) HXC.out;have d4:=af (k:=4) HXC.out;have d5:=af (k:=5) HXC.out;simp only[aP]at d0 d1 d2 d3 d4 d5;have k11:=af (k:=11) HBXC.out;simp only[gg,di,dA,List.cons_append,List.nil_append,aP]at k11;refine⟨⟨k11,hlkc,d0,d1,d2,d3,d4,d5⟩, ?_⟩;refine aV (by kernel_rfl) ?_
          refine cj rfl rfl (fun K hK=> ?_);clear k11 hlkc d0 d1 d2 d3 d4 d5;have HMS:=ag (show cT Tryz.prog 9 wc base (A.map gD++(.string g.dir,g.val)::B.map gD)from by
           have:=HGR8.out.map.same HMC.out
           simpa [gD]using this)
          go_wp2_with (at_mapUpdate; go_must (refine jv bR rfl _ _ _ _ rfl HTY.out base (A.map gD) (B.map gD) (.string g.dir) (.slice ae (gl+1) ce) g.val HMS.out rfl rfl rfl ?_); intro w10 hm10 hg10);have HG10:=ag hg10;have HGRN:=ag (HGR8.out.over (Nat.le_refl _) (y:=(.slice da e.data.length dc,e)) HDY8.out (by rw[<-HGL.out]; exact HOWC.out) (by rw[HGV.out]; exact HGRC.out) (by rw[HGV.out]; exact HPLC.out) hm10 hg10)
          clear hm10 hg10;have hb10:=HIN.out.below.trans ((HB8.out.mono hbz).trans (((Below.refl base W8).grown HGRC.out hz8 (fun i hi=>HLOW.out i hi)).grown HG10.out (Nat.le_trans hz8 HGRC.out.size) (fun i hi=>by cases hi; exact Nat.le_refl _)));have hbd10:=HBD8.out.nilKeep (w':=w10) ((HG10.out.block _ (Nat.lt_of_lt_of_le hltb HGRC.out.size) (fun e9=>by have:=Option.some.inj e9; omega)).trans (HBXC.out.trans HBX8.out.symm)) ((HG10.out.block _ (Nat.lt_of_lt_of_le HBD8.out.known.map.lt HGRC.out.size) (fun e9=>by have:=Option.some.inj e9; omega)).trans (HGRC.out.block _ HBD8.out.known.map.lt (fun e9=>HNK.out e9.symm)))
          go_roundw
          case rel=>
           refine⟨j+1,(A++⟨g.dir, .slice ae (gl+1) ce,g.ents++[(.slice da e.data.length dc,e)]⟩::B),by omega,by go_num,⟨hbd10,HGRN.out,fun d=> ?_,hb10⟩⟩;rw[ik HEA.out];rw[nn (A:=A) (B:=B) (g:=g) (g':=(⟨g.dir, .slice ae (gl+1) ce,g.ents++[((Value.slice da e.data.length dc,e):gP)]⟩:ua)) rfl HA.out d]
           by_cases hqd:g.dir=d
           ·rw[if_pos hqd,if_pos (show aU (bl e.path)=bl d by rw[<-hqd,HQ.out]; exact(eK _).symm),<-HIN.out.ents d,<-hqd,HENT.out,List.map_append]
            rfl
           ·rw[if_neg hqd,if_neg (fun h9=>hqd (fg (by rw[HQ.out]; exact(eK _).trans h9))),List.append_nil];exact HIN.out.ents d
          case measure=>simp[intOf]; omega
        ·have hk2:j=n:=by omega
         have hgl:wF wr base base tree:=⟨G,HIN.out.grp,fun d=>by have:=HIN.out.ents d; rwa [show tree.take j=tree by rw[hk2,HN.out,List.take_length]]at this⟩;have hbz:base<=wr.heap.size:=by have h1:=HIN.out.grp.map.lt; omega
         have h7:7<=base:=Nat.le_trans HE.out.seven hwb;have hgok: ∀p∈gs,0<=p.2/\p.2<=1099511627776:=fun p hp=>by have:=List.all_eq_true.1 HALL.out p hp; simpa using this
         have hX:Bo base (base+1+1) (base+1) base k c gs tree (zm k gs c tree):=⟨HKV.out,HCV.out,hsd,hgok,by omega,by omega,h7,by omega,HTO.out.val,HTO.out.len,yo HCV.out HTO.out.len HTO.out.val,yq,yr⟩;have hbw:Below w.heap.size w wr:=HB4.out.trans (HIN.out.below.mono hwb);have hgw:iw (· <base) wr (.map (some gb)) gs:=by
          rcases HG.out with⟨h1,h2⟩ | ⟨gb9,h1,_,h3⟩
          ·exact .inl ⟨h1,h2⟩
          ·exact .inr ⟨gb9,h1,Nat.lt_of_lt_of_le h3.lt hwb,h3.same (hbw.block _ h3.lt)⟩
         have hdr:=tt hX 514 (Nat.le_refl _) ⟨#[]⟩ (.slice none 0 0) [] wr (by show 514<=0+514; omega) (.inl rfl) HIN.out.bd hgw hgl (by intro b hb; simp at hb) (HE.out.keep hbw HE.out.seven) hbz;unfold sR at hdr;clear hgl hX hgw
         cases hdp:cL k gs c tree 514 ⟨#[]⟩with
         | error x9=>
          rw[hdp]at hdr;have HM3:=ag (show cW k c tree gs= .error x9 by rw[HM2.out,hdp]);have HDR:=ag hdr;clear hdr hdp;go_wp2_with fail;refine HDR.out.mono ?_;rintro e' w5 ⟨rfl,hx9,v5,bs5,hbd5,hkp5⟩;have HB5:=ag (hbw.trans (hkp5.below.mono hwb));have HR5:=ag ((hkp5.below.block (w.heap.size+2) hne2).trans ((HIN.out.below.block (w.heap.size+2) hne2).trans HR4.out));have HX9:=ag hx9
          have e4:(x9 != 0)=true:=by simp[hx9]
          clear hx9 hbd5 hkp5 hbw
          go_upto_region 20 with(fail)
          obtain⟨W6,hW6⟩: ∃W6:World,W6=w5.alloc (.cells #[.string ⟨#[]⟩, .int .i64 0, .int .i64 0] 26):=⟨_,rfl⟩;rw[<-hW6];have hb6:Below w5.heap.size w5 W6:=by rw[hW6]; exact(Below.refl _ _).alloc (Nat.le_refl _) _
          have HB6:=ag (ai HB5.out hb6);have HR6:=ag ((hb6.block _ (lt_of_block HR5.out)).trans HR5.out);clear hb6 hW6;have z0:=af (k:=0) HR6.out;have z1:=af (k:=1) HR6.out;have z2:=af (k:=2) HR6.out;have y0:=aj (k:=0) HR6.out;have y1:=aj (k:=1) HR6.out;have y2:=aj (k:=2) HR6.out;simp only[aP]at z0 z1 z2;go_wp2_with fail;refine dS HR6.out rfl rfl rfl rfl ⟨dn HB6.out (by show w.heap.size<=w.heap.size+2; omega), ?_⟩
          rw[HM3.out];exact⟨rfl,HX9.out⟩
         | ok p=>
          rw[hdp]at hdr
          dsimp only at hdr
          have HM3:=ag (show cW k c tree gs= .ok (bc k gs p.1,bI k gs p.2 []) by rw[HM2.out,hdp]);obtain⟨r,hr⟩: ∃r,r=bc k gs p.1:=⟨_,rfl⟩;rw[<-hr]at hdr;have HRE:=ag hr;have HDR:=ag hdr;unfold bu at HDR;clear hdr hdp hr;go_wp2_with fail;refine HDR.out.mono ?_;rintro e' w5 ⟨rfl,-,v5,hbd5,hkp5⟩;have HB5:=ag (hbw.trans (hkp5.below.mono hwb));have HR5:=ag ((hkp5.below.block (w.heap.size+2) hne2).trans ((HIN.out.below.block (w.heap.size+2) hne2).trans HR4.out))
          have HBD5:=ag hbd5;clear hbd5 hkp5 hbw
          go_upto_region 22 with(fail)
          obtain⟨W6,hW6⟩: ∃W6:World,W6=(w5.alloc (.cells #[.string r.name, .int .i64 r.gen, .int .i64 r.size] 26)).drew:=⟨_,rfl⟩;have hb6:Below w5.heap.size w5 W6:=by rw[hW6]; exact((Below.refl _ _).alloc (Nat.le_refl _) _).drew
          have HB6:=ag (ai HB5.out hb6);have HR6:=ag ((hb6.block _ (lt_of_block HR5.out)).trans HR5.out);have HF6:=ag (show W6.heap[w5.heap.size]? =some (.cells #[.string r.name, .int .i64 r.gen, .int .i64 r.size] 26 (0,0)) by rw[hW6]; exact bS w5 _);have HBD6:=ag (HBD5.out.below hb6);obtain⟨zs,hzs,hbo⟩:=HBD6.out.own;obtain⟨va,vc,hv6,-,-⟩:=am hbo.row;subst hv6
          have HZS:=ag hzs;have HBO:=ag hbo;have HBX6:=ag HBD6.out.box;clear hb6 hzs hbo;have k12:=af (k:=12) HBX6.out;have f0:=af (k:=0) HF6.out;have f1:=af (k:=1) HF6.out;have f2:=af (k:=2) HF6.out;simp only[gg,di,dA,List.cons_append,List.nil_append,aP]at k12 f0 f1 f2;have z0:=af (k:=0) HR6.out;have z1:=af (k:=1) HR6.out;have z2:=af (k:=2) HR6.out
          have y0:=aj (k:=0) HR6.out;have y1:=aj (k:=1) HR6.out;have y2:=aj (k:=2) HR6.out;simp only[aP]at z0 z1 z2;refine cH (fun w'=>w'.cell? ⟨base+1+1,12,none⟩=some (.slice va zs.length vc)/\w'.cell? ⟨w5.heap.size,0,none⟩=some (.string r.name)/\w'.cell? ⟨w5.heap.size,1,none⟩=some (.int .i64 r.gen)/\w'.cell? ⟨w5.heap.size,2,none⟩=some (.int .i64 r.size)) (by kernel_rfl) ?_
          rw[<-hW6];clear hW6;refine ah 0 rfl (by kernel_rfl) (by kernel_rfl) (by kernel_rfl) (fun _ _ _ h=>h) rfl ⟨k12,f0,f1,f2⟩ (by rintro w' ⟨hw1,hw2,hw3,hw4⟩; go_simp; rfl) ?_;simp only[Act.put,aE,aF,aG];refine ah 1 rfl (by kernel_rfl) (by kernel_rfl) (by kernel_rfl) (fun _ _ _ h=>h) rfl ⟨k12,f0,f1,f2⟩ (by rintro w' ⟨hw1,hw2,hw3,hw4⟩; go_simp; rfl) ?_;simp only[Act.put,aE,aF,aG]
          refine ah 2 rfl (by kernel_rfl) (by kernel_rfl) (by kernel_rfl) (fun _ _ _ h=>h) rfl ⟨k12,f0,f1,f2⟩ (by rintro w' ⟨hw1,hw2,hw3,hw4⟩; go_simp; rfl) ?_;simp only[Act.put,aE,aF,aG];refine ah 3 rfl (by kernel_rfl) (by kernel_rfl) (by kernel_rfl) (fun _ _ _ h=>h) rfl ⟨k12,f0,f1,f2⟩ (by rintro w' ⟨hw1,hw2,hw3,hw4⟩; go_simp; rfl) ?_;simp only[Act.put,aE,aF,aG]
          refine ah 4 rfl (by kernel_rfl) (by kernel_rfl) (by kernel_rfl) (fun _ _ _ h=>h) rfl ⟨k12,f0,f1,f2⟩ (by rintro w' ⟨hw1,hw2,hw3,hw4⟩; go_simp; rfl) ?_;simp only[Act.put,aE,aF,aG];refine ay 5 rfl (by kernel_rfl) rfl (fun K hK=> ?_);have hw5:w.heap.size+1+1<w5.heap.size:=lt_of_block HR5.out;have hbwb:base+1+1≠w.heap.size+1+1:=by omega
          have hwfb:w5.heap.size≠w.heap.size+1+1:=by omega
          have hS2:=fun(u0 u1 u2:Value)=>And.intro ((World.cell?_of_block (a:=⟨base+1+1,12,none⟩) (bP (w:=W6) (x0:=u0) (x1:=u1) (x2:=u2) hbwb)).trans k12) (And.intro ((World.cell?_of_block (a:=⟨w5.heap.size,0,none⟩) (bP (w:=W6) (x0:=u0) (x1:=u1) (x2:=u2) hwfb)).trans f0) (And.intro ((World.cell?_of_block (a:=⟨w5.heap.size,1,none⟩) (bP (w:=W6) (x0:=u0) (x1:=u1) (x2:=u2) hwfb)).trans f1) ((World.cell?_of_block (a:=⟨w5.heap.size,2,none⟩) (bP (w:=W6) (x0:=u0) (x1:=u1) (x2:=u2) hwfb)).trans f2)))
          have HS2:=ag hS2;clear hS2 k12 f0 f1 f2;go_wp2_with fail;refine⟨HS2.out _ _ _, ?_⟩;refine ah 6 rfl (by kernel_rfl) (by kernel_rfl) (by kernel_rfl) (fun _ _ _ h=>h) rfl (HS2.out _ _ _) (by rintro w' ⟨hw1,hw2,hw3,hw4⟩; go_simp; rfl) ?_;simp only[Act.put,aE,aF,aG];refine ah 7 rfl (by kernel_rfl) (by kernel_rfl) (by kernel_rfl) (fun _ _ _ h=>h) rfl (HS2.out _ _ _) (by rintro w' ⟨hw1,hw2,hw3,hw4⟩; go_simp; rfl) ?_
          simp only[Act.put,aE,aF,aG];refine aV (by kernel_rfl) ?_;go_wp2_with fail;refine dS HR6.out rfl rfl rfl rfl ⟨dn HB6.out (by show w.heap.size<=w.heap.size+2; omega), ?_⟩;rw[HM3.out];refine⟨_,zs,by rw[<-HRE.out]; rfl,HZS.out,HBO.out.other HR6.out (by decide) (by decide) hwb (fun i hi=>bP hi)⟩
      ·have e1:(x != 0)=true:=by simp[hx0]
       have HX0:=ag hx0;clear hx0;have z0:=af (k:=0) HR4.out;have z1:=af (k:=1) HR4.out;have z2:=af (k:=2) HR4.out;have y0:=aj (k:=0) HR4.out;have y1:=aj (k:=1) HR4.out;have y2:=aj (k:=2) HR4.out;simp only[aP]at z0 z1 z2;go_wp2_with fail;refine dS HR4.out rfl rfl rfl rfl ⟨dn HB4.out (by show w.heap.size<=w.heap.size+2; omega), ?_⟩
       rw[HM1.out,if_neg (by rw[HCX2.out]; exact HX0.out)];rw[HCX2.out];exact⟨rfl,HX0.out⟩
     ·intro key v1 w1' a0 e0 hmem hxe hnew hrg1 hg1 hs1 hen;simp only[uO,Prod.mk.injEq]at hxe;obtain⟨rfl,rfl⟩:=hxe;have HMEM:=ag hmem;have HRG1:=ag hrg1;have hr9w:w2.heap.size<=r9:=by have:=HR9.out; omega
      have hb21:Below w2.heap.size w2 w1':=HB2R.out.grown hg1 HB2R.out.size (fun i hi=>by cases hi; exact hr9w);have HB21:=ag hb21;have hlt9:wr.rangeLeft gb r9=(gs.map uO).length-vis.length:=by have:=HRG.out.left; omega
      have hlt91:w1'.rangeLeft gb r9+(vis++[(Value.string a0,Value.int .i64 e0)]).length=(gs.map uO).length:=hrg1.left;have HLT:=ag (show w1'.rangeLeft gb r9<wr.rangeLeft gb r9 by
       have h1:=HRG.out.left;rw[List.length_append,List.length_singleton]at hlt91
       omega)
      clear hmem hnew hrg1 hg1 hs1 hb21 hlt9 hlt91
      by_cases hok:0<=e0/\e0<=1099511627776
      ·obtain⟨ho1,ho2⟩:=hok;have HO:=ag (And.intro ho1 ho2);go_wp2_with fail
       go_roundw
       case rel=>
        refine⟨_,HRG1.out,fun p hp=> ?_,HB21.out⟩
        rcases List.mem_append.1 hp with hp | hp
        ·exact HVIS.out p hp
        ·rw[List.mem_singleton]at hp;subst hp;exact⟨e0,rfl,HO.out.1,HO.out.2⟩
       case measure=>exact HLT.out
      ·have HNO:=ag (show cW k c tree gs= .error 1 by
        rw[HM0.out,if_neg];intro h9;have:=List.all_eq_true.1 h9 _ HMEM.out;simp only[Bool.and_eq_true,decide_eq_true_eq]at this;exact hok this)
       have HR5:=ag ((HB21.out.block _ (lt_of_block HR2.out)).trans HR2.out);have HB5:=ag (ai HB2.out HB21.out);have z0:=af (k:=0) HR5.out;have z1:=af (k:=1) HR5.out;have z2:=af (k:=2) HR5.out;have y0:=aj (k:=0) HR5.out;have y1:=aj (k:=1) HR5.out;have y2:=aj (k:=2) HR5.out;simp only[aP]at z0 z1 z2
       by_cases hneg:e0<0
       ·clear hok;go_wp2_with fail;refine dS HR5.out rfl rfl rfl rfl ⟨dn HB5.out (by show w.heap.size<=w.heap.size+2; omega), ?_⟩;rw[HNO.out];exact⟨rfl,by decide⟩
       ·have hbig:1099511627776<e0:=by omega
        clear hok;go_wp2_with fail;refine dS HR5.out rfl rfl rfl rfl ⟨dn HB5.out (by show w.heap.size<=w.heap.size+2; omega), ?_⟩;rw[HNO.out];exact⟨rfl,by decide⟩
end Go.Proofs.YtpffpjbkbaleiaaGreatDoor
namespace Go.Proofs.YtpffpjbkbaleiaaGreatDoor
open Go Go.RowKit Go.Maps
theorem tO {W:World} {b n sz:Nat} {cells:List Value} {t:TypeId} (h:W.heap[b]? =some (.cells cells.toArray t (0,0))) (hl:cells.length=n*sz) (hn:n<=maxLen):aT (fun k=>k=b) W sz (.slice (some ⟨b,0,none⟩) n n) n cells:=
 ⟨hl,some ⟨b,0,none⟩,n,rfl,Nat.le_refl _,hn, .inr ⟨b,0,rfl,rfl,fun j u hj=>by rw[ak h,Nat.zero_add,List.getElem?_toArray]; exact hj⟩⟩
theorem kX {S:Nat->Prop} {w:World} {v:Value} {bs:List UInt8} (h:aD S w v bs):(convert 29 9 v).run Tryz.prog w= .ok (.string ⟨bs.toArray⟩) w:=by
 have h1:=ry (S:=S) (w:=w) (v:=v) (bs:=bs) h;rw[qp]at h1;exact h1
theorem BT (w:World) (c:UInt8):(convert 29 9 (.slice (some ⟨w.heap.size,0,none⟩) 1 1)).run Tryz.prog (w.alloc (.cells #[.int .u8 (c.toNat:Int)] 5))= .ok (.string ⟨#[c]⟩) (w.alloc (.cells #[.int .u8 (c.toNat:Int)] 5)):=by
 have h:=kX (S:=fun _=>True) (bs:=[c]) (w:=w.alloc (.cells #[.int .u8 (c.toNat:Int)] 5)) (v:= .slice (some ⟨w.heap.size,0,none⟩) 1 1) ((tO (cells:=[aw c]) (heap_alloc_new w _) rfl (by decide)).weak (fun _ _=>trivial));exact h
theorem lW (c:UInt8) (w:World):Calls Tryz.prog 93 #[.int .u8 (c.toNat:Int)] w fun e w'=>e= .returned (.string (pH c))/\Below w.heap.size w w':=by
 have hcv:=BT w c
 go_enter Tryz.func93,Tryz.ntmps93
 go_wp2_with fail;go_ret;refine⟨?_,(Below.refl _ _).alloc (Nat.le_refl _) _⟩
 rfl
theorem vl (w:World):Calls Tryz.prog 33 #[] w fun e w'=>e= .returned (iS dh)/\Below w.heap.size w w':=by
 have HBK:=ag ((Below.refl w.heap.size w).alloc (Nat.le_refl _) (.cells #[.string ⟨#[]⟩, .string ⟨#[]⟩, .string ⟨#[]⟩, .string ⟨#[]⟩, .string ⟨#[]⟩] 42));have HXK:=ag (bS w (.cells #[.string ⟨#[]⟩, .string ⟨#[]⟩, .string ⟨#[]⟩, .string ⟨#[]⟩, .string ⟨#[]⟩] 42))
 go_enter Tryz.func33,Tryz.ntmps33
 go_wp2_with fail;refine(lW 110 _).mono ?_;rintro e wk ⟨rfl,hbk⟩;have HBQ:=ag (ai HBK.out hbk);have HXQ:=ag ((hbk.block _ (lt_of_block HXK.out)).trans HXK.out);clear hbk HBK HXK;have HBK:=HBQ;have HXK:=HXQ;clear HBQ HXQ;go_wp2_with fail;refine(lW 115 _).mono ?_;rintro e wk ⟨rfl,hbk⟩;have HBQ:=ag (ai HBK.out hbk);have HXQ:=ag ((hbk.block _ (lt_of_block HXK.out)).trans HXK.out)
 clear hbk HBK HXK;have HBK:=HBQ;have HXK:=HXQ;clear HBQ HXQ;go_wp2_with fail;refine(lW 99 _).mono ?_;rintro e wk ⟨rfl,hbk⟩;have HBQ:=ag (ai HBK.out hbk);have HXQ:=ag ((hbk.block _ (lt_of_block HXK.out)).trans HXK.out);clear hbk HBK HXK;have HBK:=HBQ;have HXK:=HXQ;clear HBQ HXQ;go_wp2_with fail;refine(lW 105 _).mono ?_;rintro e wk ⟨rfl,hbk⟩;have HBQ:=ag (ai HBK.out hbk)
 have HXQ:=ag ((hbk.block _ (lt_of_block HXK.out)).trans HXK.out);clear hbk HBK HXK;have HBK:=HBQ;have HXK:=HXQ;clear HBQ HXQ;go_wp2_with fail;refine(lW 116 _).mono ?_;rintro e wk ⟨rfl,hbk⟩;have HBQ:=ag (ai HBK.out hbk);have hx:=(hbk.block _ (lt_of_block HXK.out)).trans HXK.out;have c0:=af (k:=0) hx;have c1:=af (k:=1) hx;have c2:=af (k:=2) hx;have c3:=af (k:=3) hx
 have c4:=af (k:=4) hx;have f0:=aj (k:=0) hx;have f1:=aj (k:=1) hx;have f2:=aj (k:=2) hx;have f3:=aj (k:=3) hx;have f4:=aj (k:=4) hx;simp only[aP]at c0 c1 c2 c3 c4;have h5:=cO (k:=4) (cO (k:=3) (cO (k:=2) (cO (k:=1) (cO (k:=0) hx (.string (pH 110))) (.string (pH 115))) (.string (pH 99))) (.string (pH 105))) (.string (pH 116))
 simp only[List.setIfInBounds_toArray,List.set_cons_succ,List.set_cons_zero]at h5;have H5:=ag h5;clear hbk hx h5;go_wp2_with fail;have m0:=af (k:=0) H5.out;have m1:=af (k:=1) H5.out;have m2:=af (k:=2) H5.out;have m3:=af (k:=3) H5.out;have m4:=af (k:=4) H5.out;simp only[aP]at m0 m1 m2 m3 m4;refine bodyPost_ret (v:=iS dh) (by simp[results,Tryz.results33,go_sem,m0,m1,m2,m3,m4]; rfl) rfl ⟨rfl, ?_⟩
 have hb:w.heap.size<=w.heap.size:=Nat.le_refl _;exact Below.setCell (Below.setCell (Below.setCell (Below.setCell (Below.setCell HBQ.out hb _) hb _) hb _) hb _) hb _
theorem nj (w:World):Calls Tryz.prog 34 #[] w fun e w'=>e= .returned (fH jI)/\Below w.heap.size w w':=by
 have hx:=bS w (.cells #[.int .i64 2, .int .i64 6, .int .i64 1, .int .i64 1, .int .u64 0] 45);have m0:=af (k:=0) hx;have m1:=af (k:=1) hx;have m2:=af (k:=2) hx;have m3:=af (k:=3) hx;have m4:=af (k:=4) hx;simp only[aP]at m0 m1 m2 m3 m4;have M:=ag (And.intro m0 (And.intro m1 (And.intro m2 (And.intro m3 m4))));clear hx m0 m1 m2 m3 m4
 go_enter Tryz.func34,Tryz.ntmps34
 go_wp2_with fail;obtain⟨m0,m1,m2,m3,m4⟩:=M.out;exact bodyPost_ret (v:=fH jI) (by simp[results,Tryz.results34,go_sem,m0,m1,m2,m3,m4]; rfl) rfl ⟨rfl,(Below.refl _ _).alloc (Nat.le_refl _) _⟩
end Go.Proofs.YtpffpjbkbaleiaaGreatDoor
namespace Go.Proofs.YtpffpjbkbaleiaaGreatDoor
open Go Go.RowKit Go.Maps
def tK :List (ByteArray×List UInt8)->ByteArray->List UInt8->List (ByteArray×List UInt8)
 | [],n,x=>[(n,x)]
 | p::cs,n,x=>if p.1=n then(n,x)::cs else p::tK cs n x
def oZ (bs:List bN):List (ByteArray×List UInt8):=bs.foldl (fun cs b=>tK cs b.ref.name b.con) []
theorem wN {bs:List bN} {j:Nat} {b:bN} (h:bs[j]? =some b):oZ (bs.take (j+1))=tK (oZ (bs.take j)) b.ref.name b.con:=by
 unfold oZ;rw[bZ h,List.foldl_append]
 rfl
theorem bz.miss' {S:Nat->Prop} {w:World} {n:ByteArray} {v:Value} {x:List UInt8} (hv:aD S w v x): ∀ {m:List (Value×Value)} {cs:List (ByteArray×List UInt8)},bz S w m cs->(∀p∈m,p.1≠Value.string n)->bz S w (m++[(.string n,v)]) (tK cs n x)
 | [],[],_,_=>⟨rfl,hv,trivial⟩
 | [],_::_,h,_=>False.elim h
 | _::_,[],h,_=>False.elim h
 | (k,u)::m,(n',b')::cs,h,hm=>by
  have hne:n'≠n:=fun e=>hm (k,u) (by simp) (by rw[h.1,e])
  rw[tK,if_neg hne];exact⟨h.1,h.2.1,bz.miss' hv h.2.2 (fun p hp=>hm p (by simp[hp]))⟩
theorem bz.hit' {S:Nat->Prop} {w:World} {n:ByteArray} : ∀ {m:List (Value×Value)} {cs:List (ByteArray×List UInt8)},bz S w m cs->(∃p∈m,p.1=Value.string n)-> ∃m1 old m2,m=m1++(.string n,old)::m2/\ ∀(w':World) (S':Nat->Prop) (v:Value) (x:List UInt8),(∀v bs,aD S w v bs->aD S' w' v bs)->aD S' w' v x->bz S' w' (m1++(.string n,v)::m2) (tK cs n x)
 | [],[],_,⟨_,hp,_⟩=>by simp at hp
 | [],_::_,h,_=>False.elim h
 | _::_,[],h,_=>False.elim h
 | (k,u)::m,(n',b')::cs,h,hp=>by
  have hmono: ∀ {w':World} {S':Nat->Prop},(∀v bs,aD S w v bs->aD S' w' v bs)->bz S w m cs->bz S' w' m cs:=by
   intro w' S' hm;have: ∀ {m:List (Value×Value)} {cs:List (ByteArray×List UInt8)},bz S w m cs->bz S' w' m cs:=by
    intro m
    induction m with
    | nil=>intro cs h; cases cs with
     | nil=>trivial
     | cons=>exact h
    | cons p m ih=>intro cs h; cases cs with
     | nil=>exact h
     | cons q cs=>exact⟨h.1,hm _ _ h.2.1,ih h.2.2⟩
   exact this
  by_cases hn:n'=n
  ·subst hn;refine⟨[],u,m,by rw[h.1]; rfl,fun w' S' v x hm hv=> ?_⟩;rw[tK,if_pos rfl];exact⟨rfl,hv,hmono hm h.2.2⟩
  ·obtain⟨p,hp1,hp2⟩:=hp;have hp3:p∈m:=by
    rcases List.mem_cons.1 hp1 with rfl | hp3
    ·have:=h.1.symm.trans hp2;simp only[Value.string.injEq]at this;exact absurd this hn
    ·exact hp3
   obtain⟨m1,old,m2,h1,h2⟩:=bz.hit' h.2.2 ⟨p,hp3,hp2⟩;refine⟨(k,u)::m1,old,m2,by rw[h1]; rfl,fun w' S' v x hm hv=> ?_⟩;rw[tK,if_neg hn];exact⟨h.1,hm _ _ h.2.1,h2 w' S' v x hm hv⟩
def gT (S:Nat->Prop) (w:World) (v:Value) (bs:List bN):Prop:= ∃zs:List iL,zs.map Prod.snd=bs/\aT S w 4 v zs.length (eF zs)/\ ∀z∈zs,aD S w z.1 z.2.con/\bo z.2.ref
theorem oI : ∀ {zs:List iL} {k:Nat} {z:iL},zs[k]? =some z-> ∀j,j<4->(eF zs)[k*4+j]? =(jx z.1 z.2)[j]?
 | [],k,_,h,_,_=>by simp at h
 | x::zs,0,z,h,j,hj=>by
  simp at h; subst h;unfold eF;rw[List.flatMap_cons,Nat.zero_mul,Nat.zero_add,List.getElem?_append_left (by exact hj)]
 | x::zs,k+1,z,h,j,hj=>by
  have:=oI (zs:=zs) (k:=k) (z:=z) (by simpa using h) j hj;unfold eF at this ⊢;rw[List.flatMap_cons,List.getElem?_append_right (by show 4<=_; omega),<-this]
  congr 1
  show(k+1)*4+j-4=_
  omega
theorem um {S:Nat->Prop} {w:World} {a:Option Addr} {n cap:Nat} {zs:List iL} (h:aT S w 4 (.slice a n cap) zs.length (eF zs)) {k:Nat} {z:iL} (hz:zs[k]? =some z):
  ∃b o,a=some ⟨b,o,none⟩/\S b/\b<w.heap.size/\ ∀j,j<4->w.cell? ⟨b,o+k*4+j,none⟩=(jx z.1 z.2)[j]? :=by
 obtain⟨_,a',cap',he,_,_,h0⟩:=h
 cases he
 have hlt:=(List.getElem?_eq_some_iff.1 hz).1
 rcases h0 with h0 | ⟨b,o,rfl,hS,hc⟩
 ·omega
 ·have g:=fun j (hj:j<4)=>hc (k*4+j) _ ((oI hz j hj).trans (List.getElem?_eq_getElem (l:=jx z.1 z.2) hj))
  have g0:=g 0 (by omega);refine⟨b,o,rfl,hS,aC (a:=⟨b,o+(k*4+0),none⟩) g0,fun j hj=> ?_⟩;rw[Nat.add_assoc,g j hj];exact(List.getElem?_eq_getElem (l:=jx z.1 z.2) hj).symm
theorem gT.below {S:Nat->Prop} {w w':World} {v:Value} {bs:List bN} (h:gT S w v bs) (hb:Below w.heap.size w w'):gT S w' v bs:=by
 obtain⟨zs,h1,h2,h3⟩:=h;exact⟨zs,h1,aT.below h2 (by omega) hb,fun z hz=>⟨aT.below (h3 z hz).1 (by omega) hb,(h3 z hz).2⟩⟩
def DN (S:Nat->Prop) (bs:List bN) (w:World) (e:Ending) (w':World):Prop:= ∃mb m,e= .returned (.map (some mb))/\w.heap.size<=mb/\cT Tryz.prog 9 w' mb m/\bz S w' m (oZ bs)/\Below w.heap.size w w'
theorem tj (S:Nat->Prop) (bs:List bN) (v:Value) (w:World) (hv:gT S w v bs) (hl:bs.length<=1000000):Calls Tryz.prog 36 #[v] w (DN S bs w):=by
 obtain⟨zs,hzs,hrow,hdat⟩:=hv;obtain⟨_,a,cap,rfl,hcp,hm,-⟩:=id hrow;unfold maxLen at hm;have HROW:=ag hrow;have HDAT:=ag hdat
 have HZS:=ag hzs;obtain⟨n,hn⟩: ∃n,n=zs.length:=⟨_,rfl⟩;have hln:n<=1000000:=by rw[hn,<-List.length_map (f:=Prod.snd),hzs]; exact hl
 rw[<-hn]at hcp ⊢;have HN:=ag hn;have hmm:= @run_makeMap Tryz.prog;obtain⟨W0,hW0⟩: ∃W0,W0=w.alloc (.map #[] 0):=⟨_,rfl⟩;have HM0:=ag (show cT Tryz.prog 9 W0 w.heap.size [] by rw[hW0]; exact cT.made w);have HB0:=ag (show Below w.heap.size w W0 by rw[hW0]; exact(Below.refl _ _).alloc (Nat.le_refl _) _);clear hrow hdat hzs hn hl
 go_enter Tryz.func36,Tryz.ntmps36
 go_upto_region 2 with(fail)
 rw[<-hW0];clear hW0 hmm;go_wp2_with fail
 go_loopw [4] (fun i wr=> ∃(j:Nat) (m:List (Value×Value)),j<=n/\i= .int .i64 (j:Int)/\cT Tryz.prog 9 wr w.heap.size m/\bz S wr m (oZ (bs.take j))/\Below w.heap.size w wr) (fun i _=>n-(intOf i).toNat)
 case atStart=>exact⟨0,[],Nat.zero_le _,rfl,HM0.out,trivial,HB0.out⟩
 case round=>
  obtain⟨j,m,hj,rfl,hms,hen,hb⟩:=hrel;have HMS:=ag hms;have HEN:=ag hen;have HB:=ag hb;clear hms hen hb
  by_cases hlt:j<n
  ·obtain⟨z,hz⟩: ∃z,zs[j]? =some z:=⟨zs[j]'(by rw[<-HN.out]; exact hlt),by simp⟩;obtain⟨b,o,rfl,-,hbl,hcl⟩:=um HROW.out hz;have hzd:=HDAT.out z (List.mem_of_getElem? hz);have HZD:=ag hzd;have HZN:=ag (show bs[j]? =some z.2 by rw[<-HZS.out,List.getElem?_map,hz]; rfl);obtain⟨_,za,zc,hzv,-,-,-⟩:=id hzd.1;have g:=fun i (hi:i<4)=>(HB.out.cell (p:=⟨b,o+j*4+i,none⟩) hbl).trans (hcl i hi)
   have q0:=g 0 (by omega);have q3:=g 3 (by omega);simp only[jx,Ci,Nat.add_zero]at q0 q3;rw[hzv]at q3;obtain⟨zl,hzl⟩: ∃zl,zl=z.2.con.length:=⟨_,rfl⟩;rw[<-hzl]at q3;obtain⟨nm,hnm⟩: ∃nm,nm=z.2.ref.name:=⟨_,rfl⟩;rw[<-hnm]at q0;have hnms:nm.size<=maxLen:=by rw[hnm]; exact hzd.2.nm
   have ht:Tryz.prog.underlying 55=some (.map 9 29):=Tryz.underlying55;have HTY:=ag ht;have HST:=ag (show oZ (bs.take (j+1))=tK (oZ (bs.take j)) nm z.2.con by rw[wN HZN.out,hnm]);have HBV:=ag (show ∀W:World,Below w.heap.size w W->aD S W (.slice za zl zc) z.2.con from fun W hW=>by rw[hzl,<-hzv]; exact aT.below hzd.1 (by omega) hW);have hbw:w.heap.size<wr.heap.size:=HMS.out.lt
   clear ht hz hcl hzd hzv g hzl hnm;go_wp2_with fail;refine au [some 12,none] (by kernel_rfl) (by kernel_rfl) (by kernel_rfl) ?_;simp only[bn,List.take_succ_cons,List.take_zero,List.drop_succ_cons,List.drop_zero];have HMD:=ag (HMS.out.same (w':=wr.drew) rfl)
   repeat (first | (refine aI rfl ?_; simp only[Act.put,aE,aF,aG]) | (refine aM rfl (fun K hK=> ?_); go_simp; refine hK _ ?_; clear hK K))
   refine aL ?_;refine bC rfl (fun K hK=> ?_);have hby: ∀(w9:World),wr.drew.grownBy w9 (some w.heap.size)->Below w.heap.size w w9:=fun w9 hg=>(HB.out.trans ((Below.refl wr.heap.size wr).drew.mono HB.out.size)).grown hg (Nat.le_of_lt hbw) (fun i hi=>by cases hi; exact Nat.le_refl _)
   have HBY:=ag hby
   have hkeep: ∀(w9:World),wr.drew.grownBy w9 (some w.heap.size)-> ∀v bs,aD S wr v bs->aD S w9 v bs:=fun w9 hg v bs hv=>by
    obtain⟨h1,a9,cap9,rfl,h2,h3,h4⟩:=hv;refine⟨h1,a9,cap9,rfl,h2,h3, ?_⟩
    rcases h4 with h4 | ⟨b9,o9,rfl,hS,hc⟩
    ·exact .inl h4
    ·refine .inr ⟨b9,o9,rfl,hS,fun i u hi=> ?_⟩;have q:=hc i u hi;rw[<-q];refine World.cell?_of_block (hg.block b9 (aC (a:=⟨b9,o9+i,none⟩) q) (fun e=> ?_));have:b9=w.heap.size:=by simpa using e
     subst this;obtain⟨es,clock,hb9,_⟩:=HMS.out;simp[World.cell?,hb9]at q
   have HKP:=ag hkeep;clear hby hkeep
   by_cases hin: ∃p∈m,p.1=Value.string nm
   ·obtain⟨m1,old,m2,rfl,hnew⟩:=HEN.out.hit' hin;have HNW:=ag hnew;clear hin hnew;go_wp2_with (at_mapUpdate; go_must (refine jv bR rfl _ _ _ _ rfl HTY.out w.heap.size m1 m2 (.string nm) (.slice za zl zc) old HMD.out rfl rfl rfl ?_); intro w9 hm9 hg9);have HM9:=ag hm9;have HG9:=ag hg9;clear hm9 hg9;go_wp2_with fail
    go_roundw
    case rel=>exact⟨j+1,_,by omega,by go_num,HM9.out,by rw[HST.out]; exact HNW.out w9 S _ _ (HKP.out w9 HG9.out) (HBV.out w9 (HBY.out w9 HG9.out)),HBY.out w9 HG9.out⟩
    case measure=>simp[intOf]; omega
   ·have hno: ∀p∈m,p.1≠Value.string nm:=fun p hp e=>hin ⟨p,hp,e⟩
    have HNO:=ag hno;clear hin hno;go_wp2_with (at_mapUpdate; go_must (refine eo bR rfl _ _ _ _ rfl HTY.out w.heap.size m HMD.out rfl (.string nm) (.slice za zl zc) rfl rfl (cM hnms) HNO.out ?_); intro w9 hm9 hg9);have HM9:=ag hm9;have HG9:=ag hg9;clear hm9 hg9;go_wp2_with fail
    go_roundw
    case rel=>exact⟨j+1,_,by omega,by go_num,HM9.out,by rw[HST.out]; exact bz.miss' (HBV.out w9 (HBY.out w9 HG9.out)) (HEN.out.mono (HKP.out w9 HG9.out)) HNO.out,HBY.out w9 HG9.out⟩
    case measure=>simp[intOf]; omega
  ·have hk2:j=n:=by omega
   subst hk2;go_wp2_with fail;go_ret;have h1:=HEN.out;rw[List.take_of_length_le (by rw[<-HZS.out,List.length_map,<-HN.out]; exact Nat.le_refl _)]at h1;exact⟨_,m,rfl,Nat.le_refl _,HMS.out,h1,HB.out⟩
end Go.Proofs.YtpffpjbkbaleiaaGreatDoor
namespace Go.Proofs.YtpffpjbkbaleiaaGreatDoor
open Go Go.RowKit
theorem Cr {a:Act} {w:World} {b:Nat} {x0 x1 x2 x3 x4 x5 x6 x7 x8 x9 e7:Value} (h:w.heap[b]? =some (.cells #[x0,x1,x2,x3,x4,x5,x6,x7,x8,x9] 28 (0,0)))
  (h6:a.tmps[6]? =some (.pointer (some ⟨b,0,none⟩))) (h7:a.tmps[7]? =some e7):(results Tryz.f28 a.tmps).run Tryz.prog w= .ok (.tuple #[.agg #[x0,x1,x2,x3,x4,x5,x6,x7,x8,x9],e7]) w:=by
 have m0:=ak (k:=0) h;have m1:=ak (k:=1) h;have m2:=ak (k:=2) h;have m3:=ak (k:=3) h;have m4:=ak (k:=4) h;have m5:=ak (k:=5) h;have m6:=ak (k:=6) h;have m7:=ak (k:=7) h;have m8:=ak (k:=8) h;have m9:=ak (k:=9) h;simp only[aP]at m0 m1 m2 m3 m4 m5 m6 m7 m8 m9;simp[results,Tryz.results28,go_sem,h6,h7,m0,m1,m2,m3,m4,m5,m6,m7,m8,m9]
theorem iU {a:Act} {w:World} {b:Nat} {a0 a1 a2 a3 a4 a5 a6 a7 a8 a9 x0 x1 x2 x3 x4 x5 x6 x7 x8 x9 e7:Value} {Q:Ending->World->Prop} (h:w.heap[b]? =some (.cells #[a0,a1,a2,a3,a4,a5,a6,a7,a8,a9] 28 (0,0)))
  (h6:a.tmps[6]? =some (.pointer (some ⟨b,0,none⟩))) (h7:a.tmps[7]? =some e7) (hd:a.defers=[])
  (hQ:Q (.returned (.tuple #[.agg #[x0,x1,x2,x3,x4,x5,x6,x7,x8,x9],e7])) ((((((((((w.setCell ⟨b,0,none⟩ x0).setCell ⟨b,1,none⟩ x1).setCell ⟨b,2,none⟩ x2).setCell ⟨b,3,none⟩ x3).setCell ⟨b,4,none⟩ x4).setCell ⟨b,5,none⟩ x5).setCell ⟨b,6,none⟩ x6).setCell ⟨b,7,none⟩ x7).setCell ⟨b,8,none⟩ x8).setCell ⟨b,9,none⟩ x9)):
  bodyPost Tryz.prog Tryz.f28 Q Exit.ret a ((((((((((w.setCell ⟨b,0,none⟩ x0).setCell ⟨b,1,none⟩ x1).setCell ⟨b,2,none⟩ x2).setCell ⟨b,3,none⟩ x3).setCell ⟨b,4,none⟩ x4).setCell ⟨b,5,none⟩ x5).setCell ⟨b,6,none⟩ x6).setCell ⟨b,7,none⟩ x7).setCell ⟨b,8,none⟩ x8).setCell ⟨b,9,none⟩ x9):=bodyPost_ret (Cr (Dg h) h6 h7) hd hQ
theorem Dn {S:Nat->Prop} {w w':World} {a:Option Addr} {n cap:Nat} {xs:List ByteArray} (h:jf S w (.slice a n cap) xs) (hb:Below w.heap.size w w') {k:Nat} {x:ByteArray} (hx:xs[k]? =some x):
  ∃b o,a=some ⟨b,o,none⟩/\b<w.heap.size/\w'.cell? ⟨b,o+k,none⟩=some (.string x):=by
 obtain⟨_,a',cap',he,_,_,h0⟩:=h
 cases he
 rcases h0 with h0 | ⟨b,o,rfl,_,hc⟩
 ·have:=(List.getElem?_eq_some_iff.1 hx).1;omega
 ·have q:=hc k (.string x) (yM hx);exact⟨b,o,rfl,aC q,(hb.cell (p:=⟨b,o+k,none⟩) (aC q)).trans q⟩
structure LkI (w2 : World) (ib : Nat) (wr : World) (it : aB) : Prop where
 below:Below ib w2 wr
 box: ∃ca cc,wr.heap[ib]? =some (.cells (cV (.slice ca it.chunks.length cc) it).toArray 28 (0,0))/\aW (fun k=>ib<k) wr (.slice ca it.chunks.length cc) it.chunks
 ok:cw it
theorem LkI.next {w2 wr w':World} {ib:Nat} {it:aB} (h:LkI w2 ib wr it) (hb:Below wr.heap.size wr w'):LkI w2 ib w' it:=by
 obtain⟨ca,cc,h1,h2⟩:=h.box;have hl:=lt_of_block h1;exact⟨h.below.trans (hb.mono (by omega)),⟨ca,cc,(hb.block ib hl).trans h1,aS.below h2 (by omega) hb (fun _ _ _ h=>h)⟩,h.ok⟩
theorem wR {root:aN} (h:bo root):cw (gj root):=⟨by show(0:Nat)<=_; unfold maxLen; omega,by show(0:Nat)<=_; unfold maxLen; omega,h⟩
def DV (cs:List (ByteArray×List UInt8)) (root:aN) (path:ByteArray) (w:World) (e:Ending) (w':World):Prop:=Below w.heap.size w w'/\match eN cs root path with
 | .error x=>e= .returned (.tuple #[.agg #[.string ⟨#[]⟩, .int .i64 0, .int .i64 0, .int .i64 0, .int .i64 0, .string ⟨#[]⟩, .slice none 0 0, .string ⟨#[]⟩, .int .i64 0, .int .i64 0], .int .i64 x])/\x≠0
 | .ok it=> ∃v,e= .returned (.tuple #[fJ v it, .int .i64 0])/\aW (w.heap.size<= ·) w' v it.chunks/\cw it
theorem kM (S:Nat->Prop) (cv:Value) (cs:List (ByteArray×List UInt8)) (root:aN) (path:ByteArray) (w:World) (hc:bE S w cv cs) (henv:gN w) (hr:bo root):Calls Tryz.prog 28 #[bu root,cv, .string path] w (DV cs root path w):=by
 obtain⟨W0,hW0⟩: ∃W0,W0=(w.alloc (.cells #[.string root.name, .int .i64 root.gen, .int .i64 root.size] 26)).alloc (.cells #[.string ⟨#[]⟩, .int .i64 0, .int .i64 0, .int .i64 0, .int .i64 0, .string ⟨#[]⟩, .slice none 0 0, .string ⟨#[]⟩, .int .i64 0, .int .i64 0] 28):=⟨_,rfl⟩;have HB0:=ag (show Below w.heap.size w W0 by rw[hW0]; exact((Below.refl _ _).alloc (Nat.le_refl _) _).alloc (by simp) _)
 have HX0:=ag (show W0.heap[w.heap.size]? =some (.cells #[.string root.name, .int .i64 root.gen, .int .i64 root.size] 26 (0,0)) by rw[hW0]; exact cQ (bS w _) _);have HY0:=ag (show W0.heap[w.heap.size+1]? =some (.cells #[.string ⟨#[]⟩, .int .i64 0, .int .i64 0, .int .i64 0, .int .i64 0, .string ⟨#[]⟩, .slice none 0 0, .string ⟨#[]⟩, .int .i64 0, .int .i64 0] 28 (0,0)) by rw[hW0]; exact jT w _ _)
 have HI:=ag (eI.start (hc.below HB0.out) (henv.below HB0.out));have HR:=ag hr;unfold bu;clear hc henv hr
 go_enter Tryz.func28,Tryz.ntmps28
 go_upto_region 1 with(fail)
 rw[<-hW0];clear hW0
 cases hp:be (bl path)with
 | false=>
  have HM:=ag (show eN cs root path= .error 1 by unfold eN; rw[if_neg (by rw[hp]; simp)]);have HP:=ag hp;clear hp;go_wp2_with fail;refine(AZ path W0 HI.out.env HP.out).mono ?_;rintro e w1 ⟨rfl,hb1⟩;have HB1:=ag (ai HB0.out hb1);have HY1:=ag ((hb1.block _ (lt_of_block HY0.out)).trans HY0.out);have z0:=af (k:=0) HY1.out;have z1:=af (k:=1) HY1.out
  have z2:=af (k:=2) HY1.out;have z3:=af (k:=3) HY1.out;have z4:=af (k:=4) HY1.out;have z5:=af (k:=5) HY1.out;have z6:=af (k:=6) HY1.out;have z7:=af (k:=7) HY1.out;have z8:=af (k:=8) HY1.out;have z9:=af (k:=9) HY1.out;have g0:=aj (k:=0) HY1.out;have g1:=aj (k:=1) HY1.out;have g2:=aj (k:=2) HY1.out;have g3:=aj (k:=3) HY1.out
  have g4:=aj (k:=4) HY1.out;have g5:=aj (k:=5) HY1.out;have g6:=aj (k:=6) HY1.out;have g7:=aj (k:=7) HY1.out;have g8:=aj (k:=8) HY1.out;have g9:=aj (k:=9) HY1.out;simp only[aP]at z0 z1 z2 z3 z4 z5 z6 z7 z8 z9;clear hb1;go_wp2_with fail;refine iU HY1.out rfl rfl rfl ⟨dD HB1.out (by show w.heap.size<=w.heap.size+1; omega), ?_⟩
  rw[HM.out];exact⟨rfl,by decide⟩
 | true=>
  have HP:=ag hp
  cases hv:dJ root with
  | false=>
   have HM:=ag (show eN cs root path= .error 1 by unfold eN; rw[if_neg (by rw[hv]; simp)]);have HVR:=ag hv;clear hp hv;go_wp2_with fail;refine(wn path W0 HI.out.env HP.out).mono ?_;rintro e w1 ⟨ap,cp,rfl,-,-,-,hb1⟩;have HB1:=ag (ai HB0.out hb1);have HW1:=ag hb1;have HX1:=ag ((hb1.block _ (lt_of_block HX0.out)).trans HX0.out);have HY1:=ag ((hb1.block _ (lt_of_block HY0.out)).trans HY0.out)
   have r0:=af (k:=0) HX1.out;have r1:=af (k:=1) HX1.out;have r2:=af (k:=2) HX1.out;simp only[aP]at r0 r1 r2;clear hb1;go_wp2_with fail;refine(dk root false _ HR.out HVR.out).mono ?_;rintro e w2 ⟨rfl,hb2⟩;have HB2:=ag (ai HB1.out hb2);have HY2:=ag ((hb2.block _ (lt_of_block HY1.out)).trans HY1.out);have z0:=af (k:=0) HY2.out;have z1:=af (k:=1) HY2.out
   have z2:=af (k:=2) HY2.out;have z3:=af (k:=3) HY2.out;have z4:=af (k:=4) HY2.out;have z5:=af (k:=5) HY2.out;have z6:=af (k:=6) HY2.out;have z7:=af (k:=7) HY2.out;have z8:=af (k:=8) HY2.out;have z9:=af (k:=9) HY2.out;have g0:=aj (k:=0) HY2.out;have g1:=aj (k:=1) HY2.out;have g2:=aj (k:=2) HY2.out;have g3:=aj (k:=3) HY2.out
   have g4:=aj (k:=4) HY2.out;have g5:=aj (k:=5) HY2.out;have g6:=aj (k:=6) HY2.out;have g7:=aj (k:=7) HY2.out;have g8:=aj (k:=8) HY2.out;have g9:=aj (k:=9) HY2.out;simp only[aP]at z0 z1 z2 z3 z4 z5 z6 z7 z8 z9;clear hb2 r0 r1 r2;go_wp2_with fail;refine iU HY2.out rfl rfl rfl ⟨dD HB2.out (by show w.heap.size<=w.heap.size+1; omega), ?_⟩
   rw[HM.out];exact⟨rfl,by decide⟩
  | true=>
   have HM:=ag (show eN cs root path=iT cs (jr (bl path)) (gj root) by unfold eN; rw[if_pos ⟨hp,hv⟩]);have HVR:=ag hv;clear hp hv;go_wp2_with fail;refine(wn path W0 HI.out.env HP.out).mono ?_;rintro e w1 ⟨ap,cp,rfl,hpn,hpm,hps,hb1⟩;obtain⟨ps,hpd⟩: ∃ps,ps=jr (bl path):=⟨_,rfl⟩;rw[<-hpd]at hps hpn ⊢;have HPD:=ag hpd;obtain⟨np,hnp⟩: ∃np,np=ps.length:=⟨_,rfl⟩
   rw[<-hnp]at hps hpn ⊢;have HNP:=ag hnp;have HPS:=ag hps;unfold maxLen at hpm;have HB1:=ag (ai HB0.out hb1);have HW1:=ag hb1;have HX1:=ag ((hb1.block _ (lt_of_block HX0.out)).trans HX0.out);have HY1:=ag ((hb1.block _ (lt_of_block HY0.out)).trans HY0.out);have r0:=af (k:=0) HX1.out;have r1:=af (k:=1) HX1.out;have r2:=af (k:=2) HX1.out;simp only[aP]at r0 r1 r2
   clear hb1;clear hpd hnp hps;go_wp2_with fail;refine(dk root true _ HR.out HVR.out).mono ?_;rintro e w2 ⟨rfl,hb2⟩;have HB2:=ag (ai HB1.out hb2);have HY2:=ag ((hb2.block _ (lt_of_block HY1.out)).trans HY1.out);have hx2:=(hb2.block _ (lt_of_block HX1.out)).trans HX1.out;clear r0 r1 r2;have r0:=af (k:=0) hx2;have r1:=af (k:=1) hx2;have r2:=af (k:=2) hx2
   simp only[aP]at r0 r1 r2;clear hx2;go_wp2_with fail;obtain⟨W3,hW3⟩: ∃W3,W3=w2.alloc (.cells #[.string ⟨#[]⟩, .int .i64 2, .int .i64 0, .int .i64 0, .int .i64 0, .string ⟨#[]⟩, .slice none 0 0, .string root.name, .int .i64 root.gen, .int .i64 root.size] 28):=⟨_,rfl⟩;rw[<-hW3];have HLK:=ag (show LkI w2 w2.heap.size W3 (gj root)from⟨by rw[hW3]; exact(Below.refl _ _).alloc (Nat.le_refl _) _,⟨none,0,by rw[hW3]; exact bS w2 _,aS.nil⟩,wR HR.out⟩)
   obtain⟨ib,hib⟩: ∃ib,ib=w2.heap.size:=⟨_,rfl⟩;rw[<-hib]at HLK ⊢;have HIB:=ag hib;have HPS2:=ag (aT.below HPS.out (by omega) hb2);have HW2:=ag (ai HW1.out hb2);clear hW3 r0 r1 r2 hb2 hib
   go_loopw [33] (fun i wr=> ∃(k:Nat) (it:aB),k<=np/\i= .int .i64 (k:Int)/\iT cs (ps.drop k) it=eN cs root path/\LkI w2 ib wr it) (fun i _=>np-(intOf i).toNat)
   case atStart=>exact⟨0,gj root,Nat.zero_le _,rfl,by rw[HM.out,<-HPD.out]; rfl,HLK.out⟩
   case round=>
    obtain⟨k,it,hk,rfl,hlp,hin⟩:=hrel;have HLP:=ag hlp;have HIN:=ag hin;obtain⟨ca,cc,hbx,hrf⟩:=hin.box;have HBX:=ag hbx;have HRF:=ag hrf;clear hlp hin hbx hrf HLK;have HYR:=ag ((HIN.out.below.block (w.heap.size+1) (by rw[HIB.out]; exact lt_of_block HY2.out)).trans HY2.out);have HWR:=ag (HB2.out.trans (HIN.out.below.mono (by rw[HIB.out]; exact HB2.out.size)));have hne:w.heap.size+1≠ib:=by have:=lt_of_block HY2.out; have:=HIB.out; omega
    by_cases hlt:k<np
    ·obtain⟨c,hc⟩: ∃c,ps[k]? =some c:=⟨ps[k]'(by rw[<-HNP.out]; exact hlt),by simp⟩;obtain⟨pb,po,rfl,hpb,hcell⟩:=Dn HPS2.out (by have:=HIN.out.below; rw[HIB.out]at this; exact this) hc;have HDR:=ag (show ps.drop k=c::ps.drop (k+1) by
      rw[List.drop_eq_getElem_cons (by rw[<-HNP.out]; exact hlt)]
      congr 1
      exact(List.getElem?_eq_some_iff.1 hc).2)
     obtain⟨W4,hW4⟩: ∃W4,W4=wr.alloc (.cells #[.string c] 9):=⟨_,rfl⟩;have hb4:Below wr.heap.size wr W4:=by rw[hW4]; exact(Below.refl _ _).alloc (Nat.le_refl _) _
     have HC4:=ag (show W4.cell? ⟨wr.heap.size,0,none⟩=some (.string c) by rw[hW4]; exact(af (bS wr _)).trans rfl);have HIN4:=ag (HIN.out.next hb4);have HBX4:=ag ((hb4.block ib (lt_of_block HBX.out)).trans HBX.out);have HY4:=ag ((hb4.block _ (lt_of_block HYR.out)).trans HYR.out);have HB4:=ag (ai HWR.out hb4);have HI4:=ag (HI.out.keepL (HW2.out.trans ((HIN.out.below.mono (by rw[HIB.out]; exact HW2.out.size)).trans (hb4.mono (Nat.le_trans HW2.out.size (by have:=HIN.out.below.size; exact this))))) (Nat.le_refl _))
     clear hc hb4
     go_upto_region 8 with(fail)
     rw[<-hW4];clear hW4 hcell;have i0:=af (k:=0) HBX4.out;have i1:=af (k:=1) HBX4.out;have i2:=af (k:=2) HBX4.out;have i3:=af (k:=3) HBX4.out;have i4:=af (k:=4) HBX4.out;have i5:=af (k:=5) HBX4.out;have i6:=af (k:=6) HBX4.out;have i7:=af (k:=7) HBX4.out;have i8:=af (k:=8) HBX4.out;have i9:=af (k:=9) HBX4.out;simp only[cV,aP]at i0 i1 i2 i3 i4 i5 i6 i7 i8 i9
     by_cases hk2:it.kind=2
     ·have e1:(it.kind != 2)=false:=by simp[hk2]
      have HLP2:=ag (show(match cI cs it.node with | .error x=> .error x | .ok l=>match l.find? (fun y=>decide (y.name=c))with | none=> .error 4 | some y=>iT cs (ps.drop (k+1)) y)=eN cs root path by have:=HLP.out; rw[HDR.out,iT,if_pos hk2]at this; exact this);have hnd:=mf _ cv cs it.node W4 HI4.out.cont HIN.out.ok.nd HI4.out.env;unfold lH at hnd;clear hk2
      cases hnp:cI cs it.node with
      | error x=>
       rw[hnp]at hnd;have HND:=ag hnd;have HM5:=ag (show eN cs root path= .error x by have:=HLP2.out; rw[hnp]at this; exact this.symm);clear hnp hnd;go_wp2_with fail;refine HND.out.mono ?_;rintro e w5 ⟨hb5,rfl,hx⟩;have HB5:=ag (ai HB4.out hb5);have HY5:=ag ((hb5.block _ (lt_of_block HY4.out)).trans HY4.out);have e2:(x != 0)=true:=by simp[hx]
       have HX:=ag hx;clear hx hb5 i0 i1 i2 i3 i4 i5 i6 i7 i8 i9;have z0:=af (k:=0) HY5.out;have z1:=af (k:=1) HY5.out;have z2:=af (k:=2) HY5.out;have z3:=af (k:=3) HY5.out;have z4:=af (k:=4) HY5.out;have z5:=af (k:=5) HY5.out;have z6:=af (k:=6) HY5.out;have z7:=af (k:=7) HY5.out;have z8:=af (k:=8) HY5.out;have z9:=af (k:=9) HY5.out
       have g0:=aj (k:=0) HY5.out;have g1:=aj (k:=1) HY5.out;have g2:=aj (k:=2) HY5.out;have g3:=aj (k:=3) HY5.out;have g4:=aj (k:=4) HY5.out;have g5:=aj (k:=5) HY5.out;have g6:=aj (k:=6) HY5.out;have g7:=aj (k:=7) HY5.out;have g8:=aj (k:=8) HY5.out;have g9:=aj (k:=9) HY5.out;simp only[aP]at z0 z1 z2 z3 z4 z5 z6 z7 z8 z9
       go_wp2_with fail;refine iU HY5.out rfl rfl rfl ⟨dD HB5.out (by show w.heap.size<=w.heap.size+1; omega), ?_⟩;rw[HM5.out];exact⟨rfl,HX.out⟩
      | ok l=>
       rw[hnp]at hnd;have HND:=ag hnd;have HLP3:=ag (show(match l.find? (fun y=>decide (y.name=c))with | none=> .error 4 | some y=>iT cs (ps.drop (k+1)) y)=eN cs root path by have:=HLP2.out; rw[hnp]at this; exact this);have HLV:=ag (jo hnp);clear hnp hnd;go_wp2_with fail;refine HND.out.mono ?_;rintro e w5 ⟨hb5,v5,rfl,hv5⟩;have HB5:=ag (ai HB4.out hb5)
       have HY5:=ag ((hb5.block _ (lt_of_block HY4.out)).trans HY4.out);have HIN5:=ag (HIN4.out.next hb5);have HBX5:=ag ((hb5.block _ (lt_of_block HBX4.out)).trans HBX4.out);have HC5:=ag ((hb5.cell (p:=⟨wr.heap.size,0,none⟩) (aC HC4.out)).trans HC4.out);obtain⟨a5,cap5,rfl,hc5,hm5,-⟩:=aS.shape hv5 dX.len;unfold maxLen at hm5;have HV5:=ag hv5;have HZ4:=ag (show ib<W4.heap.size from lt_of_block HBX4.out)
       obtain⟨nl,hnl⟩: ∃nl,nl=l.length:=⟨_,rfl⟩;rw[<-hnl]at HV5 hc5 ⊢;have HNL:=ag hnl;have hn4:nl<=4096:=by rw[hnl]; exact HLV.out.1
       clear hb5 hv5 hnl i0 i1 i2 i3 i4 i5 i6 i7 i8 i9;go_wp2_with fail;refine(qG _ l c wr.heap.size (.slice a5 nl cap5) w5 HV5.out HC5.out).mono ?_;rintro e w6 ⟨rfl,hb6⟩;have HB6:=ag (ai HB5.out hb6);have HY6:=ag ((hb6.block _ (lt_of_block HY5.out)).trans HY5.out);have HIN6:=ag (HIN5.out.next hb6);have HBX6:=ag ((hb6.block _ (lt_of_block HBX5.out)).trans HBX5.out)
       have HB56:=ag hb6;clear hb6
       rcases rO c l 0 with⟨hf,hix⟩ | ⟨j,y,hj,hf,hix⟩
       ·have HM6:=ag (show eN cs root path= .error 4 by have:=HLP3.out; rw[hf]at this; exact this.symm);rw[hix];clear hf hix;have z0:=af (k:=0) HY6.out;have z1:=af (k:=1) HY6.out;have z2:=af (k:=2) HY6.out;have z3:=af (k:=3) HY6.out;have z4:=af (k:=4) HY6.out;have z5:=af (k:=5) HY6.out;have z6:=af (k:=6) HY6.out;have z7:=af (k:=7) HY6.out
        have z8:=af (k:=8) HY6.out;have z9:=af (k:=9) HY6.out;have g0:=aj (k:=0) HY6.out;have g1:=aj (k:=1) HY6.out;have g2:=aj (k:=2) HY6.out;have g3:=aj (k:=3) HY6.out;have g4:=aj (k:=4) HY6.out;have g5:=aj (k:=5) HY6.out;have g6:=aj (k:=6) HY6.out;have g7:=aj (k:=7) HY6.out;have g8:=aj (k:=8) HY6.out
        have g9:=aj (k:=9) HY6.out;simp only[aP]at z0 z1 z2 z3 z4 z5 z6 z7 z8 z9;go_wp2_with fail;refine iU HY6.out rfl rfl rfl ⟨dD HB6.out (by show w.heap.size<=w.heap.size+1; omega), ?_⟩;rw[HM6.out];exact⟨rfl,by decide⟩
       ·have HM6:=ag (show iT cs (ps.drop (k+1)) y=eN cs root path by have:=HLP3.out; rw[hf]at this; exact this);rw[hix,Nat.zero_add];obtain⟨b7,o7,ca7,cc7,rfl,hok7,hrf7,hbl7,-,hcl⟩:=ei HV5.out HB56.out hj;have hjl:j<nl:=by rw[HNL.out]; exact(List.getElem?_eq_some_iff.1 hj).1
        have HOK7:=ag hok7;have HRF7:=ag hrf7;have q0:=hcl 0 (by omega);have q1:=hcl 1 (by omega);have q2:=hcl 2 (by omega);have q3:=hcl 3 (by omega);have q4:=hcl 4 (by omega);have q5:=hcl 5 (by omega);have q6:=hcl 6 (by omega);have q7:=hcl 7 (by omega);have q8:=hcl 8 (by omega);have q9:=hcl 9 (by omega);simp only[cV,Ci,Nat.add_zero]at q0 q1 q2 q3 q4 q5 q6 q7 q8 q9
        have i0:=af (k:=0) HBX6.out;have i1:=af (k:=1) HBX6.out;have i2:=af (k:=2) HBX6.out;have i3:=af (k:=3) HBX6.out;have i4:=af (k:=4) HBX6.out;have i5:=af (k:=5) HBX6.out;have i6:=af (k:=6) HBX6.out;have i7:=af (k:=7) HBX6.out;have i8:=af (k:=8) HBX6.out;have i9:=af (k:=9) HBX6.out;simp only[cV,aP]at i0 i1 i2 i3 i4 i5 i6 i7 i8 i9
        have g0:=aj (k:=0) HBX6.out;have g1:=aj (k:=1) HBX6.out;have g2:=aj (k:=2) HBX6.out;have g3:=aj (k:=3) HBX6.out;have g4:=aj (k:=4) HBX6.out;have g5:=aj (k:=5) HBX6.out;have g6:=aj (k:=6) HBX6.out;have g7:=aj (k:=7) HBX6.out;have g8:=aj (k:=8) HBX6.out;have g9:=aj (k:=9) HBX6.out;clear hf hix hj hok7 hrf7 hcl
        go_wp2_with fail
        go_roundw
        case rel=>
         refine⟨k+1,y,by omega,by go_num,HM6.out,⟨dD HIN6.out.below (Nat.le_refl _),⟨ca7,cc7,Dg HBX6.out,aW.same HRF7.out (fun i hi hS=>⟨Nat.lt_of_lt_of_le HZ4.out hS,ll (by have:=HZ4.out; omega)⟩)⟩,HOK7.out⟩⟩
        case measure=>simp[intOf]; omega
     ·have e1:(it.kind != 2)=true:=by simp[hk2]
      have HM4:=ag (show eN cs root path= .error 4 by have:=HLP.out; rw[HDR.out,iT,if_neg hk2]at this; exact this.symm);clear hk2;have z0:=af (k:=0) HY4.out;have z1:=af (k:=1) HY4.out;have z2:=af (k:=2) HY4.out;have z3:=af (k:=3) HY4.out;have z4:=af (k:=4) HY4.out;have z5:=af (k:=5) HY4.out;have z6:=af (k:=6) HY4.out;have z7:=af (k:=7) HY4.out
      have z8:=af (k:=8) HY4.out;have z9:=af (k:=9) HY4.out;have g0:=aj (k:=0) HY4.out;have g1:=aj (k:=1) HY4.out;have g2:=aj (k:=2) HY4.out;have g3:=aj (k:=3) HY4.out;have g4:=aj (k:=4) HY4.out;have g5:=aj (k:=5) HY4.out;have g6:=aj (k:=6) HY4.out;have g7:=aj (k:=7) HY4.out;have g8:=aj (k:=8) HY4.out;have g9:=aj (k:=9) HY4.out
      simp only[aP]at z0 z1 z2 z3 z4 z5 z6 z7 z8 z9;go_wp2_with fail;refine iU HY4.out rfl rfl rfl ⟨dD HB4.out (by show w.heap.size<=w.heap.size+1; omega), ?_⟩;rw[HM4.out];exact⟨rfl,by decide⟩
    ·have hk2:k=np:=by omega
     subst hk2;have hit:eN cs root path= .ok it:=by have:=HLP.out; rw[HNP.out,List.drop_length]at this; rw[<-this]; rfl
     have HIT:=ag hit;have z0:=af (k:=0) HYR.out;have z1:=af (k:=1) HYR.out;have z2:=af (k:=2) HYR.out;have z3:=af (k:=3) HYR.out;have z4:=af (k:=4) HYR.out;have z5:=af (k:=5) HYR.out;have z6:=af (k:=6) HYR.out;have z7:=af (k:=7) HYR.out;have z8:=af (k:=8) HYR.out;have z9:=af (k:=9) HYR.out;have g0:=aj (k:=0) HYR.out
     have g1:=aj (k:=1) HYR.out;have g2:=aj (k:=2) HYR.out;have g3:=aj (k:=3) HYR.out;have g4:=aj (k:=4) HYR.out;have g5:=aj (k:=5) HYR.out;have g6:=aj (k:=6) HYR.out;have g7:=aj (k:=7) HYR.out;have g8:=aj (k:=8) HYR.out;have g9:=aj (k:=9) HYR.out;simp only[aP]at z0 z1 z2 z3 z4 z5 z6 z7 z8 z9;have i0:=af (k:=0) HBX.out
     have i1:=af (k:=1) HBX.out;have i2:=af (k:=2) HBX.out;have i3:=af (k:=3) HBX.out;have i4:=af (k:=4) HBX.out;have i5:=af (k:=5) HBX.out;have i6:=af (k:=6) HBX.out;have i7:=af (k:=7) HBX.out;have i8:=af (k:=8) HBX.out;have i9:=af (k:=9) HBX.out;simp only[cV,aP]at i0 i1 i2 i3 i4 i5 i6 i7 i8 i9;clear hit;go_wp2_with fail
     refine iU HYR.out rfl rfl rfl ⟨dD HWR.out (by show w.heap.size<=w.heap.size+1; omega), ?_⟩;rw[HIT.out];refine⟨_,rfl,aW.same HRF.out (fun k hk hS=>⟨by have:=lt_of_block HY2.out; have:=HIB.out; omega,ll (by have:=lt_of_block HY2.out; have:=HIB.out; omega)⟩),HIN.out.ok⟩
end Go.Proofs.YtpffpjbkbaleiaaGreatDoor
namespace Go.Proofs.YtpffpjbkbaleiaaGreatDoor
open Go Go.RowKit Go.Maps
theorem uo {k:bH} {c:dK} {tree:List bp} {gs:List (ByteArray×Int)} {r:aN} {bs:List bN} {w w':World} {e:Ending} (h:uc (cW k c tree gs) w e w') (hb:cW k c tree gs= .ok (r,bs)) (hr: ∀b∈bs,bo b.ref):
  Below w.heap.size w w'/\ ∃a cap,e= .returned (.tuple #[bu r, .slice a bs.length cap, .int .i64 0])/\bs.length<=cap/\cap<=maxLen/\gT (fun i=>w.heap.size<=i) w' (.slice a bs.length cap) bs:=by
 rw[hb]at h;obtain⟨h1,v,zs,h2,h3',h4⟩:=h;have h3:zs.map Prod.snd=bs:=h3';have hlen:bs.length=zs.length:=by rw[<-h3,List.length_map]
 obtain⟨a,cap,rfl,h5,h6⟩:=am h4.row;refine⟨h1,a,cap,by rw[hlen]; exact h2,by omega,h6,zs,h3, ?_,fun z hz=>⟨aT.weak (bi (h4.dat z hz)) (fun i hi=>hi.1),hr _ (by rw[<-h3]; exact List.mem_map.2 ⟨z,hz,rfl⟩)⟩⟩;rw[hlen];exact aT.weak (bi h4.row) (fun i hi=>hi.1)
theorem kU {S:Nat->Prop} {w w':World} {a:Option Addr} {n cap:Nat} {bs:List bN} (h:gT S w (.slice a n cap) bs) (hb:Below w.heap.size w w') {k:Nat} {b:bN} (hk:bs[k]? =some b):
  ∃bk o za zc,a=some ⟨bk,o,none⟩/\bk<w.heap.size/\aD S w' (.slice za b.con.length zc) b.con/\w'.cell? ⟨bk,o+k*4,none⟩=some (.string b.ref.name)/\w'.cell? ⟨bk,o+k*4+1,none⟩=some (.int .i64 b.ref.gen)/\w'.cell? ⟨bk,o+k*4+2,none⟩=some (.int .i64 b.ref.size)/\w'.cell? ⟨bk,o+k*4+3,none⟩=some (.slice za b.con.length zc):=by
 obtain⟨zs,h1,h2,h3⟩:=h;rw[<-h1,List.getElem?_map,Option.map_eq_some_iff]at hk;obtain⟨z,hz,rfl⟩:=hk;obtain⟨bk,o,rfl,-,hlt,hc⟩:=um h2 hz;have hd:=(h3 z (List.mem_of_getElem? hz)).1;obtain⟨_,za,zc,hzv,-,-,-⟩:=id hd;have g:=fun i (hi:i<4)=>(hb.cell (p:=⟨bk,o+k*4+i,none⟩) hlt).trans (hc i hi)
 have q0:=g 0 (by omega);have q1:=g 1 (by omega);have q2:=g 2 (by omega);have q3:=g 3 (by omega);simp only[jx,Ci,Nat.add_zero]at q0 q1 q2 q3;rw[hzv]at q3;exact⟨bk,o,za,zc,rfl,hlt,by rw[<-hzv]; exact aT.below hd (by omega) hb,q0,q1,q2,q3⟩
def Dy :List Value:=[.string ⟨#[97]⟩, .int .i64 1, .int .i64 0, .int .i64 0, .slice none 0 0, .string ⟨#[]⟩, .string ⟨#[100]⟩, .int .i64 2, .int .i64 0, .int .i64 0, .slice none 0 0, .string ⟨#[]⟩, .string ⟨#[100,47,108]⟩, .int .i64 3, .int .i64 5, .int .i64 6, .slice none 0 0, .string ⟨#[97]⟩]
theorem xU (S:Nat->Prop) (w:World):bK (lD S w) Dy iq:=by
 refine⟨[.string ⟨#[97]⟩, .int .i64 1, .int .i64 0, .int .i64 0, .slice none 0 0, .string ⟨#[]⟩],_,rfl,⟨.slice none 0 0,rfl,bw.nil _ _,⟨by decide,by decide,by decide,by decide,by decide⟩⟩, ?_⟩;refine⟨[.string ⟨#[100]⟩, .int .i64 2, .int .i64 0, .int .i64 0, .slice none 0 0, .string ⟨#[]⟩],_,rfl,⟨.slice none 0 0,rfl,bw.nil _ _,⟨by decide,by decide,by decide,by decide,by decide⟩⟩, ?_⟩
 exact⟨[.string ⟨#[100,47,108]⟩, .int .i64 3, .int .i64 5, .int .i64 6, .slice none 0 0, .string ⟨#[97]⟩],[],rfl,⟨.slice none 0 0,rfl,bw.nil _ _,⟨by decide,by decide,by decide,by decide,by decide⟩⟩,rfl⟩
theorem wK {S:Nat->Prop} {w:World} {b o n c:Nat} {x:bN} {bs:List bN} (h:gT S w (.slice (some ⟨b,o,none⟩) (n+1) c) (x::bs)):gT S w (.slice (some ⟨b,o+4,none⟩) n (c-1)) bs:=by
 obtain⟨zs,h1,h2,h3⟩:=h
 cases zs with
 | nil=>simp at h1
 | cons z zs=>
  simp only[List.map_cons,List.cons.injEq]at h1;refine⟨zs,h1.2, ?_,fun y hy=>h3 y (by simp[hy])⟩;obtain⟨h4,a',c',he,h5,h6,h7⟩:=h2;simp only[Value.slice.injEq,List.length_cons]at he;obtain⟨rfl,hn,rfl⟩:=he;have hzl:(eF (z::zs)).length=4+(eF zs).length:=by unfold eF; rw[List.flatMap_cons,List.length_append]; rfl
  simp only[List.length_cons]at h4 h5 h7;refine⟨by omega,some ⟨b,o+4,none⟩,c-1,by rw[show n=zs.length by omega],by omega,by omega, ?_⟩
  rcases h7 with h7 | ⟨b9,o9,he9,hS,hc⟩
  ·omega
  ·cases he9
   refine .inr ⟨b,o+4,rfl,hS,fun j u hj=> ?_⟩;have:=hc (4+j) u (by
    unfold eF at hj ⊢;rw[List.flatMap_cons,List.getElem?_append_right (by show 4<=_; omega)];rw[show 4+j-(jx z.1 z.2).length=j by show 4+j-4=j; omega];exact hj)
   rwa [<-Nat.add_assoc]at this
theorem EM :bo (bc dh [] [0]):=fN (by simp) (by decide)
theorem EL :bo jZ:=fN (by simp) (by decide)
theorem yU :bo fW:=fN (by simp) (by decide+kernel)
theorem ui (w:World) (hE:kQ w):Calls Tryz.prog 14 #[] w fun e w'=>e= .returned (.bool true)/\Below w.heap.size w w':=by
 have HE:=ag hE;obtain⟨W0,hW0⟩: ∃W0,W0=w.alloc (.cells #[.int .u8 0] 5):=⟨_,rfl⟩;have hb0:Below w.heap.size w W0:=by rw[hW0]; exact(Below.refl _ _).alloc (Nat.le_refl _) _
 have HB0:=ag hb0;have hby:aD (fun i=>i=w.heap.size) W0 (.slice (some ⟨w.heap.size,0,none⟩) 1 1) [0]:=tO (cells:=[aw 0]) (by rw[hW0]; exact bS w _) rfl (by decide);have hit:=rT _ [0] _ W0 hby (hE.below hb0).env;unfold uf at hit;rw[FD]at hit;have HIT:=ag hit;clear hE hb0 hby hit
 go_enter Tryz.func14,Tryz.ntmps14
 go_wp2_with fail;rw[<-hW0];clear hW0;refine HIT.out.mono ?_;rintro e w1 ⟨hb1,iv,rfl,hiv⟩;obtain⟨ia,ic,rfl,-,-,-⟩:=aS.shape hiv dX.len;have HB1:=ag (ai HB0.out hb1);clear hb1 hiv HIT;go_wp2_with fail;refine(vl w1).mono ?_;rintro e w2 ⟨rfl,hb2⟩;have HB2:=ag (ai HB1.out hb2);clear hb2;go_wp2_with fail;refine(nj w2).mono ?_;rintro e w3 ⟨rfl,hb3⟩
 have HB3:=ag (ai HB2.out hb3);clear hb3;go_wp2_with fail;refine(rj (fun _=>True) (fun _=>True) dh jI [] [] (.slice none 0 0) (.map none) w3 (by decide) (cD.nil _ _) (.inl ⟨rfl,rfl⟩) (HE.out.below HB3.out)).mono ?_;rintro e w4 hres;obtain⟨hb4,a4,c4,rfl,hc4,hm4,hbl4⟩:=uo hres Fx (by intro b hb; simp only[List.mem_singleton]at hb; subst hb; exact EM)
 obtain⟨r,hr⟩: ∃r,r=bc dh [] [0]:=⟨_,rfl⟩;rw[<-hr]at hbl4 ⊢;have HB4:=ag (ai HB3.out hb4);have HBL4:=ag hbl4;unfold maxLen at hm4;simp only[List.length_singleton]at hc4 ⊢;clear hres hb4 hbl4 hr;unfold bu;go_wp2_with fail;obtain⟨W5,hW5⟩: ∃W5:World,W5=(w4.alloc (.cells #[.string r.name, .int .i64 r.gen, .int .i64 r.size] 26)).drew:=⟨_,rfl⟩;have hb5:Below w4.heap.size w4 W5:=by rw[hW5]; exact((Below.refl _ _).alloc (Nat.le_refl _) _).drew
 have HF5:=ag (show W5.heap[w4.heap.size]? =some (.cells #[.string r.name, .int .i64 r.gen, .int .i64 r.size] 26 (0,0)) by rw[hW5]; exact bS w4 _);obtain⟨bk,o,za,zc,rfl,hbk,hcon,q0,q1,q2,q3⟩:=kU HBL4.out hb5 (k:=0) (b:=⟨r,[0]⟩) rfl;simp only[List.length_singleton,Nat.zero_mul,Nat.add_zero]at hcon q0 q1 q2 q3;have hcv:=kX hcon;have r0:=af (k:=0) HF5.out
 have r1:=af (k:=1) HF5.out;have r2:=af (k:=2) HF5.out;simp only[aP]at r0 r1 r2;have HB5:=ag (ai HB4.out hb5);clear hb5 hcon;refine au [some 32] (by kernel_rfl) (by kernel_rfl) (by kernel_rfl) ?_;simp only[bn,List.take_succ_cons,List.take_zero];rw[<-hW5];clear hW5
 repeat (first | (refine aI rfl ?_; simp only[Act.put,aE,aF,aG]) | (refine aM rfl (fun K hK=> ?_); go_simp; refine hK _ ?_; clear hK K))
 refine aL ?_;go_wp2_with fail;obtain⟨W6,hW6⟩: ∃W6:World,W6=W5.alloc (.cells Dy.toArray 79):=⟨_,rfl⟩;have hb6:Below W5.heap.size W5 W6:=by rw[hW6]; exact(Below.refl _ _).alloc (Nat.le_refl _) _
 have HB6:=ag (ai HB5.out hb6);have HTR:=ag (show cD (fun i=>i=W5.heap.size) W6 (.slice (some ⟨W5.heap.size,0,none⟩) 3 3) iq from⟨Dy,tO (by rw[hW6]; exact bS W5 _) rfl (by decide),xU _ _⟩);have hW6':W6=W5.alloc (.cells #[.string ⟨#[97]⟩, .int .i64 1, .int .i64 0, .int .i64 0, .slice none 0 0, .string ⟨#[]⟩, .string ⟨#[100]⟩, .int .i64 2, .int .i64 0, .int .i64 0, .slice none 0 0, .string ⟨#[]⟩, .string ⟨#[100,47,108]⟩, .int .i64 3, .int .i64 5, .int .i64 6, .slice none 0 0, .string ⟨#[97]⟩] 79):=hW6
 rw[<-hW6'];clear hW6 hW6' hb6 q0 q1 q2 q3 r0 r1 r2 hcv;refine(vl W6).mono ?_;rintro e w7 ⟨rfl,hb7⟩;have HB7:=ag (ai HB6.out hb7);have HT7:=ag (cD.below HTR.out hb7);clear hb7;go_wp2_with fail;refine(nj w7).mono ?_;rintro e w8 ⟨rfl,hb8⟩;have HB8:=ag (ai HB7.out hb8);have HT8:=ag (cD.below HT7.out hb8);clear hb8;go_wp2_with fail;refine(rj _ (fun _=>True) dh jI iq [] _ (.map none) w8 (by decide) HT8.out (.inl ⟨rfl,rfl⟩) (HE.out.below HB8.out)).mono ?_
 rintro e w9 hres;obtain⟨hb9,a9,c9,rfl,hc9,hm9,hbl9⟩:=uo hres Fy (by intro b hb; simp only[List.mem_cons,List.not_mem_nil,or_false]at hb; rcases hb with rfl | rfl; exact EL; exact yU);have HB9:=ag (ai HB8.out hb9);have HBL9:=ag hbl9;unfold maxLen at hm9;simp only[List.length_cons,List.length_nil,Nat.reduceAdd]at hc9 HBL9 ⊢;clear hres hb9 hbl9;unfold bu
 obtain⟨rt,hrt⟩: ∃rt,rt=fW:=⟨_,rfl⟩;have HRT:=ag hrt;rw[<-hrt]at HBL9 ⊢;clear hrt
 go_upto_region 7 with(fail)
 obtain⟨W10,hW10⟩: ∃W10:World,W10=w9.alloc (.cells #[.string rt.name, .int .i64 rt.gen, .int .i64 rt.size] 26):=⟨_,rfl⟩;rw[<-hW10];have hb10:Below w9.heap.size w9 W10:=by rw[hW10]; exact(Below.refl _ _).alloc (Nat.le_refl _) _
 have HB10:=ag (ai HB9.out hb10);have HF10:=ag (show W10.heap[w9.heap.size]? =some (.cells #[.string rt.name, .int .i64 rt.gen, .int .i64 rt.size] 26 (0,0)) by rw[hW10]; exact bS w9 _);obtain⟨bb,oo,ya,yc,rfl,hbb,hcon,q0,q1,q2,q3⟩:=kU HBL9.out hb10 (k:=0) (b:=⟨jZ,kH⟩) rfl;have hcv:(convert 29 9 (.slice ya 8 yc)).run Tryz.prog W10= .ok (.string ⟨#[1,1,108,3,5,6,1,97]⟩) W10:=kX hcon
 replace q3:W10.cell? ⟨bb,oo+0*4+3,none⟩=some (.slice ya 8 yc):=q3
 simp only[Nat.zero_mul,Nat.add_zero]at q0 q1 q2 q3;have HBL10:=ag (HBL9.out.below hb10);clear hW10 hb10 hcon
 go_upto_region 9 with(fail)
 clear q0 q1 q2 q3 hcv;go_wp2_with fail;refine(tj _ _ _ _ (wK (n:=1) HBL10.out) (by simp)).mono ?_;rintro e w11 ⟨mb,mm,rfl,hmb,hms,hen,hb11⟩;have HB11:=ag (ai HB10.out hb11);have HC11:=ag (show bE (fun _=>True) w11 (.map (some mb)) pd from by
  rw[HRT.out]at hen;exact .inr ⟨mb,mm,rfl,trivial,hms.is,bz.wide hen⟩)
 have HF11:=ag ((hb11.block _ (lt_of_block HF10.out)).trans HF10.out);have HBL11:=ag (HBL10.out.below hb11);clear hb11 hmb hms hen HBL10 HF10;have r0:=af (k:=0) HF11.out;have r1:=af (k:=1) HF11.out;have r2:=af (k:=2) HF11.out;simp only[aP]at r0 r1 r2;go_wp2_with fail;have HRO:=ag (show bo rt by rw[HRT.out]; exact yU);have HLA:=ag (show fp pd rt= .error 10 by rw[HRT.out]; exact Gj)
 have HMI:=ag (show Cs pd rt= .ok [jZ] by rw[HRT.out]; exact Gn);have HL1:=ag (show eN pd rt ⟨#[97]⟩= .ok lT by rw[HRT.out]; exact Gm);have HL2:=ag (show eN pd rt ⟨#[100,47,108]⟩= .error 10 by rw[HRT.out]; exact FI);refine(nE _ (.map (some mb)) pd rt w11 HC11.out (HE.out.below HB11.out).env HRO.out).mono ?_;rintro e w12 ⟨hb12,hl12⟩;rw[HLA.out]at hl12
 obtain⟨rfl,-⟩:=hl12;have HB12:=ag (ai HB11.out hb12);have HC12:=ag (HC11.out.below hb12);have HF12:=ag ((hb12.block _ (lt_of_block HF11.out)).trans HF11.out);have HBL12:=ag (HBL11.out.below hb12);clear hb12 HC11 HF11 HBL11 r0 r1 r2;have r0:=af (k:=0) HF12.out;have r1:=af (k:=1) HF12.out;have r2:=af (k:=2) HF12.out;simp only[aP]at r0 r1 r2;go_wp2_with fail
 refine(qJ (by decide) _ (.map (some mb)) rt w12 HC12.out (HE.out.below HB12.out).env HRO.out).mono ?_;rintro e w13 ⟨hb13,hm13⟩;rw[HMI.out]at hm13;obtain⟨mv,rfl,hmv⟩:=hm13;obtain⟨ma,mc,rfl,-,-,-⟩:=aS.shape hmv jB.len;have HMV:=ag hmv;have HB13:=ag (ai HB12.out hb13);have HC13:=ag (HC12.out.below hb13);have HF13:=ag ((hb13.block _ (lt_of_block HF12.out)).trans HF12.out)
 have HBL13:=ag (HBL12.out.below hb13);clear hb13 hmv HC12 HF12 HBL12 r0 r1 r2;have r0:=af (k:=0) HF13.out;have r1:=af (k:=1) HF13.out;have r2:=af (k:=2) HF13.out;simp only[aP]at r0 r1 r2;go_wp2_with fail;refine(kM _ (.map (some mb)) pd rt ⟨#[97]⟩ w13 HC13.out (HE.out.below HB13.out).env HRO.out).mono ?_;rintro e w14 ⟨hb14,hl14⟩;rw[HL1.out]at hl14;obtain⟨lv,rfl,hlv,-⟩:=hl14
 have HB14:=ag (ai HB13.out hb14);have HC14:=ag (HC13.out.below hb14);have HF14:=ag ((hb14.block _ (lt_of_block HF13.out)).trans HF13.out);have HBL14:=ag (HBL13.out.below hb14);have HMV14:=ag (aS.below HMV.out (by omega) hb14 (fun _ _ _ h=>h));obtain⟨la,lc,rfl,-,-,-⟩:=aS.shape hlv jB.len;clear hb14 hlv HC13 HF13 HBL13 HMV r0 r1 r2;unfold fJ
 go_upto_region 13 with(fail)
 obtain⟨W15,hW15⟩: ∃W15:World,W15=w14.alloc (.cells #[.string lT.name, .int .i64 lT.kind, .int .i64 lT.mode, .int .i64 lT.time, .int .i64 lT.size, .string lT.link, .slice la lT.chunks.length lc, .string lT.node.name, .int .i64 lT.node.gen, .int .i64 lT.node.size] 28):=⟨_,rfl⟩;rw[<-hW15];have hb15:Below w14.heap.size w14 W15:=by rw[hW15]; exact(Below.refl _ _).alloc (Nat.le_refl _) _
 have HI15:=ag (show W15.heap[w14.heap.size]? =some (.cells #[.string lT.name, .int .i64 lT.kind, .int .i64 lT.mode, .int .i64 lT.time, .int .i64 lT.size, .string lT.link, .slice la lT.chunks.length lc, .string lT.node.name, .int .i64 lT.node.gen, .int .i64 lT.node.size] 28 (0,0)) by rw[hW15]; exact bS w14 _);have HB15:=ag (ai HB14.out hb15);have HC15:=ag (HC14.out.below hb15)
 have HF15:=ag ((hb15.block _ (lt_of_block HF14.out)).trans HF14.out);have HBL15:=ag (HBL14.out.below hb15);have HMV15:=ag (aS.below HMV14.out (by omega) hb15 (fun _ _ _ h=>h));clear hb15 hW15 HC14 HF14 HBL14 HMV14;have r0:=af (k:=0) HF15.out;have r1:=af (k:=1) HF15.out;have r2:=af (k:=2) HF15.out;simp only[aP]at r0 r1 r2;go_wp2_with fail;refine(kM _ (.map (some mb)) pd rt ⟨#[100,47,108]⟩ W15 HC15.out (HE.out.below HB15.out).env HRO.out).mono ?_
 rintro e w16 ⟨hb16,hl16⟩;rw[HL2.out]at hl16;obtain⟨rfl,-⟩:=hl16;have HB16:=ag (ai HB15.out hb16);have HI16:=ag ((hb16.block _ (lt_of_block HI15.out)).trans HI15.out);have HBL16:=ag (HBL15.out.below hb16);have HMV16:=ag (aS.below HMV15.out (by omega) hb16 (fun _ _ _ h=>h));clear hb16 HC15 HF15 HBL15 HMV15 HI15 r0 r1 r2
 go_upto_region 14 with(fail)
 obtain⟨W17,hW17⟩: ∃W17:World,W17=(w16.alloc (.cells #[.string ⟨#[]⟩, .int .i64 0, .int .i64 0, .int .i64 0, .int .i64 0, .string ⟨#[]⟩, .slice none 0 0, .string ⟨#[]⟩, .int .i64 0, .int .i64 0] 28)).drew:=⟨_,rfl⟩;have hb17:Below w16.heap.size w16 W17:=by rw[hW17]; exact((Below.refl _ _).alloc (Nat.le_refl _) _).drew
 have HB17:=ag (ai HB16.out hb17);have hi17:=(hb17.block _ (lt_of_block HI16.out)).trans HI16.out;have i1:=af (k:=1) hi17;simp only[aP]at i1
 replace i1:W17.cell? ⟨w14.heap.size,1,none⟩=some (.int .i64 1):=i1
 obtain⟨mb2,mo2,rfl,-,p0,p1,p2⟩:=go HMV16.out hb17 (k:=0) (r:=jZ) rfl;obtain⟨rd,hrd⟩: ∃rd,rd=jZ:=⟨_,rfl⟩;rw[<-hrd]at p0 p1 p2;obtain⟨b9,o9,y9,z9,he9,-,-,q0,q1,q2,-⟩:=kU HBL16.out hb17 (k:=0) (b:=⟨jZ,kH⟩) rfl
 cases he9
 simp only at q0 q1 q2;rw[<-hrd]at q0 q1 q2;simp only[Nat.zero_mul,Nat.add_zero]at p0 p1 p2 q0 q1 q2;clear hi17 hb17 hrd;refine au [some 35] (by kernel_rfl) (by kernel_rfl) (by kernel_rfl) ?_;simp only[bn,List.take_succ_cons,List.take_zero];rw[<-hW17];clear hW17
 repeat (first | (refine aI rfl ?_; simp only[Act.put,aE,aF,aG]) | (refine aM rfl (fun K hK=> ?_); go_simp; refine hK _ ?_; clear hK K))
 refine aL ?_;go_wp2_with fail;go_ret;exact⟨rfl,HB17.out⟩
end Go.Proofs.YtpffpjbkbaleiaaGreatDoor
namespace Go.Proofs.YtpffpjbkbaleiaaGreatDoor
open Go Go.RowKit Go.Maps Go.MapKept
def pX (v:Value):Option (DataW Unit×List MemPlace):=match v with
 | .slice _ _ _=>some (.nil,[])
 | _=>none
def gx (S:Nat->Prop) (w:World) (cv:Value) (cs:List (ByteArray×List UInt8)):Prop:=
 (cv= .map none/\cs=[])\/ ∃b es clock,cv= .map (some b)/\S b/\w.heap[b]? =some (.map es clock)/\es.size<=maxLen/\Stamped es clock/\(∀x∈es.toList,∃l,keyOf Tryz.prog 9 x.key=some l)/\bz S w (es.toList.map fun e=>(e.key,e.val)) cs
theorem bz.len {S:Nat->Prop} {w:World} : ∀ {m:List (Value×Value)} {cs:List (ByteArray×List UInt8)},bz S w m cs->m.length=cs.length
 | [],[],_=>rfl
 | [],_::_,h=>False.elim h
 | _::_,[],h=>False.elim h
 | (_,_)::_,(_,_)::_,h=>by simp[bz.len h.2.2]
theorem bz.vals {S:Nat->Prop} {w:World} : ∀ {m:List (Value×Value)} {cs:List (ByteArray×List UInt8)},bz S w m cs-> ∀p∈m,∃n bs,p.1= .string n/\aD S w p.2 bs
 | [],[],_,_,hp=>by simp at hp
 | [],_::_,h,_,_=>False.elim h
 | _::_,[],h,_,_=>False.elim h
 | (k,v)::m,(n,bs)::cs,h,p,hp=>by
  rcases List.mem_cons.1 hp with rfl | hp
  ·exact⟨n,bs,h.1,h.2.1⟩
  ·exact bz.vals h.2.2 p hp
theorem gx.at {S:Nat->Prop} {w:World} {cv:Value} {cs:List (ByteArray×List UInt8)} (h:gx S w cv cs):bE S w cv cs:=by
 rcases h with h | ⟨b,es,clock,h1,h2,h3,h4,h5,h6,h7⟩
 ·exact .inl h
 ·refine .inr ⟨b,_,h1,h2,⟨es,clock,h3,rfl, ?_, ?_⟩,h7⟩
  ·rw[List.map_map];exact h5.2.2
  ·intro p hp;obtain⟨x,hx,rfl⟩:=List.mem_map.1 hp;exact h6 x hx
theorem gx.below {S:Nat->Prop} {w w':World} {cv:Value} {cs:List (ByteArray×List UInt8)} (h:gx S w cv cs) (hb:Below w.heap.size w w'):gx S w' cv cs:=by
 rcases h with h | ⟨b,es,clock,h1,h2,h3,h4,h5,h6,h7⟩
 ·exact .inl h
 ·exact .inr ⟨b,es,clock,h1,h2,(hb.block b (Array.getElem?_eq_some_iff.1 h3).1).trans h3,h4,h5,h6,h7.mono (fun v bs hv=>aT.below hv (by omega) hb)⟩
theorem gx.owns {S:Nat->Prop} {w:World} {b:Nat} {cs:List (ByteArray×List UInt8)} (h:gx S w (.map (some b)) cs):b<w.heap.size/\ ∃es clock,w.heap[b]? =some (.map es clock)/\es.size=cs.length/\ ∃D,w.ownsMap (H:=Unit) Tryz.prog 9 pX b es.size D:=by
 rcases h with⟨h,_⟩ | ⟨b',es,clock,h1,h2,h3,h4,h5,h6,h7⟩
 ·cases h
 ·cases h1
  have hF:WideElems.Fit Tryz.prog 9 pX es clock:=⟨h4,h5,fun x hx=>by
   obtain⟨l,hl⟩:=h6 x hx;obtain⟨n,bs,_,hb⟩:=h7.vals (x.key,x.val) (List.mem_map.2 ⟨x,hx,rfl⟩);obtain⟨_,a,cap,hv,_⟩:=hb;simp only at hv;simp[WideElems.rd,hl,hv,pX]⟩
  have hs:es.size=cs.length:=by have:=h7.len; simpa using this
  exact⟨(Array.getElem?_eq_some_iff.1 h3).1,es,clock,h3,hs,_,⟨es,clock,h3,hF,Nat.le_refl _,rfl⟩⟩
theorem vV {w:World} {b:Nat} {es:Array MapEntry} {clock:Nat} (hb:w.heap[b]? =some (.map es clock)) (ty:TypeId):(Builtin.len_ #[55] ty #[.map (some b)]).run Tryz.prog w= .ok (.int .i64 (es.size:Int)) w:=by
 simp[Builtin.len_,run_underlying Tryz.underlying55,MapKept.run_getObj_map hb,goInt,Result.andThen]
end Go.Proofs.YtpffpjbkbaleiaaGreatDoor
namespace Go.Proofs.YtpffpjbkbaleiaaGreatDoor
open Go Go.RowKit Go.Maps Go.MapKept
def FZ (cs:List (ByteArray×List UInt8)) (w:World) (e:Ending) (w':World):Prop:= ∃b,e= .returned (.bool b)/\Below w.heap.size w w'/\(b=true->cs.length<=40)
theorem zF (S:Nat->Prop) (cv:Value) (cs:List (ByteArray×List UInt8)) (w:World) (hc:gx S w cv cs):Calls Tryz.prog 24 #[cv] w (FZ cs w):=by
 go_enter Tryz.func24,Tryz.ntmps24
 rcases id hc with⟨rfl,rfl⟩ | ⟨mb,_,_,rfl,_⟩
 ·have hr:=fun(w:World)=>run_range_nilMap (P:=Tryz.prog) w 55 9 29 Tryz.underlying55
  have hn:=fun(w:World) (ty:TypeId) (a b:Nat) (s:Array Nat)=>run_next_nilMap (P:=Tryz.prog) w ty a b s
  have hln:=fun(w:World) (ty:TypeId)=>Maps.len_nil (P:=Tryz.prog) (w:=w) (k:=9) (e:=29) Tryz.underlying55 ty
  clear hc;go_wp2_with fail
  go_loopw [4] (fun n wr=>wr=w.alloc (.mapIter none 0 #[] 0)) (fun _ _=>0)
  case atStart=>exact rfl
  case round=>
   obtain rfl:=hrel;go_wp2_with fail;go_ret;exact⟨_,rfl,(Below.refl _ _).alloc (Nat.le_refl _) _,fun _=>by simp⟩
 ·obtain⟨hmb,es,clock,hes,hsz,D,hown⟩:=gx.owns hc;have HES:=ag hes;have HSZ:=ag hsz;have HOWN:=ag hown;clear hc hes hsz hown;go_wp2_with (at_range; go_must (refine wpList_range_own _ rfl _ 55 rfl 9 29 jQ Tryz.underlying55 pX mb es.size D rfl HOWN.out ?_); intro w0 hrg0 hg0 hs0);have HR0:=ag hrg0;have HB0:=ag (show Below w.heap.size w w0 from⟨hg0.os,hg0.tape,hg0.output,hg0.size,fun k hk=>hg0.block k hk (by simp)⟩)
  clear hrg0 hg0 hs0
  try go_frame
  go_loopw [4] (fun n wr=> ∃left cnt,wr.ranges Tryz.prog 9 pX mb w.heap.size es.size D left cnt/\Below w.heap.size w wr) (fun _ wr=>wr.rangeLeft mb w.heap.size)
  case atStart=>exact⟨_,_,HR0.out,HB0.out⟩
  case round=>
   obtain⟨left,cnt,hrg,hb⟩:=hrel;have HRG:=ag hrg;have HB:=ag hb;have hlm:=fun(ty:TypeId)=>vV ((hb.block mb hmb).trans HES.out) ty
   clear hrg hb HR0 HB0;go_wp2_with (at_next; go_must (refine wpList_next_ranges _ rfl _ rfl 9 jQ pX Value.string (fun c:Option Addr×Nat×Nat=>Value.slice c.1 c.2.1 c.2.2) (fun key kl h=>by cases key<;> simp[keyOf,Tryz.underlying9,mapKey]at h; exact⟨_,rfl⟩) (fun v y h=>by cases v<;> simp[pX]at h; exact⟨(_,_,_),rfl⟩) mb w.heap.size es.size D left cnt rfl HRG.out ?_ ?_))
   ·intro _ _;go_wp2_with fail;go_ret;exact⟨_,rfl,HB.out,fun h=>by rw[<-HSZ.out]; have:=of_decide_eq_true h; omega⟩
   ·intro key ca cn cc kl y1 y2 w1 cnt1 _ _ _ _ hrg1 hlt1 hg1 hs1 hen;have HB1:=ag (show Below w.heap.size w w1 from HB.out.grown hg1 HB.out.size (fun k hk=>by cases hk; exact Nat.le_refl _));have HRG1:=ag hrg1;clear hrg1 hg1 hs1 hlm;go_wp2_with fail
    ·go_ret;exact⟨_,rfl,HB1.out,fun h=>by cases h⟩
    ·go_roundw
     case rel=>exact⟨_,cnt1,HRG1.out,HB1.out⟩
     case measure=>rw[HRG1.out.left_eq,HRG.out.left_eq]; omega
end Go.Proofs.YtpffpjbkbaleiaaGreatDoor
namespace Go.Proofs.YtpffpjbkbaleiaaGreatDoor
open Go Go.RowKit
theorem zK (S:Nat->Prop) (it:aB) (cv:Value) (b:Bool) (w:World) (hcv:aW S w cv it.chunks) (hok:cw it) (h:bF it=b):Calls Tryz.prog 54 #[fJ cv it] w fun e w'=>e= .returned (.bool b)/\Below w.heap.size w w':=lU pB S it cv b w hcv hok h
def jw (w:World) (v:Value) (it:aB) (wr:World):Prop:=wr.heap[w.heap.size]? =some (.cells #[.string it.name, .int .i64 it.kind, .int .i64 it.mode, .int .i64 it.time, .int .i64 it.size, .string it.link,v, .string it.node.name, .int .i64 it.node.gen, .int .i64 it.node.size] 28 (0,0))
theorem jw.six {w wr:World} {v:Value} {it:aB} (h:jw w v it wr):wr.cell? ⟨w.heap.size,6,none⟩=some v:=by
 have:=af (k:=6) h
 simpa using this
theorem jw.one {w wr:World} {v:Value} {it:aB} (h:jw w v it wr):wr.cell? ⟨w.heap.size,1,none⟩=some (.int .i64 it.kind):=by
 have:=af (k:=1) h
 simpa using this
theorem jw.below {w w1 wr:World} {v:Value} {it:aB} (h:jw w v it w1) (hb:Below w1.heap.size w1 wr):jw w v it wr:=(hb.block _ (Array.getElem?_eq_some_iff.1 h).1).trans h
theorem jw.grown {w w1 wr:World} {v:Value} {it:aB} {r:Option Nat} (h:jw w v it w1) (hg:w1.grownBy wr r) (hr: ∀k,r=some k->w.heap.size<k):jw w v it wr:=
 (hg.block _ (Array.getElem?_eq_some_iff.1 h).1 (fun e=>Nat.lt_irrefl _ (hr _ e.symm))).trans h
theorem wV (S:Nat->Prop) (cv rv:Value) (cs:List (ByteArray×List UInt8)) (it:aB) (w:World) (hc:bE S w cv cs) (hv:aW S w rv it.chunks) (hok:cw it) (hn6:it.chunks.length<=1048576):
  Calls Tryz.prog 41 #[fJ rv it,cv] w (kS cs it w):=by
 obtain⟨a,cap,rfl,hcap,hcm,-⟩:=aS.shape hv jB.len;unfold maxLen at hcm;have HC:=ag hc;have HV:=ag hv;have HO:=ag hok;clear hc hv hok;obtain⟨W0,hW0⟩: ∃W0:World,W0=w.alloc (.cells #[.string it.name, .int .i64 it.kind, .int .i64 it.mode, .int .i64 it.time, .int .i64 it.size, .string it.link, .slice a it.chunks.length cap, .string it.node.name, .int .i64 it.node.gen, .int .i64 it.node.size] 28):=⟨_,rfl⟩
 have HA:=ag (show Below w.heap.size w W0 by rw[hW0]; exact(Below.refl w.heap.size w).alloc (Nat.le_refl _) _);have HBX:=ag (show jw w (.slice a it.chunks.length cap) it W0 by rw[hW0]; exact bS w _);have hz0:W0.heap.size=w.heap.size+1:=by rw[hW0]; simp
 obtain⟨bv,hbv⟩: ∃b,bF it=b:=⟨_,rfl⟩;have HVI:=ag hbv;have hcl:=zK S it (.slice a it.chunks.length cap) bv W0 (aS.below HV.out (by omega) HA.out (fun _ _ _ h=>h)) HO.out hbv;have HCL:=ag hcl;clear hbv hcl;unfold fJ at HCL ⊢
 go_enter Tryz.func41,Tryz.ntmps41
 go_wp2_with fail;rw[<-hW0];clear hW0;refine HCL.out.mono ?_;rintro e w1 ⟨rfl,hb1⟩;have HB1:=ag (ai HA.out hb1);have HX1:=ag (HBX.out.below hb1);have hz1:w.heap.size+1<=w1.heap.size:=by have:=hb1.size; omega
 have q1:=HX1.out.one;clear hb1 HCL HBX
 cases bv with
 | false=>
  have HF:=ag (show ¬(it.kind=1/\bF it=true) by rw[HVI.out]; simp);go_wp2_with fail
  go_ret2
  exact⟨HB1.out,by rw[if_neg HF.out]; rfl⟩
 | true=>
  by_cases hk:it.kind=1
  case neg=>
   have HF:=ag (show ¬(it.kind=1/\bF it=true) by intro h; exact hk h.1);have e1:(it.kind != 1)=true:=by simp[hk]
   clear hk;go_wp2_with fail
   go_ret2
   exact⟨HB1.out,by rw[if_neg HF.out]; rfl⟩
  have HF:=ag (show it.kind=1/\bF it=true from⟨hk,HVI.out⟩);have e1:(it.kind != 1)=false:=by simp[hk]
  have HRS:=ag (show ∀r∈it.chunks,dJ r=true by
   have h:=HVI.out;unfold bF at h;rw[Bool.and_eq_true]at h;exact fun r hr=>((iN hk h.2).2.2.1 r hr).1)
  clear hk;obtain⟨n,hn⟩: ∃n,n=it.chunks.length:=⟨_,rfl⟩;rw[<-hn]at HV hcap hn6 HX1;have HN:=ag hn;clear hn;have HO1:=ag (World.ownsRow_lit (e:=5) (size:=1) (base:=w.heap.size+1) w1 #[] 0 (by omega) (Nat.zero_le _) (by simp));have HB2:=ag (HB1.out.alloc HB1.out.size (.cells #[] 5));have HX2:=ag (HX1.out.below ((Below.refl _ w1).alloc (Nat.le_refl _) (.cells #[] 5)));go_wp2_with fail
  go_loopw [7,6] (fun i x wr=> ∃(k:Nat) (acc:List UInt8),k<=n/\i= .int .i64 (k:Int)/\ef cs it.chunks []=ef cs (it.chunks.drop k) acc/\acc.length<=k*32768/\wr.ownsRow (w.heap.size+1) 5 1 x acc.length (acc.map aw)/\Below w.heap.size w wr/\jw w (.slice a n cap) it wr/\w.heap.size+1<=wr.heap.size) (fun i _ _=>n-(intOf i).toNat)
  case atStart=>exact⟨0,[],Nat.zero_le _,rfl,rfl,by simp,HO1.out,HB2.out,HX2.out,by simp; omega⟩
  case round=>
   obtain⟨k,acc,hk,rfl,hf,hal,ho,hb,hbx,hz⟩:=hrel;obtain⟨ax,cx,rfl,hx1,hx2⟩:=am ho;have HFF:=ag hf;have HOO:=ag ho;have HB:=ag hb;have HX:=ag hbx;have q6:=hbx.six;clear hf ho hb hbx
   by_cases hlt:k<n
   ·obtain⟨r,hr⟩: ∃r,it.chunks[k]? =some r:=⟨it.chunks[k]'(by rw[<-HN.out]; exact hlt),by simp⟩;obtain⟨b,o,rfl,hok,p0,p1,p2⟩:=go HV.out HB.out hr;have hch:=rK S cv cs r _ (HC.out.below HB.out) hok;have hsz:=(mB.1 (HRS.out r (List.mem_of_getElem? hr))).2.2.2;have HDR:=ag (show it.chunks.drop k=r::it.chunks.drop (k+1) by
     rw[List.drop_eq_getElem_cons (by rw[<-HN.out]; exact hlt)]
     congr 1
     exact(List.getElem?_eq_some_iff.1 hr).2)
    unfold lC bu at hch
    cases hcp:cy cs r with
    | error x=>
     rw[hcp]at hch;have HCH:=ag hch;have HFE:=ag (show ef cs it.chunks []= .error x by rw[HFF.out,HDR.out,ef,hcp]);clear hcp hch hr hok hsz;go_wp2_with fail;refine HCH.out.mono ?_;rintro e w5 ⟨hb5,rfl,hx⟩;have HB5:=ag (ai HB.out hb5);have HNX:=ag hx;have e2:(x != 0)=true:=by simp[hx]
     clear hb5 hx;go_wp2_with fail
     go_ret2
     refine⟨HB5.out, ?_⟩;rw[if_pos HF.out,HFE.out];exact⟨rfl,HNX.out⟩
    | ok bs=>
     rw[hcp]at hch;have HCH:=ag hch;have HFE:=ag (show ef cs it.chunks []=ef cs (it.chunks.drop (k+1)) (acc++bs) by rw[HFF.out,HDR.out,ef,hcp]);have hbl:bs.length<=32768:=by
      unfold cy at hcp
      cases hf:dg cs r.name with
      | none=>rw[hf]at hcp; cases hcp
      | some y=>
       rw[hf]at hcp;simp only at hcp
       split at hcp
       ·cases hcp; omega
       ·cases hcp
     clear hcp hch hr hok hsz;go_wp2_with fail;refine HCH.out.mono ?_;rintro e w5 ⟨hb5,v5,rfl,hby⟩;obtain⟨_,a5,c5,rfl,-,-,-⟩:=id hby
     obtain⟨m,hm⟩: ∃m,m=bs.length:=⟨_,rfl⟩;have HM:=ag hm;have HB5:=ag (ai HB.out hb5);have HO5:=ag (aY HOO.out hb5);have HX5:=ag (HX.out.below hb5);have hz5:w.heap.size+1<=w5.heap.size:=by have:=hb5.size; omega
     have HBY:=ag (show aT S w5 1 (.slice a5 m c5) m (bs.map aw) by rw[hm]; exact hby);rw[<-hm]at hbl ⊢;have HON:=ag (show ∀u∈bs.map aw,u.oneCell'=true from dT bs);have HLE:=ag (show acc.length+m<1099511627775 by omega);clear hb5 hby hm p0 p1 p2 q6;go_wp2_with (at_builtin; go_must (refine em Tryz.appBytes rfl _ _ rfl (w.heap.size+1) (.slice ax acc.length cx) acc.length (acc.map aw) rfl HO5.out _ m (bs.map aw) rfl HBY.out HON.out HLE.out hz5 ?_); intro v6 wz hown6 hgrow6; have HO6:=ag hown6; have HG6:=ag hgrow6; clear hown6 hgrow6)
     go_roundw
     case rel=>
      refine⟨k+1,acc++bs,by omega,by go_num,HFE.out, ?_, ?_,HB5.out.grown HG6.out HB5.out.size (fun k e=>by have:=(fT HO5.out e).1; omega),HX5.out.grown HG6.out (fun k e=>by have:=(fT HO5.out e).1; omega),by have:=HG6.out.size; omega⟩
      ·rw[List.length_append,<-HM.out]; omega
      ·rw[List.length_append,List.map_append,<-HM.out];exact HO6.out
     case measure=>simp[intOf]; omega
   ·have hk2:k=n:=by omega
    subst hk2;go_wp2_with fail
    go_ret2
    refine⟨HB.out, ?_⟩;rw[if_pos HF.out,HFF.out,HN.out,List.drop_length];exact⟨_,rfl,⟨HOO.out.1,HOO.out.2.imp id fun⟨g,cap,cur,h1,h2,h3⟩=>⟨g,cap,cur,h1,Nat.le_trans (Nat.le_succ _) h2,h3⟩⟩⟩
end Go.Proofs.YtpffpjbkbaleiaaGreatDoor
namespace Go.Proofs.YtpffpjbkbaleiaaGreatDoor
open Go Go.RowKit
def fF (w:World) (base:Nat) (v:Value) (acc:List bp):Prop:=
 acc.length<=4096/\ ∃ys:List gP,ys.map Prod.snd=acc/\w.ownsRow base 79 6 v ys.length (bY ys)/\ ∀y∈ys,w.ownsRow base 5 1 y.1 y.2.data.length (y.2.data.map aw)
structure lG (base : Nat) (v v' : Value) (w w' : World) : Prop where
 below:Below base w w'
 same: ∀k,k<w.heap.size->v.ownBlock≠some k->w'.heap[k]? =w.heap[k]?
 place: ∀k,v'.ownBlock=some k->v.ownBlock=some k\/w.heap.size<=k
theorem lG.trans {base:Nat} {v v1 v2:Value} {A B C:World} (h:lG base v v1 A B) (k:lG base v1 v2 B C) (hs:A.heap.size<=B.heap.size):lG base v v2 A C:=
 ⟨h.below.trans k.below,fun i h1 h3=>(k.same i (by omega) (fun e=>by
  rcases h.place i e with e2 | e2
  ·exact h3 e2
  ·omega)).trans (h.same i h1 h3),fun i e=>by
  rcases k.place i e with e2 | e2
  ·exact h.place i e2
  ·exact .inr (by omega)⟩
theorem lG.ofBelow {base:Nat} {v:Value} {w w':World} (h:Below w.heap.size w w') (hb:base<=w.heap.size):lG base v v w w':=⟨h.mono hb,fun k h1 _=>h.block k h1,fun _ e=> .inl e⟩
theorem fF.below {w w':World} {base:Nat} {v:Value} {acc:List bp} (h:fF w base v acc) (hb:Below w.heap.size w w'):fF w' base v acc:=by
 obtain⟨h0,ys,h2,h3,h4⟩:=h;exact⟨h0,ys,h2,aY h3 hb,fun y hy=>aY (h4 y hy) hb⟩
theorem fF.nil {w:World} {base:Nat} :fF w base (.slice none 0 0) []:=⟨by simp,[],rfl,World.ownsRow_nil _ _ _ _,fun y hy=>by cases hy⟩
theorem fF.push {w w2:World} {base:Nat} {v v' dv:Value} {ys:List gP} {e:bp} (hr:w.ownsRow base 79 6 v ys.length (bY ys)) (hd: ∀y∈ys,w.ownsRow base 5 1 y.1 y.2.data.length (y.2.data.map aw)) (hn:w.ownsRow base 5 1 dv e.data.length (e.data.map aw))
  (hown:w2.ownsRow base 79 6 v' (ys.length+1) (bY ys++mI dv e)) (hg:w.grownBy w2 v.ownBlock) (hpl: ∀k,v'.ownBlock=some k->v.ownBlock=some k\/w.heap.size<=k) (hbz:base<=w.heap.size) (hl:ys.length<4096):
  fF w2 base v' (ys.map Prod.snd++[e])/\lG base v v' w w2:=by
 have hdat: ∀(u:Value) (bs:List UInt8),w.ownsRow base 5 1 u bs.length (bs.map aw)->w2.ownsRow base 5 1 u bs.length (bs.map aw):=by
  intro u bs h;refine cZ h (fun k hk hu=> ?_);obtain⟨cs,hc⟩:=aA h hu;refine hg.block k hk (fun e=> ?_);obtain⟨cs2,hc2⟩:=aA hr e.symm;exact absurd (aK hc hc2) (by decide)
 refine⟨⟨by simp; omega,ys++[(dv,e)],by simp, ?_,fun y hy=> ?_⟩,⟨?_,fun k hk h2=>hg.block k hk (fun e=>h2 e.symm),hpl⟩⟩
 ·rw[List.length_append,List.length_singleton,ld];exact hown
 ·rcases List.mem_append.1 hy with hy | hy
  ·exact hdat _ _ (hd y hy)
  ·rw[List.mem_singleton]at hy;subst hy;exact hdat _ _ hn
 ·exact(Below.refl base w).grown hg hbz (fun k hk=>(hr.lt k hk).1)
structure sW (w : World) (h5 h6 base : Nat) (v itv : Value) (l : List aB) (wr : World) (v2 : Value) (acc : List bp) : Prop where
 own:fF wr base v2 acc
 kp:lG base v v2 w wr
 apart: ∀k,v2.ownBlock=some k->k<h5\/h6<=k
 ord:w.heap.size<=h5/\h5<=h6/\h6<=wr.heap.size
 its:ba (fun k=>h5<=k/\k<h6) wr itv l
theorem sW.step {w wr w':World} {h5 h6 base:Nat} {v itv v2 v3:Value} {l:List aB} {acc acc3:List bp} (h:sW w h5 h6 base v itv l wr v2 acc) (h1:fF w' base v3 acc3) (h2:lG base v2 v3 wr w'):sW w h5 h6 base v itv l w' v3 acc3:=by
 have ho:=h.ord;have hz:=h2.below.size;refine⟨h1,h.kp.trans h2 (by omega),fun k hk=> ?_,⟨ho.1,ho.2.1,by omega⟩,h.its.same (fun k hk hS=>h2.same k hk (fun e=> ?_))⟩
 ·rcases h2.place k hk with e | e
  ·exact h.apart k e
  ·exact .inr (by omega)
 ·have:=h.apart k e;omega
theorem sW.below {w wr w':World} {h5 h6 base:Nat} {v itv v2:Value} {l:List aB} {acc:List bp} (h:sW w h5 h6 base v itv l wr v2 acc) (hb:Below wr.heap.size wr w') (hbz:base<=wr.heap.size):sW w h5 h6 base v itv l w' v2 acc:=
 h.step (h.own.below hb) (lG.ofBelow hb hbz)
theorem fF.shape {w:World} {base:Nat} {v:Value} {acc:List bp} (h:fF w base v acc): ∃a c,v= .slice a acc.length c/\acc.length<=c/\c<=maxLen:=by
 obtain⟨_,ys,h2,h3,_⟩:=h;obtain⟨a,c,rfl,h4,h5⟩:=am h3;have e:ys.length=acc.length:=by rw[<-h2,List.length_map]
 rw[e]at h4 ⊢;exact⟨a,c,rfl,h4,h5⟩
end Go.Proofs.YtpffpjbkbaleiaaGreatDoor
namespace Go.Proofs.YtpffpjbkbaleiaaGreatDoor
open Go Go.RowKit
theorem zd (s:ByteArray) (o:Bool) (w:World) (hs:s.size<=16777216) (h:be (bl s)=o):Calls Tryz.prog 86 #[.string s] w fun e w'=>e= .returned (.bool o)/\Below w.heap.size w w':=by rw[<-h]; exact vO s w hs
end Go.Proofs.YtpffpjbkbaleiaaGreatDoor
