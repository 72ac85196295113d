/- Texts of this proof, one after the other: AwP, BldF, BldG, AwQ, AwR, LookB, AwS, Same, SItem, LawIts, Frame, Few, OpM. -/
import Derived.Test.YtpffpjbkbaleiaaGreatDoorCItemsG
set_option maxRecDepth 100000
set_option maxHeartbeats 8000000
namespace Go.Proofs.YtpffpjbkbaleiaaGreatDoor
open Go.RowKit
def pp (c:UInt8):ByteArray:=⟨#[c,49,50,51,52,53,54,55,56,57,97,98,99,100,101,102,48,49,50,51,52,53,54,55,56,57,97,98,99,100,101,102]⟩
def cX :bD:=⟨pp 110,pp 115,pp 99,pp 105,pp 116⟩
def jJ :dL:=⟨2,6,1,1,0⟩
def ig :List bw:=[⟨⟨#[97]⟩,1,0,0,[],⟨#[]⟩⟩,⟨⟨#[100]⟩,2,0,0,[],⟨#[]⟩⟩,⟨⟨#[100,47,108]⟩,3,5,6,[],⟨#[97]⟩⟩]
def kH :List UInt8:=[1,1,108,3,5,6,1,97]
def jZ :aL:=aY cX [] kH
def lH :az:=⟨⟨#[97]⟩,1,0,0,0,⟨#[]⟩,[],aZ⟩
def AZ :az:=⟨⟨#[100]⟩,2,0,0,0,⟨#[]⟩,[],jZ⟩
def itL :az:=⟨⟨#[108]⟩,3,5,6,0,⟨#[97]⟩,[],aZ⟩
def ml :List UInt8:=cF [lH,AZ]
def fS :aL:=aY cX [] ml
def oK :List (ByteArray×List UInt8):=[(fS.name,ml)]
theorem uR :fL cX=true:=by decide+kernel
theorem yk :iB jJ=true:=by decide+kernel
theorem Dg :cR ig=0:=by decide+kernel
theorem DX :cF [itL]=kH:=by decide+kernel
theorem Fq :cg ig ⟨#[]⟩=[⟨⟨#[97]⟩,1,0,0,[],⟨#[]⟩⟩,⟨⟨#[100]⟩,2,0,0,[],⟨#[]⟩⟩]:=by decide+kernel
theorem Fr :cg ig ⟨#[100]⟩=[⟨⟨#[100,47,108]⟩,3,5,6,[],⟨#[97]⟩⟩]:=by decide+kernel
theorem Fo :bm [0]=some []:=by kernel_rfl
theorem vn0 :bV []=true:=by decide+kernel
theorem vnL :bV [itL]=true:=by decide+kernel
theorem vnT :bV [lH,AZ]=true:=by decide+kernel
theorem Ga :jZ≠fS:=by decide+kernel
theorem Fw :jZ.name≠fS.name:=by decide+kernel
theorem Gg (n:Nat):cD cX [] jJ [] (n+1) ⟨#[]⟩= .ok ([0],[[0]]):=by
 rw[cD,show dm cX [] jJ (cD cX [] jJ [] n) ⟨#[]⟩ (cg [] ⟨#[]⟩) [] []= .ok ([],[])from rfl];simp only[if_pos vn0];rw[if_pos (show(cF []).length<=32768 by decide)]
 rfl
theorem Gp :bE cX [] [[0]] []=[⟨aY cX [] [0],[0]⟩]:=by
 show gG cX [] [] [0]=_
 unfold gG;rw[if_neg (by simp),List.nil_append]
theorem Fh :cQ cX jJ [] []= .ok (aY cX [] [0],[⟨aY cX [] [0],[0]⟩]):=by
 unfold cQ;rw[if_pos ⟨uR,yk⟩,if_pos (show([]:List (ByteArray×Int)).all (fun p=>decide (0<=p.2) && decide (p.2<=1099511627776))=true from rfl),if_pos (show cR []=0 from rfl),Gg 513]
 dsimp only
 rw[Gp]
theorem FY :bE cX [] [kH,ml] []=[⟨jZ,kH⟩,⟨fS,ml⟩]:=by
 unfold bE;rw[List.foldl_cons,List.foldl_cons,List.foldl_nil];have h1:gG cX [] [] kH=[⟨jZ,kH⟩]:=by
  unfold gG;rw[if_neg (by simp),List.nil_append]
  rfl
 rw[h1];unfold gG;rw[if_neg]
 ·rfl
 ·intro h;simp only[List.map_cons,List.map_nil,List.mem_singleton]at h;exact Ga h.symm
theorem Gh (n:Nat):cD cX [] jJ ig (n+1) ⟨#[100]⟩= .ok (kH,[kH]):=by
 have h:dm cX [] jJ (cD cX [] jJ ig n) ⟨#[100]⟩ (cg ig ⟨#[100]⟩) [] []= .ok ([itL],[]):=by
  rw[Fr]; rfl
 rw[cD,h];simp only[if_pos vnL,DX]
 rfl
theorem Gi (n:Nat):cD cX [] jJ ig (n+2) ⟨#[]⟩= .ok (ml,[kH,ml]):=by
 have h:dm cX [] jJ (cD cX [] jJ ig (n+1)) ⟨#[]⟩ (cg ig ⟨#[]⟩) [] []= .ok ([lH,AZ],[kH]):=by
  rw[Fq];rw[rG (by rfl),pq (by rfl),show cD cX [] jJ ig (n+1) ⟨#[100]⟩= .ok (kH,[kH])from Gh n]
  rfl
 rw[cD,h];simp only[if_pos vnT];rw[if_pos (show(cF [lH,AZ]).length<=32768 by decide+kernel)]
 rfl
theorem Fi :cQ cX jJ ig []= .ok (fS,[⟨jZ,kH⟩,⟨fS,ml⟩]):=by
 unfold cQ;rw[if_pos ⟨uR,yk⟩,if_pos (by rfl),if_pos Dg,show(514:Nat)=512+2 from rfl,Gi 512]
 show Except.ok (fS,bE cX [] [kH,ml] [])=_
 rw[FY]
theorem Fp :bm ml=some [lH,AZ]:=by kernel_rfl
theorem Gn :((ml.length:Nat):Int)=fS.size:=by kernel_rfl
theorem Co :dO oK fS= .ok [lH,AZ]:=by
 have h:dY oK fS= .ok ml:=by
  unfold dY oK;rw[dt,if_pos rfl]
  show(if((ml.length:Nat):Int)=fS.size then Except.ok ml else .error 9)=_
  rw[if_pos Gn]
 unfold dO;rw[h];simp only[Fp]
theorem EW :dO oK jZ= .error 10:=by
 have h:dY oK jZ= .error 10:=by
  unfold dY oK;rw[dt,if_neg (fun e=>Fw e.symm),dt]
 unfold dO;rw[h]
theorem Do :dK fS=true:=by decide+kernel
theorem FS (n:Nat):ey oK (cZ oK (n+1)) ⟨#[]⟩ [lH,AZ] []=(10,[⟨⟨#[97]⟩,1,0,0,[],⟨#[]⟩⟩,⟨⟨#[100]⟩,2,0,0,[],⟨#[]⟩⟩]):=by
 rw[lq (p:=⟨#[97]⟩) (bs:=[]) rfl (by decide+kernel) (by decide) rfl rfl,mB (p:=⟨#[100]⟩) rfl (by decide+kernel) (by decide) rfl];have h1: ∀X,cZ oK (n+1) ⟨#[100]⟩ AZ.node X=(10,X):=fun X=>by
  rw[cZ,show AZ.node=jZ from rfl,EW]
 rw[h1]
 rfl
theorem FT (n:Nat):cZ oK (n+2) ⟨#[]⟩ fS []=(10,[⟨⟨#[97]⟩,1,0,0,[],⟨#[]⟩⟩,⟨⟨#[100]⟩,2,0,0,[],⟨#[]⟩⟩]):=by
 rw[cZ,Co];exact FS n
theorem FR :nn oK fS= .error 10:=by
 unfold nn;rw[if_pos Do,show(514:Nat)=512+2 from rfl,FT 512]
 rfl
theorem FU :eK oK fS ⟨#[97]⟩= .ok lH:=by
 unfold eK;rw[if_pos ⟨by decide+kernel,Do⟩,show jr (bl ⟨#[97]⟩)=[⟨#[97]⟩] by decide+kernel];rw[iP,if_pos (show(fZ fS).kind=2 from rfl),show(fZ fS).node=fS from rfl,Co]
 rfl
theorem Ft :eK oK fS ⟨#[100,47,108]⟩= .error 10:=by
 unfold eK;rw[if_pos ⟨by decide+kernel,Do⟩,show jr (bl ⟨#[100,47,108]⟩)=[⟨#[100]⟩,⟨#[108]⟩] by decide+kernel];rw[iP,if_pos (show(fZ fS).kind=2 from rfl),show(fZ fS).node=fS from rfl,Co]
 show iP oK [⟨#[108]⟩] AZ=_
 rw[iP,if_pos (show AZ.kind=2 from rfl),show AZ.node=jZ from rfl,EW]
theorem FV :Ce oK fS= .ok [jZ]:=by kernel_rfl
end Go.Proofs.YtpffpjbkbaleiaaGreatDoor
namespace Go.Proofs.YtpffpjbkbaleiaaGreatDoor
open Go Go.RowKit Go.Maps
theorem gZ {tree:List bw} {j:Nat} {e:bw} (h:tree[j]? =some e) (d:ByteArray):cg (tree.take (j+1)) d=cg (tree.take j) d++(if aS (bl e.path)=bl d then [e]else []):=by
 unfold cg;rw[bz h,List.filter_append]
 congr 1
 by_cases hp:aS (bl e.path)=bl d
 ·simp[hp]
 ·simp[hp]
theorem mT {G:List tM} {d:ByteArray} (h:G.find? (fun g=>decide (g.dir=d))=none):fs G d=[]:=by unfold fs; rw[h]
theorem gT {G:List tM} {d:ByteArray} {g:tM} (h:G.find? (fun g=>decide (g.dir=d))=some g):fs G d=g.ents.map Prod.snd:=by unfold fs; rw[h]
theorem mU {A B:List tM} {g g':tM} (hd:g'.dir=g.dir) (hA: ∀x∈A,x.dir≠g.dir) (d:ByteArray):fs (A++g'::B) d=if g.dir=d then g'.ents.map Prod.snd else fs (A++g::B) d:=by
 by_cases h:g.dir=d
 ·rw[if_pos h];refine gT ?_;rw[List.find?_append,List.find?_eq_none.2 (fun x hx=>by rw[decide_eq_true_eq]; intro e; exact hA x hx (e.trans h.symm))];simp[hd,h]
 ·rw[if_neg h];unfold fs;rw[List.find?_append,List.find?_append,List.find?_cons,List.find?_cons,decide_eq_false (show ¬g'.dir=d by rw[hd]; exact h),decide_eq_false h]
theorem oS {G:List tM} {g:tM} (h:G.find? (fun x=>decide (x.dir=g.dir))=none) (d:ByteArray):fs (G++[g]) d=if g.dir=d then g.ents.map Prod.snd else fs G d:=by
 by_cases hd:g.dir=d
 ·rw[if_pos hd];refine gT ?_;rw[<-hd,List.find?_append,h];simp
 ·rw[if_neg hd];unfold fs;rw[List.find?_append]
  cases G.find? (fun x=>decide (x.dir=d))with
  | none=>simp[hd]
  | some x=>simp
section
variable {w w1 w2 : World} {base im : Nat} {A B G : List tM} {g : tM} {v' : Value} {y : je} {q : ByteArray}
theorem jD.over (h:jD w base im (A++g::B)) (hb:base<=im) (hd:bC (· <base) w y.1 y.2.data/\gO y.2) (hown:w1.ownsRow base 79 6 v' (g.ents.length+1) (cW g.ents++oQ y.1 y.2)) (hg:w.grownBy w1 g.val.ownBlock) (hpl: ∀i,v'.ownBlock=some i->g.val.ownBlock=some i\/w.heap.size<=i)
  (hm:cO Tryz.prog 9 w2 im (A.map gB++(.string g.dir,v')::B.map gB)) (hg2:w1.grownBy w2 (some im)):jD w2 base im (A++⟨g.dir,v',g.ents++[y]⟩::B):=by
 have hgo:w.ownsRow base 79 6 g.val g.ents.length (cW g.ents):=h.own g (by simp);have him:w.heap[im]? =w1.heap[im]? ->True:=fun _=>trivial
 have hmc: ∀ {u:Value} {n:Nat} {xs:List Value} {t:TypeId} {sz:Nat},w1.ownsRow base t sz u n xs->w2.ownsRow base t sz u n xs:=fun {u n xs t sz} hr=>by
  refine hr.kept hg2 (.inr (fun e=> ?_));obtain⟨cs,hc⟩:=aA hr e;have h0:=h.map.lt;have hi:w1.heap[im]? =w.heap[im]? :=hg.block im h0 (fun e2=>by
   obtain⟨cs2,hc2⟩:=aA hgo e2.symm;exact h.map.ncells hc2)
  exact h.map.ncells (hi.symm.trans hc)
 have hoth: ∀x,x∈A\/x∈B-> ∀i,x.val.ownBlock=some i->g.val.ownBlock≠some i:=by
  intro x hx i hi;have hp:=List.pairwise_append.1 h.apart
  rcases hx with hx | hx
  ·exact hp.2.2 x hx g (by simp) i hi
  ·intro e;exact(List.pairwise_cons.1 hp.2.1).1 x hx i e hi
 have hdat: ∀ {u:Value} {bs:List UInt8},bC (· <base) w u bs->bC (· <base) w2 u bs:=fun {u bs} hu=>by
  refine aM.same hu (fun i hi=>(hg2.block i ?_ ?_).trans (hg.block i ?_ ?_))
  ·by_cases hlt:i<w.heap.size
   ·exact Nat.lt_of_lt_of_le hlt hg.size
   ·exact absurd h.map.lt (by omega)
  ·intro e;have:i=im:=by simpa using e
   omega
  ·have:=h.map.lt;omega
  ·intro e;have:=(hgo.lt i e.symm).1;omega
 have hmem: ∀x,x∈A++g::B->(x∈A\/x∈B)\/x=g:=by
  intro x hx;simp only[List.mem_append,List.mem_cons]at hx
  rcases hx with hx | hx | hx
  ·exact .inl (.inl hx)
  ·exact .inr hx
  ·exact .inl (.inr hx)
 refine⟨by simpa [gB]using hm,fun x hx=> ?_,fun x hx z hz=> ?_, ?_,fun x hx=> ?_⟩
 ·simp only[List.mem_append,List.mem_cons]at hx
  rcases hx with hx | hx | hx
  ·refine hmc ((h.own x (by simp[hx])).kept hg ?_)
   cases hv:x.val.ownBlock with
   | none=>exact .inl rfl
   | some i=>exact .inr (fun e=>hoth x (.inl hx) i hv e.symm)
  ·subst hx;simp only;rw[List.length_append,List.length_singleton,oR];exact hmc hown
  ·refine hmc ((h.own x (by simp[hx])).kept hg ?_)
   cases hv:x.val.ownBlock with
   | none=>exact .inl rfl
   | some i=>exact .inr (fun e=>hoth x (.inr hx) i hv e.symm)
 ·simp only[List.mem_append,List.mem_cons]at hx
  rcases hx with hx | hx | hx
  ·have:=h.dat x (by simp[hx]) z hz;exact⟨hdat this.1,this.2⟩
  ·subst hx
   rcases List.mem_append.1 hz with hz | hz
   ·have:=h.dat g (by simp) z hz;exact⟨hdat this.1,this.2⟩
   ·rw[List.mem_singleton]at hz;subst hz;exact⟨hdat hd.1,hd.2⟩
  ·have:=h.dat x (by simp[hx]) z hz;exact⟨hdat this.1,this.2⟩
 ·have hp:=List.pairwise_append.1 h.apart;have hc:=List.pairwise_cons.1 hp.2.1;have hlow: ∀x,x∈A\/x∈B-> ∀i,x.val.ownBlock=some i->i<w.heap.size:=by
   intro x hx i hi;have hx2:x∈A++g::B:=by rcases hx with hx | hx<;> simp[hx]
   exact((h.own x hx2).lt i hi).2
  refine List.pairwise_append.2 ⟨hp.1,List.pairwise_cons.2 ⟨fun x hx i hi e=> ?_,hc.2⟩,fun x hx z hz i hi e=> ?_⟩
  ·rcases hpl i hi with h2 | h2
   ·exact hc.1 x hx i h2 e
   ·have:=hlow x (.inr hx) i e;omega
  ·rcases List.mem_cons.1 hz with hz | hz
   ·subst hz
    rcases hpl i e with h2 | h2
    ·exact hoth x (.inl hx) i hi h2
    ·have:=hlow x (.inl hx) i hi;omega
   ·exact hp.2.2 x hx z (by simp[hz]) i hi e
 ·simp only[List.mem_append,List.mem_cons]at hx
  rcases hx with hx | hx | hx
  ·exact h.key x (by simp[hx])
  ·subst hx;exact h.key g (by simp)
  ·exact h.key x (by simp[hx])
theorem jD.new (h:jD w base im G) (hb:base<=im) (hq:q.size<=maxLen) (hd:bC (· <base) w y.1 y.2.data/\gO y.2) (hown:w1.ownsRow base 79 6 v' 1 (oQ y.1 y.2)) (hg:w.grownBy w1 none) (hpl: ∀i,v'.ownBlock=some i->w.heap.size<=i)
  (hm:cO Tryz.prog 9 w2 im (G.map gB++[(.string q,v')])) (hg2:w1.grownBy w2 (some im)):jD w2 base im (G++[⟨q,v',[y]⟩]):=by
 have hmc: ∀ {u:Value} {n:Nat} {xs:List Value} {t:TypeId} {sz:Nat},w1.ownsRow base t sz u n xs->w2.ownsRow base t sz u n xs:=fun {u n xs t sz} hr=>by
  refine hr.kept hg2 (.inr (fun e=> ?_));obtain⟨cs,hc⟩:=aA hr e;have h0:=h.map.lt;have hi:w1.heap[im]? =w.heap[im]? :=hg.block im h0 (by simp);exact h.map.ncells (hi.symm.trans hc)
 have hdat: ∀ {u:Value} {bs:List UInt8},bC (· <base) w u bs->bC (· <base) w2 u bs:=fun {u bs} hu=>by
  have h0:=h.map.lt;refine aM.same hu (fun i hi=>(hg2.block i ?_ ?_).trans (hg.block i ?_ (by simp)))
  ·have:=hg.size;omega
  ·intro e;have:i=im:=by simpa using e
   omega
  ·skip
   omega
 refine⟨by simpa [gB]using hm,fun x hx=> ?_,fun x hx z hz=> ?_,List.pairwise_append.2 ⟨h.apart,by simp,fun x hx z hz i hi e=> ?_⟩,fun x hx=> ?_⟩
 ·rcases List.mem_append.1 hx with hx | hx
  ·exact hmc ((h.own x hx).kept hg (by cases hv:x.val.ownBlock<;> simp))
  ·rw[List.mem_singleton]at hx;subst hx
   simpa [cW]using hmc hown
 ·rcases List.mem_append.1 hx with hx | hx
  ·have:=h.dat x hx z hz;exact⟨hdat this.1,this.2⟩
  ·rw[List.mem_singleton]at hx;subst hx;simp only[List.mem_singleton]at hz;subst hz;exact⟨hdat hd.1,hd.2⟩
 ·rw[List.mem_singleton]at hz;subst hz;have h1:=hpl i e;have h2:=((h.own x hx).lt i hi).2;omega
 ·rcases List.mem_append.1 hx with hx | hx
  ·exact h.key x hx
  ·rw[List.mem_singleton]at hx;subst hx;exact hq
end
def yU (k:bD) (gs:List (ByteArray×Int)) (c:dL) (tree:List bw):List aL:=
 (tree.flatMap fun e=>(fD c e.data).map (aY k gs))++(List.range 515).flatMap fun n=>(⟨#[]⟩::tree.map bw.path).flatMap fun d=>match cD k gs c tree n d with
  | .ok p=>[aY k gs p.1]
  | .error _=>[]
theorem xV {k:bD} {gs:List (ByteArray×Int)} {c:dL} {tree:List bw} (hc:iB c=true) (hl:tree.length<=4096) (hv: ∀e∈tree,iC e=true):(yU k gs c tree).length<=100000000000:=by
 have h1:=fF (fun e:bw=>(fD c e.data).map (aY k gs)) 1048576 tree (fun e he=>by
  rw[List.length_map];have:=sR hc e.data;have:=(iM (hv e he)).2.2
  omega)
 have h2:=fF (fun n:Nat=>(⟨#[]⟩::tree.map bw.path).flatMap fun d=>match cD k gs c tree n d with
  | .ok p=>[aY k gs p.1]
  | .error _=>[]) 4097 (List.range 515) (fun n _=>by
   have h3:=fF (fun d=>match cD k gs c tree n d with
    | .ok p=>[aY k gs p.1]
    | .error _=>[]) 1 (⟨#[]⟩::tree.map bw.path) (fun d _=>by
     cases cD k gs c tree n d<;> simp)
   simp only[List.length_cons,List.length_map]at h3
   omega)
 rw[List.length_range]at h2;have h4:tree.length*1048576<=4096*1048576:=Nat.mul_le_mul_right _ hl;unfold yU;rw[List.length_append];omega
theorem xW {k:bD} {gs:List (ByteArray×Int)} {c:dL} {tree:List bw} : ∀e∈tree,∀y∈fD c e.data,aY k gs y∈yU k gs c tree:=fun e he y hy=>
 List.mem_append.2 (.inl (List.mem_flatMap.2 ⟨e,he,List.mem_map.2 ⟨y,hy,rfl⟩⟩))
theorem xX {k:bD} {gs:List (ByteArray×Int)} {c:dL} {tree:List bw} : ∀(n:Nat) (d:ByteArray) (p:List UInt8×List (List UInt8)),n<=514->(d.size=0\/ ∃e∈tree,e.path=d)->cD k gs c tree n d= .ok p->aY k gs p.1∈yU k gs c tree:=fun n d p hn hd hp=>by
 refine List.mem_append.2 (.inr (List.mem_flatMap.2 ⟨n,List.mem_range.2 (by omega),List.mem_flatMap.2 ⟨d, ?_, ?_⟩⟩))
 ·rcases hd with hd | ⟨e,he,rfl⟩
  ·have:d=⟨#[]⟩:=by
    apply fe
    exact List.eq_nil_of_length_eq_zero (by rw[<-ay]; exact hd)
   simp[this]
  ·exact List.mem_cons_of_mem _ (List.mem_map.2 ⟨e,he,rfl⟩)
 ·rw[hp]; simp
end Go.Proofs.YtpffpjbkbaleiaaGreatDoor
namespace Go.Proofs.YtpffpjbkbaleiaaGreatDoor
open Go Go.RowKit Go.Maps
theorem zh {a:Act} {w:World} {b:Nat} {x0 x1 x2 e9 e10:Value} (h:w.heap[b]? =some (.cells #[x0,x1,x2] 26 (0,0)))
  (h8:a.tmps[8]? =some (.pointer (some ⟨b,0,none⟩))) (h9:a.tmps[9]? =some e9) (h10:a.tmps[10]? =some e10):(results Tryz.f22 a.tmps).run Tryz.prog w= .ok (.tuple #[.agg #[x0,x1,x2],e9,e10]) w:=by
 have m0:=ai (k:=0) h;have m1:=ai (k:=1) h;have m2:=ai (k:=2) h;simp only[aN]at m0 m1 m2;simp[results,Tryz.results22,go_sem,h8,h9,h10,m0,m1,m2]
theorem dS {a:Act} {w:World} {b:Nat} {a0 a1 a2 x0 x1 x2 e9 e10:Value} {Q:Ending->World->Prop} (h:w.heap[b]? =some (.cells #[a0,a1,a2] 26 (0,0)))
  (h8:a.tmps[8]? =some (.pointer (some ⟨b,0,none⟩))) (h9:a.tmps[9]? =some e9) (h10:a.tmps[10]? =some e10) (hd:a.defers=[])
  (hQ:Q (.returned (.tuple #[.agg #[x0,x1,x2],e9,e10])) (((w.setCell ⟨b,0,none⟩ x0).setCell ⟨b,1,none⟩ x1).setCell ⟨b,2,none⟩ x2)):
  bodyPost Tryz.prog Tryz.f22 Q Exit.ret a (((w.setCell ⟨b,0,none⟩ x0).setCell ⟨b,1,none⟩ x1).setCell ⟨b,2,none⟩ x2):=bodyPost_ret (zh (CS h) h8 h9 h10) hd hQ
def tO (res:Except Int (aL×List bI)) (w:World) (e:Ending) (w':World):Prop:=Below w.heap.size w w'/\match res with
 | .error x=>e= .returned (.tuple #[.agg #[.string ⟨#[]⟩, .int .i64 0, .int .i64 0], .slice none 0 0, .int .i64 x])/\x≠0
 | .ok p=> ∃v zs,e= .returned (.tuple #[bF p.1,v, .int .i64 0])/\zs.map Prod.snd=p.2/\dZ w' w.heap.size v zs
theorem dZ.other {w w':World} {base B b:Nat} {v:Value} {zs:List iH} {cs:Array Value} {t:TypeId} {z:Nat×Nat} (h:dZ w base v zs) (hb:w.heap[b]? =some (.cells cs t z)) (h1:t≠53) (h2:t≠5) (hB:B<=base) (hs: ∀i,i≠b->w'.heap[i]? =w.heap[i]?):dZ w' B v zs:=by
 refine⟨cI (dx h.row (fun i hi hu=>hs i (fun e=> ?_))) hB,fun y hy=>cI (dx (h.dat y hy) (fun i hi hu=>hs i (fun e=> ?_))) hB⟩
 ·subst e;obtain⟨cs2,hc2⟩:=aA h.row hu;exact h1 (aK hb hc2)
 ·subst e;obtain⟨cs2,hc2⟩:=aA (h.dat y hy) hu;exact h2 (aK hb hc2)
theorem yf (S:Nat->Prop) (L:List bw) (v:Value) (x:Int) (w:World) (hv:dH S w v L) (henv:gm w) (hx:cR L=x):Calls Tryz.prog 71 #[v] w fun e w'=>e= .returned (.int .i64 x)/\Below w.heap.size w w':=by
 rw[<-hx]; exact zk S L v w hv henv
theorem em.nilKeep {w w':World} {base bb im kb:Nat} {k:bD} {c:dL} {gv:Value} (h:em w base bb k c gv im kb (.slice none 0 0) []) (hs:w'.heap[bb]? =w.heap[bb]?) (hk:w'.heap[kb]? =w.heap[kb]?):em w' base bb k c gv im kb (.slice none 0 0) []:=
 ⟨hs.trans h.box,⟨[],rfl,World.ownsRow_nil _ _ _ _,by simp⟩,h.known.same hk⟩
structure BgI (w4 : World) (base bb im kb : Nat) (k : bD) (c : dL) (gv : Value) (T : List bw) (wr : World) (G : List tM) : Prop where
 bd:em wr base bb k c gv im kb (.slice none 0 0) []
 grp:jD wr base im G
 ents: ∀d,fs G d=cg T d
 below:Below base w4 wr
theorem qT (S T:Nat->Prop) (k:bD) (c:dL) (tree:List bw) (gs:List (ByteArray×Int)) (tv gv:Value) (w:World) (hsd:c.seed<18446744073709551616) (ht:dH S w tv tree) (hg:ik T w gv gs) (hE:kP w):
  Calls Tryz.prog 22 #[iO k,fE c,tv,gv] w (tO (cQ k c tree gs) w):=by
 obtain⟨ta,tc,rfl,htn,htm,-⟩:=aP.shape ht qj.len;unfold maxLen at htm;obtain⟨n,hn⟩: ∃n,n=tree.length:=⟨_,rfl⟩;rw[<-hn]at ht htn ⊢;have HN:=ab hn;have HT:=ab ht;have HG:=ab hg;have HE:=ab hE;obtain⟨W0,hW0⟩: ∃W0,W0=((w.alloc (.cells #[.string k.nm, .string k.st, .string k.ck, .string k.ix, .string k.tk] 42)).alloc (.cells #[.int .i64 c.mn, .int .i64 c.mx, .int .i64 c.win, .int .i64 c.bits, .int .u64 (c.seed:Int)] 45)).alloc (.cells #[.string ⟨#[]⟩, .int .i64 0, .int .i64 0] 26):=⟨_,rfl⟩
 have hb0:Below w.heap.size w W0:=by rw[hW0]; exact(((Below.refl _ _).alloc (Nat.le_refl _) _).alloc (by simp) _).alloc (by simp; omega) _
 have HB0:=ab hb0;have HKX:=ab (show W0.heap[w.heap.size]? =some (.cells #[.string k.nm, .string k.st, .string k.ck, .string k.ix, .string k.tk] 42 (0,0)) by rw[hW0]; exact cK (cK (bX w _) _) _);have HCX:=ab (show W0.heap[w.heap.size+1]? =some (.cells #[.int .i64 c.mn, .int .i64 c.mx, .int .i64 c.win, .int .i64 c.bits, .int .u64 (c.seed:Int)] 45 (0,0)) by rw[hW0]; exact cK (jV w _ _) _)
 have HRX:=ab (show W0.heap[w.heap.size+2]? =some (.cells #[.string ⟨#[]⟩, .int .i64 0, .int .i64 0] 26 (0,0)) by
  rw[hW0];have:=bX ((w.alloc (.cells #[.string k.nm, .string k.st, .string k.ck, .string k.ix, .string k.tk] 42)).alloc (.cells #[.int .i64 c.mn, .int .i64 c.mx, .int .i64 c.win, .int .i64 c.bits, .int .u64 (c.seed:Int)] 45)) (.cells #[.string ⟨#[]⟩, .int .i64 0, .int .i64 0] 26);rw[show((w.alloc (.cells #[.string k.nm, .string k.st, .string k.ck, .string k.ix, .string k.tk] 42)).alloc (.cells #[.int .i64 c.mn, .int .i64 c.mx, .int .i64 c.win, .int .i64 c.bits, .int .u64 (c.seed:Int)] 45)).heap.size=w.heap.size+2 by simp]at this
  exact this)
 have hsc:=qH k W0 (hE.below hb0).envh;unfold iO at hsc ⊢;unfold fE;have HSC:=ab hsc;clear ht hg hE hn hb0 hsc
 go_enter Tryz.func22,Tryz.ntmps22
 go_upto_region 1 with(fail)
 rw[<-hW0];clear hW0;have a0:=aa (k:=0) HKX.out;have a1:=aa (k:=1) HKX.out;have a2:=aa (k:=2) HKX.out;have a3:=aa (k:=3) HKX.out;have a4:=aa (k:=4) HKX.out;simp only[aN]at a0 a1 a2 a3 a4
 cases hkv:fL k with
 | false=>
  rw[hkv]at HSC;have HM:=ab (show cQ k c tree gs= .error 1 by unfold cQ; rw[if_neg (by rw[hkv]; simp)]);clear hkv;go_wp2_with fail;refine HSC.out.mono ?_;rintro e w1 ⟨⟨sv,rfl⟩,hb1⟩;have HB1:=ab (ah HB0.out hb1);have HR1:=ab ((hb1.block _ (lt_of_block HRX.out)).trans HRX.out);clear hb1 a0 a1 a2 a3 a4;have z0:=aa (k:=0) HR1.out;have z1:=aa (k:=1) HR1.out
  have z2:=aa (k:=2) HR1.out;have y0:=ag (k:=0) HR1.out;have y1:=ag (k:=1) HR1.out;have y2:=ag (k:=2) HR1.out;simp only[aN]at z0 z1 z2;go_wp2_with fail;refine dS HR1.out rfl rfl rfl rfl ⟨dh HB1.out (by show w.heap.size<=w.heap.size+2; omega), ?_⟩;rw[HM.out];exact⟨rfl,by decide⟩
 | true=>
  rw[hkv]at HSC;have HKV:=ab hkv;go_wp2_with fail;refine HSC.out.mono ?_;rintro e w1 ⟨⟨sv,rfl⟩,hb1⟩;have HB1:=ab (ah HB0.out hb1);have HW1:=ab hb1;have HR1:=ab ((hb1.block _ (lt_of_block HRX.out)).trans HRX.out);have HK1:=ab ((hb1.block _ (lt_of_block HKX.out)).trans HKX.out);have HC1:=ab ((hb1.block _ (lt_of_block HCX.out)).trans HCX.out);clear hb1 a0 a1 a2 a3 a4;have b0:=aa (k:=0) HC1.out
  have b1:=aa (k:=1) HC1.out;have b2:=aa (k:=2) HC1.out;have b3:=aa (k:=3) HC1.out;have b4:=aa (k:=4) HC1.out;simp only[aN]at b0 b1 b2 b3 b4
  cases hcv:iB c with
  | false=>
   have HCV:=ab hcv;have HM:=ab (show cQ k c tree gs= .error 1 by unfold cQ; rw[if_neg (by rw[hcv]; simp)]);have hvc:=gR c false w1 hcv;unfold fE at hvc;have HVC:=ab hvc;clear hkv hcv hvc;go_wp2_with fail;refine HVC.out.mono ?_;rintro e w2 ⟨rfl,hb2⟩;have HB2:=ab (ah HB1.out hb2);have HR2:=ab ((hb2.block _ (lt_of_block HR1.out)).trans HR1.out);clear hb2 b0 b1 b2 b3 b4
   have z0:=aa (k:=0) HR2.out;have z1:=aa (k:=1) HR2.out;have z2:=aa (k:=2) HR2.out;have y0:=ag (k:=0) HR2.out;have y1:=ag (k:=1) HR2.out;have y2:=ag (k:=2) HR2.out;simp only[aN]at z0 z1 z2;go_wp2_with fail;refine dS HR2.out rfl rfl rfl rfl ⟨dh HB2.out (by show w.heap.size<=w.heap.size+2; omega), ?_⟩;rw[HM.out];exact⟨rfl,by decide⟩
  | true=>
   have HCV:=ab hcv;have HM0:=ab (show cQ k c tree gs=(if(gs.all fun p=>decide (0<=p.2) && decide (p.2<=1099511627776))=true then
    (if cR tree=0 then(match cD k gs c tree 514 ⟨#[]⟩with
     | .error x=> .error x
     | .ok p=> .ok (aY k gs p.1,bE k gs p.2 []))
    else .error (cR tree))else .error 1) by unfold cQ; rw[if_pos ⟨hkv,hcv⟩]; rfl)
   have hvc:=gR c true w1 hcv;unfold fE at hvc;have HVC:=ab hvc;clear hkv hcv hvc;go_wp2_with fail;refine HVC.out.mono ?_;rintro e w2 ⟨rfl,hb2⟩;have HB2:=ab (ah HB1.out hb2);have HR2:=ab ((hb2.block _ (lt_of_block HR1.out)).trans HR1.out);have HK2:=ab ((hb2.block _ (lt_of_block HK1.out)).trans HK1.out);have HC2:=ab ((hb2.block _ (lt_of_block HC1.out)).trans HC1.out)
   clear hb2 b0 b1 b2 b3 b4
   rcases HG.out with⟨rfl,hgs⟩ | ⟨gb,rfl,hTg,hgm⟩
   ·have HGS:=ab hgs;have hr:=fun(w:World)=>run_range_nilMap (P:=Tryz.prog) w 47 9 3 Tryz.underlying47
    have hnx:=fun(w:World) (ty:TypeId) (a b:Nat) (s:Array Nat)=>run_next_nilMap (P:=Tryz.prog) w ty a b s
    clear hgs;go_wp2_with fail;obtain⟨W3,hW3⟩: ∃W3:World,W3=w2.alloc (.mapIter none 0 #[] 0):=⟨_,rfl⟩;have hnx2: ∀ty,(Instr.next (.pointer (some ⟨w2.heap.size,0,none⟩)) false ty).run Tryz.prog W3= .ok (.tuple #[.bool false]) W3:=by rw[hW3]; exact fun ty=>hnx w2 ty _ _ _
    have hb3:Below w2.heap.size w2 W3:=by rw[hW3]; exact(Below.refl _ _).alloc (Nat.le_refl _) _
    have HB3:=ab (ah HB2.out hb3);have HR3:=ab ((hb3.block _ (lt_of_block HR2.out)).trans HR2.out);have HK3:=ab ((hb3.block _ (lt_of_block HK2.out)).trans HK2.out);have HC3:=ab ((hb3.block _ (lt_of_block HC2.out)).trans HC2.out);have HALL:=ab (show gs.all (fun p=>decide (0<=p.2) && decide (p.2<=1099511627776))=true by rw[HGS.out]; rfl);rw[<-hW3];clear hr hnx hb3 hW3
    go_loopw [14] (fun _ wr=>wr=W3) (fun _ _=>0)
    case atStart=>rfl
    case round=>
     subst hrel
     go_upto_region 9 with(fail)
     have HM1:=ab (show cQ k c tree gs=(if cR tree=0 then(match cD k gs c tree 514 ⟨#[]⟩with
      | .error x=> .error x
      | .ok p=> .ok (aY k gs p.1,bE k gs p.2 []))
     else .error (cR tree)) by rw[HM0.out,if_pos HALL.out])
     have htr:dH S (wr) (.slice ta n tc) tree:=dH.below HT.out HB3.out;have hev:=HE.out.below HB3.out;obtain⟨x,hx⟩: ∃x,cR tree=x:=⟨_,rfl⟩;have hck:=yf S tree (.slice ta n tc) x (wr) htr hev.env hx;have HCK:=ab hck;have HCX2:=ab hx;clear htr hev hck hx;go_wp2_with fail;refine HCK.out.mono ?_;rintro e w4 ⟨rfl,hb4⟩;have HB4:=ab (ah HB3.out hb4);have HR4:=ab ((hb4.block _ (lt_of_block HR3.out)).trans HR3.out)
     have HK4:=ab ((hb4.block _ (lt_of_block HK3.out)).trans HK3.out);have HC4:=ab ((hb4.block _ (lt_of_block HC3.out)).trans HC3.out);clear hb4
     by_cases hx0:x=0
     ·have e1:(x != 0)=false:=by simp[hx0]
      have HTO:=ab (oy.1 (HCX2.out.trans hx0));have HM2:=ab (show cQ k c tree gs=(match cD k gs c tree 514 ⟨#[]⟩with
       | .error x=> .error x
       | .ok p=> .ok (aY k gs p.1,bE k gs p.2 [])) by rw[HM1.out,if_pos (HCX2.out.trans hx0)])
      clear hx0;have a0:=aa (k:=0) HK4.out;have a1:=aa (k:=1) HK4.out;have a2:=aa (k:=2) HK4.out;have a3:=aa (k:=3) HK4.out;have a4:=aa (k:=4) HK4.out;have b0:=aa (k:=0) HC4.out;have b1:=aa (k:=1) HC4.out;have b2:=aa (k:=2) HC4.out;have b3:=aa (k:=3) HC4.out;have b4:=aa (k:=4) HC4.out;simp only[aN]at a0 a1 a2 a3 a4 b0 b1 b2 b3 b4
      have hmm:= @run_makeMap Tryz.prog
      go_upto_region 13 with(fail)
      obtain⟨W5,hW5⟩: ∃W5:World,W5=((w4.alloc (.map #[] 0)).alloc (.map #[] 0)).alloc (.cells #[.string k.nm, .string k.st, .string k.ck, .string k.ix, .string k.tk, .int .i64 c.mn, .int .i64 c.mx, .int .i64 c.win, .int .i64 c.bits, .int .u64 (c.seed:Int), .map none, .map (some w4.heap.size), .slice none 0 0, .map (some (w4.heap.size+1))] 122):=⟨_,rfl⟩;rw[<-hW5];obtain⟨base,hbase⟩: ∃base,base=w4.heap.size:=⟨_,rfl⟩
      rw[<-hbase]at hW5 ⊢;have HBS:=ab hbase;have hbgi:BgI w4 base (base+1+1) base (base+1) k c (.map none) [] W5 []:=by
       have e1:(w4.alloc (.map #[] 0)).heap.size=base+1:=by simp[hbase]
       have e2:((w4.alloc (.map #[] 0)).alloc (.map #[] 0)).heap.size=base+1+1:=by simp[hbase]
       have h1:=cO.made (P:=Tryz.prog) (k:=9) w4;have h2:=dB.made (w4.alloc (.map #[] 0));rw[e1]at h2;rw[<-hbase]at h1;have h3:=bX ((w4.alloc (.map #[] 0)).alloc (.map #[] 0)) (.cells #[.string k.nm, .string k.st, .string k.ck, .string k.ix, .string k.tk, .int .i64 c.mn, .int .i64 c.mx, .int .i64 c.win, .int .i64 c.bits, .int .u64 (c.seed:Int), .map none, .map (some base), .slice none 0 0, .map (some (base+1))] 122)
       rw[e2]at h3;have hs1:W5.heap[base]? =(w4.alloc (.map #[] 0)).heap[base]? :=by rw[hW5]; exact(Below.heap_alloc _ _ _ (by rw[e2]; omega)).trans (Below.heap_alloc _ _ _ (by rw[e1]; omega))
       have hs2:W5.heap[base+1]? =((w4.alloc (.map #[] 0)).alloc (.map #[] 0)).heap[base+1]? :=by rw[hW5]; exact Below.heap_alloc _ _ _ (by rw[e2]; omega)
       refine⟨⟨by rw[hW5]; exact h3,⟨[],rfl,World.ownsRow_nil _ _ _ _,by simp⟩,h2.same hs2⟩,⟨h1.same hs1,by simp,by simp,List.Pairwise.nil,by simp⟩,fun d=>rfl, ?_⟩;rw[hW5,hbase];exact(((Below.refl _ _).alloc (Nat.le_refl _) _).alloc (by simp) _).alloc (by simp; omega) _
      have HBG:=ab hbgi;have hne2:w.heap.size+2<base:=by have:=lt_of_block HR4.out; omega
      have hwb:w.heap.size<=base:=by omega
      clear hW5 a0 a1 a2 a3 a4 b0 b1 b2 b3 b4 hmm hbase hbgi;go_wp2_with fail
      go_loopw [64] (fun i wr=> ∃(j:Nat) (G:List tM),j<=n/\i= .int .i64 (j:Int)/\BgI w4 base (base+1+1) base (base+1) k c (.map none) (tree.take j) wr G) (fun i _=>n-(intOf i).toNat)
      case atStart=>exact⟨0,[],Nat.zero_le _,rfl,HBG.out⟩
      case round=>
       obtain⟨j,G,hj,rfl,hin⟩:=hrel;rename_i wq;have HIN:=ab hin;clear hin HBG
       by_cases hlt:j<n
       ·obtain⟨e,he⟩: ∃e,tree[j]? =some e:=⟨tree[j]'(by rw[<-HN.out]; exact hlt),by simp⟩;have hbw:Below w.heap.size w wr:=HB4.out.trans (HIN.out.below.mono hwb);obtain⟨b,o,dv,rfl,-,-,hdd,heok,-,p0,p1,p2,p3,p4,p5⟩:=kr (dH.below HT.out hbw) he;obtain⟨da,dc,rfl,-,-⟩:=bC.slice hdd;have HDY:=ab (show bC (· <base) wr (.slice da e.data.length dc) e.data/\gO e from by
         obtain⟨b9,o9,dv9,he9,_,_,hd9,_,_,_,_,_,_,hp9,_⟩:=kr HT.out he
         cases he9
         have hq:=(hbw.cell (p:=⟨b,o+j*6+4,none⟩) (aR (a:=⟨b,o+j*6+4,none⟩) hp9)).trans hp9;rw[p4]at hq
         cases hq
         have hd0:=aM.lt' hd9 (by decide);exact⟨aM.same (aM.weak (T:=(· <w.heap.size)) hd0 (fun _ h=>h)) (fun i hi=>hbw.block i hi) |> fun h=>aM.weak h (fun i hi=>Nat.lt_of_lt_of_le hi hwb),heok⟩)
        have hval:=HTO.out.val e (List.mem_of_getElem? he);have hep:=bL hval;have hes:e.path.size<=512:=(iM hval).1;obtain⟨q,hq⟩: ∃q:ByteArray,q=⟨(aS (bl e.path)).toArray⟩:=⟨_,rfl⟩;have HQ:=ab hq;have hqs:q.size<=maxLen:=by
         have h1:=ll (l:=bl e.path) (fun h=>by have:=ju hep; rw[h]at this; simp at this);rw[hq,ay,dr];rw[<-ay e.path]at h1;unfold maxLen;omega
        have HEA:=ab he;have hpc:=fun W hE=>eM e.path q W hE hep hq
        have HPC:=ab hpc;have hbz:base<=wr.heap.size:=by have h1:=HIN.out.grp.map.lt; omega
        have h7:7<=base:=Nat.le_trans HE.out.seven hwb;clear hval hep hq hdd heok he hpc
        go_upto_region 16 with(fail)
        obtain⟨W6,hW6⟩: ∃W6:World,W6=wr.alloc (.cells #[.string e.path, .int .i64 e.kind, .int .i64 e.mode, .int .i64 e.time, .slice da e.data.length dc, .string e.link] 79):=⟨_,rfl⟩;rw[<-hW6];have hb6:Below wr.heap.size wr W6:=by rw[hW6]; exact(Below.refl _ _).alloc (Nat.le_refl _) _
        have HB6:=ab hb6;have HX6:=ab (show W6.heap[wr.heap.size]? =some (.cells #[.string e.path, .int .i64 e.kind, .int .i64 e.mode, .int .i64 e.time, .slice da e.data.length dc, .string e.link] 79 (0,0)) by rw[hW6]; exact bX wr _);have HE6:=ab (HE.out.keep (HB4.out.trans ((HIN.out.below.mono hwb).trans (hb6.mono (Nat.le_trans hwb hbz)))) HE.out.seven);clear hW6 hb6 p0 p1 p2 p3 p4 p5
        have d0:=aa (k:=0) HX6.out;have d1:=aa (k:=1) HX6.out;have d2:=aa (k:=2) HX6.out;have d3:=aa (k:=3) HX6.out;have d4:=aa (k:=4) HX6.out;have d5:=aa (k:=5) HX6.out;simp only[aN]at d0 d1 d2 d3 d4 d5;go_wp2_with fail;refine(HPC.out W6 HE6.out.env).mono ?_;rintro e' w7 ⟨rfl,hb7⟩;have HX7:=ab ((hb7.block _ (lt_of_block HX6.out)).trans HX6.out)
        have HB7:=ab (ah HB6.out hb7);clear hb7 d0 d1 d2 d3 d4 d5;go_wp2_with fail;obtain⟨W8,hW8⟩: ∃W8:World,W8=w7.drew:=⟨_,rfl⟩;have hb8:Below w7.heap.size w7 W8:=by rw[hW8]; exact(Below.refl _ _).drew
        have HB8:=ab (ah HB7.out hb8);have HX8:=ab ((hb8.block _ (lt_of_block HX7.out)).trans HX7.out);have hkp8:=cU.ofBelow (bb:=base+1+1) (kb:=base+1) (v:= .slice none 0 0) HB8.out hbz;have HBD8:=ab (HIN.out.bd.below HB8.out);have HGR8:=ab (HIN.out.grp.keep HIN.out.bd hkp8 (by omega));have HBX8:=ab HBD8.out.box;have hltx:wr.heap.size<W8.heap.size:=lt_of_block HX8.out
        have HDY8:=ab (show bC (· <base) W8 (.slice da e.data.length dc) e.data/\gO e from⟨jh HDY.out.1 (HB8.out.mono hbz),HDY.out.2⟩);have ht:Tryz.prog.underlying 119=some (.map 9 46):=Tryz.underlying119;have HTY:=ab ht;clear ht hb8 hkp8;have k0:=aa (k:=0) HBX8.out;have k1:=aa (k:=1) HBX8.out;have k2:=aa (k:=2) HBX8.out;have k3:=aa (k:=3) HBX8.out
        have k4:=aa (k:=4) HBX8.out;have k10:=aa (k:=10) HBX8.out;have k11:=aa (k:=11) HBX8.out;have k12:=aa (k:=12) HBX8.out;have k13:=aa (k:=13) HBX8.out;simp only[fX,cY,dy,List.cons_append,List.nil_append,aN]at k0 k1 k2 k3 k4 k10 k11 k12 k13;clear k0 k1 k2 k3 k4 k10 k12 k13;have d0:=aa (k:=0) HX8.out;have d1:=aa (k:=1) HX8.out
        have d2:=aa (k:=2) HX8.out;have d3:=aa (k:=3) HX8.out;have d4:=aa (k:=4) HX8.out;have d5:=aa (k:=5) HX8.out;simp only[aN]at d0 d1 d2 d3 d4 d5
        cases hf:G.find? (fun g=>decide (g.dir=q))with
        | none=>
         have HF:=ab hf;clear hf;have hnew: ∀p∈G.map gB,p.1≠Value.string q:=by
          intro p hp e9;obtain⟨g9,hg9,rfl⟩:=List.mem_map.1 hp;simp only[gB,Value.string.injEq]at e9;have:=List.find?_eq_none.1 HF.out g9 hg9;simp[e9]at this
         have HNEW:=ab hnew;have HLK:=ab (show ∀W:World,W.heap[base]? =W8.heap[base]? ->(Instr.lookup 119 (.map (some base)) (.string q) false).run Tryz.prog W= .ok (.slice none 0 0) W from fun W hW=>by
          have:=(HGR8.out.map.same hW).is.miss bN HTY.out (show(zeroValue 46).run Tryz.prog W= .ok (.slice none 0 0) W by kernel_rfl) (cE hqs) HNEW.out false
          simpa using this)
         clear hnew;have HNE:=ab (show(Value.slice none 0 0).ownBlock≠some (base+1+1)/\(Value.slice none 0 0).ownBlock≠some wr.heap.size/\(Value.slice none 0 0).ownBlock≠some base from⟨by simp[Value.ownBlock],by simp[Value.ownBlock],by simp[Value.ownBlock]⟩);have HNK:=ab (show(Value.slice none 0 0).ownBlock≠some (base+1) by simp[Value.ownBlock]);have HLOW:=ab (show ∀i,(Value.slice none 0 0).ownBlock=some i->base<=i from fun i hi=>by simp[Value.ownBlock]at hi)
         have HLNB:=ab (show(0:Nat)<1099511627775 by decide);have hlk:=HLK.out W8 rfl;refine bP (fun w'=>w'.cell? ⟨base+1+1,11,none⟩=some (.map (some base))/\(Instr.lookup 119 (.map (some base)) (.string (q)) false).run Tryz.prog w'= .ok (.slice none 0 0) w'/\w'.cell? ⟨wr.heap.size,0,none⟩=some (.string e.path)/\w'.cell? ⟨wr.heap.size,1,none⟩=some (.int .i64 e.kind)/\w'.cell? ⟨wr.heap.size,2,none⟩=some (.int .i64 e.mode)/\w'.cell? ⟨wr.heap.size,3,none⟩=some (.int .i64 e.time)/\w'.cell? ⟨wr.heap.size,4,none⟩=some (.slice da e.data.length dc)/\w'.cell? ⟨wr.heap.size,5,none⟩=some (.string e.link)) (by kernel_rfl) (by kernel_rfl) ?_
         simp only[List.dropLast_cons_cons,List.dropLast_singleton,List.length_cons,List.length_nil,Nat.reduceAdd,Nat.reduceSub];rw[<-hW8];clear hW8;refine af 0 rfl (by kernel_rfl) (by kernel_rfl) (by kernel_rfl) (fun _ _ _ h=>h) rfl ⟨k11,hlk,d0,d1,d2,d3,d4,d5⟩ (by rintro w' ⟨hw1,hw2,hw3,hw4,hw5,hw6,hw7,hw8⟩; go_simp; rfl) ?_;simp only[Act.put,aB,aC,aD];refine af 1 rfl (by kernel_rfl) (by kernel_rfl) (by kernel_rfl) (fun _ _ _ h=>h) rfl ⟨k11,hlk,d0,d1,d2,d3,d4,d5⟩ (by rintro w' ⟨hw1,hw2,hw3,hw4,hw5,hw6,hw7,hw8⟩; go_simp; rfl) ?_
         simp only[Act.put,aB,aC,aD];refine af 2 rfl (by kernel_rfl) (by kernel_rfl) (by kernel_rfl) (fun _ _ _ h=>h) rfl ⟨k11,hlk,d0,d1,d2,d3,d4,d5⟩ (by rintro w' ⟨hw1,hw2,hw3,hw4,hw5,hw6,hw7,hw8⟩; go_simp; rfl) ?_;simp only[Act.put,aB,aC,aD];refine af 3 rfl (by kernel_rfl) (by kernel_rfl) (by kernel_rfl) (fun _ _ _ h=>h) rfl ⟨k11,hlk,d0,d1,d2,d3,d4,d5⟩ (by rintro w' ⟨hw1,hw2,hw3,hw4,hw5,hw6,hw7,hw8⟩; go_simp; rfl) ?_
         simp only[Act.put,aB,aC,aD];refine af 4 rfl (by kernel_rfl) (by kernel_rfl) (by kernel_rfl) (fun _ _ _ h=>h) rfl ⟨k11,hlk,d0,d1,d2,d3,d4,d5⟩ (by rintro w' ⟨hw1,hw2,hw3,hw4,hw5,hw6,hw7,hw8⟩; go_simp; rfl) ?_;simp only[Act.put,aB,aC,aD];refine af 5 rfl (by kernel_rfl) (by kernel_rfl) (by kernel_rfl) (fun _ _ _ h=>h) rfl ⟨k11,hlk,d0,d1,d2,d3,d4,d5⟩ (by rintro w' ⟨hw1,hw2,hw3,hw4,hw5,hw6,hw7,hw8⟩; go_simp; rfl) ?_
         simp only[Act.put,aB,aC,aD];refine af 6 rfl (by kernel_rfl) (by kernel_rfl) (by kernel_rfl) (fun _ _ _ h=>h) rfl ⟨k11,hlk,d0,d1,d2,d3,d4,d5⟩ (by rintro w' ⟨hw1,hw2,hw3,hw4,hw5,hw6,hw7,hw8⟩; go_simp; rfl) ?_;simp only[Act.put,aB,aC,aD];refine af 7 rfl (by kernel_rfl) (by kernel_rfl) (by kernel_rfl) (fun _ _ _ h=>h) rfl ⟨k11,hlk,d0,d1,d2,d3,d4,d5⟩ (by rintro w' ⟨hw1,hw2,hw3,hw4,hw5,hw6,hw7,hw8⟩; go_simp; rfl) ?_
         simp only[Act.put,aB,aC,aD];refine af 8 rfl (by kernel_rfl) (by kernel_rfl) (by kernel_rfl) (fun _ _ _ h=>h) rfl ⟨k11,hlk,d0,d1,d2,d3,d4,d5⟩ (by rintro w' ⟨hw1,hw2,hw3,hw4,hw5,hw6,hw7,hw8⟩; go_simp; rfl) ?_;simp only[Act.put,aB,aC,aD];refine af 9 rfl (by kernel_rfl) (by kernel_rfl) (by kernel_rfl) (fun _ _ _ h=>h) rfl ⟨k11,hlk,d0,d1,d2,d3,d4,d5⟩ (by rintro w' ⟨hw1,hw2,hw3,hw4,hw5,hw6,hw7,hw8⟩; go_simp; rfl) ?_
         simp only[Act.put,aB,aC,aD];refine af 10 rfl (by kernel_rfl) (by kernel_rfl) (by kernel_rfl) (fun _ _ _ h=>h) rfl ⟨k11,hlk,d0,d1,d2,d3,d4,d5⟩ (by rintro w' ⟨hw1,hw2,hw3,hw4,hw5,hw6,hw7,hw8⟩; go_simp; rfl) ?_;simp only[Act.put,aB,aC,aD];refine af 11 rfl (by kernel_rfl) (by kernel_rfl) (by kernel_rfl) (fun _ _ _ h=>h) rfl ⟨k11,hlk,d0,d1,d2,d3,d4,d5⟩ (by rintro w' ⟨hw1,hw2,hw3,hw4,hw5,hw6,hw7,hw8⟩; go_simp; rfl) ?_
         simp only[Act.put,aB,aC,aD];have HAL:=ab ((Below.refl W8.heap.size W8).alloc (Nat.le_refl _) (.cells #[.string e.path, .int .i64 e.kind, .int .i64 e.mode, .int .i64 e.time, .slice da e.data.length dc, .string e.link] 79));have hltb:base+1+1<W8.heap.size:=lt_of_block HBX8.out;have hS2:=And.intro ((HAL.out.cell (p:=⟨base+1+1,11,none⟩) hltb).trans k11) (And.intro (HLK.out _ (HAL.out.block base (by omega))) (And.intro ((HAL.out.cell (p:=⟨wr.heap.size,0,none⟩) hltx).trans d0) (And.intro ((HAL.out.cell (p:=⟨wr.heap.size,1,none⟩) hltx).trans d1) (And.intro ((HAL.out.cell (p:=⟨wr.heap.size,2,none⟩) hltx).trans d2) (And.intro ((HAL.out.cell (p:=⟨wr.heap.size,3,none⟩) hltx).trans d3) (And.intro ((HAL.out.cell (p:=⟨wr.heap.size,4,none⟩) hltx).trans d4) ((HAL.out.cell (p:=⟨wr.heap.size,5,none⟩) hltx).trans d5)))))))
         have HS2:=ab hS2;clear hS2;refine ar 12 rfl (by kernel_rfl) rfl (fun K hK=> ?_);go_wp2_with fail
         (first | (refine⟨HS2.out, ?_⟩) | skip)
         refine ar 13 rfl (by kernel_rfl) rfl (fun K hK=> ?_);have hz8:base<=W8.heap.size:=by omega
         go_wp2_with (at_builtin; go_must (refine aG Tryz.appEnts rfl _ _ rfl base (.slice none 0 0) (0) ([]) rfl W8 [.string e.path, .int .i64 e.kind, .int .i64 e.mode, .int .i64 e.time, .slice da e.data.length dc, .string e.link] _ rfl rfl (eH (e:=e)) ((World.ownsRow_nil _ _ _ _)) HLNB.out hz8 ?_); intro v' wc hown' hgrow' _ hpl; obtain⟨ae,ce,rfl,-,-⟩:=aj hown');have hbxc:=(hgrow'.block (base+1+1) hltb (fun e9=>HNE.out.1 e9.symm)).trans HBX8.out
         have hxc:=(hgrow'.block wr.heap.size hltx (fun e9=>HNE.out.2.1 e9.symm)).trans HX8.out;have hmc:=hgrow'.block base (by omega) (fun e9=>HNE.out.2.2 e9.symm);have hlkc:=HLK.out wc hmc;have HBXC:=ab hbxc;have HXC:=ab hxc;have HMC:=ab hmc;have HOWC:=ab hown';have HGRC:=ab hgrow';have HPLC:=ab hpl;clear hbxc hxc hmc hown' hgrow' hpl hlk k11 d0 d1 d2 d3 d4 d5;have d0:=aa (k:=0) HXC.out
         have d1:=aa (k:=1) HXC.out;have d2:=aa (k:=2) HXC.out;have d3:=aa (k:=3) HXC.out;have d4:=aa (k:=4) HXC.out;have d5:=aa (k:=5) HXC.out;simp only[aN]at d0 d1 d2 d3 d4 d5;have k11:=aa (k:=11) HBXC.out;simp only[fX,cY,dy,List.cons_append,List.nil_append,aN]at k11;refine⟨⟨k11,hlkc,d0,d1,d2,d3,d4,d5⟩, ?_⟩;refine aV (by kernel_rfl) ?_
         refine cb rfl rfl (fun K hK=> ?_);clear k11 hlkc d0 d1 d2 d3 d4 d5;have HMS:=ab (HGR8.out.map.same HMC.out);go_wp2_with (at_mapUpdate; go_must (refine el bN rfl _ _ _ _ rfl HTY.out base (G.map gB) HMS.out rfl (.string q) (.slice ae (0+1) ce) rfl rfl (cE hqs) HNEW.out ?_); intro w10 hm10 hg10);have HG10:=ab hg10;have HGRN:=ab (HGR8.out.new (Nat.le_refl _) hqs (y:=(.slice da e.data.length dc,e)) HDY8.out HOWC.out HGRC.out (fun i hi=>by
          rcases HPLC.out i hi with h9 | h9
          ·simp[Value.ownBlock]at h9
          ·exact h9) hm10 hg10)
         clear hm10 hg10;have hb10:=HIN.out.below.trans ((HB8.out.mono hbz).trans (((Below.refl base W8).grown HGRC.out hz8 (fun i hi=>HLOW.out i hi)).grown HG10.out (Nat.le_trans hz8 HGRC.out.size) (fun i hi=>by cases hi; exact Nat.le_refl _)));have hbd10:=HBD8.out.nilKeep (w':=w10) ((HG10.out.block _ (Nat.lt_of_lt_of_le hltb HGRC.out.size) (fun e9=>by have:=Option.some.inj e9; omega)).trans (HBXC.out.trans HBX8.out.symm)) ((HG10.out.block _ (Nat.lt_of_lt_of_le HBD8.out.known.map.lt HGRC.out.size) (fun e9=>by have:=Option.some.inj e9; omega)).trans (HGRC.out.block _ HBD8.out.known.map.lt (fun e9=>HNK.out e9.symm)))
         go_roundw
         case rel=>
          refine⟨j+1,(G++[⟨q, .slice ae (0+1) ce,[(.slice da e.data.length dc,e)]⟩]),by omega,by go_num,⟨hbd10,HGRN.out,fun d=> ?_,hb10⟩⟩;rw[gZ HEA.out];rw[oS (g:=⟨q, .slice ae (0+1) ce,[(.slice da e.data.length dc,e)]⟩) HF.out]
          by_cases hqd:q=d
          ·rw[if_pos hqd,if_pos (show aS (bl e.path)=bl d by rw[<-hqd,HQ.out]; exact(dr _).symm),<-HIN.out.ents d,<-hqd,mT HF.out]
           rfl
          ·rw[if_neg hqd,if_neg (fun h9=>hqd (fe (by rw[HQ.out]; exact(dr _).trans h9))),List.append_nil];exact HIN.out.ents d
         case measure=>simp[intOf]; omega
        | some g=>
         obtain⟨A,B,hAB,hgd,hA⟩: ∃A B,G=A++g::B/\g.dir=q/\ ∀x∈A,x.dir≠q:=by
          have h9:=List.find?_eq_some_iff_append.1 hf;obtain⟨h1,A,B,h2,h3⟩:=h9;exact⟨A,B,h2,by simpa using h1,fun x hx=>by simpa using h3 x hx⟩
         have hent:=gT hf;subst hgd;subst hAB;have HENT:=ab hent;have HA:=ab hA;have hgo:=HGR8.out.own g (by simp);have hgo0:=HIN.out.grp.own g (by simp);obtain⟨ga,gc,hgv,hgn,-⟩:=aj hgo;have hgl:g.ents.length<=4096:=by
          have h1:=HIN.out.ents g.dir;rw[hent]at h1;have h2:=congrArg List.length h1;rw[List.length_map]at h2;rw[h2];have h3:(cg (tree.take j) g.dir).length<=(tree.take j).length:=List.length_filter_le _ _;rw[List.length_take]at h3;have h4:=HTO.out.len;omega
         obtain⟨gl,hgl2⟩: ∃gl,gl=g.ents.length:=⟨_,rfl⟩;have HGL:=ab hgl2;rw[<-hgl2]at hgv hgl;have HLNB:=ab (show gl<1099511627775 by omega);have HGO:=ab (show W8.ownsRow base 79 6 (.slice ga gl gc) gl (cW g.ents) by rw[<-hgv,hgl2]; exact hgo);have HGV:=ab hgv;have HNE:=ab (show(Value.slice ga gl gc).ownBlock≠some (base+1+1)/\(Value.slice ga gl gc).ownBlock≠some wr.heap.size/\(Value.slice ga gl gc).ownBlock≠some base from by
          rw[<-hgv];refine⟨fun e9=> ?_,fun e9=> ?_,fun e9=> ?_⟩
          ·obtain⟨cs2,hc2⟩:=aA hgo e9;exact absurd (aK HBX8.out hc2) (by decide)
          ·have:=(hgo0.lt _ e9).2;omega
          ·obtain⟨cs2,hc2⟩:=aA hgo e9;exact HGR8.out.map.ncells hc2)
         have HNK:=ab (show(Value.slice ga gl gc).ownBlock≠some (base+1)from by
          rw[<-hgv];intro e9;obtain⟨cs2,hc2⟩:=aA hgo e9;exact HBD8.out.known.cells hc2)
         have HLOW:=ab (show ∀i,(Value.slice ga gl gc).ownBlock=some i->base<=i from fun i hi=>by
          rw[<-hgv]at hi;exact(hgo.lt i hi).1)
         have HLK:=ab (show ∀W:World,W.heap[base]? =W8.heap[base]? ->(Instr.lookup 119 (.map (some base)) (.string g.dir) false).run Tryz.prog W= .ok (.slice ga gl gc) W from fun W hW=>by
          have:=(HGR8.out.map.same hW).is.hit bN HTY.out (cE hqs) (val:=g.val) (List.mem_map.2 ⟨g,by simp,rfl⟩) false;rw[hgv]at this
          simpa using this)
         clear hf hent hA hgo hgo0 hgv hgl2;have hlk:=HLK.out W8 rfl;refine bP (fun w'=>w'.cell? ⟨base+1+1,11,none⟩=some (.map (some base))/\(Instr.lookup 119 (.map (some base)) (.string (g.dir)) false).run Tryz.prog w'= .ok (.slice ga gl gc) w'/\w'.cell? ⟨wr.heap.size,0,none⟩=some (.string e.path)/\w'.cell? ⟨wr.heap.size,1,none⟩=some (.int .i64 e.kind)/\w'.cell? ⟨wr.heap.size,2,none⟩=some (.int .i64 e.mode)/\w'.cell? ⟨wr.heap.size,3,none⟩=some (.int .i64 e.time)/\w'.cell? ⟨wr.heap.size,4,none⟩=some (.slice da e.data.length dc)/\w'.cell? ⟨wr.heap.size,5,none⟩=some (.string e.link)) (by kernel_rfl) (by kernel_rfl) ?_
         simp only[List.dropLast_cons_cons,List.dropLast_singleton,List.length_cons,List.length_nil,Nat.reduceAdd,Nat.reduceSub];rw[<-hW8];clear hW8;refine af 0 rfl (by kernel_rfl) (by kernel_rfl) (by kernel_rfl) (fun _ _ _ h=>h) rfl ⟨k11,hlk,d0,d1,d2,d3,d4,d5⟩ (by rintro w' ⟨hw1,hw2,hw3,hw4,hw5,hw6,hw7,hw8⟩; go_simp; rfl) ?_;simp only[Act.put,aB,aC,aD];refine af 1 rfl (by kernel_rfl) (by kernel_rfl) (by kernel_rfl) (fun _ _ _ h=>h) rfl ⟨k11,hlk,d0,d1,d2,d3,d4,d5⟩ (by rintro w' ⟨hw1,hw2,hw3,hw4,hw5,hw6,hw7,hw8⟩; go_simp; rfl) ?_
         simp only[Act.put,aB,aC,aD];refine af 2 rfl (by kernel_rfl) (by kernel_rfl) (by kernel_rfl) (fun _ _ _ h=>h) rfl ⟨k11,hlk,d0,d1,d2,d3,d4,d5⟩ (by rintro w' ⟨hw1,hw2,hw3,hw4,hw5,hw6,hw7,hw8⟩; go_simp; rfl) ?_;simp only[Act.put,aB,aC,aD];refine af 3 rfl (by kernel_rfl) (by kernel_rfl) (by kernel_rfl) (fun _ _ _ h=>h) rfl ⟨k11,hlk,d0,d1,d2,d3,d4,d5⟩ (by rintro w' ⟨hw1,hw2,hw3,hw4,hw5,hw6,hw7,hw8⟩; go_simp; rfl) ?_
         simp only[Act.put,aB,aC,aD];refine af 4 rfl (by kernel_rfl) (by kernel_rfl) (by kernel_rfl) (fun _ _ _ h=>h) rfl ⟨k11,hlk,d0,d1,d2,d3,d4,d5⟩ (by rintro w' ⟨hw1,hw2,hw3,hw4,hw5,hw6,hw7,hw8⟩; go_simp; rfl) ?_;simp only[Act.put,aB,aC,aD];refine af 5 rfl (by kernel_rfl) (by kernel_rfl) (by kernel_rfl) (fun _ _ _ h=>h) rfl ⟨k11,hlk,d0,d1,d2,d3,d4,d5⟩ (by rintro w' ⟨hw1,hw2,hw3,hw4,hw5,hw6,hw7,hw8⟩; go_simp; rfl) ?_
         simp only[Act.put,aB,aC,aD];refine af 6 rfl (by kernel_rfl) (by kernel_rfl) (by kernel_rfl) (fun _ _ _ h=>h) rfl ⟨k11,hlk,d0,d1,d2,d3,d4,d5⟩ (by rintro w' ⟨hw1,hw2,hw3,hw4,hw5,hw6,hw7,hw8⟩; go_simp; rfl) ?_;simp only[Act.put,aB,aC,aD];refine af 7 rfl (by kernel_rfl) (by kernel_rfl) (by kernel_rfl) (fun _ _ _ h=>h) rfl ⟨k11,hlk,d0,d1,d2,d3,d4,d5⟩ (by rintro w' ⟨hw1,hw2,hw3,hw4,hw5,hw6,hw7,hw8⟩; go_simp; rfl) ?_
         simp only[Act.put,aB,aC,aD];refine af 8 rfl (by kernel_rfl) (by kernel_rfl) (by kernel_rfl) (fun _ _ _ h=>h) rfl ⟨k11,hlk,d0,d1,d2,d3,d4,d5⟩ (by rintro w' ⟨hw1,hw2,hw3,hw4,hw5,hw6,hw7,hw8⟩; go_simp; rfl) ?_;simp only[Act.put,aB,aC,aD];refine af 9 rfl (by kernel_rfl) (by kernel_rfl) (by kernel_rfl) (fun _ _ _ h=>h) rfl ⟨k11,hlk,d0,d1,d2,d3,d4,d5⟩ (by rintro w' ⟨hw1,hw2,hw3,hw4,hw5,hw6,hw7,hw8⟩; go_simp; rfl) ?_
         simp only[Act.put,aB,aC,aD];refine af 10 rfl (by kernel_rfl) (by kernel_rfl) (by kernel_rfl) (fun _ _ _ h=>h) rfl ⟨k11,hlk,d0,d1,d2,d3,d4,d5⟩ (by rintro w' ⟨hw1,hw2,hw3,hw4,hw5,hw6,hw7,hw8⟩; go_simp; rfl) ?_;simp only[Act.put,aB,aC,aD];refine af 11 rfl (by kernel_rfl) (by kernel_rfl) (by kernel_rfl) (fun _ _ _ h=>h) rfl ⟨k11,hlk,d0,d1,d2,d3,d4,d5⟩ (by rintro w' ⟨hw1,hw2,hw3,hw4,hw5,hw6,hw7,hw8⟩; go_simp; rfl) ?_
         simp only[Act.put,aB,aC,aD];have HAL:=ab ((Below.refl W8.heap.size W8).alloc (Nat.le_refl _) (.cells #[.string e.path, .int .i64 e.kind, .int .i64 e.mode, .int .i64 e.time, .slice da e.data.length dc, .string e.link] 79));have hltb:base+1+1<W8.heap.size:=lt_of_block HBX8.out;have hS2:=And.intro ((HAL.out.cell (p:=⟨base+1+1,11,none⟩) hltb).trans k11) (And.intro (HLK.out _ (HAL.out.block base (by omega))) (And.intro ((HAL.out.cell (p:=⟨wr.heap.size,0,none⟩) hltx).trans d0) (And.intro ((HAL.out.cell (p:=⟨wr.heap.size,1,none⟩) hltx).trans d1) (And.intro ((HAL.out.cell (p:=⟨wr.heap.size,2,none⟩) hltx).trans d2) (And.intro ((HAL.out.cell (p:=⟨wr.heap.size,3,none⟩) hltx).trans d3) (And.intro ((HAL.out.cell (p:=⟨wr.heap.size,4,none⟩) hltx).trans d4) ((HAL.out.cell (p:=⟨wr.heap.size,5,none⟩) hltx).trans d5)))))))
         have HS2:=ab hS2;clear hS2;refine ar 12 rfl (by kernel_rfl) rfl (fun K hK=> ?_);go_wp2_with fail
         (first | (refine⟨HS2.out, ?_⟩) | skip)
         refine ar 13 rfl (by kernel_rfl) rfl (fun K hK=> ?_);have hz8:base<=W8.heap.size:=by omega
         go_wp2_with (at_builtin; go_must (refine aG Tryz.appEnts rfl _ _ rfl base (.slice ga gl gc) (gl) ((cW g.ents)) rfl W8 [.string e.path, .int .i64 e.kind, .int .i64 e.mode, .int .i64 e.time, .slice da e.data.length dc, .string e.link] _ rfl rfl (eH (e:=e)) (HGO.out) HLNB.out hz8 ?_); intro v' wc hown' hgrow' _ hpl; obtain⟨ae,ce,rfl,-,-⟩:=aj hown');have hbxc:=(hgrow'.block (base+1+1) hltb (fun e9=>HNE.out.1 e9.symm)).trans HBX8.out
         have hxc:=(hgrow'.block wr.heap.size hltx (fun e9=>HNE.out.2.1 e9.symm)).trans HX8.out;have hmc:=hgrow'.block base (by omega) (fun e9=>HNE.out.2.2 e9.symm);have hlkc:=HLK.out wc hmc;have HBXC:=ab hbxc;have HXC:=ab hxc;have HMC:=ab hmc;have HOWC:=ab hown';have HGRC:=ab hgrow';have HPLC:=ab hpl;clear hbxc hxc hmc hown' hgrow' hpl hlk k11 d0 d1 d2 d3 d4 d5;have d0:=aa (k:=0) HXC.out
         have d1:=aa (k:=1) HXC.out;have d2:=aa (k:=2) HXC.out;have d3:=aa (k:=3) HXC.out;have d4:=aa (k:=4) HXC.out;have d5:=aa (k:=5) HXC.out;simp only[aN]at d0 d1 d2 d3 d4 d5;have k11:=aa (k:=11) HBXC.out;simp only[fX,cY,dy,List.cons_append,List.nil_append,aN]at k11;refine⟨⟨k11,hlkc,d0,d1,d2,d3,d4,d5⟩, ?_⟩;refine aV (by kernel_rfl) ?_
         refine cb rfl rfl (fun K hK=> ?_);clear k11 hlkc d0 d1 d2 d3 d4 d5;have HMS:=ab (show cO Tryz.prog 9 wc base (A.map gB++(.string g.dir,g.val)::B.map gB)from by
          have:=HGR8.out.map.same HMC.out
          simpa [gB]using this)
         go_wp2_with (at_mapUpdate; go_must (refine jx bN rfl _ _ _ _ rfl HTY.out base (A.map gB) (B.map gB) (.string g.dir) (.slice ae (gl+1) ce) g.val HMS.out rfl rfl rfl ?_); intro w10 hm10 hg10);have HG10:=ab hg10;have HGRN:=ab (HGR8.out.over (Nat.le_refl _) (y:=(.slice da e.data.length dc,e)) HDY8.out (by rw[<-HGL.out]; exact HOWC.out) (by rw[HGV.out]; exact HGRC.out) (by rw[HGV.out]; exact HPLC.out) hm10 hg10)
         clear hm10 hg10;have hb10:=HIN.out.below.trans ((HB8.out.mono hbz).trans (((Below.refl base W8).grown HGRC.out hz8 (fun i hi=>HLOW.out i hi)).grown HG10.out (Nat.le_trans hz8 HGRC.out.size) (fun i hi=>by cases hi; exact Nat.le_refl _)));have hbd10:=HBD8.out.nilKeep (w':=w10) ((HG10.out.block _ (Nat.lt_of_lt_of_le hltb HGRC.out.size) (fun e9=>by have:=Option.some.inj e9; omega)).trans (HBXC.out.trans HBX8.out.symm)) ((HG10.out.block _ (Nat.lt_of_lt_of_le HBD8.out.known.map.lt HGRC.out.size) (fun e9=>by have:=Option.some.inj e9; omega)).trans (HGRC.out.block _ HBD8.out.known.map.lt (fun e9=>HNK.out e9.symm)))
         go_roundw
         case rel=>
          refine⟨j+1,(A++⟨g.dir, .slice ae (gl+1) ce,g.ents++[(.slice da e.data.length dc,e)]⟩::B),by omega,by go_num,⟨hbd10,HGRN.out,fun d=> ?_,hb10⟩⟩;rw[gZ HEA.out];rw[mU (A:=A) (B:=B) (g:=g) (g':=(⟨g.dir, .slice ae (gl+1) ce,g.ents++[((Value.slice da e.data.length dc,e):je)]⟩:tM)) rfl HA.out d]
          by_cases hqd:g.dir=d
          ·rw[if_pos hqd,if_pos (show aS (bl e.path)=bl d by rw[<-hqd,HQ.out]; exact(dr _).symm),<-HIN.out.ents d,<-hqd,HENT.out,List.map_append]
           rfl
          ·rw[if_neg hqd,if_neg (fun h9=>hqd (fe (by rw[HQ.out]; exact(dr _).trans h9))),List.append_nil];exact HIN.out.ents d
         case measure=>simp[intOf]; omega
       ·have hk2:j=n:=by omega
        have hgl:wh wr base base tree:=⟨G,HIN.out.grp,fun d=>by have:=HIN.out.ents d; rwa [show tree.take j=tree by rw[hk2,HN.out,List.take_length]]at this⟩;have hbz:base<=wr.heap.size:=by have h1:=HIN.out.grp.map.lt; omega
        have h7:7<=base:=Nat.le_trans HE.out.seven hwb;have hgok: ∀p∈gs,0<=p.2/\p.2<=1099511627776:=fun p hp=>by have:=List.all_eq_true.1 HALL.out p hp; simpa using this
        have hX:Bb base (base+1+1) (base+1) base k c gs tree (yU k gs c tree):=⟨HKV.out,HCV.out,hsd,hgok,by omega,by omega,h7,by omega,HTO.out.val,HTO.out.len,xV HCV.out HTO.out.len HTO.out.val,xW,xX⟩;have hbw:Below w.heap.size w wr:=HB4.out.trans (HIN.out.below.mono hwb);have hgw:ik (· <base) wr (.map none) gs:=by
         rcases HG.out with⟨h1,h2⟩ | ⟨gb9,h1,_,h3⟩
         ·exact .inl ⟨h1,h2⟩
         ·exact .inr ⟨gb9,h1,Nat.lt_of_lt_of_le h3.lt hwb,h3.same (hbw.block _ h3.lt)⟩
        have hdr:=sU hX 514 (Nat.le_refl _) ⟨#[]⟩ (.slice none 0 0) [] wr (by show 514<=0+514; omega) (.inl rfl) HIN.out.bd hgw hgl (by intro b hb; simp at hb) (HE.out.keep hbw HE.out.seven) hbz;unfold sB at hdr;clear hgl hX hgw
        cases hdp:cD k gs c tree 514 ⟨#[]⟩with
        | error x9=>
         rw[hdp]at hdr;have HM3:=ab (show cQ k c tree gs= .error x9 by rw[HM2.out,hdp]);have HDR:=ab hdr;clear hdr hdp;go_wp2_with fail;refine HDR.out.mono ?_;rintro e' w5 ⟨rfl,hx9,v5,bs5,hbd5,hkp5⟩;have HB5:=ab (hbw.trans (hkp5.below.mono hwb));have HR5:=ab ((hkp5.below.block (w.heap.size+2) hne2).trans ((HIN.out.below.block (w.heap.size+2) hne2).trans HR4.out));have HX9:=ab hx9
         have e4:(x9 != 0)=true:=by simp[hx9]
         clear hx9 hbd5 hkp5 hbw
         go_upto_region 20 with(fail)
         obtain⟨W6,hW6⟩: ∃W6:World,W6=w5.alloc (.cells #[.string ⟨#[]⟩, .int .i64 0, .int .i64 0] 26):=⟨_,rfl⟩;rw[<-hW6];have hb6:Below w5.heap.size w5 W6:=by rw[hW6]; exact(Below.refl _ _).alloc (Nat.le_refl _) _
         have HB6:=ab (ah HB5.out hb6);have HR6:=ab ((hb6.block _ (lt_of_block HR5.out)).trans HR5.out);clear hb6 hW6;have z0:=aa (k:=0) HR6.out;have z1:=aa (k:=1) HR6.out;have z2:=aa (k:=2) HR6.out;have y0:=ag (k:=0) HR6.out;have y1:=ag (k:=1) HR6.out;have y2:=ag (k:=2) HR6.out;simp only[aN]at z0 z1 z2;go_wp2_with fail;refine dS HR6.out rfl rfl rfl rfl ⟨dh HB6.out (by show w.heap.size<=w.heap.size+2; omega), ?_⟩
         rw[HM3.out];exact⟨rfl,HX9.out⟩
        | ok p=>
         rw[hdp]at hdr
         dsimp only at hdr
         have HM3:=ab (show cQ k c tree gs= .ok (aY k gs p.1,bE k gs p.2 []) by rw[HM2.out,hdp]);obtain⟨r,hr⟩: ∃r,r=aY k gs p.1:=⟨_,rfl⟩;rw[<-hr]at hdr;have HRE:=ab hr;have HDR:=ab hdr;unfold bF at HDR;clear hdr hdp hr;go_wp2_with fail;refine HDR.out.mono ?_;rintro e' w5 ⟨rfl,-,v5,hbd5,hkp5⟩;have HB5:=ab (hbw.trans (hkp5.below.mono hwb));have HR5:=ab ((hkp5.below.block (w.heap.size+2) hne2).trans ((HIN.out.below.block (w.heap.size+2) hne2).trans HR4.out))
         have HBD5:=ab hbd5;clear hbd5 hkp5 hbw
         go_upto_region 22 with(fail)
         obtain⟨W6,hW6⟩: ∃W6:World,W6=(w5.alloc (.cells #[.string r.name, .int .i64 r.gen, .int .i64 r.size] 26)).drew:=⟨_,rfl⟩;have hb6:Below w5.heap.size w5 W6:=by rw[hW6]; exact((Below.refl _ _).alloc (Nat.le_refl _) _).drew
         have HB6:=ab (ah HB5.out hb6);have HR6:=ab ((hb6.block _ (lt_of_block HR5.out)).trans HR5.out);have HF6:=ab (show W6.heap[w5.heap.size]? =some (.cells #[.string r.name, .int .i64 r.gen, .int .i64 r.size] 26 (0,0)) by rw[hW6]; exact bX w5 _);have HBD6:=ab (HBD5.out.below hb6);obtain⟨zs,hzs,hbo⟩:=HBD6.out.own;obtain⟨va,vc,hv6,-,-⟩:=aj hbo.row;subst hv6
         have HZS:=ab hzs;have HBO:=ab hbo;have HBX6:=ab HBD6.out.box;clear hb6 hzs hbo;have k12:=aa (k:=12) HBX6.out;have f0:=aa (k:=0) HF6.out;have f1:=aa (k:=1) HF6.out;have f2:=aa (k:=2) HF6.out;simp only[fX,cY,dy,List.cons_append,List.nil_append,aN]at k12 f0 f1 f2;have z0:=aa (k:=0) HR6.out;have z1:=aa (k:=1) HR6.out;have z2:=aa (k:=2) HR6.out
         have y0:=ag (k:=0) HR6.out;have y1:=ag (k:=1) HR6.out;have y2:=ag (k:=2) HR6.out;simp only[aN]at z0 z1 z2;refine cH (fun w'=>w'.cell? ⟨base+1+1,12,none⟩=some (.slice va zs.length vc)/\w'.cell? ⟨w5.heap.size,0,none⟩=some (.string r.name)/\w'.cell? ⟨w5.heap.size,1,none⟩=some (.int .i64 r.gen)/\w'.cell? ⟨w5.heap.size,2,none⟩=some (.int .i64 r.size)) (by kernel_rfl) ?_
         rw[<-hW6];clear hW6;refine af 0 rfl (by kernel_rfl) (by kernel_rfl) (by kernel_rfl) (fun _ _ _ h=>h) rfl ⟨k12,f0,f1,f2⟩ (by rintro w' ⟨hw1,hw2,hw3,hw4⟩; go_simp; rfl) ?_;simp only[Act.put,aB,aC,aD];refine af 1 rfl (by kernel_rfl) (by kernel_rfl) (by kernel_rfl) (fun _ _ _ h=>h) rfl ⟨k12,f0,f1,f2⟩ (by rintro w' ⟨hw1,hw2,hw3,hw4⟩; go_simp; rfl) ?_;simp only[Act.put,aB,aC,aD]
         refine af 2 rfl (by kernel_rfl) (by kernel_rfl) (by kernel_rfl) (fun _ _ _ h=>h) rfl ⟨k12,f0,f1,f2⟩ (by rintro w' ⟨hw1,hw2,hw3,hw4⟩; go_simp; rfl) ?_;simp only[Act.put,aB,aC,aD];refine af 3 rfl (by kernel_rfl) (by kernel_rfl) (by kernel_rfl) (fun _ _ _ h=>h) rfl ⟨k12,f0,f1,f2⟩ (by rintro w' ⟨hw1,hw2,hw3,hw4⟩; go_simp; rfl) ?_;simp only[Act.put,aB,aC,aD]
         refine af 4 rfl (by kernel_rfl) (by kernel_rfl) (by kernel_rfl) (fun _ _ _ h=>h) rfl ⟨k12,f0,f1,f2⟩ (by rintro w' ⟨hw1,hw2,hw3,hw4⟩; go_simp; rfl) ?_;simp only[Act.put,aB,aC,aD];refine ar 5 rfl (by kernel_rfl) rfl (fun K hK=> ?_);have hw5:w.heap.size+1+1<w5.heap.size:=lt_of_block HR5.out;have hbwb:base+1+1≠w.heap.size+1+1:=by omega
         have hwfb:w5.heap.size≠w.heap.size+1+1:=by omega
         have hS2:=fun(u0 u1 u2:Value)=>And.intro ((World.cell?_of_block (a:=⟨base+1+1,12,none⟩) (bK (w:=W6) (x0:=u0) (x1:=u1) (x2:=u2) hbwb)).trans k12) (And.intro ((World.cell?_of_block (a:=⟨w5.heap.size,0,none⟩) (bK (w:=W6) (x0:=u0) (x1:=u1) (x2:=u2) hwfb)).trans f0) (And.intro ((World.cell?_of_block (a:=⟨w5.heap.size,1,none⟩) (bK (w:=W6) (x0:=u0) (x1:=u1) (x2:=u2) hwfb)).trans f1) ((World.cell?_of_block (a:=⟨w5.heap.size,2,none⟩) (bK (w:=W6) (x0:=u0) (x1:=u1) (x2:=u2) hwfb)).trans f2)))
         have HS2:=ab hS2;clear hS2 k12 f0 f1 f2;go_wp2_with fail;refine⟨HS2.out _ _ _, ?_⟩;refine af 6 rfl (by kernel_rfl) (by kernel_rfl) (by kernel_rfl) (fun _ _ _ h=>h) rfl (HS2.out _ _ _) (by rintro w' ⟨hw1,hw2,hw3,hw4⟩; go_simp; rfl) ?_;simp only[Act.put,aB,aC,aD];refine af 7 rfl (by kernel_rfl) (by kernel_rfl) (by kernel_rfl) (fun _ _ _ h=>h) rfl (HS2.out _ _ _) (by rintro w' ⟨hw1,hw2,hw3,hw4⟩; go_simp; rfl) ?_
         simp only[Act.put,aB,aC,aD];refine aV (by kernel_rfl) ?_;go_wp2_with fail;refine dS HR6.out rfl rfl rfl rfl ⟨dh HB6.out (by show w.heap.size<=w.heap.size+2; omega), ?_⟩;rw[HM3.out];refine⟨_,zs,by rw[<-HRE.out]; rfl,HZS.out,HBO.out.other HR6.out (by decide) (by decide) hwb (fun i hi=>bK hi)⟩
     ·have e1:(x != 0)=true:=by simp[hx0]
      have HX0:=ab hx0;clear hx0;have z0:=aa (k:=0) HR4.out;have z1:=aa (k:=1) HR4.out;have z2:=aa (k:=2) HR4.out;have y0:=ag (k:=0) HR4.out;have y1:=ag (k:=1) HR4.out;have y2:=ag (k:=2) HR4.out;simp only[aN]at z0 z1 z2;go_wp2_with fail;refine dS HR4.out rfl rfl rfl rfl ⟨dh HB4.out (by show w.heap.size<=w.heap.size+2; omega), ?_⟩
      rw[HM1.out,if_neg (by rw[HCX2.out]; exact HX0.out)];rw[HCX2.out];exact⟨rfl,HX0.out⟩
   ·have HGM:=ab (hgm.same (w':=w2) (HB2.out.block gb hgm.lt));have hgbw:gb<w.heap.size:=hgm.lt;clear hgm hTg;go_wp2_with (at_range; go_must (refine qN rfl _ _ rfl eL gb _ rfl HGM.out ?_); intro w0 hrg0 hb0 hs0);obtain⟨r9,hr9⟩: ∃r9,r9=w2.heap.size:=⟨_,rfl⟩;rw[<-hr9]at hrg0 ⊢;have HR9:=ab hr9;have HB20:=ab hb0;clear hr9 hs0 hb0
    go_frame
    go_loopw [14] (fun _ wr=> ∃vis,jE Tryz.prog 9 wr gb r9 (gs.map uz) vis/\(∀p∈vis,∃z:Int,p.2= .int .i64 z/\0<=z/\z<=1099511627776)/\Below w2.heap.size w2 wr) (fun _ wr=>wr.rangeLeft gb r9)
    case atStart=>exact⟨[],hrg0,by simp,HB20.out⟩
    case round=>
     obtain⟨vis,hrg,hvis,hb2r⟩:=hrel;have HRG:=ab hrg;have HVIS:=ab hvis;have HB2R:=ab hb2r;clear hrg hvis hb2r;go_wp2_with (at_next; go_must (refine tL rfl _ rfl gb r9 _ _ rfl HRG.out ?_ ?_))
     ·intro hdone;have HALL:=ab (show gs.all (fun p=>decide (0<=p.2) && decide (p.2<=1099511627776))=true from by
       rw[List.all_eq_true];intro p hp;obtain⟨z,hz1,hz2,hz3⟩:=HVIS.out (uz p) (hdone.mem_iff.2 (List.mem_map.2 ⟨p,hp,rfl⟩));simp only[uz,Value.int.injEq,true_and]at hz1;subst hz1;simp[hz2,hz3])
      have HB3:=ab (ah HB2.out HB2R.out);have HR3:=ab ((HB2R.out.block _ (lt_of_block HR2.out)).trans HR2.out);have HK3:=ab ((HB2R.out.block _ (lt_of_block HK2.out)).trans HK2.out);have HC3:=ab ((HB2R.out.block _ (lt_of_block HC2.out)).trans HC2.out);clear hdone HRG hrg0
      go_upto_region 9 with(fail)
      have HM1:=ab (show cQ k c tree gs=(if cR tree=0 then(match cD k gs c tree 514 ⟨#[]⟩with
       | .error x=> .error x
       | .ok p=> .ok (aY k gs p.1,bE k gs p.2 []))
      else .error (cR tree)) by rw[HM0.out,if_pos HALL.out])
      have htr:dH S (wr) (.slice ta n tc) tree:=dH.below HT.out HB3.out;have hev:=HE.out.below HB3.out;obtain⟨x,hx⟩: ∃x,cR tree=x:=⟨_,rfl⟩;have hck:=yf S tree (.slice ta n tc) x (wr) htr hev.env hx;have HCK:=ab hck;have HCX2:=ab hx;clear htr hev hck hx;go_wp2_with fail;refine HCK.out.mono ?_;rintro e w4 ⟨rfl,hb4⟩;have HB4:=ab (ah HB3.out hb4);have HR4:=ab ((hb4.block _ (lt_of_block HR3.out)).trans HR3.out)
      have HK4:=ab ((hb4.block _ (lt_of_block HK3.out)).trans HK3.out);have HC4:=ab ((hb4.block _ (lt_of_block HC3.out)).trans HC3.out);clear hb4
      by_cases hx0:x=0
      ·have e1:(x != 0)=false:=by simp[hx0]
       have HTO:=ab (oy.1 (HCX2.out.trans hx0));have HM2:=ab (show cQ k c tree gs=(match cD k gs c tree 514 ⟨#[]⟩with
        | .error x=> .error x
        | .ok p=> .ok (aY k gs p.1,bE k gs p.2 [])) by rw[HM1.out,if_pos (HCX2.out.trans hx0)])
       clear hx0;have a0:=aa (k:=0) HK4.out;have a1:=aa (k:=1) HK4.out;have a2:=aa (k:=2) HK4.out;have a3:=aa (k:=3) HK4.out;have a4:=aa (k:=4) HK4.out;have b0:=aa (k:=0) HC4.out;have b1:=aa (k:=1) HC4.out;have b2:=aa (k:=2) HC4.out;have b3:=aa (k:=3) HC4.out;have b4:=aa (k:=4) HC4.out;simp only[aN]at a0 a1 a2 a3 a4 b0 b1 b2 b3 b4
       have hmm:= @run_makeMap Tryz.prog
       go_upto_region 13 with(fail)
       obtain⟨W5,hW5⟩: ∃W5:World,W5=((w4.alloc (.map #[] 0)).alloc (.map #[] 0)).alloc (.cells #[.string k.nm, .string k.st, .string k.ck, .string k.ix, .string k.tk, .int .i64 c.mn, .int .i64 c.mx, .int .i64 c.win, .int .i64 c.bits, .int .u64 (c.seed:Int), .map (some gb), .map (some w4.heap.size), .slice none 0 0, .map (some (w4.heap.size+1))] 122):=⟨_,rfl⟩;rw[<-hW5];obtain⟨base,hbase⟩: ∃base,base=w4.heap.size:=⟨_,rfl⟩
       rw[<-hbase]at hW5 ⊢;have HBS:=ab hbase;have hbgi:BgI w4 base (base+1+1) base (base+1) k c (.map (some gb)) [] W5 []:=by
        have e1:(w4.alloc (.map #[] 0)).heap.size=base+1:=by simp[hbase]
        have e2:((w4.alloc (.map #[] 0)).alloc (.map #[] 0)).heap.size=base+1+1:=by simp[hbase]
        have h1:=cO.made (P:=Tryz.prog) (k:=9) w4;have h2:=dB.made (w4.alloc (.map #[] 0));rw[e1]at h2;rw[<-hbase]at h1;have h3:=bX ((w4.alloc (.map #[] 0)).alloc (.map #[] 0)) (.cells #[.string k.nm, .string k.st, .string k.ck, .string k.ix, .string k.tk, .int .i64 c.mn, .int .i64 c.mx, .int .i64 c.win, .int .i64 c.bits, .int .u64 (c.seed:Int), .map (some gb), .map (some base), .slice none 0 0, .map (some (base+1))] 122)
        rw[e2]at h3;have hs1:W5.heap[base]? =(w4.alloc (.map #[] 0)).heap[base]? :=by rw[hW5]; exact(Below.heap_alloc _ _ _ (by rw[e2]; omega)).trans (Below.heap_alloc _ _ _ (by rw[e1]; omega))
        have hs2:W5.heap[base+1]? =((w4.alloc (.map #[] 0)).alloc (.map #[] 0)).heap[base+1]? :=by rw[hW5]; exact Below.heap_alloc _ _ _ (by rw[e2]; omega)
        refine⟨⟨by rw[hW5]; exact h3,⟨[],rfl,World.ownsRow_nil _ _ _ _,by simp⟩,h2.same hs2⟩,⟨h1.same hs1,by simp,by simp,List.Pairwise.nil,by simp⟩,fun d=>rfl, ?_⟩;rw[hW5,hbase];exact(((Below.refl _ _).alloc (Nat.le_refl _) _).alloc (by simp) _).alloc (by simp; omega) _
       have HBG:=ab hbgi;have hne2:w.heap.size+2<base:=by have:=lt_of_block HR4.out; omega
       have hwb:w.heap.size<=base:=by omega
       clear hW5 a0 a1 a2 a3 a4 b0 b1 b2 b3 b4 hmm hbase hbgi;go_wp2_with fail
       go_loopw [64] (fun i wr=> ∃(j:Nat) (G:List tM),j<=n/\i= .int .i64 (j:Int)/\BgI w4 base (base+1+1) base (base+1) k c (.map (some gb)) (tree.take j) wr G) (fun i _=>n-(intOf i).toNat)
       case atStart=>exact⟨0,[],Nat.zero_le _,rfl,HBG.out⟩
       case round=>
        obtain⟨j,G,hj,rfl,hin⟩:=hrel;rename_i wq;have HIN:=ab hin;clear hin HBG
        by_cases hlt:j<n
        ·obtain⟨e,he⟩: ∃e,tree[j]? =some e:=⟨tree[j]'(by rw[<-HN.out]; exact hlt),by simp⟩;have hbw:Below w.heap.size w wr:=HB4.out.trans (HIN.out.below.mono hwb);obtain⟨b,o,dv,rfl,-,-,hdd,heok,-,p0,p1,p2,p3,p4,p5⟩:=kr (dH.below HT.out hbw) he;obtain⟨da,dc,rfl,-,-⟩:=bC.slice hdd;have HDY:=ab (show bC (· <base) wr (.slice da e.data.length dc) e.data/\gO e from by
          obtain⟨b9,o9,dv9,he9,_,_,hd9,_,_,_,_,_,_,hp9,_⟩:=kr HT.out he
          cases he9
          have hq:=(hbw.cell (p:=⟨b,o+j*6+4,none⟩) (aR (a:=⟨b,o+j*6+4,none⟩) hp9)).trans hp9;rw[p4]at hq
          cases hq
          have hd0:=aM.lt' hd9 (by decide);exact⟨aM.same (aM.weak (T:=(· <w.heap.size)) hd0 (fun _ h=>h)) (fun i hi=>hbw.block i hi) |> fun h=>aM.weak h (fun i hi=>Nat.lt_of_lt_of_le hi hwb),heok⟩)
         have hval:=HTO.out.val e (List.mem_of_getElem? he);have hep:=bL hval;have hes:e.path.size<=512:=(iM hval).1;obtain⟨q,hq⟩: ∃q:ByteArray,q=⟨(aS (bl e.path)).toArray⟩:=⟨_,rfl⟩;have HQ:=ab hq;have hqs:q.size<=maxLen:=by
          have h1:=ll (l:=bl e.path) (fun h=>by have:=ju hep; rw[h]at this; simp at this);rw[hq,ay,dr];rw[<-ay e.path]at h1;unfold maxLen;omega
         have HEA:=ab he;have hpc:=fun W hE=>eM e.path q W hE hep hq
         have HPC:=ab hpc;have hbz:base<=wr.heap.size:=by have h1:=HIN.out.grp.map.lt; omega
         have h7:7<=base:=Nat.le_trans HE.out.seven hwb;clear hval hep hq hdd heok he hpc
         go_upto_region 16 with(fail)
         obtain⟨W6,hW6⟩: ∃W6:World,W6=wr.alloc (.cells #[.string e.path, .int .i64 e.kind, .int .i64 e.mode, .int .i64 e.time, .slice da e.data.length dc, .string e.link] 79):=⟨_,rfl⟩;rw[<-hW6];have hb6:Below wr.heap.size wr W6:=by rw[hW6]; exact(Below.refl _ _).alloc (Nat.le_refl _) _
         have HB6:=ab hb6;have HX6:=ab (show W6.heap[wr.heap.size]? =some (.cells #[.string e.path, .int .i64 e.kind, .int .i64 e.mode, .int .i64 e.time, .slice da e.data.length dc, .string e.link] 79 (0,0)) by rw[hW6]; exact bX wr _);have HE6:=ab (HE.out.keep (HB4.out.trans ((HIN.out.below.mono hwb).trans (hb6.mono (Nat.le_trans hwb hbz)))) HE.out.seven);clear hW6 hb6 p0 p1 p2 p3 p4 p5
         have d0:=aa (k:=0) HX6.out;have d1:=aa (k:=1) HX6.out;have d2:=aa (k:=2) HX6.out;have d3:=aa (k:=3) HX6.out;have d4:=aa (k:=4) HX6.out;have d5:=aa (k:=5) HX6.out;simp only[aN]at d0 d1 d2 d3 d4 d5;go_wp2_with fail;refine(HPC.out W6 HE6.out.env).mono ?_;rintro e' w7 ⟨rfl,hb7⟩;have HX7:=ab ((hb7.block _ (lt_of_block HX6.out)).trans HX6.out)
         have HB7:=ab (ah HB6.out hb7);clear hb7 d0 d1 d2 d3 d4 d5;go_wp2_with fail;obtain⟨W8,hW8⟩: ∃W8:World,W8=w7.drew:=⟨_,rfl⟩;have hb8:Below w7.heap.size w7 W8:=by rw[hW8]; exact(Below.refl _ _).drew
         have HB8:=ab (ah HB7.out hb8);have HX8:=ab ((hb8.block _ (lt_of_block HX7.out)).trans HX7.out);have hkp8:=cU.ofBelow (bb:=base+1+1) (kb:=base+1) (v:= .slice none 0 0) HB8.out hbz;have HBD8:=ab (HIN.out.bd.below HB8.out);have HGR8:=ab (HIN.out.grp.keep HIN.out.bd hkp8 (by omega));have HBX8:=ab HBD8.out.box;have hltx:wr.heap.size<W8.heap.size:=lt_of_block HX8.out
         have HDY8:=ab (show bC (· <base) W8 (.slice da e.data.length dc) e.data/\gO e from⟨jh HDY.out.1 (HB8.out.mono hbz),HDY.out.2⟩);have ht:Tryz.prog.underlying 119=some (.map 9 46):=Tryz.underlying119;have HTY:=ab ht;clear ht hb8 hkp8;have k0:=aa (k:=0) HBX8.out;have k1:=aa (k:=1) HBX8.out;have k2:=aa (k:=2) HBX8.out;have k3:=aa (k:=3) HBX8.out
         have k4:=aa (k:=4) HBX8.out;have k10:=aa (k:=10) HBX8.out;have k11:=aa (k:=11) HBX8.out;have k12:=aa (k:=12) HBX8.out;have k13:=aa (k:=13) HBX8.out;simp only[fX,cY,dy,List.cons_append,List.nil_append,aN]at k0 k1 k2 k3 k4 k10 k11 k12 k13;clear k0 k1 k2 k3 k4 k10 k12 k13;have d0:=aa (k:=0) HX8.out;have d1:=aa (k:=1) HX8.out
         have d2:=aa (k:=2) HX8.out;have d3:=aa (k:=3) HX8.out;have d4:=aa (k:=4) HX8.out;have d5:=aa (k:=5) HX8.out;simp only[aN]at d0 d1 d2 d3 d4 d5
         cases hf:G.find? (fun g=>decide (g.dir=q))with
         | none=>
          have HF:=ab hf;clear hf;have hnew: ∀p∈G.map gB,p.1≠Value.string q:=by
           intro p hp e9;obtain⟨g9,hg9,rfl⟩:=List.mem_map.1 hp;simp only[gB,Value.string.injEq]at e9;have:=List.find?_eq_none.1 HF.out g9 hg9;simp[e9]at this
          have HNEW:=ab hnew;have HLK:=ab (show ∀W:World,W.heap[base]? =W8.heap[base]? ->(Instr.lookup 119 (.map (some base)) (.string q) false).run Tryz.prog W= .ok (.slice none 0 0) W from fun W hW=>by
           have:=(HGR8.out.map.same hW).is.miss bN HTY.out (show(zeroValue 46).run Tryz.prog W= .ok (.slice none 0 0) W by kernel_rfl) (cE hqs) HNEW.out false
           simpa using this)
          clear hnew;have HNE:=ab (show(Value.slice none 0 0).ownBlock≠some (base+1+1)/\(Value.slice none 0 0).ownBlock≠some wr.heap.size/\(Value.slice none 0 0).ownBlock≠some base from⟨by simp[Value.ownBlock],by simp[Value.ownBlock],by simp[Value.ownBlock]⟩);have HNK:=ab (show(Value.slice none 0 0).ownBlock≠some (base+1) by simp[Value.ownBlock]);have HLOW:=ab (show ∀i,(Value.slice none 0 0).ownBlock=some i->base<=i from fun i hi=>by simp[Value.ownBlock]at hi)
          have HLNB:=ab (show(0:Nat)<1099511627775 by decide);have hlk:=HLK.out W8 rfl;refine bP (fun w'=>w'.cell? ⟨base+1+1,11,none⟩=some (.map (some base))/\(Instr.lookup 119 (.map (some base)) (.string (q)) false).run Tryz.prog w'= .ok (.slice none 0 0) w'/\w'.cell? ⟨wr.heap.size,0,none⟩=some (.string e.path)/\w'.cell? ⟨wr.heap.size,1,none⟩=some (.int .i64 e.kind)/\w'.cell? ⟨wr.heap.size,2,none⟩=some (.int .i64 e.mode)/\w'.cell? ⟨wr.heap.size,3,none⟩=some (.int .i64 e.time)/\w'.cell? ⟨wr.heap.size,4,none⟩=some (.slice da e.data.length dc)/\w'.cell? ⟨wr.heap.size,5,none⟩=some (.string e.link)) (by kernel_rfl) (by kernel_rfl) ?_
          simp only[List.dropLast_cons_cons,List.dropLast_singleton,List.length_cons,List.length_nil,Nat.reduceAdd,Nat.reduceSub];rw[<-hW8];clear hW8;refine af 0 rfl (by kernel_rfl) (by kernel_rfl) (by kernel_rfl) (fun _ _ _ h=>h) rfl ⟨k11,hlk,d0,d1,d2,d3,d4,d5⟩ (by rintro w' ⟨hw1,hw2,hw3,hw4,hw5,hw6,hw7,hw8⟩; go_simp; rfl) ?_;simp only[Act.put,aB,aC,aD];refine af 1 rfl (by kernel_rfl) (by kernel_rfl) (by kernel_rfl) (fun _ _ _ h=>h) rfl ⟨k11,hlk,d0,d1,d2,d3,d4,d5⟩ (by rintro w' ⟨hw1,hw2,hw3,hw4,hw5,hw6,hw7,hw8⟩; go_simp; rfl) ?_
          simp only[Act.put,aB,aC,aD];refine af 2 rfl (by kernel_rfl) (by kernel_rfl) (by kernel_rfl) (fun _ _ _ h=>h) rfl ⟨k11,hlk,d0,d1,d2,d3,d4,d5⟩ (by rintro w' ⟨hw1,hw2,hw3,hw4,hw5,hw6,hw7,hw8⟩; go_simp; rfl) ?_;simp only[Act.put,aB,aC,aD];refine af 3 rfl (by kernel_rfl) (by kernel_rfl) (by kernel_rfl) (fun _ _ _ h=>h) rfl ⟨k11,hlk,d0,d1,d2,d3,d4,d5⟩ (by rintro w' ⟨hw1,hw2,hw3,hw4,hw5,hw6,hw7,hw8⟩; go_simp; rfl) ?_
          simp only[Act.put,aB,aC,aD];refine af 4 rfl (by kernel_rfl) (by kernel_rfl) (by kernel_rfl) (fun _ _ _ h=>h) rfl ⟨k11,hlk,d0,d1,d2,d3,d4,d5⟩ (by rintro w' ⟨hw1,hw2,hw3,hw4,hw5,hw6,hw7,hw8⟩; go_simp; rfl) ?_;simp only[Act.put,aB,aC,aD];refine af 5 rfl (by kernel_rfl) (by kernel_rfl) (by kernel_rfl) (fun _ _ _ h=>h) rfl ⟨k11,hlk,d0,d1,d2,d3,d4,d5⟩ (by rintro w' ⟨hw1,hw2,hw3,hw4,hw5,hw6,hw7,hw8⟩; go_simp; rfl) ?_
          simp only[Act.put,aB,aC,aD];refine af 6 rfl (by kernel_rfl) (by kernel_rfl) (by kernel_rfl) (fun _ _ _ h=>h) rfl ⟨k11,hlk,d0,d1,d2,d3,d4,d5⟩ (by rintro w' ⟨hw1,hw2,hw3,hw4,hw5,hw6,hw7,hw8⟩; go_simp; rfl) ?_;simp only[Act.put,aB,aC,aD];refine af 7 rfl (by kernel_rfl) (by kernel_rfl) (by kernel_rfl) (fun _ _ _ h=>h) rfl ⟨k11,hlk,d0,d1,d2,d3,d4,d5⟩ (by rintro w' ⟨hw1,hw2,hw3,hw4,hw5,hw6,hw7,hw8⟩; go_simp; rfl) ?_
          simp only[Act.put,aB,aC,aD];refine af 8 rfl (by kernel_rfl) (by kernel_rfl) (by kernel_rfl) (fun _ _ _ h=>h) rfl ⟨k11,hlk,d0,d1,d2,d3,d4,d5⟩ (by rintro w' ⟨hw1,hw2,hw3,hw4,hw5,hw6,hw7,hw8⟩; go_simp; rfl) ?_;simp only[Act.put,aB,aC,aD];refine af 9 rfl (by kernel_rfl) (by kernel_rfl) (by kernel_rfl) (fun _ _ _ h=>h) rfl ⟨k11,hlk,d0,d1,d2,d3,d4,d5⟩ (by rintro w' ⟨hw1,hw2,hw3,hw4,hw5,hw6,hw7,hw8⟩; go_simp; rfl) ?_
          simp only[Act.put,aB,aC,aD];refine af 10 rfl (by kernel_rfl) (by kernel_rfl) (by kernel_rfl) (fun _ _ _ h=>h) rfl ⟨k11,hlk,d0,d1,d2,d3,d4,d5⟩ (by rintro w' ⟨hw1,hw2,hw3,hw4,hw5,hw6,hw7,hw8⟩; go_simp; rfl) ?_;simp only[Act.put,aB,aC,aD];refine af 11 rfl (by kernel_rfl) (by kernel_rfl) (by kernel_rfl) (fun _ _ _ h=>h) rfl ⟨k11,hlk,d0,d1,d2,d3,d4,d5⟩ (by rintro w' ⟨hw1,hw2,hw3,hw4,hw5,hw6,hw7,hw8⟩; go_simp; rfl) ?_
          simp only[Act.put,aB,aC,aD];have HAL:=ab ((Below.refl W8.heap.size W8).alloc (Nat.le_refl _) (.cells #[.string e.path, .int .i64 e.kind, .int .i64 e.mode, .int .i64 e.time, .slice da e.data.length dc, .string e.link] 79));have hltb:base+1+1<W8.heap.size:=lt_of_block HBX8.out;have hS2:=And.intro ((HAL.out.cell (p:=⟨base+1+1,11,none⟩) hltb).trans k11) (And.intro (HLK.out _ (HAL.out.block base (by omega))) (And.intro ((HAL.out.cell (p:=⟨wr.heap.size,0,none⟩) hltx).trans d0) (And.intro ((HAL.out.cell (p:=⟨wr.heap.size,1,none⟩) hltx).trans d1) (And.intro ((HAL.out.cell (p:=⟨wr.heap.size,2,none⟩) hltx).trans d2) (And.intro ((HAL.out.cell (p:=⟨wr.heap.size,3,none⟩) hltx).trans d3) (And.intro ((HAL.out.cell (p:=⟨wr.heap.size,4,none⟩) hltx).trans d4) ((HAL.out.cell (p:=⟨wr.heap.size,5,none⟩) hltx).trans d5)))))))
          have HS2:=ab hS2;clear hS2;refine ar 12 rfl (by kernel_rfl) rfl (fun K hK=> ?_);go_wp2_with fail
          (first | (refine⟨HS2.out, ?_⟩) | skip)
          refine ar 13 rfl (by kernel_rfl) rfl (fun K hK=> ?_);have hz8:base<=W8.heap.size:=by omega
          go_wp2_with (at_builtin; go_must (refine aG Tryz.appEnts rfl _ _ rfl base (.slice none 0 0) (0) ([]) rfl W8 [.string e.path, .int .i64 e.kind, .int .i64 e.mode, .int .i64 e.time, .slice da e.data.length dc, .string e.link] _ rfl rfl (eH (e:=e)) ((World.ownsRow_nil _ _ _ _)) HLNB.out hz8 ?_); intro v' wc hown' hgrow' _ hpl; obtain⟨ae,ce,rfl,-,-⟩:=aj hown')
          have hbxc:=(hgrow'.block (base+1+1) hltb (fun e9=>HNE.out.1 e9.symm)).trans HBX8.out;have hxc:=(hgrow'.block wr.heap.size hltx (fun e9=>HNE.out.2.1 e9.symm)).trans HX8.out;have hmc:=hgrow'.block base (by omega) (fun e9=>HNE.out.2.2 e9.symm);have hlkc:=HLK.out wc hmc;have HBXC:=ab hbxc;have HXC:=ab hxc;have HMC:=ab hmc;have HOWC:=ab hown';have HGRC:=ab hgrow'
          have HPLC:=ab hpl;clear hbxc hxc hmc hown' hgrow' hpl hlk k11 d0 d1 d2 d3 d4 d5;have d0:=aa (k:=0) HXC.out;have d1:=aa (k:=1) HXC.out;have d2:=aa (k:=2) HXC.out;have d3:=aa (k:=3) HXC.out;have d4:=aa (k:=4) HXC.out;have d5:=aa (k:=5) HXC.out;simp only[aN]at d0 d1 d2 d3 d4 d5;have k11:=aa (k:=11) HBXC.out;simp only[fX,cY,dy,List.cons_append,List.nil_append,aN]at k11
          refine⟨⟨k11,hlkc,d0,d1,d2,d3,d4,d5⟩, ?_⟩;refine aV (by kernel_rfl) ?_;refine cb rfl rfl (fun K hK=> ?_);clear k11 hlkc d0 d1 d2 d3 d4 d5;have HMS:=ab (HGR8.out.map.same HMC.out);go_wp2_with (at_mapUpdate; go_must (refine el bN rfl _ _ _ _ rfl HTY.out base (G.map gB) HMS.out rfl (.string q) (.slice ae (0+1) ce) rfl rfl (cE hqs) HNEW.out ?_); intro w10 hm10 hg10)
          have HG10:=ab hg10;have HGRN:=ab (HGR8.out.new (Nat.le_refl _) hqs (y:=(.slice da e.data.length dc,e)) HDY8.out HOWC.out HGRC.out (fun i hi=>by
           rcases HPLC.out i hi with h9 | h9
           ·simp[Value.ownBlock]at h9
           ·exact h9) hm10 hg10)
          clear hm10 hg10;have hb10:=HIN.out.below.trans ((HB8.out.mono hbz).trans (((Below.refl base W8).grown HGRC.out hz8 (fun i hi=>HLOW.out i hi)).grown HG10.out (Nat.le_trans hz8 HGRC.out.size) (fun i hi=>by cases hi; exact Nat.le_refl _)));have hbd10:=HBD8.out.nilKeep (w':=w10) ((HG10.out.block _ (Nat.lt_of_lt_of_le hltb HGRC.out.size) (fun e9=>by have:=Option.some.inj e9; omega)).trans (HBXC.out.trans HBX8.out.symm)) ((HG10.out.block _ (Nat.lt_of_lt_of_le HBD8.out.known.map.lt HGRC.out.size) (fun e9=>by have:=Option.some.inj e9; omega)).trans (HGRC.out.block _ HBD8.out.known.map.lt (fun e9=>HNK.out e9.symm)))
          go_roundw
          case rel=>
           refine⟨j+1,(G++[⟨q, .slice ae (0+1) ce,[(.slice da e.data.length dc,e)]⟩]),by omega,by go_num,⟨hbd10,HGRN.out,fun d=> ?_,hb10⟩⟩;rw[gZ HEA.out];rw[oS (g:=⟨q, .slice ae (0+1) ce,[(.slice da e.data.length dc,e)]⟩) HF.out]
           by_cases hqd:q=d
           ·rw[if_pos hqd,if_pos (show aS (bl e.path)=bl d by rw[<-hqd,HQ.out]; exact(dr _).symm),<-HIN.out.ents d,<-hqd,mT HF.out]
            rfl
           ·rw[if_neg hqd,if_neg (fun h9=>hqd (fe (by rw[HQ.out]; exact(dr _).trans h9))),List.append_nil];exact HIN.out.ents d
          case measure=>simp[intOf]; omega
         | some g=>
          obtain⟨A,B,hAB,hgd,hA⟩: ∃A B,G=A++g::B/\g.dir=q/\ ∀x∈A,x.dir≠q:=by
           have h9:=List.find?_eq_some_iff_append.1 hf;obtain⟨h1,A,B,h2,h3⟩:=h9;exact⟨A,B,h2,by simpa using h1,fun x hx=>by simpa using h3 x hx⟩
          have hent:=gT hf;subst hgd;subst hAB;have HENT:=ab hent;have HA:=ab hA;have hgo:=HGR8.out.own g (by simp);have hgo0:=HIN.out.grp.own g (by simp);obtain⟨ga,gc,hgv,hgn,-⟩:=aj hgo;have hgl:g.ents.length<=4096:=by
           have h1:=HIN.out.ents g.dir;rw[hent]at h1;have h2:=congrArg List.length h1;rw[List.length_map]at h2;rw[h2];have h3:(cg (tree.take j) g.dir).length<=(tree.take j).length:=List.length_filter_le _ _;rw[List.length_take]at h3;have h4:=HTO.out.len;omega
          obtain⟨gl,hgl2⟩: ∃gl,gl=g.ents.length:=⟨_,rfl⟩;have HGL:=ab hgl2;rw[<-hgl2]at hgv hgl;have HLNB:=ab (show gl<1099511627775 by omega);have HGO:=ab (show W8.ownsRow base 79 6 (.slice ga gl gc) gl (cW g.ents) by rw[<-hgv,hgl2]; exact hgo);have HGV:=ab hgv;have HNE:=ab (show(Value.slice ga gl gc).ownBlock≠some (base+1+1)/\(Value.slice ga gl gc).ownBlock≠some wr.heap.size/\(Value.slice ga gl gc).ownBlock≠some base from by
           rw[<-hgv];refine⟨fun e9=> ?_,fun e9=> ?_,fun e9=> ?_⟩
           ·obtain⟨cs2,hc2⟩:=aA hgo e9;exact absurd (aK HBX8.out hc2) (by decide)
           ·have:=(hgo0.lt _ e9).2;omega
           ·obtain⟨cs2,hc2⟩:=aA hgo e9;exact HGR8.out.map.ncells hc2)
          have HNK:=ab (show(Value.slice ga gl gc).ownBlock≠some (base+1)from by
           rw[<-hgv];intro e9;obtain⟨cs2,hc2⟩:=aA hgo e9;exact HBD8.out.known.cells hc2)
          have HLOW:=ab (show ∀i,(Value.slice ga gl gc).ownBlock=some i->base<=i from fun i hi=>by
           rw[<-hgv]at hi;exact(hgo.lt i hi).1)
          have HLK:=ab (show ∀W:World,W.heap[base]? =W8.heap[base]? ->(Instr.lookup 119 (.map (some base)) (.string g.dir) false).run Tryz.prog W= .ok (.slice ga gl gc) W from fun W hW=>by
           have:=(HGR8.out.map.same hW).is.hit bN HTY.out (cE hqs) (val:=g.val) (List.mem_map.2 ⟨g,by simp,rfl⟩) false;rw[hgv]at this
           simpa using this)
          clear hf hent hA hgo hgo0 hgv hgl2;have hlk:=HLK.out W8 rfl;refine bP (fun w'=>w'.cell? ⟨base+1+1,11,none⟩=some (.map (some base))/\(Instr.lookup 119 (.map (some base)) (.string (g.dir)) false).run Tryz.prog w'= .ok (.slice ga gl gc) w'/\w'.cell? ⟨wr.heap.size,0,none⟩=some (.string e.path)/\w'.cell? ⟨wr.heap.size,1,none⟩=some (.int .i64 e.kind)/\w'.cell? ⟨wr.heap.size,2,none⟩=some (.int .i64 e.mode)/\w'.cell? ⟨wr.heap.size,3,none⟩=some (.int .i64 e.time)/\w'.cell? ⟨wr.heap.size,4,none⟩=some (.slice da e.data.length dc)/\w'.cell? ⟨wr.heap.size,5,none⟩=some (.string e.link)) (by kernel_rfl) (by kernel_rfl) ?_
          simp only[List.dropLast_cons_cons,List.dropLast_singleton,List.length_cons,List.length_nil,Nat.reduceAdd,Nat.reduceSub];rw[<-hW8];clear hW8;refine af 0 rfl (by kernel_rfl) (by kernel_rfl) (by kernel_rfl) (fun _ _ _ h=>h) rfl ⟨k11,hlk,d0,d1,d2,d3,d4,d5⟩ (by rintro w' ⟨hw1,hw2,hw3,hw4,hw5,hw6,hw7,hw8⟩; go_simp; rfl) ?_;simp only[Act.put,aB,aC,aD];refine af 1 rfl (by kernel_rfl) (by kernel_rfl) (by kernel_rfl) (fun _ _ _ h=>h) rfl ⟨k11,hlk,d0,d1,d2,d3,d4,d5⟩ (by rintro w' ⟨hw1,hw2,hw3,hw4,hw5,hw6,hw7,hw8⟩; go_simp; rfl) ?_
          simp only[Act.put,aB,aC,aD];refine af 2 rfl (by kernel_rfl) (by kernel_rfl) (by kernel_rfl) (fun _ _ _ h=>h) rfl ⟨k11,hlk,d0,d1,d2,d3,d4,d5⟩ (by rintro w' ⟨hw1,hw2,hw3,hw4,hw5,hw6,hw7,hw8⟩; go_simp; rfl) ?_;simp only[Act.put,aB,aC,aD];refine af 3 rfl (by kernel_rfl) (by kernel_rfl) (by kernel_rfl) (fun _ _ _ h=>h) rfl ⟨k11,hlk,d0,d1,d2,d3,d4,d5⟩ (by rintro w' ⟨hw1,hw2,hw3,hw4,hw5,hw6,hw7,hw8⟩; go_simp; rfl) ?_
          simp only[Act.put,aB,aC,aD];refine af 4 rfl (by kernel_rfl) (by kernel_rfl) (by kernel_rfl) (fun _ _ _ h=>h) rfl ⟨k11,hlk,d0,d1,d2,d3,d4,d5⟩ (by rintro w' ⟨hw1,hw2,hw3,hw4,hw5,hw6,hw7,hw8⟩; go_simp; rfl) ?_;simp only[Act.put,aB,aC,aD];refine af 5 rfl (by kernel_rfl) (by kernel_rfl) (by kernel_rfl) (fun _ _ _ h=>h) rfl ⟨k11,hlk,d0,d1,d2,d3,d4,d5⟩ (by rintro w' ⟨hw1,hw2,hw3,hw4,hw5,hw6,hw7,hw8⟩; go_simp; rfl) ?_
          simp only[Act.put,aB,aC,aD];refine af 6 rfl (by kernel_rfl) (by kernel_rfl) (by kernel_rfl) (fun _ _ _ h=>h) rfl ⟨k11,hlk,d0,d1,d2,d3,d4,d5⟩ (by rintro w' ⟨hw1,hw2,hw3,hw4,hw5,hw6,hw7,hw8⟩; go_simp; rfl) ?_;simp only[Act.put,aB,aC,aD];refine af 7 rfl (by kernel_rfl) (by kernel_rfl) (by kernel_rfl) (fun _ _ _ h=>h) rfl ⟨k11,hlk,d0,d1,d2,d3,d4,d5⟩ (by rintro w' ⟨hw1,hw2,hw3,hw4,hw5,hw6,hw7,hw8⟩; go_simp; rfl) ?_
          simp only[Act.put,aB,aC,aD];refine af 8 rfl (by kernel_rfl) (by kernel_rfl) (by kernel_rfl) (fun _ _ _ h=>h) rfl ⟨k11,hlk,d0,d1,d2,d3,d4,d5⟩ (by rintro w' ⟨hw1,hw2,hw3,hw4,hw5,hw6,hw7,hw8⟩; go_simp; rfl) ?_;simp only[Act.put,aB,aC,aD];refine af 9 rfl (by kernel_rfl) (by kernel_rfl) (by kernel_rfl) (fun _ _ _ h=>h) rfl ⟨k11,hlk,d0,d1,d2,d3,d4,d5⟩ (by rintro w' ⟨hw1,hw2,hw3,hw4,hw5,hw6,hw7,hw8⟩; go_simp; rfl) ?_
          simp only[Act.put,aB,aC,aD];refine af 10 rfl (by kernel_rfl) (by kernel_rfl) (by kernel_rfl) (fun _ _ _ h=>h) rfl ⟨k11,hlk,d0,d1,d2,d3,d4,d5⟩ (by rintro w' ⟨hw1,hw2,hw3,hw4,hw5,hw6,hw7,hw8⟩; go_simp; rfl) ?_;simp only[Act.put,aB,aC,aD];refine af 11 rfl (by kernel_rfl) (by kernel_rfl) (by kernel_rfl) (fun _ _ _ h=>h) rfl ⟨k11,hlk,d0,d1,d2,d3,d4,d5⟩ (by rintro w' ⟨hw1,hw2,hw3,hw4,hw5,hw6,hw7,hw8⟩; go_simp; rfl) ?_
          simp only[Act.put,aB,aC,aD];have HAL:=ab ((Below.refl W8.heap.size W8).alloc (Nat.le_refl _) (.cells #[.string e.path, .int .i64 e.kind, .int .i64 e.mode, .int .i64 e.time, .slice da e.data.length dc, .string e.link] 79));have hltb:base+1+1<W8.heap.size:=lt_of_block HBX8.out;have hS2:=And.intro ((HAL.out.cell (p:=⟨base+1+1,11,none⟩) hltb).trans k11) (And.intro (HLK.out _ (HAL.out.block base (by omega))) (And.intro ((HAL.out.cell (p:=⟨wr.heap.size,0,none⟩) hltx).trans d0) (And.intro ((HAL.out.cell (p:=⟨wr.heap.size,1,none⟩) hltx).trans d1) (And.intro ((HAL.out.cell (p:=⟨wr.heap.size,2,none⟩) hltx).trans d2) (And.intro ((HAL.out.cell (p:=⟨wr.heap.size,3,none⟩) hltx).trans d3) (And.intro ((HAL.out.cell (p:=⟨wr.heap.size,4,none⟩) hltx).trans d4) ((HAL.out.cell (p:=⟨wr.heap.size,5,none⟩) hltx).trans d5)))))))
          have HS2:=ab hS2;clear hS2;refine ar 12 rfl (by kernel_rfl) rfl (fun K hK=> ?_);go_wp2_with fail
          (first | (refine⟨HS2.out, ?_⟩) | skip)
          refine ar 13 rfl (by kernel_rfl) rfl (fun K hK=> ?_);have hz8:base<=W8.heap.size:=by omega
          go_wp2_with (at_builtin; go_must (refine aG Tryz.appEnts rfl _ _ rfl base (.slice ga gl gc) (gl) ((cW g.ents)) rfl W8 [.string e.path, .int .i64 e.kind, .int .i64 e.mode, .int .i64 e.time, .slice da e.data.length dc, .string e.link] _ rfl rfl (eH (e:=e)) (HGO.out) HLNB.out hz8 ?_); intro v' wc hown' hgrow' _ hpl; obtain⟨ae,ce,rfl,-,-⟩:=aj hown');have hbxc:=(hgrow'.block (base+1+1) hltb (fun e9=>HNE.out.1 e9.symm)).trans HBX8.out
          have hxc:=(hgrow'.block wr.heap.size hltx (fun e9=>HNE.out.2.1 e9.symm)).trans HX8.out;have hmc:=hgrow'.block base (by omega) (fun e9=>HNE.out.2.2 e9.symm);have hlkc:=HLK.out wc hmc;have HBXC:=ab hbxc;have HXC:=ab hxc;have HMC:=ab hmc;have HOWC:=ab hown';have HGRC:=ab hgrow';have HPLC:=ab hpl;clear hbxc hxc hmc hown' hgrow' hpl hlk k11 d0 d1 d2 d3 d4 d5;have d0:=aa (k:=0) HXC.out
          have d1:=aa (k:=1) HXC.out;have d2:=aa (k:=2) HXC.out;have d3:=aa (k:=3) HXC.out;have d4:=aa (k:=4) HXC.out;have d5:=aa (k:=5) HXC.out;simp only[aN]at d0 d1 d2 d3 d4 d5;have k11:=aa (k:=11) HBXC.out;simp only[fX,cY,dy,List.cons_append,List.nil_append,aN]at k11;refine⟨⟨k11,hlkc,d0,d1,d2,d3,d4,d5⟩, ?_⟩;refine aV (by kernel_rfl) ?_
          refine cb rfl rfl (fun K hK=> ?_);clear k11 hlkc d0 d1 d2 d3 d4 d5;have HMS:=ab (show cO Tryz.prog 9 wc base (A.map gB++(.string g.dir,g.val)::B.map gB)from by
           have:=HGR8.out.map.same HMC.out
           simpa [gB]using this)
          go_wp2_with (at_mapUpdate; go_must (refine jx bN rfl _ _ _ _ rfl HTY.out base (A.map gB) (B.map gB) (.string g.dir) (.slice ae (gl+1) ce) g.val HMS.out rfl rfl rfl ?_); intro w10 hm10 hg10);have HG10:=ab hg10;have HGRN:=ab (HGR8.out.over (Nat.le_refl _) (y:=(.slice da e.data.length dc,e)) HDY8.out (by rw[<-HGL.out]; exact HOWC.out) (by rw[HGV.out]; exact HGRC.out) (by rw[HGV.out]; exact HPLC.out) hm10 hg10)
          clear hm10 hg10;have hb10:=HIN.out.below.trans ((HB8.out.mono hbz).trans (((Below.refl base W8).grown HGRC.out hz8 (fun i hi=>HLOW.out i hi)).grown HG10.out (Nat.le_trans hz8 HGRC.out.size) (fun i hi=>by cases hi; exact Nat.le_refl _)));have hbd10:=HBD8.out.nilKeep (w':=w10) ((HG10.out.block _ (Nat.lt_of_lt_of_le hltb HGRC.out.size) (fun e9=>by have:=Option.some.inj e9; omega)).trans (HBXC.out.trans HBX8.out.symm)) ((HG10.out.block _ (Nat.lt_of_lt_of_le HBD8.out.known.map.lt HGRC.out.size) (fun e9=>by have:=Option.some.inj e9; omega)).trans (HGRC.out.block _ HBD8.out.known.map.lt (fun e9=>HNK.out e9.symm)))
          go_roundw
          case rel=>
           refine⟨j+1,(A++⟨g.dir, .slice ae (gl+1) ce,g.ents++[(.slice da e.data.length dc,e)]⟩::B),by omega,by go_num,⟨hbd10,HGRN.out,fun d=> ?_,hb10⟩⟩;rw[gZ HEA.out];rw[mU (A:=A) (B:=B) (g:=g) (g':=(⟨g.dir, .slice ae (gl+1) ce,g.ents++[((Value.slice da e.data.length dc,e):je)]⟩:tM)) rfl HA.out d]
           by_cases hqd:g.dir=d
           ·rw[if_pos hqd,if_pos (show aS (bl e.path)=bl d by rw[<-hqd,HQ.out]; exact(dr _).symm),<-HIN.out.ents d,<-hqd,HENT.out,List.map_append]
            rfl
           ·rw[if_neg hqd,if_neg (fun h9=>hqd (fe (by rw[HQ.out]; exact(dr _).trans h9))),List.append_nil];exact HIN.out.ents d
          case measure=>simp[intOf]; omega
        ·have hk2:j=n:=by omega
         have hgl:wh wr base base tree:=⟨G,HIN.out.grp,fun d=>by have:=HIN.out.ents d; rwa [show tree.take j=tree by rw[hk2,HN.out,List.take_length]]at this⟩;have hbz:base<=wr.heap.size:=by have h1:=HIN.out.grp.map.lt; omega
         have h7:7<=base:=Nat.le_trans HE.out.seven hwb;have hgok: ∀p∈gs,0<=p.2/\p.2<=1099511627776:=fun p hp=>by have:=List.all_eq_true.1 HALL.out p hp; simpa using this
         have hX:Bb base (base+1+1) (base+1) base k c gs tree (yU k gs c tree):=⟨HKV.out,HCV.out,hsd,hgok,by omega,by omega,h7,by omega,HTO.out.val,HTO.out.len,xV HCV.out HTO.out.len HTO.out.val,xW,xX⟩;have hbw:Below w.heap.size w wr:=HB4.out.trans (HIN.out.below.mono hwb);have hgw:ik (· <base) wr (.map (some gb)) gs:=by
          rcases HG.out with⟨h1,h2⟩ | ⟨gb9,h1,_,h3⟩
          ·exact .inl ⟨h1,h2⟩
          ·exact .inr ⟨gb9,h1,Nat.lt_of_lt_of_le h3.lt hwb,h3.same (hbw.block _ h3.lt)⟩
         have hdr:=sU hX 514 (Nat.le_refl _) ⟨#[]⟩ (.slice none 0 0) [] wr (by show 514<=0+514; omega) (.inl rfl) HIN.out.bd hgw hgl (by intro b hb; simp at hb) (HE.out.keep hbw HE.out.seven) hbz;unfold sB at hdr;clear hgl hX hgw
         cases hdp:cD k gs c tree 514 ⟨#[]⟩with
         | error x9=>
          rw[hdp]at hdr;have HM3:=ab (show cQ k c tree gs= .error x9 by rw[HM2.out,hdp]);have HDR:=ab hdr;clear hdr hdp;go_wp2_with fail;refine HDR.out.mono ?_;rintro e' w5 ⟨rfl,hx9,v5,bs5,hbd5,hkp5⟩;have HB5:=ab (hbw.trans (hkp5.below.mono hwb));have HR5:=ab ((hkp5.below.block (w.heap.size+2) hne2).trans ((HIN.out.below.block (w.heap.size+2) hne2).trans HR4.out));have HX9:=ab hx9
          have e4:(x9 != 0)=true:=by simp[hx9]
          clear hx9 hbd5 hkp5 hbw
          go_upto_region 20 with(fail)
          obtain⟨W6,hW6⟩: ∃W6:World,W6=w5.alloc (.cells #[.string ⟨#[]⟩, .int .i64 0, .int .i64 0] 26):=⟨_,rfl⟩;rw[<-hW6];have hb6:Below w5.heap.size w5 W6:=by rw[hW6]; exact(Below.refl _ _).alloc (Nat.le_refl _) _
          have HB6:=ab (ah HB5.out hb6);have HR6:=ab ((hb6.block _ (lt_of_block HR5.out)).trans HR5.out);clear hb6 hW6;have z0:=aa (k:=0) HR6.out;have z1:=aa (k:=1) HR6.out;have z2:=aa (k:=2) HR6.out;have y0:=ag (k:=0) HR6.out;have y1:=ag (k:=1) HR6.out;have y2:=ag (k:=2) HR6.out;simp only[aN]at z0 z1 z2;go_wp2_with fail;refine dS HR6.out rfl rfl rfl rfl ⟨dh HB6.out (by show w.heap.size<=w.heap.size+2; omega), ?_⟩
          rw[HM3.out];exact⟨rfl,HX9.out⟩
         | ok p=>
          rw[hdp]at hdr
          dsimp only at hdr
          have HM3:=ab (show cQ k c tree gs= .ok (aY k gs p.1,bE k gs p.2 []) by rw[HM2.out,hdp]);obtain⟨r,hr⟩: ∃r,r=aY k gs p.1:=⟨_,rfl⟩;rw[<-hr]at hdr;have HRE:=ab hr;have HDR:=ab hdr;unfold bF at HDR;clear hdr hdp hr;go_wp2_with fail;refine HDR.out.mono ?_;rintro e' w5 ⟨rfl,-,v5,hbd5,hkp5⟩;have HB5:=ab (hbw.trans (hkp5.below.mono hwb));have HR5:=ab ((hkp5.below.block (w.heap.size+2) hne2).trans ((HIN.out.below.block (w.heap.size+2) hne2).trans HR4.out))
          have HBD5:=ab hbd5;clear hbd5 hkp5 hbw
          go_upto_region 22 with(fail)
          obtain⟨W6,hW6⟩: ∃W6:World,W6=(w5.alloc (.cells #[.string r.name, .int .i64 r.gen, .int .i64 r.size] 26)).drew:=⟨_,rfl⟩;have hb6:Below w5.heap.size w5 W6:=by rw[hW6]; exact((Below.refl _ _).alloc (Nat.le_refl _) _).drew
          have HB6:=ab (ah HB5.out hb6);have HR6:=ab ((hb6.block _ (lt_of_block HR5.out)).trans HR5.out);have HF6:=ab (show W6.heap[w5.heap.size]? =some (.cells #[.string r.name, .int .i64 r.gen, .int .i64 r.size] 26 (0,0)) by rw[hW6]; exact bX w5 _);have HBD6:=ab (HBD5.out.below hb6);obtain⟨zs,hzs,hbo⟩:=HBD6.out.own;obtain⟨va,vc,hv6,-,-⟩:=aj hbo.row;subst hv6
          have HZS:=ab hzs;have HBO:=ab hbo;have HBX6:=ab HBD6.out.box;clear hb6 hzs hbo;have k12:=aa (k:=12) HBX6.out;have f0:=aa (k:=0) HF6.out;have f1:=aa (k:=1) HF6.out;have f2:=aa (k:=2) HF6.out;simp only[fX,cY,dy,List.cons_append,List.nil_append,aN]at k12 f0 f1 f2;have z0:=aa (k:=0) HR6.out;have z1:=aa (k:=1) HR6.out;have z2:=aa (k:=2) HR6.out
          have y0:=ag (k:=0) HR6.out;have y1:=ag (k:=1) HR6.out;have y2:=ag (k:=2) HR6.out;simp only[aN]at z0 z1 z2;refine cH (fun w'=>w'.cell? ⟨base+1+1,12,none⟩=some (.slice va zs.length vc)/\w'.cell? ⟨w5.heap.size,0,none⟩=some (.string r.name)/\w'.cell? ⟨w5.heap.size,1,none⟩=some (.int .i64 r.gen)/\w'.cell? ⟨w5.heap.size,2,none⟩=some (.int .i64 r.size)) (by kernel_rfl) ?_
          rw[<-hW6];clear hW6;refine af 0 rfl (by kernel_rfl) (by kernel_rfl) (by kernel_rfl) (fun _ _ _ h=>h) rfl ⟨k12,f0,f1,f2⟩ (by rintro w' ⟨hw1,hw2,hw3,hw4⟩; go_simp; rfl) ?_;simp only[Act.put,aB,aC,aD];refine af 1 rfl (by kernel_rfl) (by kernel_rfl) (by kernel_rfl) (fun _ _ _ h=>h) rfl ⟨k12,f0,f1,f2⟩ (by rintro w' ⟨hw1,hw2,hw3,hw4⟩; go_simp; rfl) ?_;simp only[Act.put,aB,aC,aD]
          refine af 2 rfl (by kernel_rfl) (by kernel_rfl) (by kernel_rfl) (fun _ _ _ h=>h) rfl ⟨k12,f0,f1,f2⟩ (by rintro w' ⟨hw1,hw2,hw3,hw4⟩; go_simp; rfl) ?_;simp only[Act.put,aB,aC,aD];refine af 3 rfl (by kernel_rfl) (by kernel_rfl) (by kernel_rfl) (fun _ _ _ h=>h) rfl ⟨k12,f0,f1,f2⟩ (by rintro w' ⟨hw1,hw2,hw3,hw4⟩; go_simp; rfl) ?_;simp only[Act.put,aB,aC,aD]
          refine af 4 rfl (by kernel_rfl) (by kernel_rfl) (by kernel_rfl) (fun _ _ _ h=>h) rfl ⟨k12,f0,f1,f2⟩ (by rintro w' ⟨hw1,hw2,hw3,hw4⟩; go_simp; rfl) ?_;simp only[Act.put,aB,aC,aD];refine ar 5 rfl (by kernel_rfl) rfl (fun K hK=> ?_);have hw5:w.heap.size+1+1<w5.heap.size:=lt_of_block HR5.out;have hbwb:base+1+1≠w.heap.size+1+1:=by omega
          have hwfb:w5.heap.size≠w.heap.size+1+1:=by omega
          have hS2:=fun(u0 u1 u2:Value)=>And.intro ((World.cell?_of_block (a:=⟨base+1+1,12,none⟩) (bK (w:=W6) (x0:=u0) (x1:=u1) (x2:=u2) hbwb)).trans k12) (And.intro ((World.cell?_of_block (a:=⟨w5.heap.size,0,none⟩) (bK (w:=W6) (x0:=u0) (x1:=u1) (x2:=u2) hwfb)).trans f0) (And.intro ((World.cell?_of_block (a:=⟨w5.heap.size,1,none⟩) (bK (w:=W6) (x0:=u0) (x1:=u1) (x2:=u2) hwfb)).trans f1) ((World.cell?_of_block (a:=⟨w5.heap.size,2,none⟩) (bK (w:=W6) (x0:=u0) (x1:=u1) (x2:=u2) hwfb)).trans f2)))
          have HS2:=ab hS2;clear hS2 k12 f0 f1 f2;go_wp2_with fail;refine⟨HS2.out _ _ _, ?_⟩;refine af 6 rfl (by kernel_rfl) (by kernel_rfl) (by kernel_rfl) (fun _ _ _ h=>h) rfl (HS2.out _ _ _) (by rintro w' ⟨hw1,hw2,hw3,hw4⟩; go_simp; rfl) ?_;simp only[Act.put,aB,aC,aD];refine af 7 rfl (by kernel_rfl) (by kernel_rfl) (by kernel_rfl) (fun _ _ _ h=>h) rfl (HS2.out _ _ _) (by rintro w' ⟨hw1,hw2,hw3,hw4⟩; go_simp; rfl) ?_
          simp only[Act.put,aB,aC,aD];refine aV (by kernel_rfl) ?_;go_wp2_with fail;refine dS HR6.out rfl rfl rfl rfl ⟨dh HB6.out (by show w.heap.size<=w.heap.size+2; omega), ?_⟩;rw[HM3.out];refine⟨_,zs,by rw[<-HRE.out]; rfl,HZS.out,HBO.out.other HR6.out (by decide) (by decide) hwb (fun i hi=>bK hi)⟩
      ·have e1:(x != 0)=true:=by simp[hx0]
       have HX0:=ab hx0;clear hx0;have z0:=aa (k:=0) HR4.out;have z1:=aa (k:=1) HR4.out;have z2:=aa (k:=2) HR4.out;have y0:=ag (k:=0) HR4.out;have y1:=ag (k:=1) HR4.out;have y2:=ag (k:=2) HR4.out;simp only[aN]at z0 z1 z2;go_wp2_with fail;refine dS HR4.out rfl rfl rfl rfl ⟨dh HB4.out (by show w.heap.size<=w.heap.size+2; omega), ?_⟩
       rw[HM1.out,if_neg (by rw[HCX2.out]; exact HX0.out)];rw[HCX2.out];exact⟨rfl,HX0.out⟩
     ·intro key v1 w1' a0 e0 hmem hxe hnew hrg1 hg1 hs1 hen;simp only[uz,Prod.mk.injEq]at hxe;obtain⟨rfl,rfl⟩:=hxe;have HMEM:=ab hmem;have HRG1:=ab hrg1;have hr9w:w2.heap.size<=r9:=by have:=HR9.out; omega
      have hb21:Below w2.heap.size w2 w1':=HB2R.out.grown hg1 HB2R.out.size (fun i hi=>by cases hi; exact hr9w);have HB21:=ab hb21;have hlt9:wr.rangeLeft gb r9=(gs.map uz).length-vis.length:=by have:=HRG.out.left; omega
      have hlt91:w1'.rangeLeft gb r9+(vis++[(Value.string a0,Value.int .i64 e0)]).length=(gs.map uz).length:=hrg1.left;have HLT:=ab (show w1'.rangeLeft gb r9<wr.rangeLeft gb r9 by
       have h1:=HRG.out.left;rw[List.length_append,List.length_singleton]at hlt91
       omega)
      clear hmem hnew hrg1 hg1 hs1 hb21 hlt9 hlt91
      by_cases hok:0<=e0/\e0<=1099511627776
      ·obtain⟨ho1,ho2⟩:=hok;have HO:=ab (And.intro ho1 ho2);go_wp2_with fail
       go_roundw
       case rel=>
        refine⟨_,HRG1.out,fun p hp=> ?_,HB21.out⟩
        rcases List.mem_append.1 hp with hp | hp
        ·exact HVIS.out p hp
        ·rw[List.mem_singleton]at hp;subst hp;exact⟨e0,rfl,HO.out.1,HO.out.2⟩
       case measure=>exact HLT.out
      ·have HNO:=ab (show cQ k c tree gs= .error 1 by
        rw[HM0.out,if_neg];intro h9;have:=List.all_eq_true.1 h9 _ HMEM.out;simp only[Bool.and_eq_true,decide_eq_true_eq]at this;exact hok this)
       have HR5:=ab ((HB21.out.block _ (lt_of_block HR2.out)).trans HR2.out);have HB5:=ab (ah HB2.out HB21.out);have z0:=aa (k:=0) HR5.out;have z1:=aa (k:=1) HR5.out;have z2:=aa (k:=2) HR5.out;have y0:=ag (k:=0) HR5.out;have y1:=ag (k:=1) HR5.out;have y2:=ag (k:=2) HR5.out;simp only[aN]at z0 z1 z2
       by_cases hneg:e0<0
       ·clear hok;go_wp2_with fail;refine dS HR5.out rfl rfl rfl rfl ⟨dh HB5.out (by show w.heap.size<=w.heap.size+2; omega), ?_⟩;rw[HNO.out];exact⟨rfl,by decide⟩
       ·have hbig:1099511627776<e0:=by omega
        clear hok;go_wp2_with fail;refine dS HR5.out rfl rfl rfl rfl ⟨dh HB5.out (by show w.heap.size<=w.heap.size+2; omega), ?_⟩;rw[HNO.out];exact⟨rfl,by decide⟩
end Go.Proofs.YtpffpjbkbaleiaaGreatDoor
namespace Go.Proofs.YtpffpjbkbaleiaaGreatDoor
open Go Go.RowKit Go.Maps
theorem tz {W:World} {b n sz:Nat} {cells:List Value} {t:TypeId} (h:W.heap[b]? =some (.cells cells.toArray t (0,0))) (hl:cells.length=n*sz) (hn:n<=maxLen):aM (fun k=>k=b) W sz (.slice (some ⟨b,0,none⟩) n n) n cells:=
 ⟨hl,some ⟨b,0,none⟩,n,rfl,Nat.le_refl _,hn, .inr ⟨b,0,rfl,rfl,fun j u hj=>by rw[ai h,Nat.zero_add,List.getElem?_toArray]; exact hj⟩⟩
theorem gA {S:Nat->Prop} {w:World} {v:Value} {bs:List UInt8} (h:aw S w v bs):(convert 29 9 v).run Tryz.prog w= .ok (.string ⟨bs.toArray⟩) w:=by
 have h1:=zp (S:=S) (w:=w) (v:=v) (bs:=bs) h;rw[pY]at h1;exact h1
theorem BE (w:World) (c:UInt8):(convert 29 9 (.slice (some ⟨w.heap.size,0,none⟩) 1 1)).run Tryz.prog (w.alloc (.cells #[.int .u8 (c.toNat:Int)] 5))= .ok (.string ⟨#[c]⟩) (w.alloc (.cells #[.int .u8 (c.toNat:Int)] 5)):=by
 have h:=gA (S:=fun _=>True) (bs:=[c]) (w:=w.alloc (.cells #[.int .u8 (c.toNat:Int)] 5)) (v:= .slice (some ⟨w.heap.size,0,none⟩) 1 1) ((tz (cells:=[au c]) (heap_alloc_new w _) rfl (by decide)).weak (fun _ _=>trivial));exact h
theorem lJ (c:UInt8) (w:World):Calls Tryz.prog 93 #[.int .u8 (c.toNat:Int)] w fun e w'=>e= .returned (.string (pp c))/\Below w.heap.size w w':=by
 have hcv:=BE w c
 go_enter Tryz.func93,Tryz.ntmps93
 go_wp2_with fail;go_ret;refine⟨?_,(Below.refl _ _).alloc (Nat.le_refl _) _⟩
 rfl
theorem uS (w:World):Calls Tryz.prog 33 #[] w fun e w'=>e= .returned (iO cX)/\Below w.heap.size w w':=by
 have HBK:=ab ((Below.refl w.heap.size w).alloc (Nat.le_refl _) (.cells #[.string ⟨#[]⟩, .string ⟨#[]⟩, .string ⟨#[]⟩, .string ⟨#[]⟩, .string ⟨#[]⟩] 42));have HXK:=ab (bX w (.cells #[.string ⟨#[]⟩, .string ⟨#[]⟩, .string ⟨#[]⟩, .string ⟨#[]⟩, .string ⟨#[]⟩] 42))
 go_enter Tryz.func33,Tryz.ntmps33
 go_wp2_with fail;refine(lJ 110 _).mono ?_;rintro e wk ⟨rfl,hbk⟩;have HBQ:=ab (ah HBK.out hbk);have HXQ:=ab ((hbk.block _ (lt_of_block HXK.out)).trans HXK.out);clear hbk HBK HXK;have HBK:=HBQ;have HXK:=HXQ;clear HBQ HXQ;go_wp2_with fail;refine(lJ 115 _).mono ?_;rintro e wk ⟨rfl,hbk⟩;have HBQ:=ab (ah HBK.out hbk);have HXQ:=ab ((hbk.block _ (lt_of_block HXK.out)).trans HXK.out)
 clear hbk HBK HXK;have HBK:=HBQ;have HXK:=HXQ;clear HBQ HXQ;go_wp2_with fail;refine(lJ 99 _).mono ?_;rintro e wk ⟨rfl,hbk⟩;have HBQ:=ab (ah HBK.out hbk);have HXQ:=ab ((hbk.block _ (lt_of_block HXK.out)).trans HXK.out);clear hbk HBK HXK;have HBK:=HBQ;have HXK:=HXQ;clear HBQ HXQ;go_wp2_with fail;refine(lJ 105 _).mono ?_;rintro e wk ⟨rfl,hbk⟩;have HBQ:=ab (ah HBK.out hbk)
 have HXQ:=ab ((hbk.block _ (lt_of_block HXK.out)).trans HXK.out);clear hbk HBK HXK;have HBK:=HBQ;have HXK:=HXQ;clear HBQ HXQ;go_wp2_with fail;refine(lJ 116 _).mono ?_;rintro e wk ⟨rfl,hbk⟩;have HBQ:=ab (ah HBK.out hbk);have hx:=(hbk.block _ (lt_of_block HXK.out)).trans HXK.out;have c0:=aa (k:=0) hx;have c1:=aa (k:=1) hx;have c2:=aa (k:=2) hx;have c3:=aa (k:=3) hx
 have c4:=aa (k:=4) hx;have f0:=ag (k:=0) hx;have f1:=ag (k:=1) hx;have f2:=ag (k:=2) hx;have f3:=ag (k:=3) hx;have f4:=ag (k:=4) hx;simp only[aN]at c0 c1 c2 c3 c4;have h5:=cJ (k:=4) (cJ (k:=3) (cJ (k:=2) (cJ (k:=1) (cJ (k:=0) hx (.string (pp 110))) (.string (pp 115))) (.string (pp 99))) (.string (pp 105))) (.string (pp 116))
 simp only[List.setIfInBounds_toArray,List.set_cons_succ,List.set_cons_zero]at h5;have H5:=ab h5;clear hbk hx h5;go_wp2_with fail;have m0:=aa (k:=0) H5.out;have m1:=aa (k:=1) H5.out;have m2:=aa (k:=2) H5.out;have m3:=aa (k:=3) H5.out;have m4:=aa (k:=4) H5.out;simp only[aN]at m0 m1 m2 m3 m4;refine bodyPost_ret (v:=iO cX) (by simp[results,Tryz.results33,go_sem,m0,m1,m2,m3,m4]; rfl) rfl ⟨rfl, ?_⟩
 have hb:w.heap.size<=w.heap.size:=Nat.le_refl _;exact Below.setCell (Below.setCell (Below.setCell (Below.setCell (Below.setCell HBQ.out hb _) hb _) hb _) hb _) hb _
theorem mS (w:World):Calls Tryz.prog 34 #[] w fun e w'=>e= .returned (fE jJ)/\Below w.heap.size w w':=by
 have hx:=bX w (.cells #[.int .i64 2, .int .i64 6, .int .i64 1, .int .i64 1, .int .u64 0] 45);have m0:=aa (k:=0) hx;have m1:=aa (k:=1) hx;have m2:=aa (k:=2) hx;have m3:=aa (k:=3) hx;have m4:=aa (k:=4) hx;simp only[aN]at m0 m1 m2 m3 m4;have M:=ab (And.intro m0 (And.intro m1 (And.intro m2 (And.intro m3 m4))));clear hx m0 m1 m2 m3 m4
 go_enter Tryz.func34,Tryz.ntmps34
 go_wp2_with fail;obtain⟨m0,m1,m2,m3,m4⟩:=M.out;exact bodyPost_ret (v:=fE jJ) (by simp[results,Tryz.results34,go_sem,m0,m1,m2,m3,m4]; rfl) rfl ⟨rfl,(Below.refl _ _).alloc (Nat.le_refl _) _⟩
end Go.Proofs.YtpffpjbkbaleiaaGreatDoor
namespace Go.Proofs.YtpffpjbkbaleiaaGreatDoor
open Go Go.RowKit Go.Maps
def tq :List (ByteArray×List UInt8)->ByteArray->List UInt8->List (ByteArray×List UInt8)
 | [],n,x=>[(n,x)]
 | p::cs,n,x=>if p.1=n then(n,x)::cs else p::tq cs n x
def oJ (bs:List bI):List (ByteArray×List UInt8):=bs.foldl (fun cs b=>tq cs b.ref.name b.con) []
theorem wv {bs:List bI} {j:Nat} {b:bI} (h:bs[j]? =some b):oJ (bs.take (j+1))=tq (oJ (bs.take j)) b.ref.name b.con:=by
 unfold oJ;rw[bz h,List.foldl_append]
 rfl
theorem bu.miss' {S:Nat->Prop} {w:World} {n:ByteArray} {v:Value} {x:List UInt8} (hv:aw S w v x): ∀ {m:List (Value×Value)} {cs:List (ByteArray×List UInt8)},bu S w m cs->(∀p∈m,p.1≠Value.string n)->bu S w (m++[(.string n,v)]) (tq cs n x)
 | [],[],_,_=>⟨rfl,hv,trivial⟩
 | [],_::_,h,_=>False.elim h
 | _::_,[],h,_=>False.elim h
 | (k,u)::m,(n',b')::cs,h,hm=>by
  have hne:n'≠n:=fun e=>hm (k,u) (by simp) (by rw[h.1,e])
  rw[tq,if_neg hne];exact⟨h.1,h.2.1,bu.miss' hv h.2.2 (fun p hp=>hm p (by simp[hp]))⟩
theorem bu.hit' {S:Nat->Prop} {w:World} {n:ByteArray} : ∀ {m:List (Value×Value)} {cs:List (ByteArray×List UInt8)},bu S w m cs->(∃p∈m,p.1=Value.string n)-> ∃m1 old m2,m=m1++(.string n,old)::m2/\ ∀(w':World) (S':Nat->Prop) (v:Value) (x:List UInt8),(∀v bs,aw S w v bs->aw S' w' v bs)->aw S' w' v x->bu S' w' (m1++(.string n,v)::m2) (tq cs n x)
 | [],[],_,⟨_,hp,_⟩=>by simp at hp
 | [],_::_,h,_=>False.elim h
 | _::_,[],h,_=>False.elim h
 | (k,u)::m,(n',b')::cs,h,hp=>by
  have hmono: ∀ {w':World} {S':Nat->Prop},(∀v bs,aw S w v bs->aw S' w' v bs)->bu S w m cs->bu S' w' m cs:=by
   intro w' S' hm;have: ∀ {m:List (Value×Value)} {cs:List (ByteArray×List UInt8)},bu S w m cs->bu S' w' m cs:=by
    intro m
    induction m with
    | nil=>intro cs h; cases cs with
     | nil=>trivial
     | cons=>exact h
    | cons p m ih=>intro cs h; cases cs with
     | nil=>exact h
     | cons q cs=>exact⟨h.1,hm _ _ h.2.1,ih h.2.2⟩
   exact this
  by_cases hn:n'=n
  ·subst hn;refine⟨[],u,m,by rw[h.1]; rfl,fun w' S' v x hm hv=> ?_⟩;rw[tq,if_pos rfl];exact⟨rfl,hv,hmono hm h.2.2⟩
  ·obtain⟨p,hp1,hp2⟩:=hp;have hp3:p∈m:=by
    rcases List.mem_cons.1 hp1 with rfl | hp3
    ·have:=h.1.symm.trans hp2;simp only[Value.string.injEq]at this;exact absurd this hn
    ·exact hp3
   obtain⟨m1,old,m2,h1,h2⟩:=bu.hit' h.2.2 ⟨p,hp3,hp2⟩;refine⟨(k,u)::m1,old,m2,by rw[h1]; rfl,fun w' S' v x hm hv=> ?_⟩;rw[tq,if_neg hn];exact⟨h.1,hm _ _ h.2.1,h2 w' S' v x hm hv⟩
def gN (S:Nat->Prop) (w:World) (v:Value) (bs:List bI):Prop:= ∃zs:List iH,zs.map Prod.snd=bs/\aM S w 4 v zs.length (eD zs)/\ ∀z∈zs,aw S w z.1 z.2.con/\br z.2.ref
theorem ou : ∀ {zs:List iH} {k:Nat} {z:iH},zs[k]? =some z-> ∀j,j<4->(eD zs)[k*4+j]? =(jy z.1 z.2)[j]?
 | [],k,_,h,_,_=>by simp at h
 | x::zs,0,z,h,j,hj=>by
  simp at h; subst h;unfold eD;rw[List.flatMap_cons,Nat.zero_mul,Nat.zero_add,List.getElem?_append_left (by exact hj)]
 | x::zs,k+1,z,h,j,hj=>by
  have:=ou (zs:=zs) (k:=k) (z:=z) (by simpa using h) j hj;unfold eD at this ⊢;rw[List.flatMap_cons,List.getElem?_append_right (by show 4<=_; omega),<-this]
  congr 1
  show(k+1)*4+j-4=_
  omega
theorem tY {S:Nat->Prop} {w:World} {a:Option Addr} {n cap:Nat} {zs:List iH} (h:aM S w 4 (.slice a n cap) zs.length (eD zs)) {k:Nat} {z:iH} (hz:zs[k]? =some z):
  ∃b o,a=some ⟨b,o,none⟩/\S b/\b<w.heap.size/\ ∀j,j<4->w.cell? ⟨b,o+k*4+j,none⟩=(jy z.1 z.2)[j]? :=by
 obtain⟨_,a',cap',he,_,_,h0⟩:=h
 cases he
 have hlt:=(List.getElem?_eq_some_iff.1 hz).1
 rcases h0 with h0 | ⟨b,o,rfl,hS,hc⟩
 ·omega
 ·have g:=fun j (hj:j<4)=>hc (k*4+j) _ ((ou hz j hj).trans (List.getElem?_eq_getElem (l:=jy z.1 z.2) hj))
  have g0:=g 0 (by omega);refine⟨b,o,rfl,hS,aR (a:=⟨b,o+(k*4+0),none⟩) g0,fun j hj=> ?_⟩;rw[Nat.add_assoc,g j hj];exact(List.getElem?_eq_getElem (l:=jy z.1 z.2) hj).symm
theorem gN.below {S:Nat->Prop} {w w':World} {v:Value} {bs:List bI} (h:gN S w v bs) (hb:Below w.heap.size w w'):gN S w' v bs:=by
 obtain⟨zs,h1,h2,h3⟩:=h;exact⟨zs,h1,aM.below h2 (by omega) hb,fun z hz=>⟨aM.below (h3 z hz).1 (by omega) hb,(h3 z hz).2⟩⟩
def Dy (S:Nat->Prop) (bs:List bI) (w:World) (e:Ending) (w':World):Prop:= ∃mb m,e= .returned (.map (some mb))/\w.heap.size<=mb/\cO Tryz.prog 9 w' mb m/\bu S w' m (oJ bs)/\Below w.heap.size w w'
theorem sP (S:Nat->Prop) (bs:List bI) (v:Value) (w:World) (hv:gN S w v bs) (hl:bs.length<=1000000):Calls Tryz.prog 36 #[v] w (Dy S bs w):=by
 obtain⟨zs,hzs,hrow,hdat⟩:=hv;obtain⟨_,a,cap,rfl,hcp,hm,-⟩:=id hrow;unfold maxLen at hm;have HROW:=ab hrow;have HDAT:=ab hdat
 have HZS:=ab hzs;obtain⟨n,hn⟩: ∃n,n=zs.length:=⟨_,rfl⟩;have hln:n<=1000000:=by rw[hn,<-List.length_map (f:=Prod.snd),hzs]; exact hl
 rw[<-hn]at hcp ⊢;have HN:=ab hn;have hmm:= @run_makeMap Tryz.prog;obtain⟨W0,hW0⟩: ∃W0,W0=w.alloc (.map #[] 0):=⟨_,rfl⟩;have HM0:=ab (show cO Tryz.prog 9 W0 w.heap.size [] by rw[hW0]; exact cO.made w);have HB0:=ab (show Below w.heap.size w W0 by rw[hW0]; exact(Below.refl _ _).alloc (Nat.le_refl _) _);clear hrow hdat hzs hn hl
 go_enter Tryz.func36,Tryz.ntmps36
 go_upto_region 2 with(fail)
 rw[<-hW0];clear hW0 hmm;go_wp2_with fail
 go_loopw [4] (fun i wr=> ∃(j:Nat) (m:List (Value×Value)),j<=n/\i= .int .i64 (j:Int)/\cO Tryz.prog 9 wr w.heap.size m/\bu S wr m (oJ (bs.take j))/\Below w.heap.size w wr) (fun i _=>n-(intOf i).toNat)
 case atStart=>exact⟨0,[],Nat.zero_le _,rfl,HM0.out,trivial,HB0.out⟩
 case round=>
  obtain⟨j,m,hj,rfl,hms,hen,hb⟩:=hrel;have HMS:=ab hms;have HEN:=ab hen;have HB:=ab hb;clear hms hen hb
  by_cases hlt:j<n
  ·obtain⟨z,hz⟩: ∃z,zs[j]? =some z:=⟨zs[j]'(by rw[<-HN.out]; exact hlt),by simp⟩;obtain⟨b,o,rfl,-,hbl,hcl⟩:=tY HROW.out hz;have hzd:=HDAT.out z (List.mem_of_getElem? hz);have HZD:=ab hzd;have HZN:=ab (show bs[j]? =some z.2 by rw[<-HZS.out,List.getElem?_map,hz]; rfl);obtain⟨_,za,zc,hzv,-,-,-⟩:=id hzd.1;have g:=fun i (hi:i<4)=>(HB.out.cell (p:=⟨b,o+j*4+i,none⟩) hbl).trans (hcl i hi)
   have q0:=g 0 (by omega);have q3:=g 3 (by omega);simp only[jy,AY,Nat.add_zero]at q0 q3;rw[hzv]at q3;obtain⟨zl,hzl⟩: ∃zl,zl=z.2.con.length:=⟨_,rfl⟩;rw[<-hzl]at q3;obtain⟨nm,hnm⟩: ∃nm,nm=z.2.ref.name:=⟨_,rfl⟩;rw[<-hnm]at q0;have hnms:nm.size<=maxLen:=by rw[hnm]; exact hzd.2.nm
   have ht:Tryz.prog.underlying 55=some (.map 9 29):=Tryz.underlying55;have HTY:=ab ht;have HST:=ab (show oJ (bs.take (j+1))=tq (oJ (bs.take j)) nm z.2.con by rw[wv HZN.out,hnm]);have HBV:=ab (show ∀W:World,Below w.heap.size w W->aw S W (.slice za zl zc) z.2.con from fun W hW=>by rw[hzl,<-hzv]; exact aM.below hzd.1 (by omega) hW);have hbw:w.heap.size<wr.heap.size:=HMS.out.lt
   clear ht hz hcl hzd hzv g hzl hnm;go_wp2_with fail;refine an [some 12,none] (by kernel_rfl) (by kernel_rfl) (by kernel_rfl) ?_;simp only[be,List.take_succ_cons,List.take_zero,List.drop_succ_cons,List.drop_zero];have HMD:=ab (HMS.out.same (w':=wr.drew) rfl)
   repeat (first | (refine aF rfl ?_; simp only[Act.put,aB,aC,aD]) | (refine aJ rfl (fun K hK=> ?_); go_simp; refine hK _ ?_; clear hK K))
   refine aI ?_;refine bA rfl (fun K hK=> ?_);have hby: ∀(w9:World),wr.drew.grownBy w9 (some w.heap.size)->Below w.heap.size w w9:=fun w9 hg=>(HB.out.trans ((Below.refl wr.heap.size wr).drew.mono HB.out.size)).grown hg (Nat.le_of_lt hbw) (fun i hi=>by cases hi; exact Nat.le_refl _)
   have HBY:=ab hby
   have hkeep: ∀(w9:World),wr.drew.grownBy w9 (some w.heap.size)-> ∀v bs,aw S wr v bs->aw S w9 v bs:=fun w9 hg v bs hv=>by
    obtain⟨h1,a9,cap9,rfl,h2,h3,h4⟩:=hv;refine⟨h1,a9,cap9,rfl,h2,h3, ?_⟩
    rcases h4 with h4 | ⟨b9,o9,rfl,hS,hc⟩
    ·exact .inl h4
    ·refine .inr ⟨b9,o9,rfl,hS,fun i u hi=> ?_⟩;have q:=hc i u hi;rw[<-q];refine World.cell?_of_block (hg.block b9 (aR (a:=⟨b9,o9+i,none⟩) q) (fun e=> ?_));have:b9=w.heap.size:=by simpa using e
     subst this;obtain⟨es,clock,hb9,_⟩:=HMS.out;simp[World.cell?,hb9]at q
   have HKP:=ab hkeep;clear hby hkeep
   by_cases hin: ∃p∈m,p.1=Value.string nm
   ·obtain⟨m1,old,m2,rfl,hnew⟩:=HEN.out.hit' hin;have HNW:=ab hnew;clear hin hnew;go_wp2_with (at_mapUpdate; go_must (refine jx bN rfl _ _ _ _ rfl HTY.out w.heap.size m1 m2 (.string nm) (.slice za zl zc) old HMD.out rfl rfl rfl ?_); intro w9 hm9 hg9);have HM9:=ab hm9;have HG9:=ab hg9;clear hm9 hg9;go_wp2_with fail
    go_roundw
    case rel=>exact⟨j+1,_,by omega,by go_num,HM9.out,by rw[HST.out]; exact HNW.out w9 S _ _ (HKP.out w9 HG9.out) (HBV.out w9 (HBY.out w9 HG9.out)),HBY.out w9 HG9.out⟩
    case measure=>simp[intOf]; omega
   ·have hno: ∀p∈m,p.1≠Value.string nm:=fun p hp e=>hin ⟨p,hp,e⟩
    have HNO:=ab hno;clear hin hno;go_wp2_with (at_mapUpdate; go_must (refine el bN rfl _ _ _ _ rfl HTY.out w.heap.size m HMD.out rfl (.string nm) (.slice za zl zc) rfl rfl (cE hnms) HNO.out ?_); intro w9 hm9 hg9);have HM9:=ab hm9;have HG9:=ab hg9;clear hm9 hg9;go_wp2_with fail
    go_roundw
    case rel=>exact⟨j+1,_,by omega,by go_num,HM9.out,by rw[HST.out]; exact bu.miss' (HBV.out w9 (HBY.out w9 HG9.out)) (HEN.out.mono (HKP.out w9 HG9.out)) HNO.out,HBY.out w9 HG9.out⟩
    case measure=>simp[intOf]; omega
  ·have hk2:j=n:=by omega
   subst hk2;go_wp2_with fail;go_ret;have h1:=HEN.out;rw[List.take_of_length_le (by rw[<-HZS.out,List.length_map,<-HN.out]; exact Nat.le_refl _)]at h1;exact⟨_,m,rfl,Nat.le_refl _,HMS.out,h1,HB.out⟩
end Go.Proofs.YtpffpjbkbaleiaaGreatDoor
namespace Go.Proofs.YtpffpjbkbaleiaaGreatDoor
open Go Go.RowKit
theorem Cd {a:Act} {w:World} {b:Nat} {x0 x1 x2 x3 x4 x5 x6 x7 x8 x9 e7:Value} (h:w.heap[b]? =some (.cells #[x0,x1,x2,x3,x4,x5,x6,x7,x8,x9] 28 (0,0)))
  (h6:a.tmps[6]? =some (.pointer (some ⟨b,0,none⟩))) (h7:a.tmps[7]? =some e7):(results Tryz.f28 a.tmps).run Tryz.prog w= .ok (.tuple #[.agg #[x0,x1,x2,x3,x4,x5,x6,x7,x8,x9],e7]) w:=by
 have m0:=ai (k:=0) h;have m1:=ai (k:=1) h;have m2:=ai (k:=2) h;have m3:=ai (k:=3) h;have m4:=ai (k:=4) h;have m5:=ai (k:=5) h;have m6:=ai (k:=6) h;have m7:=ai (k:=7) h;have m8:=ai (k:=8) h;have m9:=ai (k:=9) h;simp only[aN]at m0 m1 m2 m3 m4 m5 m6 m7 m8 m9;simp[results,Tryz.results28,go_sem,h6,h7,m0,m1,m2,m3,m4,m5,m6,m7,m8,m9]
theorem iQ {a:Act} {w:World} {b:Nat} {a0 a1 a2 a3 a4 a5 a6 a7 a8 a9 x0 x1 x2 x3 x4 x5 x6 x7 x8 x9 e7:Value} {Q:Ending->World->Prop} (h:w.heap[b]? =some (.cells #[a0,a1,a2,a3,a4,a5,a6,a7,a8,a9] 28 (0,0)))
  (h6:a.tmps[6]? =some (.pointer (some ⟨b,0,none⟩))) (h7:a.tmps[7]? =some e7) (hd:a.defers=[])
  (hQ:Q (.returned (.tuple #[.agg #[x0,x1,x2,x3,x4,x5,x6,x7,x8,x9],e7])) ((((((((((w.setCell ⟨b,0,none⟩ x0).setCell ⟨b,1,none⟩ x1).setCell ⟨b,2,none⟩ x2).setCell ⟨b,3,none⟩ x3).setCell ⟨b,4,none⟩ x4).setCell ⟨b,5,none⟩ x5).setCell ⟨b,6,none⟩ x6).setCell ⟨b,7,none⟩ x7).setCell ⟨b,8,none⟩ x8).setCell ⟨b,9,none⟩ x9)):
  bodyPost Tryz.prog Tryz.f28 Q Exit.ret a ((((((((((w.setCell ⟨b,0,none⟩ x0).setCell ⟨b,1,none⟩ x1).setCell ⟨b,2,none⟩ x2).setCell ⟨b,3,none⟩ x3).setCell ⟨b,4,none⟩ x4).setCell ⟨b,5,none⟩ x5).setCell ⟨b,6,none⟩ x6).setCell ⟨b,7,none⟩ x7).setCell ⟨b,8,none⟩ x8).setCell ⟨b,9,none⟩ x9):=bodyPost_ret (Cd (CQ h) h6 h7) hd hQ
theorem CW {S:Nat->Prop} {w w':World} {a:Option Addr} {n cap:Nat} {xs:List ByteArray} (h:jd S w (.slice a n cap) xs) (hb:Below w.heap.size w w') {k:Nat} {x:ByteArray} (hx:xs[k]? =some x):
  ∃b o,a=some ⟨b,o,none⟩/\b<w.heap.size/\w'.cell? ⟨b,o+k,none⟩=some (.string x):=by
 obtain⟨_,a',cap',he,_,_,h0⟩:=h
 cases he
 rcases h0 with h0 | ⟨b,o,rfl,_,hc⟩
 ·have:=(List.getElem?_eq_some_iff.1 hx).1;omega
 ·have q:=hc k (.string x) (yy hx);exact⟨b,o,rfl,aR q,(hb.cell (p:=⟨b,o+k,none⟩) (aR q)).trans q⟩
structure LkI (w2 : World) (ib : Nat) (wr : World) (it : az) : Prop where
 below:Below ib w2 wr
 box: ∃ca cc,wr.heap[ib]? =some (.cells (cL (.slice ca it.chunks.length cc) it).toArray 28 (0,0))/\aQ (fun k=>ib<k) wr (.slice ca it.chunks.length cc) it.chunks
 ok:cA it
theorem LkI.next {w2 wr w':World} {ib:Nat} {it:az} (h:LkI w2 ib wr it) (hb:Below wr.heap.size wr w'):LkI w2 ib w' it:=by
 obtain⟨ca,cc,h1,h2⟩:=h.box;have hl:=lt_of_block h1;exact⟨h.below.trans (hb.mono (by omega)),⟨ca,cc,(hb.block ib hl).trans h1,aP.below h2 (by omega) hb (fun _ _ _ h=>h)⟩,h.ok⟩
theorem wB {root:aL} (h:br root):cA (fZ root):=⟨by show(0:Nat)<=_; unfold maxLen; omega,by show(0:Nat)<=_; unfold maxLen; omega,h⟩
def DI (cs:List (ByteArray×List UInt8)) (root:aL) (path:ByteArray) (w:World) (e:Ending) (w':World):Prop:=Below w.heap.size w w'/\match eK cs root path with
 | .error x=>e= .returned (.tuple #[.agg #[.string ⟨#[]⟩, .int .i64 0, .int .i64 0, .int .i64 0, .int .i64 0, .string ⟨#[]⟩, .slice none 0 0, .string ⟨#[]⟩, .int .i64 0, .int .i64 0], .int .i64 x])/\x≠0
 | .ok it=> ∃v,e= .returned (.tuple #[fm v it, .int .i64 0])/\aQ (w.heap.size<= ·) w' v it.chunks/\cA it
theorem kM (S:Nat->Prop) (cv:Value) (cs:List (ByteArray×List UInt8)) (root:aL) (path:ByteArray) (w:World) (hc:bR S w cv cs) (henv:gm w) (hr:br root):Calls Tryz.prog 28 #[bF root,cv, .string path] w (DI cs root path w):=by
 obtain⟨W0,hW0⟩: ∃W0,W0=(w.alloc (.cells #[.string root.name, .int .i64 root.gen, .int .i64 root.size] 26)).alloc (.cells #[.string ⟨#[]⟩, .int .i64 0, .int .i64 0, .int .i64 0, .int .i64 0, .string ⟨#[]⟩, .slice none 0 0, .string ⟨#[]⟩, .int .i64 0, .int .i64 0] 28):=⟨_,rfl⟩;have HB0:=ab (show Below w.heap.size w W0 by rw[hW0]; exact((Below.refl _ _).alloc (Nat.le_refl _) _).alloc (by simp) _)
 have HX0:=ab (show W0.heap[w.heap.size]? =some (.cells #[.string root.name, .int .i64 root.gen, .int .i64 root.size] 26 (0,0)) by rw[hW0]; exact cK (bX w _) _);have HY0:=ab (show W0.heap[w.heap.size+1]? =some (.cells #[.string ⟨#[]⟩, .int .i64 0, .int .i64 0, .int .i64 0, .int .i64 0, .string ⟨#[]⟩, .slice none 0 0, .string ⟨#[]⟩, .int .i64 0, .int .i64 0] 28 (0,0)) by rw[hW0]; exact jV w _ _)
 have HI:=ab (fa.start (hc.below HB0.out) (henv.below HB0.out));have HR:=ab hr;unfold bF;clear hc henv hr
 go_enter Tryz.func28,Tryz.ntmps28
 go_upto_region 1 with(fail)
 rw[<-hW0];clear hW0
 cases hp:bi (bl path)with
 | false=>
  have HM:=ab (show eK cs root path= .error 1 by unfold eK; rw[if_neg (by rw[hp]; simp)]);have HP:=ab hp;clear hp;go_wp2_with fail;refine(AJ path W0 HI.out.env HP.out).mono ?_;rintro e w1 ⟨rfl,hb1⟩;have HB1:=ab (ah HB0.out hb1);have HY1:=ab ((hb1.block _ (lt_of_block HY0.out)).trans HY0.out);have z0:=aa (k:=0) HY1.out;have z1:=aa (k:=1) HY1.out
  have z2:=aa (k:=2) HY1.out;have z3:=aa (k:=3) HY1.out;have z4:=aa (k:=4) HY1.out;have z5:=aa (k:=5) HY1.out;have z6:=aa (k:=6) HY1.out;have z7:=aa (k:=7) HY1.out;have z8:=aa (k:=8) HY1.out;have z9:=aa (k:=9) HY1.out;have g0:=ag (k:=0) HY1.out;have g1:=ag (k:=1) HY1.out;have g2:=ag (k:=2) HY1.out;have g3:=ag (k:=3) HY1.out
  have g4:=ag (k:=4) HY1.out;have g5:=ag (k:=5) HY1.out;have g6:=ag (k:=6) HY1.out;have g7:=ag (k:=7) HY1.out;have g8:=ag (k:=8) HY1.out;have g9:=ag (k:=9) HY1.out;simp only[aN]at z0 z1 z2 z3 z4 z5 z6 z7 z8 z9;clear hb1;go_wp2_with fail;refine iQ HY1.out rfl rfl rfl ⟨dC HB1.out (by show w.heap.size<=w.heap.size+1; omega), ?_⟩
  rw[HM.out];exact⟨rfl,by decide⟩
 | true=>
  have HP:=ab hp
  cases hv:dK root with
  | false=>
   have HM:=ab (show eK cs root path= .error 1 by unfold eK; rw[if_neg (by rw[hv]; simp)]);have HVR:=ab hv;clear hp hv;go_wp2_with fail;refine(vN path W0 HI.out.env HP.out).mono ?_;rintro e w1 ⟨ap,cp,rfl,-,-,-,hb1⟩;have HB1:=ab (ah HB0.out hb1);have HW1:=ab hb1;have HX1:=ab ((hb1.block _ (lt_of_block HX0.out)).trans HX0.out);have HY1:=ab ((hb1.block _ (lt_of_block HY0.out)).trans HY0.out)
   have r0:=aa (k:=0) HX1.out;have r1:=aa (k:=1) HX1.out;have r2:=aa (k:=2) HX1.out;simp only[aN]at r0 r1 r2;clear hb1;go_wp2_with fail;refine(de root false _ HR.out HVR.out).mono ?_;rintro e w2 ⟨rfl,hb2⟩;have HB2:=ab (ah HB1.out hb2);have HY2:=ab ((hb2.block _ (lt_of_block HY1.out)).trans HY1.out);have z0:=aa (k:=0) HY2.out;have z1:=aa (k:=1) HY2.out
   have z2:=aa (k:=2) HY2.out;have z3:=aa (k:=3) HY2.out;have z4:=aa (k:=4) HY2.out;have z5:=aa (k:=5) HY2.out;have z6:=aa (k:=6) HY2.out;have z7:=aa (k:=7) HY2.out;have z8:=aa (k:=8) HY2.out;have z9:=aa (k:=9) HY2.out;have g0:=ag (k:=0) HY2.out;have g1:=ag (k:=1) HY2.out;have g2:=ag (k:=2) HY2.out;have g3:=ag (k:=3) HY2.out
   have g4:=ag (k:=4) HY2.out;have g5:=ag (k:=5) HY2.out;have g6:=ag (k:=6) HY2.out;have g7:=ag (k:=7) HY2.out;have g8:=ag (k:=8) HY2.out;have g9:=ag (k:=9) HY2.out;simp only[aN]at z0 z1 z2 z3 z4 z5 z6 z7 z8 z9;clear hb2 r0 r1 r2;go_wp2_with fail;refine iQ HY2.out rfl rfl rfl ⟨dC HB2.out (by show w.heap.size<=w.heap.size+1; omega), ?_⟩
   rw[HM.out];exact⟨rfl,by decide⟩
  | true=>
   have HM:=ab (show eK cs root path=iP cs (jr (bl path)) (fZ root) by unfold eK; rw[if_pos ⟨hp,hv⟩]);have HVR:=ab hv;clear hp hv;go_wp2_with fail;refine(vN path W0 HI.out.env HP.out).mono ?_;rintro e w1 ⟨ap,cp,rfl,hpn,hpm,hps,hb1⟩;obtain⟨ps,hpd⟩: ∃ps,ps=jr (bl path):=⟨_,rfl⟩;rw[<-hpd]at hps hpn ⊢;have HPD:=ab hpd;obtain⟨np,hnp⟩: ∃np,np=ps.length:=⟨_,rfl⟩
   rw[<-hnp]at hps hpn ⊢;have HNP:=ab hnp;have HPS:=ab hps;unfold maxLen at hpm;have HB1:=ab (ah HB0.out hb1);have HW1:=ab hb1;have HX1:=ab ((hb1.block _ (lt_of_block HX0.out)).trans HX0.out);have HY1:=ab ((hb1.block _ (lt_of_block HY0.out)).trans HY0.out);have r0:=aa (k:=0) HX1.out;have r1:=aa (k:=1) HX1.out;have r2:=aa (k:=2) HX1.out;simp only[aN]at r0 r1 r2
   clear hb1;clear hpd hnp hps;go_wp2_with fail;refine(de root true _ HR.out HVR.out).mono ?_;rintro e w2 ⟨rfl,hb2⟩;have HB2:=ab (ah HB1.out hb2);have HY2:=ab ((hb2.block _ (lt_of_block HY1.out)).trans HY1.out);have hx2:=(hb2.block _ (lt_of_block HX1.out)).trans HX1.out;clear r0 r1 r2;have r0:=aa (k:=0) hx2;have r1:=aa (k:=1) hx2;have r2:=aa (k:=2) hx2
   simp only[aN]at r0 r1 r2;clear hx2;go_wp2_with fail;obtain⟨W3,hW3⟩: ∃W3,W3=w2.alloc (.cells #[.string ⟨#[]⟩, .int .i64 2, .int .i64 0, .int .i64 0, .int .i64 0, .string ⟨#[]⟩, .slice none 0 0, .string root.name, .int .i64 root.gen, .int .i64 root.size] 28):=⟨_,rfl⟩;rw[<-hW3];have HLK:=ab (show LkI w2 w2.heap.size W3 (fZ root)from⟨by rw[hW3]; exact(Below.refl _ _).alloc (Nat.le_refl _) _,⟨none,0,by rw[hW3]; exact bX w2 _,aP.nil⟩,wB HR.out⟩)
   obtain⟨ib,hib⟩: ∃ib,ib=w2.heap.size:=⟨_,rfl⟩;rw[<-hib]at HLK ⊢;have HIB:=ab hib;have HPS2:=ab (aM.below HPS.out (by omega) hb2);have HW2:=ab (ah HW1.out hb2);clear hW3 r0 r1 r2 hb2 hib
   go_loopw [33] (fun i wr=> ∃(k:Nat) (it:az),k<=np/\i= .int .i64 (k:Int)/\iP cs (ps.drop k) it=eK cs root path/\LkI w2 ib wr it) (fun i _=>np-(intOf i).toNat)
   case atStart=>exact⟨0,fZ root,Nat.zero_le _,rfl,by rw[HM.out,<-HPD.out]; rfl,HLK.out⟩
   case round=>
    obtain⟨k,it,hk,rfl,hlp,hin⟩:=hrel;have HLP:=ab hlp;have HIN:=ab hin;obtain⟨ca,cc,hbx,hrf⟩:=hin.box;have HBX:=ab hbx;have HRF:=ab hrf;clear hlp hin hbx hrf HLK;have HYR:=ab ((HIN.out.below.block (w.heap.size+1) (by rw[HIB.out]; exact lt_of_block HY2.out)).trans HY2.out);have HWR:=ab (HB2.out.trans (HIN.out.below.mono (by rw[HIB.out]; exact HB2.out.size)));have hne:w.heap.size+1≠ib:=by have:=lt_of_block HY2.out; have:=HIB.out; omega
    by_cases hlt:k<np
    ·obtain⟨c,hc⟩: ∃c,ps[k]? =some c:=⟨ps[k]'(by rw[<-HNP.out]; exact hlt),by simp⟩;obtain⟨pb,po,rfl,hpb,hcell⟩:=CW HPS2.out (by have:=HIN.out.below; rw[HIB.out]at this; exact this) hc;have HDR:=ab (show ps.drop k=c::ps.drop (k+1) by
      rw[List.drop_eq_getElem_cons (by rw[<-HNP.out]; exact hlt)]
      congr 1
      exact(List.getElem?_eq_some_iff.1 hc).2)
     obtain⟨W4,hW4⟩: ∃W4,W4=wr.alloc (.cells #[.string c] 9):=⟨_,rfl⟩;have hb4:Below wr.heap.size wr W4:=by rw[hW4]; exact(Below.refl _ _).alloc (Nat.le_refl _) _
     have HC4:=ab (show W4.cell? ⟨wr.heap.size,0,none⟩=some (.string c) by rw[hW4]; exact(aa (bX wr _)).trans rfl);have HIN4:=ab (HIN.out.next hb4);have HBX4:=ab ((hb4.block ib (lt_of_block HBX.out)).trans HBX.out);have HY4:=ab ((hb4.block _ (lt_of_block HYR.out)).trans HYR.out);have HB4:=ab (ah HWR.out hb4);have HI4:=ab (HI.out.keepL (HW2.out.trans ((HIN.out.below.mono (by rw[HIB.out]; exact HW2.out.size)).trans (hb4.mono (Nat.le_trans HW2.out.size (by have:=HIN.out.below.size; exact this))))) (Nat.le_refl _))
     clear hc hb4
     go_upto_region 8 with(fail)
     rw[<-hW4];clear hW4 hcell;have i0:=aa (k:=0) HBX4.out;have i1:=aa (k:=1) HBX4.out;have i2:=aa (k:=2) HBX4.out;have i3:=aa (k:=3) HBX4.out;have i4:=aa (k:=4) HBX4.out;have i5:=aa (k:=5) HBX4.out;have i6:=aa (k:=6) HBX4.out;have i7:=aa (k:=7) HBX4.out;have i8:=aa (k:=8) HBX4.out;have i9:=aa (k:=9) HBX4.out;simp only[cL,aN]at i0 i1 i2 i3 i4 i5 i6 i7 i8 i9
     by_cases hk2:it.kind=2
     ·have e1:(it.kind != 2)=false:=by simp[hk2]
      have HLP2:=ab (show(match dO cs it.node with | .error x=> .error x | .ok l=>match l.find? (fun y=>decide (y.name=c))with | none=> .error 4 | some y=>iP cs (ps.drop (k+1)) y)=eK cs root path by have:=HLP.out; rw[HDR.out,iP,if_pos hk2]at this; exact this);have hnd:=lO _ cv cs it.node W4 HI4.out.cont HIN.out.ok.nd HI4.out.env;unfold sG at hnd;clear hk2
      cases hnp:dO cs it.node with
      | error x=>
       rw[hnp]at hnd;have HND:=ab hnd;have HM5:=ab (show eK cs root path= .error x by have:=HLP2.out; rw[hnp]at this; exact this.symm);clear hnp hnd;go_wp2_with fail;refine HND.out.mono ?_;rintro e w5 ⟨hb5,rfl,hx⟩;have HB5:=ab (ah HB4.out hb5);have HY5:=ab ((hb5.block _ (lt_of_block HY4.out)).trans HY4.out);have e2:(x != 0)=true:=by simp[hx]
       have HX:=ab hx;clear hx hb5 i0 i1 i2 i3 i4 i5 i6 i7 i8 i9;have z0:=aa (k:=0) HY5.out;have z1:=aa (k:=1) HY5.out;have z2:=aa (k:=2) HY5.out;have z3:=aa (k:=3) HY5.out;have z4:=aa (k:=4) HY5.out;have z5:=aa (k:=5) HY5.out;have z6:=aa (k:=6) HY5.out;have z7:=aa (k:=7) HY5.out;have z8:=aa (k:=8) HY5.out;have z9:=aa (k:=9) HY5.out
       have g0:=ag (k:=0) HY5.out;have g1:=ag (k:=1) HY5.out;have g2:=ag (k:=2) HY5.out;have g3:=ag (k:=3) HY5.out;have g4:=ag (k:=4) HY5.out;have g5:=ag (k:=5) HY5.out;have g6:=ag (k:=6) HY5.out;have g7:=ag (k:=7) HY5.out;have g8:=ag (k:=8) HY5.out;have g9:=ag (k:=9) HY5.out;simp only[aN]at z0 z1 z2 z3 z4 z5 z6 z7 z8 z9
       go_wp2_with fail;refine iQ HY5.out rfl rfl rfl ⟨dC HB5.out (by show w.heap.size<=w.heap.size+1; omega), ?_⟩;rw[HM5.out];exact⟨rfl,HX.out⟩
      | ok l=>
       rw[hnp]at hnd;have HND:=ab hnd;have HLP3:=ab (show(match l.find? (fun y=>decide (y.name=c))with | none=> .error 4 | some y=>iP cs (ps.drop (k+1)) y)=eK cs root path by have:=HLP2.out; rw[hnp]at this; exact this);have HLV:=ab (pC hnp);clear hnp hnd;go_wp2_with fail;refine HND.out.mono ?_;rintro e w5 ⟨hb5,v5,rfl,hv5⟩;have HB5:=ab (ah HB4.out hb5)
       have HY5:=ab ((hb5.block _ (lt_of_block HY4.out)).trans HY4.out);have HIN5:=ab (HIN4.out.next hb5);have HBX5:=ab ((hb5.block _ (lt_of_block HBX4.out)).trans HBX4.out);have HC5:=ab ((hb5.cell (p:=⟨wr.heap.size,0,none⟩) (aR HC4.out)).trans HC4.out);obtain⟨a5,cap5,rfl,hc5,hm5,-⟩:=aP.shape hv5 dz.len;unfold maxLen at hm5;have HV5:=ab hv5;have HZ4:=ab (show ib<W4.heap.size from lt_of_block HBX4.out)
       obtain⟨nl,hnl⟩: ∃nl,nl=l.length:=⟨_,rfl⟩;rw[<-hnl]at HV5 hc5 ⊢;have HNL:=ab hnl;have hn4:nl<=4096:=by rw[hnl]; exact HLV.out.1
       clear hb5 hv5 hnl i0 i1 i2 i3 i4 i5 i6 i7 i8 i9;go_wp2_with fail;refine(qv _ l c wr.heap.size (.slice a5 nl cap5) w5 HV5.out HC5.out).mono ?_;rintro e w6 ⟨rfl,hb6⟩;have HB6:=ab (ah HB5.out hb6);have HY6:=ab ((hb6.block _ (lt_of_block HY5.out)).trans HY5.out);have HIN6:=ab (HIN5.out.next hb6);have HBX6:=ab ((hb6.block _ (lt_of_block HBX5.out)).trans HBX5.out)
       have HB56:=ab hb6;clear hb6
       rcases rA c l 0 with⟨hf,hix⟩ | ⟨j,y,hj,hf,hix⟩
       ·have HM6:=ab (show eK cs root path= .error 4 by have:=HLP3.out; rw[hf]at this; exact this.symm);rw[hix];clear hf hix;have z0:=aa (k:=0) HY6.out;have z1:=aa (k:=1) HY6.out;have z2:=aa (k:=2) HY6.out;have z3:=aa (k:=3) HY6.out;have z4:=aa (k:=4) HY6.out;have z5:=aa (k:=5) HY6.out;have z6:=aa (k:=6) HY6.out;have z7:=aa (k:=7) HY6.out
        have z8:=aa (k:=8) HY6.out;have z9:=aa (k:=9) HY6.out;have g0:=ag (k:=0) HY6.out;have g1:=ag (k:=1) HY6.out;have g2:=ag (k:=2) HY6.out;have g3:=ag (k:=3) HY6.out;have g4:=ag (k:=4) HY6.out;have g5:=ag (k:=5) HY6.out;have g6:=ag (k:=6) HY6.out;have g7:=ag (k:=7) HY6.out;have g8:=ag (k:=8) HY6.out
        have g9:=ag (k:=9) HY6.out;simp only[aN]at z0 z1 z2 z3 z4 z5 z6 z7 z8 z9;go_wp2_with fail;refine iQ HY6.out rfl rfl rfl ⟨dC HB6.out (by show w.heap.size<=w.heap.size+1; omega), ?_⟩;rw[HM6.out];exact⟨rfl,by decide⟩
       ·have HM6:=ab (show iP cs (ps.drop (k+1)) y=eK cs root path by have:=HLP3.out; rw[hf]at this; exact this);rw[hix,Nat.zero_add];obtain⟨b7,o7,ca7,cc7,rfl,hok7,hrf7,hbl7,-,hcl⟩:=dM HV5.out HB56.out hj;have hjl:j<nl:=by rw[HNL.out]; exact(List.getElem?_eq_some_iff.1 hj).1
        have HOK7:=ab hok7;have HRF7:=ab hrf7;have q0:=hcl 0 (by omega);have q1:=hcl 1 (by omega);have q2:=hcl 2 (by omega);have q3:=hcl 3 (by omega);have q4:=hcl 4 (by omega);have q5:=hcl 5 (by omega);have q6:=hcl 6 (by omega);have q7:=hcl 7 (by omega);have q8:=hcl 8 (by omega);have q9:=hcl 9 (by omega);simp only[cL,AY,Nat.add_zero]at q0 q1 q2 q3 q4 q5 q6 q7 q8 q9
        have i0:=aa (k:=0) HBX6.out;have i1:=aa (k:=1) HBX6.out;have i2:=aa (k:=2) HBX6.out;have i3:=aa (k:=3) HBX6.out;have i4:=aa (k:=4) HBX6.out;have i5:=aa (k:=5) HBX6.out;have i6:=aa (k:=6) HBX6.out;have i7:=aa (k:=7) HBX6.out;have i8:=aa (k:=8) HBX6.out;have i9:=aa (k:=9) HBX6.out;simp only[cL,aN]at i0 i1 i2 i3 i4 i5 i6 i7 i8 i9
        have g0:=ag (k:=0) HBX6.out;have g1:=ag (k:=1) HBX6.out;have g2:=ag (k:=2) HBX6.out;have g3:=ag (k:=3) HBX6.out;have g4:=ag (k:=4) HBX6.out;have g5:=ag (k:=5) HBX6.out;have g6:=ag (k:=6) HBX6.out;have g7:=ag (k:=7) HBX6.out;have g8:=ag (k:=8) HBX6.out;have g9:=ag (k:=9) HBX6.out;clear hf hix hj hok7 hrf7 hcl
        go_wp2_with fail
        go_roundw
        case rel=>
         refine⟨k+1,y,by omega,by go_num,HM6.out,⟨dC HIN6.out.below (Nat.le_refl _),⟨ca7,cc7,CQ HBX6.out,aQ.same HRF7.out (fun i hi hS=>⟨Nat.lt_of_lt_of_le HZ4.out hS,lg (by have:=HZ4.out; omega)⟩)⟩,HOK7.out⟩⟩
        case measure=>simp[intOf]; omega
     ·have e1:(it.kind != 2)=true:=by simp[hk2]
      have HM4:=ab (show eK cs root path= .error 4 by have:=HLP.out; rw[HDR.out,iP,if_neg hk2]at this; exact this.symm);clear hk2;have z0:=aa (k:=0) HY4.out;have z1:=aa (k:=1) HY4.out;have z2:=aa (k:=2) HY4.out;have z3:=aa (k:=3) HY4.out;have z4:=aa (k:=4) HY4.out;have z5:=aa (k:=5) HY4.out;have z6:=aa (k:=6) HY4.out;have z7:=aa (k:=7) HY4.out
      have z8:=aa (k:=8) HY4.out;have z9:=aa (k:=9) HY4.out;have g0:=ag (k:=0) HY4.out;have g1:=ag (k:=1) HY4.out;have g2:=ag (k:=2) HY4.out;have g3:=ag (k:=3) HY4.out;have g4:=ag (k:=4) HY4.out;have g5:=ag (k:=5) HY4.out;have g6:=ag (k:=6) HY4.out;have g7:=ag (k:=7) HY4.out;have g8:=ag (k:=8) HY4.out;have g9:=ag (k:=9) HY4.out
      simp only[aN]at z0 z1 z2 z3 z4 z5 z6 z7 z8 z9;go_wp2_with fail;refine iQ HY4.out rfl rfl rfl ⟨dC HB4.out (by show w.heap.size<=w.heap.size+1; omega), ?_⟩;rw[HM4.out];exact⟨rfl,by decide⟩
    ·have hk2:k=np:=by omega
     subst hk2;have hit:eK cs root path= .ok it:=by have:=HLP.out; rw[HNP.out,List.drop_length]at this; rw[<-this]; rfl
     have HIT:=ab hit;have z0:=aa (k:=0) HYR.out;have z1:=aa (k:=1) HYR.out;have z2:=aa (k:=2) HYR.out;have z3:=aa (k:=3) HYR.out;have z4:=aa (k:=4) HYR.out;have z5:=aa (k:=5) HYR.out;have z6:=aa (k:=6) HYR.out;have z7:=aa (k:=7) HYR.out;have z8:=aa (k:=8) HYR.out;have z9:=aa (k:=9) HYR.out;have g0:=ag (k:=0) HYR.out
     have g1:=ag (k:=1) HYR.out;have g2:=ag (k:=2) HYR.out;have g3:=ag (k:=3) HYR.out;have g4:=ag (k:=4) HYR.out;have g5:=ag (k:=5) HYR.out;have g6:=ag (k:=6) HYR.out;have g7:=ag (k:=7) HYR.out;have g8:=ag (k:=8) HYR.out;have g9:=ag (k:=9) HYR.out;simp only[aN]at z0 z1 z2 z3 z4 z5 z6 z7 z8 z9;have i0:=aa (k:=0) HBX.out
     have i1:=aa (k:=1) HBX.out;have i2:=aa (k:=2) HBX.out;have i3:=aa (k:=3) HBX.out;have i4:=aa (k:=4) HBX.out;have i5:=aa (k:=5) HBX.out;have i6:=aa (k:=6) HBX.out;have i7:=aa (k:=7) HBX.out;have i8:=aa (k:=8) HBX.out;have i9:=aa (k:=9) HBX.out;simp only[cL,aN]at i0 i1 i2 i3 i4 i5 i6 i7 i8 i9;clear hit;go_wp2_with fail
     refine iQ HYR.out rfl rfl rfl ⟨dC HWR.out (by show w.heap.size<=w.heap.size+1; omega), ?_⟩;rw[HIT.out];refine⟨_,rfl,aQ.same HRF.out (fun k hk hS=>⟨by have:=lt_of_block HY2.out; have:=HIB.out; omega,lg (by have:=lt_of_block HY2.out; have:=HIB.out; omega)⟩),HIN.out.ok⟩
end Go.Proofs.YtpffpjbkbaleiaaGreatDoor
namespace Go.Proofs.YtpffpjbkbaleiaaGreatDoor
open Go Go.RowKit Go.Maps
theorem ua {k:bD} {c:dL} {tree:List bw} {gs:List (ByteArray×Int)} {r:aL} {bs:List bI} {w w':World} {e:Ending} (h:tO (cQ k c tree gs) w e w') (hb:cQ k c tree gs= .ok (r,bs)) (hr: ∀b∈bs,br b.ref):
  Below w.heap.size w w'/\ ∃a cap,e= .returned (.tuple #[bF r, .slice a bs.length cap, .int .i64 0])/\bs.length<=cap/\cap<=maxLen/\gN (fun i=>w.heap.size<=i) w' (.slice a bs.length cap) bs:=by
 rw[hb]at h;obtain⟨h1,v,zs,h2,h3',h4⟩:=h;have h3:zs.map Prod.snd=bs:=h3';have hlen:bs.length=zs.length:=by rw[<-h3,List.length_map]
 obtain⟨a,cap,rfl,h5,h6⟩:=aj h4.row;refine⟨h1,a,cap,by rw[hlen]; exact h2,by omega,h6,zs,h3, ?_,fun z hz=>⟨aM.weak (bh (h4.dat z hz)) (fun i hi=>hi.1),hr _ (by rw[<-h3]; exact List.mem_map.2 ⟨z,hz,rfl⟩)⟩⟩;rw[hlen];exact aM.weak (bh h4.row) (fun i hi=>hi.1)
theorem kS {S:Nat->Prop} {w w':World} {a:Option Addr} {n cap:Nat} {bs:List bI} (h:gN S w (.slice a n cap) bs) (hb:Below w.heap.size w w') {k:Nat} {b:bI} (hk:bs[k]? =some b):
  ∃bk o za zc,a=some ⟨bk,o,none⟩/\bk<w.heap.size/\aw S w' (.slice za b.con.length zc) b.con/\w'.cell? ⟨bk,o+k*4,none⟩=some (.string b.ref.name)/\w'.cell? ⟨bk,o+k*4+1,none⟩=some (.int .i64 b.ref.gen)/\w'.cell? ⟨bk,o+k*4+2,none⟩=some (.int .i64 b.ref.size)/\w'.cell? ⟨bk,o+k*4+3,none⟩=some (.slice za b.con.length zc):=by
 obtain⟨zs,h1,h2,h3⟩:=h;rw[<-h1,List.getElem?_map,Option.map_eq_some_iff]at hk;obtain⟨z,hz,rfl⟩:=hk;obtain⟨bk,o,rfl,-,hlt,hc⟩:=tY h2 hz;have hd:=(h3 z (List.mem_of_getElem? hz)).1;obtain⟨_,za,zc,hzv,-,-,-⟩:=id hd;have g:=fun i (hi:i<4)=>(hb.cell (p:=⟨bk,o+k*4+i,none⟩) hlt).trans (hc i hi)
 have q0:=g 0 (by omega);have q1:=g 1 (by omega);have q2:=g 2 (by omega);have q3:=g 3 (by omega);simp only[jy,AY,Nat.add_zero]at q0 q1 q2 q3;rw[hzv]at q3;exact⟨bk,o,za,zc,rfl,hlt,by rw[<-hzv]; exact aM.below hd (by omega) hb,q0,q1,q2,q3⟩
def Dh :List Value:=[.string ⟨#[97]⟩, .int .i64 1, .int .i64 0, .int .i64 0, .slice none 0 0, .string ⟨#[]⟩, .string ⟨#[100]⟩, .int .i64 2, .int .i64 0, .int .i64 0, .slice none 0 0, .string ⟨#[]⟩, .string ⟨#[100,47,108]⟩, .int .i64 3, .int .i64 5, .int .i64 6, .slice none 0 0, .string ⟨#[97]⟩]
theorem xE (S:Nat->Prop) (w:World):bM (qj S w) Dh ig:=by
 refine⟨[.string ⟨#[97]⟩, .int .i64 1, .int .i64 0, .int .i64 0, .slice none 0 0, .string ⟨#[]⟩],_,rfl,⟨.slice none 0 0,rfl,bC.nil _ _,⟨by decide,by decide,by decide,by decide,by decide⟩⟩, ?_⟩;refine⟨[.string ⟨#[100]⟩, .int .i64 2, .int .i64 0, .int .i64 0, .slice none 0 0, .string ⟨#[]⟩],_,rfl,⟨.slice none 0 0,rfl,bC.nil _ _,⟨by decide,by decide,by decide,by decide,by decide⟩⟩, ?_⟩
 exact⟨[.string ⟨#[100,47,108]⟩, .int .i64 3, .int .i64 5, .int .i64 6, .slice none 0 0, .string ⟨#[97]⟩],[],rfl,⟨.slice none 0 0,rfl,bC.nil _ _,⟨by decide,by decide,by decide,by decide,by decide⟩⟩,rfl⟩
theorem ws {S:Nat->Prop} {w:World} {b o n c:Nat} {x:bI} {bs:List bI} (h:gN S w (.slice (some ⟨b,o,none⟩) (n+1) c) (x::bs)):gN S w (.slice (some ⟨b,o+4,none⟩) n (c-1)) bs:=by
 obtain⟨zs,h1,h2,h3⟩:=h
 cases zs with
 | nil=>simp at h1
 | cons z zs=>
  simp only[List.map_cons,List.cons.injEq]at h1;refine⟨zs,h1.2, ?_,fun y hy=>h3 y (by simp[hy])⟩;obtain⟨h4,a',c',he,h5,h6,h7⟩:=h2;simp only[Value.slice.injEq,List.length_cons]at he;obtain⟨rfl,hn,rfl⟩:=he;have hzl:(eD (z::zs)).length=4+(eD zs).length:=by unfold eD; rw[List.flatMap_cons,List.length_append]; rfl
  simp only[List.length_cons]at h4 h5 h7;refine⟨by omega,some ⟨b,o+4,none⟩,c-1,by rw[show n=zs.length by omega],by omega,by omega, ?_⟩
  rcases h7 with h7 | ⟨b9,o9,he9,hS,hc⟩
  ·omega
  ·cases he9
   refine .inr ⟨b,o+4,rfl,hS,fun j u hj=> ?_⟩;have:=hc (4+j) u (by
    unfold eD at hj ⊢;rw[List.flatMap_cons,List.getElem?_append_right (by show 4<=_; omega)];rw[show 4+j-(jy z.1 z.2).length=j by show 4+j-4=j; omega];exact hj)
   rwa [<-Nat.add_assoc]at this
theorem Ez :br (aY cX [] [0]):=fJ (by simp) (by decide)
theorem Ey :br jZ:=fJ (by simp) (by decide)
theorem yG :br fS:=fJ (by simp) (by decide+kernel)
theorem mM (w:World) (hE:kP w):Calls Tryz.prog 14 #[] w fun e w'=>e= .returned (.bool true)/\Below w.heap.size w w':=by
 have HE:=ab hE;obtain⟨W0,hW0⟩: ∃W0,W0=w.alloc (.cells #[.int .u8 0] 5):=⟨_,rfl⟩;have hb0:Below w.heap.size w W0:=by rw[hW0]; exact(Below.refl _ _).alloc (Nat.le_refl _) _
 have HB0:=ab hb0;have hby:aw (fun i=>i=w.heap.size) W0 (.slice (some ⟨w.heap.size,0,none⟩) 1 1) [0]:=tz (cells:=[au 0]) (by rw[hW0]; exact bX w _) rfl (by decide);have hit:=kt _ [0] _ W0 hby (hE.below hb0).env;unfold tS at hit;rw[Fo]at hit;have HIT:=ab hit;clear hE hb0 hby hit
 go_enter Tryz.func14,Tryz.ntmps14
 go_wp2_with fail;rw[<-hW0];clear hW0;refine HIT.out.mono ?_;rintro e w1 ⟨hb1,iv,rfl,hiv⟩;obtain⟨ia,ic,rfl,-,-,-⟩:=aP.shape hiv dz.len;have HB1:=ab (ah HB0.out hb1);clear hb1 hiv HIT;go_wp2_with fail;refine(uS w1).mono ?_;rintro e w2 ⟨rfl,hb2⟩;have HB2:=ab (ah HB1.out hb2);clear hb2;go_wp2_with fail;refine(mS w2).mono ?_;rintro e w3 ⟨rfl,hb3⟩
 have HB3:=ab (ah HB2.out hb3);clear hb3;go_wp2_with fail;refine(qT (fun _=>True) (fun _=>True) cX jJ [] [] (.slice none 0 0) (.map none) w3 (by decide) (dH.nil _ _) (.inl ⟨rfl,rfl⟩) (HE.out.below HB3.out)).mono ?_;rintro e w4 hres;obtain⟨hb4,a4,c4,rfl,hc4,hm4,hbl4⟩:=ua hres Fh (by intro b hb; simp only[List.mem_singleton]at hb; subst hb; exact Ez)
 obtain⟨r,hr⟩: ∃r,r=aY cX [] [0]:=⟨_,rfl⟩;rw[<-hr]at hbl4 ⊢;have HB4:=ab (ah HB3.out hb4);have HBL4:=ab hbl4;unfold maxLen at hm4;simp only[List.length_singleton]at hc4 ⊢;clear hres hb4 hbl4 hr;unfold bF;go_wp2_with fail;obtain⟨W5,hW5⟩: ∃W5:World,W5=(w4.alloc (.cells #[.string r.name, .int .i64 r.gen, .int .i64 r.size] 26)).drew:=⟨_,rfl⟩;have hb5:Below w4.heap.size w4 W5:=by rw[hW5]; exact((Below.refl _ _).alloc (Nat.le_refl _) _).drew
 have HF5:=ab (show W5.heap[w4.heap.size]? =some (.cells #[.string r.name, .int .i64 r.gen, .int .i64 r.size] 26 (0,0)) by rw[hW5]; exact bX w4 _);obtain⟨bk,o,za,zc,rfl,hbk,hcon,q0,q1,q2,q3⟩:=kS HBL4.out hb5 (k:=0) (b:=⟨r,[0]⟩) rfl;simp only[List.length_singleton,Nat.zero_mul,Nat.add_zero]at hcon q0 q1 q2 q3;have hcv:=gA hcon;have r0:=aa (k:=0) HF5.out
 have r1:=aa (k:=1) HF5.out;have r2:=aa (k:=2) HF5.out;simp only[aN]at r0 r1 r2;have HB5:=ab (ah HB4.out hb5);clear hb5 hcon;refine an [some 32] (by kernel_rfl) (by kernel_rfl) (by kernel_rfl) ?_;simp only[be,List.take_succ_cons,List.take_zero];rw[<-hW5];clear hW5
 repeat (first | (refine aF rfl ?_; simp only[Act.put,aB,aC,aD]) | (refine aJ rfl (fun K hK=> ?_); go_simp; refine hK _ ?_; clear hK K))
 refine aI ?_;go_wp2_with fail;obtain⟨W6,hW6⟩: ∃W6:World,W6=W5.alloc (.cells Dh.toArray 79):=⟨_,rfl⟩;have hb6:Below W5.heap.size W5 W6:=by rw[hW6]; exact(Below.refl _ _).alloc (Nat.le_refl _) _
 have HB6:=ab (ah HB5.out hb6);have HTR:=ab (show dH (fun i=>i=W5.heap.size) W6 (.slice (some ⟨W5.heap.size,0,none⟩) 3 3) ig from⟨Dh,tz (by rw[hW6]; exact bX W5 _) rfl (by decide),xE _ _⟩);have hW6':W6=W5.alloc (.cells #[.string ⟨#[97]⟩, .int .i64 1, .int .i64 0, .int .i64 0, .slice none 0 0, .string ⟨#[]⟩, .string ⟨#[100]⟩, .int .i64 2, .int .i64 0, .int .i64 0, .slice none 0 0, .string ⟨#[]⟩, .string ⟨#[100,47,108]⟩, .int .i64 3, .int .i64 5, .int .i64 6, .slice none 0 0, .string ⟨#[97]⟩] 79):=hW6
 rw[<-hW6'];clear hW6 hW6' hb6 q0 q1 q2 q3 r0 r1 r2 hcv;refine(uS W6).mono ?_;rintro e w7 ⟨rfl,hb7⟩;have HB7:=ab (ah HB6.out hb7);have HT7:=ab (dH.below HTR.out hb7);clear hb7;go_wp2_with fail;refine(mS w7).mono ?_;rintro e w8 ⟨rfl,hb8⟩;have HB8:=ab (ah HB7.out hb8);have HT8:=ab (dH.below HT7.out hb8);clear hb8;go_wp2_with fail;refine(qT _ (fun _=>True) cX jJ ig [] _ (.map none) w8 (by decide) HT8.out (.inl ⟨rfl,rfl⟩) (HE.out.below HB8.out)).mono ?_
 rintro e w9 hres;obtain⟨hb9,a9,c9,rfl,hc9,hm9,hbl9⟩:=ua hres Fi (by intro b hb; simp only[List.mem_cons,List.not_mem_nil,or_false]at hb; rcases hb with rfl | rfl; exact Ey; exact yG);have HB9:=ab (ah HB8.out hb9);have HBL9:=ab hbl9;unfold maxLen at hm9;simp only[List.length_cons,List.length_nil,Nat.reduceAdd]at hc9 HBL9 ⊢;clear hres hb9 hbl9;unfold bF
 obtain⟨rt,hrt⟩: ∃rt,rt=fS:=⟨_,rfl⟩;have HRT:=ab hrt;rw[<-hrt]at HBL9 ⊢;clear hrt
 go_upto_region 7 with(fail)
 obtain⟨W10,hW10⟩: ∃W10:World,W10=w9.alloc (.cells #[.string rt.name, .int .i64 rt.gen, .int .i64 rt.size] 26):=⟨_,rfl⟩;rw[<-hW10];have hb10:Below w9.heap.size w9 W10:=by rw[hW10]; exact(Below.refl _ _).alloc (Nat.le_refl _) _
 have HB10:=ab (ah HB9.out hb10);have HF10:=ab (show W10.heap[w9.heap.size]? =some (.cells #[.string rt.name, .int .i64 rt.gen, .int .i64 rt.size] 26 (0,0)) by rw[hW10]; exact bX w9 _);obtain⟨bb,oo,ya,yc,rfl,hbb,hcon,q0,q1,q2,q3⟩:=kS HBL9.out hb10 (k:=0) (b:=⟨jZ,kH⟩) rfl;have hcv:(convert 29 9 (.slice ya 8 yc)).run Tryz.prog W10= .ok (.string ⟨#[1,1,108,3,5,6,1,97]⟩) W10:=gA hcon
 replace q3:W10.cell? ⟨bb,oo+0*4+3,none⟩=some (.slice ya 8 yc):=q3
 simp only[Nat.zero_mul,Nat.add_zero]at q0 q1 q2 q3;have HBL10:=ab (HBL9.out.below hb10);clear hW10 hb10 hcon
 go_upto_region 9 with(fail)
 clear q0 q1 q2 q3 hcv;go_wp2_with fail;refine(sP _ _ _ _ (ws (n:=1) HBL10.out) (by simp)).mono ?_;rintro e w11 ⟨mb,mm,rfl,hmb,hms,hen,hb11⟩;have HB11:=ab (ah HB10.out hb11);have HC11:=ab (show bR (fun _=>True) w11 (.map (some mb)) oK from by
  rw[HRT.out]at hen;exact .inr ⟨mb,mm,rfl,trivial,hms.is,bu.wide hen⟩)
 have HF11:=ab ((hb11.block _ (lt_of_block HF10.out)).trans HF10.out);have HBL11:=ab (HBL10.out.below hb11);clear hb11 hmb hms hen HBL10 HF10;have r0:=aa (k:=0) HF11.out;have r1:=aa (k:=1) HF11.out;have r2:=aa (k:=2) HF11.out;simp only[aN]at r0 r1 r2;go_wp2_with fail;have HRO:=ab (show br rt by rw[HRT.out]; exact yG);have HLA:=ab (show nn oK rt= .error 10 by rw[HRT.out]; exact FR)
 have HMI:=ab (show Ce oK rt= .ok [jZ] by rw[HRT.out]; exact FV);have HL1:=ab (show eK oK rt ⟨#[97]⟩= .ok lH by rw[HRT.out]; exact FU);have HL2:=ab (show eK oK rt ⟨#[100,47,108]⟩= .error 10 by rw[HRT.out]; exact Ft);refine(vf _ (.map (some mb)) oK rt w11 HC11.out (HE.out.below HB11.out).env HRO.out).mono ?_;rintro e w12 ⟨hb12,hl12⟩;rw[HLA.out]at hl12
 obtain⟨rfl,-⟩:=hl12;have HB12:=ab (ah HB11.out hb12);have HC12:=ab (HC11.out.below hb12);have HF12:=ab ((hb12.block _ (lt_of_block HF11.out)).trans HF11.out);have HBL12:=ab (HBL11.out.below hb12);clear hb12 HC11 HF11 HBL11 r0 r1 r2;have r0:=aa (k:=0) HF12.out;have r1:=aa (k:=1) HF12.out;have r2:=aa (k:=2) HF12.out;simp only[aN]at r0 r1 r2;go_wp2_with fail
 refine(qy (by decide) _ (.map (some mb)) rt w12 HC12.out (HE.out.below HB12.out).env HRO.out).mono ?_;rintro e w13 ⟨hb13,hm13⟩;rw[HMI.out]at hm13;obtain⟨mv,rfl,hmv⟩:=hm13;obtain⟨ma,mc,rfl,-,-,-⟩:=aP.shape hmv iG.len;have HMV:=ab hmv;have HB13:=ab (ah HB12.out hb13);have HC13:=ab (HC12.out.below hb13);have HF13:=ab ((hb13.block _ (lt_of_block HF12.out)).trans HF12.out)
 have HBL13:=ab (HBL12.out.below hb13);clear hb13 hmv HC12 HF12 HBL12 r0 r1 r2;have r0:=aa (k:=0) HF13.out;have r1:=aa (k:=1) HF13.out;have r2:=aa (k:=2) HF13.out;simp only[aN]at r0 r1 r2;go_wp2_with fail;refine(kM _ (.map (some mb)) oK rt ⟨#[97]⟩ w13 HC13.out (HE.out.below HB13.out).env HRO.out).mono ?_;rintro e w14 ⟨hb14,hl14⟩;rw[HL1.out]at hl14;obtain⟨lv,rfl,hlv,-⟩:=hl14
 have HB14:=ab (ah HB13.out hb14);have HC14:=ab (HC13.out.below hb14);have HF14:=ab ((hb14.block _ (lt_of_block HF13.out)).trans HF13.out);have HBL14:=ab (HBL13.out.below hb14);have HMV14:=ab (aP.below HMV.out (by omega) hb14 (fun _ _ _ h=>h));obtain⟨la,lc,rfl,-,-,-⟩:=aP.shape hlv iG.len;clear hb14 hlv HC13 HF13 HBL13 HMV r0 r1 r2;unfold fm
 go_upto_region 13 with(fail)
 obtain⟨W15,hW15⟩: ∃W15:World,W15=w14.alloc (.cells #[.string lH.name, .int .i64 lH.kind, .int .i64 lH.mode, .int .i64 lH.time, .int .i64 lH.size, .string lH.link, .slice la lH.chunks.length lc, .string lH.node.name, .int .i64 lH.node.gen, .int .i64 lH.node.size] 28):=⟨_,rfl⟩;rw[<-hW15];have hb15:Below w14.heap.size w14 W15:=by rw[hW15]; exact(Below.refl _ _).alloc (Nat.le_refl _) _
 have HI15:=ab (show W15.heap[w14.heap.size]? =some (.cells #[.string lH.name, .int .i64 lH.kind, .int .i64 lH.mode, .int .i64 lH.time, .int .i64 lH.size, .string lH.link, .slice la lH.chunks.length lc, .string lH.node.name, .int .i64 lH.node.gen, .int .i64 lH.node.size] 28 (0,0)) by rw[hW15]; exact bX w14 _);have HB15:=ab (ah HB14.out hb15);have HC15:=ab (HC14.out.below hb15)
 have HF15:=ab ((hb15.block _ (lt_of_block HF14.out)).trans HF14.out);have HBL15:=ab (HBL14.out.below hb15);have HMV15:=ab (aP.below HMV14.out (by omega) hb15 (fun _ _ _ h=>h));clear hb15 hW15 HC14 HF14 HBL14 HMV14;have r0:=aa (k:=0) HF15.out;have r1:=aa (k:=1) HF15.out;have r2:=aa (k:=2) HF15.out;simp only[aN]at r0 r1 r2;go_wp2_with fail;refine(kM _ (.map (some mb)) oK rt ⟨#[100,47,108]⟩ W15 HC15.out (HE.out.below HB15.out).env HRO.out).mono ?_
 rintro e w16 ⟨hb16,hl16⟩;rw[HL2.out]at hl16;obtain⟨rfl,-⟩:=hl16;have HB16:=ab (ah HB15.out hb16);have HI16:=ab ((hb16.block _ (lt_of_block HI15.out)).trans HI15.out);have HBL16:=ab (HBL15.out.below hb16);have HMV16:=ab (aP.below HMV15.out (by omega) hb16 (fun _ _ _ h=>h));clear hb16 HC15 HF15 HBL15 HMV15 HI15 r0 r1 r2
 go_upto_region 14 with(fail)
 obtain⟨W17,hW17⟩: ∃W17:World,W17=(w16.alloc (.cells #[.string ⟨#[]⟩, .int .i64 0, .int .i64 0, .int .i64 0, .int .i64 0, .string ⟨#[]⟩, .slice none 0 0, .string ⟨#[]⟩, .int .i64 0, .int .i64 0] 28)).drew:=⟨_,rfl⟩;have hb17:Below w16.heap.size w16 W17:=by rw[hW17]; exact((Below.refl _ _).alloc (Nat.le_refl _) _).drew
 have HB17:=ab (ah HB16.out hb17);have hi17:=(hb17.block _ (lt_of_block HI16.out)).trans HI16.out;have i1:=aa (k:=1) hi17;simp only[aN]at i1
 replace i1:W17.cell? ⟨w14.heap.size,1,none⟩=some (.int .i64 1):=i1
 obtain⟨mb2,mo2,rfl,-,p0,p1,p2⟩:=fA HMV16.out hb17 (k:=0) (r:=jZ) rfl;obtain⟨rd,hrd⟩: ∃rd,rd=jZ:=⟨_,rfl⟩;rw[<-hrd]at p0 p1 p2;obtain⟨b9,o9,y9,z9,he9,-,-,q0,q1,q2,-⟩:=kS HBL16.out hb17 (k:=0) (b:=⟨jZ,kH⟩) rfl
 cases he9
 simp only at q0 q1 q2;rw[<-hrd]at q0 q1 q2;simp only[Nat.zero_mul,Nat.add_zero]at p0 p1 p2 q0 q1 q2;clear hi17 hb17 hrd;refine an [some 35] (by kernel_rfl) (by kernel_rfl) (by kernel_rfl) ?_;simp only[be,List.take_succ_cons,List.take_zero];rw[<-hW17];clear hW17
 repeat (first | (refine aF rfl ?_; simp only[Act.put,aB,aC,aD]) | (refine aJ rfl (fun K hK=> ?_); go_simp; refine hK _ ?_; clear hK K))
 refine aI ?_;go_wp2_with fail;go_ret;exact⟨rfl,HB17.out⟩
end Go.Proofs.YtpffpjbkbaleiaaGreatDoor
namespace Go.Proofs.YtpffpjbkbaleiaaGreatDoor
open Go.RowKit
theorem tC (S T:Nat->Prop) (v u:Value) (rs ss:List aL) (w:World) (hv:aQ S w v rs) (hu:aQ T w u ss):
  Calls Tryz.prog 44 #[v,u] w fun e w'=>e= .returned (.bool (decide (rs=ss)))/\Below w.heap.size w w':=by
 obtain⟨a,cap,rfl,hc,hm,-⟩:=aP.shape hv iG.len;obtain⟨a2,cap2,rfl,hc2,hm2,-⟩:=aP.shape hu iG.len;unfold maxLen at hm hm2;have HV:=ab hv;have HU:=ab hu;clear hv hu
 by_cases hl:rs.length=ss.length
 ·have HL:=ab hl;have hl2:ss.length=rs.length:=hl.symm;rw[hl2]at HU hc2 ⊢;clear hl hl2
  go_enter Tryz.func44,Tryz.ntmps44
  go_wp2_with fail
  go_loopw [5] (fun i wr=> ∃k:Nat,k<=rs.length/\i= .int .i64 k/\rs.take k=ss.take k/\Below w.heap.size w wr) (fun i _=>rs.length-(intOf i).toNat)
  case atStart=>exact⟨0,Nat.zero_le _,rfl,by simp,Below.refl _ _⟩
  case round=>
   obtain⟨k,hk,rfl,hn,hb⟩:=hrel;have HN:=ab hn;have HB:=ab hb;clear hn hb
   by_cases hlt:k<rs.length
   ·obtain⟨r,hr⟩: ∃r,rs[k]? =some r:=⟨rs[k],by simp[hlt]⟩;obtain⟨x,hx⟩: ∃x,ss[k]? =some x:=⟨ss[k]'(by have:=HL.out; omega),by simp⟩;have HR:=ab hr;have HX:=ab hx;have heq:=BL r x;obtain⟨W,hW⟩: ∃W:World,W=wr.drew:=⟨_,rfl⟩;have HBW:=ab (show Below w.heap.size w W by rw[hW]; exact HB.out.drew);obtain⟨b,o,rfl,hrok,q0,q1,q2⟩:=fA HV.out HBW.out hr
    obtain⟨b2,o2,rfl,hrok2,p0,p1,p2⟩:=fA (by have:=HU.out; rw[HL.out]at this; exact this) HBW.out hx;unfold bF at heq;clear hr hrok hx hrok2
    by_cases hm:r=x
    ·have e1:decide (r=x)=true:=by simp[hm]
     rw[e1]at heq;have HT:=ab (show rs.take (k+1)=ss.take (k+1) by rw[bz HR.out,bz HX.out,HN.out,hm]);clear e1 hm;go_wp2_with fail;refine an [some 9] (by kernel_rfl) (by kernel_rfl) (by kernel_rfl) ?_;simp only[be,List.take_succ_cons,List.take_zero];rw[<-hW];clear hW
     repeat (first | (refine aF rfl ?_; simp only[Act.put,aB,aC,aD]) | (refine aJ rfl (fun K hK=> ?_); go_simp; refine hK _ ?_; clear hK K))
     refine aI ?_;go_wp2_with fail
     go_roundw
     case rel=>exact⟨k+1,by omega,by go_num,HT.out,HBW.out⟩
     case measure=>simp[intOf]; omega
    ·have e1:decide (r=x)=false:=by simp[hm]
     rw[e1]at heq;have HT:=ab (show decide (rs=ss)=false by
      rw[decide_eq_false_iff_not];intro e;have h1:=HR.out;rw[e,HX.out]at h1;exact hm (Option.some.inj h1).symm)
     clear e1 hm;go_wp2_with fail;refine an [some 9] (by kernel_rfl) (by kernel_rfl) (by kernel_rfl) ?_;simp only[be,List.take_succ_cons,List.take_zero];rw[<-hW];clear hW
     repeat (first | (refine aF rfl ?_; simp only[Act.put,aB,aC,aD]) | (refine aJ rfl (fun K hK=> ?_); go_simp; refine hK _ ?_; clear hK K))
     refine aI ?_;go_wp2_with fail;go_ret;exact⟨am HT.out.symm,HBW.out⟩
   ·obtain rfl:k=rs.length:=by omega
    have HT:=ab (show decide (rs=ss)=true by
     have:=HN.out;rw[List.take_of_length_le (Nat.le_refl _),List.take_of_length_le (by rw[HL.out]; exact Nat.le_refl _)]at this;simp[this])
    go_wp2_with fail;go_ret;exact⟨am HT.out.symm,HB.out⟩
 ·have HT:=ab (show decide (rs=ss)=false by rw[decide_eq_false_iff_not]; intro e; exact hl (by rw[e]));have e1:((rs.length:Int) != (ss.length:Int))=true:=by simp; omega
  clear hl
  go_enter Tryz.func44,Tryz.ntmps44
  go_wp2_with fail;go_ret;exact⟨am HT.out.symm,Below.refl _ _⟩
end Go.Proofs.YtpffpjbkbaleiaaGreatDoor
namespace Go.Proofs.YtpffpjbkbaleiaaGreatDoor
open Go.RowKit
theorem vF (S T:Nat->Prop) (v u:Value) (rs ss:List aL) (b:Bool) (w:World) (hv:aQ S w v rs) (hu:aQ T w u ss) (h:decide (rs=ss)=b):
  Calls Tryz.prog 44 #[v,u] w fun e w'=>e= .returned (.bool b)/\Below w.heap.size w w':=by
 rw[<-h]; exact tC S T v u rs ss w hv hu
theorem tB (S T:Nat->Prop) (x y:az) (cv cu:Value) (w:World) (hv:aQ S w cv x.chunks) (hu:aQ T w cu y.chunks):
  Calls Tryz.prog 30 #[fm cv x,fm cu y] w fun e w'=>e= .returned (.bool (decide (x=y)))/\Below w.heap.size w w':=by
 obtain⟨a,cap,rfl,-,-,-⟩:=aP.shape hv iG.len;obtain⟨a2,cap2,rfl,-,-,-⟩:=aP.shape hu iG.len;have HV:=ab hv;have HU:=ab hu;clear hv hu;unfold fm;have HN:=ab (show ∀x y:ByteArray,x.toList=y.toList->x=y from fun x y h=>fe (by rw[<-ci,<-ci]; exact h));obtain⟨b,hcb⟩: ∃b,b=decide (x.chunks=y.chunks):=⟨_,rfl⟩;have HCB:=ab hcb
 clear hcb
 go_enter Tryz.func30,Tryz.ntmps30
 go_wp2_with fail
 ·have y0:x.name=y.name:=HN.out _ _ (by assumption);have y1:x.kind=y.kind:=by assumption
  have y2:x.mode=y.mode:=by assumption
  have y3:x.time=y.time:=by assumption
  have y4:x.size=y.size:=by assumption
  have y5:x.link=y.link:=HN.out _ _ (by assumption);have y6:x.node.name=y.node.name:=HN.out _ _ (by assumption);have y7:x.node.gen=y.node.gen:=by assumption
  have y8:x.node.size=y.node.size:=by assumption
  have HF:=ab (show decide (x=y)=b by
   rw[HCB.out];have y9:x.node=y.node:=by
    cases hxn:x.node
    cases hyn:y.node
    rw[hxn,hyn]at y6 y7 y8;simp only at y6 y7 y8;rw[y6,y7,y8]
   cases x
   cases y
   simp only at y0 y1 y2 y3 y4 y5 y9;simp[y0,y1,y2,y3,y4,y5,y9])
  clear y0 y1 y2 y3 y4 y5 y6 y7 y8;have HB:=ab (((Below.refl w.heap.size w).alloc (Nat.le_refl _) (.cells #[.string x.name, .int .i64 y.kind, .int .i64 y.mode, .int .i64 y.time, .int .i64 y.size, .string x.link, .slice a x.chunks.length cap, .string x.node.name, .int .i64 y.node.gen, .int .i64 y.node.size] 28)).alloc (by simp) (.cells #[.string y.name, .int .i64 y.kind, .int .i64 y.mode, .int .i64 y.time, .int .i64 y.size, .string y.link, .slice a2 y.chunks.length cap2, .string y.node.name, .int .i64 y.node.gen, .int .i64 y.node.size] 28))
  refine(vF _ _ _ _ x.chunks y.chunks b _ (aP.below HV.out (by omega) HB.out (fun _ _ _ h=>h)) (aP.below HU.out (by omega) HB.out (fun _ _ _ h=>h)) HCB.out.symm).mono ?_;rintro e w1 ⟨rfl,hb1⟩;have HB1:=ab (ah HB.out hb1);clear hb1;go_wp2_with fail;go_ret;exact⟨am HF.out.symm,HB1.out⟩
 all_goals (
  go_ret;refine⟨am ?_,((Below.refl _ _).alloc (Nat.le_refl _) _).alloc (by simp) _⟩
  symm
  rw[decide_eq_false_iff_not];rintro rfl;exact absurd rfl (by assumption))
theorem vE (S T:Nat->Prop) (x y:az) (cv cu:Value) (b:Bool) (w:World) (hv:aQ S w cv x.chunks) (hu:aQ T w cu y.chunks) (h:decide (x=y)=b):
  Calls Tryz.prog 30 #[fm cv x,fm cu y] w fun e w'=>e= .returned (.bool b)/\Below w.heap.size w w':=by
 rw[<-h]; exact tB S T x y cv cu w hv hu
theorem qG (S T:Nat->Prop) (v u:Value) (rs ss:List az) (w:World) (hv:aU S w v rs) (hu:aU T w u ss):
  Calls Tryz.prog 19 #[v,u] w fun e w'=>e= .returned (.bool (decide (rs=ss)))/\Below w.heap.size w w':=by
 obtain⟨a,cap,rfl,hc,hm,-⟩:=aP.shape hv dz.len;obtain⟨a2,cap2,rfl,hc2,hm2,-⟩:=aP.shape hu dz.len;unfold maxLen at hm hm2;have HV:=ab hv;have HU:=ab hu;clear hv hu
 by_cases hl:rs.length=ss.length
 ·have HL:=ab hl;have hl2:ss.length=rs.length:=hl.symm;rw[hl2]at HU hc2 ⊢;clear hl hl2
  go_enter Tryz.func19,Tryz.ntmps19
  go_wp2_with fail
  go_loopw [5] (fun i wr=> ∃k:Nat,k<=rs.length/\i= .int .i64 k/\rs.take k=ss.take k/\Below w.heap.size w wr) (fun i _=>rs.length-(intOf i).toNat)
  case atStart=>exact⟨0,Nat.zero_le _,rfl,by simp,Below.refl _ _⟩
  case round=>
   obtain⟨k,hk,rfl,hn,hb⟩:=hrel;have HN:=ab hn;have HB:=ab hb;clear hn hb
   by_cases hlt:k<rs.length
   ·obtain⟨r,hr⟩: ∃r,rs[k]? =some r:=⟨rs[k],by simp[hlt]⟩;obtain⟨x,hx⟩: ∃x,ss[k]? =some x:=⟨ss[k]'(by have:=HL.out; omega),by simp⟩;have HR:=ab hr;have HX:=ab hx;obtain⟨W,hW⟩: ∃W:World,W=wr.drew:=⟨_,rfl⟩;have HBW:=ab (show Below w.heap.size w W by rw[hW]; exact HB.out.drew);obtain⟨b,o,ca,cc,rfl,hok,hrf,hbl,-,hcl⟩:=dM HV.out HBW.out hr;obtain⟨b2,o2,ca2,cc2,rfl,hok2,hrf2,hbl2,-,hcl2⟩:=dM (by have:=HU.out; rw[HL.out]at this; exact this) HBW.out hx
    have HRF:=ab hrf;have HRF2:=ab hrf2;have q0:=hcl 0 (by omega);have q1:=hcl 1 (by omega);have q2:=hcl 2 (by omega);have q3:=hcl 3 (by omega);have q4:=hcl 4 (by omega);have q5:=hcl 5 (by omega);have q6:=hcl 6 (by omega);have q7:=hcl 7 (by omega);have q8:=hcl 8 (by omega);have q9:=hcl 9 (by omega);simp only[cL,AY,Nat.add_zero]at q0 q1 q2 q3 q4 q5 q6 q7 q8 q9;have p0:=hcl2 0 (by omega)
    have p1:=hcl2 1 (by omega);have p2:=hcl2 2 (by omega);have p3:=hcl2 3 (by omega);have p4:=hcl2 4 (by omega);have p5:=hcl2 5 (by omega);have p6:=hcl2 6 (by omega);have p7:=hcl2 7 (by omega);have p8:=hcl2 8 (by omega);have p9:=hcl2 9 (by omega);simp only[cL,AY,Nat.add_zero]at p0 p1 p2 p3 p4 p5 p6 p7 p8 p9;clear hr hx hok hok2 hrf hrf2 hcl hcl2;obtain⟨bq,hbq⟩: ∃bq,bq=decide (r=x):=⟨_,rfl⟩
    have HBQ:=ab hbq;clear hbq;go_wp2_with fail;refine an [some 8,none,some 1] (by kernel_rfl) (by kernel_rfl) (by kernel_rfl) ?_;simp only[be,List.take_succ_cons,List.take_zero,List.drop_succ_cons,List.drop_zero];rw[<-hW];clear hW
    repeat (first | (refine aF rfl ?_; simp only[Act.put,aB,aC,aD]) | (refine aJ rfl (fun K hK=> ?_); go_simp; refine hK _ ?_; clear hK K))
    refine aI ?_;refine bA rfl (fun K hK=> ?_);go_wp2_with (go_at_call 30; refine(vE S T r x (.slice ca r.chunks.length cc) (.slice ca2 x.chunks.length cc2) bq _ HRF.out HRF2.out HBQ.out.symm).mono ?_; rintro e w1 ⟨rfl,hb1⟩);have HB1:=ab (ah HBW.out hb1);clear hb1
    repeat (first | (refine aF rfl ?_; simp only[Act.put,aB,aC,aD]) | (refine aJ rfl (fun K hK=> ?_); go_simp; refine hK _ ?_; clear hK K))
    refine aI ?_
    cases bq
    ·have HT:=ab (show decide (rs=ss)=false by
      rw[decide_eq_false_iff_not];intro e;have h1:=HR.out;rw[e,HX.out]at h1;exact(decide_eq_false_iff_not.1 HBQ.out.symm) (Option.some.inj h1).symm)
     go_wp2_with fail;go_ret;exact⟨am HT.out.symm,HB1.out⟩
    ·have HT:=ab (show rs.take (k+1)=ss.take (k+1) by rw[bz HR.out,bz HX.out,HN.out,of_decide_eq_true HBQ.out.symm]);go_wp2_with fail
     go_roundw
     case rel=>exact⟨k+1,by omega,by go_num,HT.out,HB1.out⟩
     case measure=>simp[intOf]; omega
   ·obtain rfl:k=rs.length:=by omega
    have HT:=ab (show decide (rs=ss)=true by
     have:=HN.out;rw[List.take_of_length_le (Nat.le_refl _),List.take_of_length_le (by rw[HL.out]; exact Nat.le_refl _)]at this;simp[this])
    go_wp2_with fail;go_ret;exact⟨am HT.out.symm,HB.out⟩
 ·have HT:=ab (show decide (rs=ss)=false by rw[decide_eq_false_iff_not]; intro e; exact hl (by rw[e]));have e1:((rs.length:Int) != (ss.length:Int))=true:=by simp; omega
  clear hl
  go_enter Tryz.func19,Tryz.ntmps19
  go_wp2_with fail;go_ret;exact⟨am HT.out.symm,Below.refl _ _⟩
end Go.Proofs.YtpffpjbkbaleiaaGreatDoor
namespace Go.Proofs.YtpffpjbkbaleiaaGreatDoor
open Go.RowKit
theorem xD (n:Nat):dX n<9223372036854775808:=by unfold dX wrap64; omega
theorem wV {data:List UInt8} {nm:List UInt8} {kd md td:Nat} {s s':RS} {it:az} (h:dE data nm kd md td s=some (it,s')):it.time<9223372036854775808:=by
 unfold dE at h
 split at h
 ·simp only[Option.some.injEq,Prod.mk.injEq]at h;rw[<-h.1];exact xD td
 ·split at h
  ·simp only[Option.some.injEq,Prod.mk.injEq]at h;rw[<-h.1];exact xD td
  ·split at h
   ·simp only[Option.some.injEq,Prod.mk.injEq]at h;rw[<-h.1];exact xD td
   ·cases h
theorem ng {data:List UInt8} {s0:RS} : ∀(k:Nat) (l:List az) (s:RS),bZ data s0 k=some (l,s)-> ∀it∈l,it.time<9223372036854775808
 | 0,l,s,h=>by
  simp only[bZ,Option.some.injEq,Prod.mk.injEq]at h;obtain⟨rfl,rfl⟩:=h;intro it hit
  cases hit
 | k+1,l,s,h=>by
  cases hk:bZ data s0 k with
  | none=>rw[dF,hk]at h; cases h
  | some p=>
   obtain⟨l1,s1⟩:=p
   cases hi:dl data s1 with
   | none=>rw[gY hk hi]at h; cases h
   | some q=>
    obtain⟨it,s2⟩:=q;rw[eU hk hi]at h;simp only[Option.some.injEq,Prod.mk.injEq]at h;obtain⟨rfl,rfl⟩:=h;intro x hx
    rcases List.mem_append.1 hx with hx | hx
    ·exact ng k l1 s1 hk x hx
    ·obtain rfl:=List.mem_singleton.1 hx;exact wV hi
theorem uM {data:List UInt8} {l:List az} (h:bm data=some l): ∀it∈l,it.time<9223372036854775808:=by
 by_cases hb:32768<data.length
 ·rw[jm hb]at h; cases h
 ·obtain⟨n,s1,e1⟩: ∃n s1,jC data 4096 ⟨0,0,0⟩=(n,s1):=⟨_,_,rfl⟩
  cases e2:bZ data s1 n with
  | none=>rw[jR hb e1 e2]at h; cases h
  | some p=>
   obtain⟨l2,s2⟩:=p;rw[jS hb e1 e2]at h
   split at h
   ·simp only[Option.some.injEq]at h;subst h;exact ng n l2 s2 e2
   ·cases h
theorem wY (S:Nat->Prop) (data:List UInt8) (v:Value) (w:World) (hv:aw S w v data) (he:gm w) (h:bm data=none):Calls Tryz.prog 18 #[v] w fun e w'=>e= .returned (.tuple #[.slice none 0 0, .int .i64 3])/\Below w.heap.size w w':=by
 refine(kt S data v w hv he).mono ?_;rintro e w' ⟨hb,hr⟩;rw[h]at hr;exact⟨hr,hb⟩
theorem wZ (S:Nat->Prop) (data:List UInt8) (v:Value) (l:List az) (w:World) (hv:aw S w v data) (he:gm w) (h:bm data=some l):Calls Tryz.prog 18 #[v] w fun e w'=> ∃a c,e= .returned (.tuple #[.slice a l.length c, .int .i64 0])/\aU (w.heap.size<= ·) w' (.slice a l.length c) l/\l.length<=c/\c<=maxLen/\Below w.heap.size w w':=by
 refine(kt S data v w hv he).mono ?_;rintro e w' ⟨hb,hr⟩;rw[h]at hr;obtain⟨u,rfl,hu⟩:=hr;obtain⟨a,c,rfl,hc,hm,-⟩:=aP.shape hu dz.len;exact⟨a,c,rfl,hu,hc,hm,hb⟩
theorem sW (S:Nat->Prop) (data:List UInt8) (v:Value) (w:World) (hv:aw S w v data) (h:bm data=none):Calls Tryz.prog 20 #[v] w fun e w'=>e= .returned (.tuple #[.slice none 0 0, .bool false])/\Below w.heap.size w w':=by
 refine(nb S data v w hv).mono ?_;rintro e w' ⟨hb,hr⟩;rw[h]at hr;exact⟨hr,hb⟩
theorem sX (S:Nat->Prop) (data:List UInt8) (v:Value) (l:List az) (w:World) (hv:aw S w v data) (h:bm data=some l):Calls Tryz.prog 20 #[v] w fun e w'=> ∃a c,e= .returned (.tuple #[.slice a l.length c, .bool true])/\aU (w.heap.size<= ·) w' (.slice a l.length c) l/\l.length<=c/\c<=maxLen/\Below w.heap.size w w':=by
 refine(nb S data v w hv).mono ?_;rintro e w' ⟨hb,hr⟩;rw[h]at hr;obtain⟨u,rfl,hu⟩:=hr;obtain⟨a,c,rfl,hc,hm,-⟩:=aP.shape hu dz.len;exact⟨a,c,rfl,hu,hc,hm,hb⟩
theorem En (S:Nat->Prop) (l:List az) (v:Value) (w:World) (hv:aU S w v l) (he:gm w) (hvn:bV l=true) (hsm:(cF l).length<=32768) (htm: ∀it∈l,it.time<9223372036854775808):
  Calls Tryz.prog 15 #[v] w fun e w'=> ∃a c,e= .returned (.tuple #[.slice a (cF l).length c, .int .i64 0])/\aw (w.heap.size<= ·) w' (.slice a (cF l).length c) (cF l)/\(cF l).length<=c/\c<=maxLen/\Below w.heap.size w w':=by
 refine(no S l v w hv he (by omega) htm).mono ?_;rintro e w' ⟨hb,hr⟩;rw[if_pos hvn,if_pos hsm]at hr;obtain⟨u,rfl,hu⟩:=hr;have hby:aw (w.heap.size<= ·) w' u (cF l):=(bh hu).weak (fun _ hk=>hk.1);obtain⟨_,a,c,rfl,hc,hm,-⟩:=id hby
 exact⟨a,c,rfl,hby,hc,hm,hb⟩
theorem Ca (v:Value) (data:List UInt8) (w:World) (he:kP w) (hv:aw (fun _=>True) w v data):
  Calls Tryz.prog 4 #[v] w fun e w'=>e= .returned (.bool true)/\Below w.heap.size w w':=by
 obtain⟨_,a,cap,rfl,hn,hm,-⟩:=id hv;unfold maxLen at hm;have HE:=ab he;have HV:=ab hv;clear he hv
 by_cases hbig:2000<data.length
 ·go_enter Tryz.func4,Tryz.ntmps4
  go_wp2_with fail;refine(mM _ HE.out).mono ?_;rintro e w1 ⟨rfl,hb1⟩;go_wp2_with fail;go_ret;exact⟨rfl,hb1⟩
 ·go_enter Tryz.func4,Tryz.ntmps4
  go_wp2_with fail;refine(mM _ HE.out).mono ?_;rintro e w1 ⟨rfl,hb1⟩;have HB1:=ab hb1;have HV1:=ab (aM.below HV.out (by omega) HB1.out);clear hb1;go_wp2_with fail
  cases hp:bm data with
  | none=>
   have HP:=ab hp;clear hp;refine(wY _ data _ _ HV1.out (HE.out.below HB1.out).env HP.out).mono ?_;rintro e w2 ⟨rfl,hb2⟩;have HB2:=ab (ah HB1.out hb2);have HV2:=ab (aM.below HV1.out (by omega) hb2);clear hb2;go_wp2_with fail;refine(sW _ data _ _ HV2.out HP.out).mono ?_;rintro e w3 ⟨rfl,hb3⟩;have HB3:=ab (ah HB2.out hb3);clear hb3;go_wp2_with fail
   go_ret;exact⟨rfl,HB3.out⟩
  | some l=>
   have HP:=ab hp;have HNB:=ab (Cp hp);have HTM:=ab (uM hp);clear hp;refine(wZ _ data _ l _ HV1.out (HE.out.below HB1.out).env HP.out).mono ?_;rintro e w2 ⟨ia,ic,rfl,hi,hic,him,hb2⟩;have HB2:=ab (ah HB1.out hb2);have HV2:=ab (aM.below HV1.out (by omega) hb2);have HI2:=ab hi;unfold maxLen at him;clear hb2 hi;go_wp2_with fail;refine(sX _ data _ l _ HV2.out HP.out).mono ?_
   rintro e w3 ⟨ja,jc,rfl,hj,hjc,hjm,hb3⟩;have HB3:=ab (ah HB2.out hb3);have HV3:=ab (aM.below HV2.out (by omega) hb3);have HI3:=ab (aU.below HI2.out hb3);have HJ3:=ab hj;unfold maxLen at hjm;clear hb3 hj;go_wp2_with fail;refine(En _ l _ _ HI3.out (HE.out.below HB3.out).env HNB.out.2 (by rw[HNB.out.1]; omega) HTM.out).mono ?_;rintro e w4 ⟨na,nc,rfl,hnb,hnc,hnm,hb4⟩
   have HB4:=ab (ah HB3.out hb4);have HV4:=ab (aM.below HV3.out (by omega) hb4);have HI4:=ab (aU.below HI3.out hb4);have HJ4:=ab (aU.below HJ3.out hb4);rw[HNB.out.1]at hnb hnc ⊢;have HN4:=ab hnb;unfold maxLen at hnm;clear hb4 hnb;go_wp2_with fail;refine(qG _ _ _ _ l l _ HI4.out HJ4.out).mono ?_;rintro e w5 ⟨rfl,hb5⟩;rw[show decide (l=l)=true from decide_eq_true rfl]
   have HB5:=ab (ah HB4.out hb5);have hcv:=gA (aM.below HV4.out (by omega) hb5);have hcn:=gA (aM.below HN4.out (by omega) hb5);clear hb5;go_wp2_with fail;go_ret;exact⟨rfl,HB5.out⟩
end Go.Proofs.YtpffpjbkbaleiaaGreatDoor
namespace Go.Proofs.YtpffpjbkbaleiaaGreatDoor
open Go.ChangeShapes Go.WideShapes Go.ChangeAt Go.RowKit Go.Lib Go.Shelf
open Go.ChangeMaps (open_string shut_string)
section
variable {H : Type} {enc : TypeId × Value → H}
theorem Fm {a:Assume} {C:Checked} {os:Os} {f:FuncId} {fn:Func} {s:ChangeSpec} {conds:List PathCond} {apart fresh handsOn again:Bool} {X:World->Array Value->Prop}
  (hX: ∀(w w':World) (args:Array Value),w.heap=w'.heap->X w args->X w' args)
  (own:ownKnob C.prog.godebug=none) (started:os.Started) (noInit:C.prog.inits.idxOf? f=none) (hfn:C.prog.funcs[f]? =some fn)
  (witness: ∃(w:World) (tape:Tape) (i:Input),w.os=os/\(w.forCall tape i).Shaped C.prog/\i.vars=[]/\Input.okWide C.prog (w.forCall tape i) .any w.heap.size f i/\
   ((s.pre enc C.prog fn conds apart (w.forCall tape i).memory i.args/\X (w.forCall tape i).memory i.args)/\sizedMet enc C.prog fn (OpenSpec.ofChange s) apart (w.forCall tape i).memory i.args)/\a.holds C.prog (lone (Frame.enter C.prog f i.args .normal) [] (w.forCall tape i)))
  (contract: ∀(W:World) (base:Nat) (args:Array Value) (ds gs:List (DataW H)) (before:List MemPlace),
   (∀(j:Nat) t v,fn.params[j]? =some t->args[j]? =some v->Value.okWide C.prog W .any base t v)->
   DataW.Whole enc C.prog fn.params.toList s.vars apart W args.toList ds gs before->
   (DataW.weightsEach C.prog (fn.params.toList++s.plain.varTypes C.prog) (ds++gs)).all (· <=reachBytes)=true->X W args->W.ShapedOpen C.prog->
   Calls C.prog f args W fun e W'=> ∃v,e= .returned v/\s.post enc C.prog fn apart fresh handsOn again W args v W'):
  ReturnsInHanded a C os f .any (fun w args=>(s.pre enc C.prog fn conds apart w args/\X w args)/\sizedMet enc C.prog fn (OpenSpec.ofChange s) apart w args) (s.post enc C.prog fn apart fresh handsOn again):=by
 refine returnsInHanded_of_calls own started noInit witness ?_;intro w tape i _ hsh _ hok hpre hholds;obtain⟨_,_,_,fn',hfn',_,_,_,_,hval⟩:=hok;have e:fn'=fn:=Option.some.inj (hfn'.symm.trans hfn);subst e;obtain⟨⟨⟨ds,gs,before,hw,hc⟩,hx⟩,hz⟩:=hpre;have hw':=DataW.Whole.of_heap (w':=w.forCall tape i) (by rfl) hw;refine(contract (w.forCall tape i) w.heap.size i.args ds gs before hval hw' (hz.weights hw) (hX _ _ _ (by rfl) hx) hsh).mono fun e W' ⟨v,he,hp⟩=> ?_
 subst he;exact ChangeSpec.post_blind hp
end
def uT :List (String×DataW Unit):=[("math/bits.deBruijn64tab",Rows.laid_math_bits_deBruijn64tab),("kinkeep/sha256.initial",Rows.laid_kinkeep_sha256_initial),("kinkeep/sha256.constants",Rows.laid_kinkeep_sha256_constants),("kinkeep/hmac.pads",Rows.laid_kinkeep_hmac_pads),("unicode/utf8.acceptRanges",Rows.laid_unicode_utf8_acceptRanges),("unicode/utf8.first",Rows.laid_unicode_utf8_first)]
theorem own :ownKnob Tryz.prog.godebug=none:=by kernel_rfl
theorem yT :(Rows.laid_unicode_utf8_acceptRanges:DataW Unit)=acceptData:=by kernel_rfl
theorem zg :(Rows.laid_math_bits_deBruijn64tab:DataW Unit)=tabData .u8 (Lib.deBruijn64tab.map fun(n:Nat)=>(n:Int)):=by kernel_rfl
theorem wL :(Rows.laid_kinkeep_sha256_initial:DataW Unit)=tabData .u32 (mE.list.map fun(n:Nat)=>(n:Int)):=by kernel_rfl
theorem sO :(Rows.laid_kinkeep_sha256_constants:DataW Unit)=tabData .u32 (kc.map fun(n:Nat)=>(n:Int)):=by kernel_rfl
theorem Eu :(Rows.laid_kinkeep_hmac_pads:DataW Unit)=tabData .u8 [54,92]:=by kernel_rfl
theorem kE {P:Program} {w:World} {n:String} {k:IntKind} {zs:List Int} {g:Nat} {t e:TypeId} {N:Nat} (hg:P.globalNamed n=some g) (hty:(P.globals[g]?).map (·.type)=some t)
  (ht:P.underlying t=some (.array N e)) (he:P.underlying e=some (.int k)) (hce:P.cellsOf e=1) (hct:P.cellsOf t=N) (h:VarReads P w n (tabData k zs)) (j:Nat):w.cell? ⟨g,j,none⟩=(zs.map fun z=>Value.int k z)[j]? :=by
 obtain⟨g',t',cs,fuel,p,hg',hty',hvar,hd⟩:=h;obtain rfl:=Option.some.inj (hg.symm.trans hg');obtain rfl:=Option.some.inj (hty.symm.trans hty');rw[World.var?_cell hg hvar j,<-Array.getElem?_toList,cells_of_tab ht he hce hct hd]
theorem nQ {w:World} {b k:Nat} {v:Value} (h:w.cell? ⟨b,k,none⟩=some v):b<w.heap.size:=by
 by_cases hb:b<w.heap.size
 ·exact hb
 ·exfalso
  have:w.heap[b]? =none:=Array.getElem?_eq_none (by omega);simp[World.cell?,this]at h
theorem Fl {W:World} (hL:laidMetH Tryz.prog uT W) (hsh:W.ShapedOpen Tryz.prog):kP W:=by
 rw[MakeChecks.laidMetH_plain _ _ _ (by kernel_rfl)]at hL;have h1:=Lib.laidMet.reads hL (.head _);have h2:=Lib.laidMet.reads hL (.tail _ (.head _));have h3:=Lib.laidMet.reads hL (.tail _ (.tail _ (.head _)));have h4:=Lib.laidMet.reads hL (.tail _ (.tail _ (.tail _ (.head _))));have h5:=Lib.laidMet.reads hL (.tail _ (.tail _ (.tail _ (.tail _ (.head _)))));have h6:=Lib.laidMet.reads hL (.tail _ (.tail _ (.tail _ (.tail _ (.tail _ (.head _))))))
 rw[zg]at h1;rw[wL]at h2;rw[sO]at h3;rw[Eu]at h4;rw[yT]at h5;have c1:=kE (g:=6) (t:=213) (e:=5) (N:=64) (by kernel_rfl) (by kernel_rfl) (by kernel_rfl) (by kernel_rfl) (by kernel_rfl) (by kernel_rfl) h1;have c2:=kE (g:=2) (t:=216) (e:=215) (N:=8) (by kernel_rfl) (by kernel_rfl) (by kernel_rfl) (by kernel_rfl) (by kernel_rfl) (by kernel_rfl) h2
 have c3:=kE (g:=5) (t:=252) (e:=215) (N:=64) (by kernel_rfl) (by kernel_rfl) (by kernel_rfl) (by kernel_rfl) (by kernel_rfl) (by kernel_rfl) h3;have c4:=kE (g:=0) (t:=221) (e:=5) (N:=2) (by kernel_rfl) (by kernel_rfl) (by kernel_rfl) (by kernel_rfl) (by kernel_rfl) (by kernel_rfl) h4;have hp0:W.cell? ⟨0,0,none⟩=some (.int .u8 54):=c4 0;have hp1:W.cell? ⟨0,1,none⟩=some (.int .u8 92):=c4 1
 have hI:il W:=fun j x hj=>by
  rw[c2 j];simp[hj,fK]
 have hK:fo W:=fun j x hj=>by
  rw[c3 j];simp[hj,fK]
 have hD:TabAt 6 Lib.deBruijn64tab W:=fun j hj=>by
  rw[c1 j];simp[hj]
 have hi0:=hI 0 0x6a09e667 rfl;have hk0:=hK 0 0x428a2f98 rfl;have hd0:=hD 0 (by decide);refine⟨⟨?_, ?_⟩,⟨hI,hK,⟨hp0,hp1⟩,nQ hi0,nQ hk0,nQ hp0⟩,⟨hD,nQ hd0⟩⟩
 ·exact cell_of_shapedOpen_int (zero:= #[.int .i64 0]) (t:=3) hsh (of_decide_eq_true (by kernel_rfl)) (by kernel_rfl) rfl (by kernel_rfl) (by kernel_rfl) Tryz.underlying3
 ·exact utf8Tabs_of_readsT (U8Types.of196 Tryz.laysValid) ⟨by kernel_rfl,by kernel_rfl,by kernel_rfl,by kernel_rfl,by kernel_rfl,by kernel_rfl,by kernel_rfl⟩ (Pinned.utf8First_eq▸h6) h5
end Go.Proofs.YtpffpjbkbaleiaaGreatDoor
namespace Go.Proofs.YtpffpjbkbaleiaaGreatDoor
open Go Go.RowKit Go.Maps Go.MapKept
theorem bu.len {S:Nat->Prop} {w:World} : ∀ {m:List (Value×Value)} {cs:List (ByteArray×List UInt8)},bu S w m cs->m.length=cs.length
 | [],[],_=>rfl
 | [],_::_,h=>False.elim h
 | _::_,[],h=>False.elim h
 | (_,_)::_,(_,_)::_,h=>by simp[bu.len h.2.2]
theorem bu.vals {S:Nat->Prop} {w:World} : ∀ {m:List (Value×Value)} {cs:List (ByteArray×List UInt8)},bu S w m cs-> ∀p∈m,∃n bs,p.1= .string n/\aw S w p.2 bs
 | [],[],_,_,hp=>by simp at hp
 | [],_::_,h,_,_=>False.elim h
 | _::_,[],h,_,_=>False.elim h
 | (k,v)::m,(n,bs)::cs,h,p,hp=>by
  rcases List.mem_cons.1 hp with rfl | hp
  ·exact⟨n,bs,h.1,h.2.1⟩
  ·exact bu.vals h.2.2 p hp
end Go.Proofs.YtpffpjbkbaleiaaGreatDoor
namespace Go.Proofs.YtpffpjbkbaleiaaGreatDoor
open Go.ChangeShapes Go.WideShapes Go.ChangeAt Go.RowKit Go.Lib Go.Shelf
section
variable {H : Type} {enc : TypeId × Value → H} {P : Program} {W : World} {base : Nat}
theorem DO (a:Addr) (i j:Nat):(a.add i).add j=a.add (i+j):=by
 unfold Addr.add
 by_cases hi:i=0
 ·simp[hi]
 ·by_cases hj:j=0
  ·simp[hi,hj]
  ·simp[hi,hj]; omega
theorem CP {α:Type} {R:List Value->α->Prop} {t e:TypeId} {sz:Nat} {spare:Nat->Bool} {held:Bool} {fuel:Nat} {cs0:List Value} {y0:DataW H×List MemPlace} (ht:P.underlying t=some (.slice e)) (hc:P.cellsOf e=sz) (hpos:0<sz)
  (hR: ∀n cs y,DataW.trod enc P W base spare held n e cs=some y-> ∃x,R cs x) (hs: ∀c x,R c x->c.length=sz)
  (hf:DataW.trod enc P W base spare held fuel t cs0=some y0): ∃v,cs0=[v]/\ ∃xs:List α,aP (fun _=>True) W sz R v xs:=by
 rcases DataW.trod_slice ht hf with⟨hcs,_⟩ | ⟨a,len0,cap0,elems,rest,n,_,hcs,_,hb,hl,hm,hlen,hel,_,_⟩
 ·exact⟨_,hcs,[],aP.nil⟩
 ·refine⟨_,hcs, ?_⟩;rw[hc]at hel;have each: ∀i,i<len0-> ∃cs x,R cs x/\cs.length=sz/\ ∀j,j<sz->W.cell? (a.add (i*sz+j))=cs[j]? :=by
   intro i hi;have h1:=hel i hi;rw[List.getElem?_eq_getElem (by omega),Option.bind_eq_some_iff]at h1;obtain⟨cs,hcs,hy⟩:=h1;obtain⟨x,hx⟩:=hR n cs _ hy;refine⟨cs,x,hx,hs cs x hx,fun j hj=> ?_⟩;have h3:=World.cells?_some hcs;rw[<-DO];exact h3.2.2 j hj
  have main: ∀m,m<=len0-> ∃(cells:List Value) (xs:List α),xs.length=m/\cells.length=m*sz/\bM R cells xs/\ ∀(j:Nat) u,cells[j]? =some u->W.cell? (a.add j)=some u:=by
   intro m
   induction m with
   | zero=>intro _; exact⟨[],[],rfl,by simp,rfl,fun j u hj=>by simp at hj⟩
   | succ m ih=>
    intro hm;obtain⟨cells,xs,h1,h2,h3,h4⟩:=ih (by omega);obtain⟨cs,x,hx,hcl,hcc⟩:=each m (by omega);refine⟨cells++cs,xs++[x],by simp[h1],by rw[List.length_append,h2,hcl,Nat.add_mul]; omega,bM.snoc h3 hx,fun j u hj=> ?_⟩
    rcases Nat.lt_or_ge j cells.length with hj2 | hj2
    ·rw[List.getElem?_append_left hj2]at hj; exact h4 j u hj
    ·rw[List.getElem?_append_right hj2]at hj;have hlt:=(List.getElem?_eq_some_iff.1 hj).1;have:=hcc (j-cells.length) (by omega);rw[h2,show m*sz+(j-m*sz)=j by omega]at this;rw[this,<-h2]; exact hj
  obtain⟨cells,xs,h1,h2,h3,h4⟩:=main len0 (Nat.le_refl _);subst h1;refine⟨xs,cells,⟨h2,some a,cap0,rfl,hl,hm, ?_⟩,h3⟩
  rcases Nat.eq_zero_or_pos xs.length with h0 | h0
  ·exact .inl h0
  ·right
   have hpl:0<cells.length:=by rw[h2]; exact Nat.mul_pos h0 hpos
   have hc0:=h4 0 cells[0] (by simp[hpl]);have hsp:a.spot=none:=by simpa [Addr.add]using World.cell?_spot hc0
   obtain⟨b,o,sp⟩:=a;simp only at hsp;subst hsp;refine⟨b,o,rfl,trivial,fun j u hj=> ?_⟩;have:=h4 j u hj;rw[nP]at this; exact this
end
section
variable {H : Type} {enc : TypeId × Value → H} {W : World} {base b0 : Nat} {spare : Nat → Bool} {held : Bool} {v : Value} {d : DataW H} {ps : List MemPlace}
theorem DS :Tryz.prog.cellsOf 5=1:=by kernel_rfl
def tP (c:List Value) (b:UInt8):Prop:=c=[au b]
theorem Ac {n:Nat} {cs:List Value} {y:DataW H×List MemPlace} (h:DataW.trod enc Tryz.prog W base spare held n 5 cs=some y): ∃b,tP cs b:=by
 obtain⟨a,e,_,hw⟩:=DataW.trod_int Tryz.underlying5 h;have h1:0<=a/\a<=255:=by
  simp only[Lit.wf,Bool.and_eq_true,decide_eq_true_eq]at hw;exact⟨hw.1,hw.2⟩
 refine⟨UInt8.ofNat a.toNat, ?_⟩;unfold tP;rw[iK (by omega),e,Int.toNat_of_nonneg h1.1]
theorem sM {S:Nat->Prop} {w:World} {v:Value} {bs:List UInt8} (h:aP S w 1 tP v bs):aw S w v bs:=by
 obtain⟨cells,h1,h2⟩:=h;have: ∀(bs:List UInt8) (cells:List Value),bM tP cells bs->cells=bs.map au:=by
  intro bs
  induction bs with
  | nil=>intro cells h; exact h
  | cons x bs ih=>
   rintro cells ⟨c,rest,rfl,hc,hr⟩;rw[ih rest hr,show c=[au x]from hc]; rfl
 rw[this bs cells h2]at h1;exact h1
theorem xt {n:Nat} {cs:List Value} {y:DataW H×List MemPlace} (h:DataW.trod enc Tryz.prog W base spare held n 29 cs=some y): ∃v,cs=[v]/\ ∃bs,aw (fun _=>True) W v bs:=by
 obtain⟨v,h1,bs,h2⟩:=CP (R:=tP) Tryz.underlying29 DS (by omega) (fun n cs y hy=>Ac hy) (fun c x hc=>by rw[show c=[au x]from hc]; rfl) h;exact⟨v,h1,bs,sM h2⟩
theorem xk (hval:Value.okWide Tryz.prog W .any b0 29 v) (h:DataW.Trod enc Tryz.prog W base spare held 29 v d ps): ∃bs,aw (fun _=>True) W v bs:=by
 obtain⟨a0,len0,cap0,rfl⟩:=okWide_slice Tryz.underlying29 hval;obtain⟨fuel,hf⟩:=h;obtain⟨u,h1,h2⟩:=xt hf;simp[Value.cells]at h1;subst h1;exact h2
end
end Go.Proofs.YtpffpjbkbaleiaaGreatDoor
