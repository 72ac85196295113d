/- Texts of this proof, one after the other: Refs24, AwP, BldF, BldG, AwQ, AwR, LookB, AwS, Few, Few24, Luk24. -/
import Derived.Test.YtpffpjbkbaleiaaGreatDoorCLookupsG
set_option maxRecDepth 100000
set_option maxHeartbeats 8000000
namespace Go.Proofs.YtpffpjbkbaleiaaGreatDoor
open Go Go.RowKit Go.Maps
theorem xk {cs:List (ByteArray×List UInt8)} {r:aI} {l:List az} (h:eT cs r= .ok l) {it:az} (hit:it∈l): ∀c∈jG it,c∈kS cs:=by
 unfold eT at h
 cases hn:cE cs r with
 | error x=>
  rw[hn]at h;simp only at h
  split at h
  ·simp only[Except.ok.injEq]at h; subst h; simp at hit
  ·simp at h
 | ok l'=>
  rw[hn]at h;simp only[Except.ok.injEq]at h;subst h;exact xf hn hit
theorem pX {cs:List (ByteArray×List UInt8)} {U:List aI} (hU: ∀c∈kS cs,c∈U): ∀n,EV U (et (eT cs) n) n
 | 0=>fun r st hr hi hn=>by
  have:=lN hi.e1 hi.e2;omega
 | n+1=>fun r st hr hi hn=>by
  have hm:qc U (st.1,bh r st.2):=⟨hi.e1,hi.e2,jM hi.l1,fun x hx=>by
   rcases lJ.1 hx with hx | rfl
   ·exact hi.l2 x hx
   ·exact hr⟩
  rw[et]
  split
  ·exact⟨0,_,rfl,hm,Nat.le_refl _⟩
  ·rename_i hne;have he:qc U (st.1++[r],bh r st.2):=⟨List.nodup_append.2 ⟨hi.e1,by simp,fun a ha b hb e=>by simp only[List.mem_singleton]at hb; subst hb e; exact hne ha⟩,fun x hx=>by
    rcases List.mem_append.1 hx with hx | hx
    ·exact hi.e2 x hx
    ·simp only[List.mem_singleton]at hx; subst hx; exact hr,hm.l1,hm.l2⟩
   cases hv:eT cs r with
   | error x=>exact⟨x,_,rfl,he,by simp⟩
   | ok l=>
    obtain⟨x,st',h1,h2,h3⟩:=lf (pX hU n) l (st.1++[r],bh r st.2) (fun it hit c hc=>hU c (xk hv hit c hc)) he (by simp; omega);exact⟨x,st',h1,h2,by simp at h3; omega⟩
theorem pA (cs:List (ByteArray×List UInt8)) (r:aI): ∃x st',et (eT cs) (mR cs) r ([],[])=some (x,st')/\qc (r::kS cs) st':=by
 obtain⟨x,st',h1,h2,_⟩:=pX (cs:=cs) (U:=r::kS cs) (fun c hc=>by simp[hc]) (mR cs) r ([],[]) (by simp) ⟨by simp,by simp,by simp,by simp⟩ (by simp[mR]);exact⟨x,st',h1,h2⟩
def yr (cs:List (ByteArray×List UInt8)) (r:aI):Except Int (List aI):=(lL (eT cs) (mR cs) r).getD (.error 0)
def Ch (cs:List (ByteArray×List UInt8)) (r:aI):Except Int (List aI):=EY cs (yr cs r)
theorem py {cs:List (ByteArray×List UInt8)} (h:cs.length<=80) (r:aI):lL (eT cs) (mR cs) r=some (yr cs r)/\ ∀p,et (eT cs) (mR cs) r ([],[])=some p->p.2.2.length<=1000000000:=by
 obtain⟨x,st',h1,h2⟩:=pA cs r;refine⟨?_,fun p hp=> ?_⟩
 ·unfold yr;have: ∃y,lL (eT cs) (mR cs) r=some y:=by
   unfold lL
   split
   ·rw[h1]; exact⟨_,rfl⟩
   ·exact⟨_,rfl⟩
  obtain⟨y,hy⟩:=this;rw[hy]; rfl
 ·rw[h1]at hp;simp only[Option.some.injEq]at hp;subst hp;have h3:=lN h2.l1 h2.l2;have h4:=zo (cs:=cs);have h5:cs.length*3948544<=80*3948544:=Nat.mul_le_mul_right _ h;simp only[List.length_cons]at h3;simp only;omega
theorem CC {cs:List (ByteArray×List UInt8)} (h:cs.length<=80) {r:aI} {l:List aI} (hl:yr cs r= .ok l):l.length<=1000000000:=by
 obtain⟨h1,h2⟩:=py h r;obtain⟨x,st',h3,_⟩:=pA cs r;have h4:=h2 _ h3;rw[hl]at h1;unfold lL at h1
 split at h1
 ·rw[h3]at h1;simp only[Option.map_some,Option.some.injEq]at h1
  split at h1
  ·simp only[Except.ok.injEq]at h1; subst h1; exact h4
  ·simp at h1
 ·simp at h1
theorem qo {cs:List (ByteArray×List UInt8)} (h:cs.length<=80):DK cs (Ch cs):=fun S cv root w hc he hr=>by
 obtain⟨h1,h2⟩:=py h root;exact sW S cv cs (mR cs) root _ w hc he hr h1 (fun p hp=>by have:=h2 p hp; omega) (fun rs hrs=>by have:=CC h hrs; omega)
end Go.Proofs.YtpffpjbkbaleiaaGreatDoor
namespace Go.Proofs.YtpffpjbkbaleiaaGreatDoor
open Go.RowKit
def oY (c:UInt8):ByteArray:=⟨#[c,49,50,51,52,53,54,55,56,57,97,98,99,100,101,102,48,49,50,51,52,53,54,55,56,57,97,98,99,100,101,102]⟩
def cX :bF:=⟨oY 110,oY 115,oY 99,oY 105,oY 116⟩
def jB :dE:=⟨2,6,1,1,0⟩
def gZ :List bu:=[⟨⟨#[97]⟩,1,0,0,[],⟨#[]⟩⟩,⟨⟨#[100]⟩,2,0,0,[],⟨#[]⟩⟩,⟨⟨#[100,47,108]⟩,3,5,6,[],⟨#[97]⟩⟩]
def kA :List UInt8:=[1,1,108,3,5,6,1,97]
def jR :aI:=aX cX [] kA
def lF :az:=⟨⟨#[97]⟩,1,0,0,0,⟨#[]⟩,[],aZ⟩
def AW :az:=⟨⟨#[100]⟩,2,0,0,0,⟨#[]⟩,[],jR⟩
def itL :az:=⟨⟨#[108]⟩,3,5,6,0,⟨#[97]⟩,[],aZ⟩
def mi :List UInt8:=dJ [lF,AW]
def fQ :aI:=aX cX [] mi
def oD :List (ByteArray×List UInt8):=[(fQ.name,mi)]
theorem uP :fK cX=true:=by decide+kernel
theorem ye :iB jB=true:=by decide+kernel
theorem Dj :cR gZ=0:=by decide+kernel
theorem DZ :dJ [itL]=kA:=by decide+kernel
theorem Fu :cd gZ ⟨#[]⟩=[⟨⟨#[97]⟩,1,0,0,[],⟨#[]⟩⟩,⟨⟨#[100]⟩,2,0,0,[],⟨#[]⟩⟩]:=by decide+kernel
theorem Fv :cd gZ ⟨#[100]⟩=[⟨⟨#[100,47,108]⟩,3,5,6,[],⟨#[97]⟩⟩]:=by decide+kernel
theorem Fs :bw [0]=some []:=by kernel_rfl
theorem vn0 :bZ []=true:=by decide+kernel
theorem vnL :bZ [itL]=true:=by decide+kernel
theorem vnT :bZ [lF,AW]=true:=by decide+kernel
theorem Gg :jR≠fQ:=by decide+kernel
theorem FA :jR.name≠fQ.name:=by decide+kernel
theorem Gm (n:Nat):cC cX [] jB [] (n+1) ⟨#[]⟩= .ok ([0],[[0]]):=by
 rw[cC,show dn cX [] jB (cC cX [] jB [] n) ⟨#[]⟩ (cd [] ⟨#[]⟩) [] []= .ok ([],[])from rfl];simp only[if_pos vn0];rw[if_pos (show(dJ []).length<=32768 by decide)]
 rfl
theorem Gv :bG cX [] [[0]] []=[⟨aX cX [] [0],[0]⟩]:=by
 show gC cX [] [] [0]=_
 unfold gC;rw[if_neg (by simp),List.nil_append]
theorem Fm :cQ cX jB [] []= .ok (aX cX [] [0],[⟨aX cX [] [0],[0]⟩]):=by
 unfold cQ;rw[if_pos ⟨uP,ye⟩,if_pos (show([]:List (ByteArray×Int)).all (fun p=>decide (0<=p.2) && decide (p.2<=1099511627776))=true from rfl),if_pos (show cR []=0 from rfl),Gm 513]
 dsimp only
 rw[Gv]
theorem Ge :bG cX [] [kA,mi] []=[⟨jR,kA⟩,⟨fQ,mi⟩]:=by
 unfold bG;rw[List.foldl_cons,List.foldl_cons,List.foldl_nil];have h1:gC cX [] [] kA=[⟨jR,kA⟩]:=by
  unfold gC;rw[if_neg (by simp),List.nil_append]
  rfl
 rw[h1];unfold gC;rw[if_neg]
 ·rfl
 ·intro h;simp only[List.map_cons,List.map_nil,List.mem_singleton]at h;exact Gg h.symm
theorem Gn (n:Nat):cC cX [] jB gZ (n+1) ⟨#[100]⟩= .ok (kA,[kA]):=by
 have h:dn cX [] jB (cC cX [] jB gZ n) ⟨#[100]⟩ (cd gZ ⟨#[100]⟩) [] []= .ok ([itL],[]):=by
  rw[Fv]; rfl
 rw[cC,h];simp only[if_pos vnL,DZ]
 rfl
theorem Gp (n:Nat):cC cX [] jB gZ (n+2) ⟨#[]⟩= .ok (mi,[kA,mi]):=by
 have h:dn cX [] jB (cC cX [] jB gZ (n+1)) ⟨#[]⟩ (cd gZ ⟨#[]⟩) [] []= .ok ([lF,AW],[kA]):=by
  rw[Fu];rw[rz (by rfl),oZ (by rfl),show cC cX [] jB gZ (n+1) ⟨#[100]⟩= .ok (kA,[kA])from Gn n]
  rfl
 rw[cC,h];simp only[if_pos vnT];rw[if_pos (show(dJ [lF,AW]).length<=32768 by decide+kernel)]
 rfl
theorem Fo :cQ cX jB gZ []= .ok (fQ,[⟨jR,kA⟩,⟨fQ,mi⟩]):=by
 unfold cQ;rw[if_pos ⟨uP,ye⟩,if_pos (by rfl),if_pos Dj,show(514:Nat)=512+2 from rfl,Gp 512]
 show Except.ok (fQ,bG cX [] [kA,mi] [])=_
 rw[Ge]
theorem Ft :bw mi=some [lF,AW]:=by kernel_rfl
theorem Gu :((mi.length:Nat):Int)=fQ.size:=by kernel_rfl
theorem Cr :cE oD fQ= .ok [lF,AW]:=by
 have h:cA oD fQ= .ok mi:=by
  unfold cA oD;rw[dm,if_pos rfl]
  show(if((mi.length:Nat):Int)=fQ.size then Except.ok mi else .error 9)=_
  rw[if_pos Gu]
 unfold cE;rw[h];simp only[Ft]
theorem Fa :cE oD jR= .error 10:=by
 have h:cA oD jR= .error 10:=by
  unfold cA oD;rw[dm,if_neg (fun e=>FA e.symm),dm]
 unfold cE;rw[h]
theorem Dq :dM fQ=true:=by decide+kernel
theorem FX (n:Nat):eq oD (cZ oD (n+1)) ⟨#[]⟩ [lF,AW] []=(10,[⟨⟨#[97]⟩,1,0,0,[],⟨#[]⟩⟩,⟨⟨#[100]⟩,2,0,0,[],⟨#[]⟩⟩]):=by
 rw[ll (p:=⟨#[97]⟩) (bs:=[]) rfl (by decide+kernel) (by decide) rfl rfl,mA (p:=⟨#[100]⟩) rfl (by decide+kernel) (by decide) rfl];have h1: ∀X,cZ oD (n+1) ⟨#[100]⟩ AW.node X=(10,X):=fun X=>by
  rw[cZ,show AW.node=jR from rfl,Fa]
 rw[h1]
 rfl
theorem FY (n:Nat):cZ oD (n+2) ⟨#[]⟩ fQ []=(10,[⟨⟨#[97]⟩,1,0,0,[],⟨#[]⟩⟩,⟨⟨#[100]⟩,2,0,0,[],⟨#[]⟩⟩]):=by
 rw[cZ,Cr];exact FX n
theorem FW :nb oD fQ= .error 10:=by
 unfold nb;rw[if_pos Dq,show(514:Nat)=512+2 from rfl,FY 512]
 rfl
theorem FZ :bW oD fQ ⟨#[97]⟩= .ok lF:=by
 unfold bW;rw[if_pos ⟨by decide+kernel,Dq⟩,show eB (bl ⟨#[97]⟩)=[⟨#[97]⟩] by decide+kernel];rw[dI,if_pos (show(dz fQ).kind=2 from rfl),show(dz fQ).node=fQ from rfl,Cr]
 rfl
theorem Fx :bW oD fQ ⟨#[100,47,108]⟩= .error 10:=by
 unfold bW;rw[if_pos ⟨by decide+kernel,Dq⟩,show eB (bl ⟨#[100,47,108]⟩)=[⟨#[100]⟩,⟨#[108]⟩] by decide+kernel];rw[dI,if_pos (show(dz fQ).kind=2 from rfl),show(dz fQ).node=fQ from rfl,Cr]
 show dI oD [⟨#[108]⟩] AW=_
 rw[dI,if_pos (show AW.kind=2 from rfl),show AW.node=jR from rfl,Fa]
theorem Ga :Ch oD fQ= .ok [jR]:=by kernel_rfl
end Go.Proofs.YtpffpjbkbaleiaaGreatDoor
namespace Go.Proofs.YtpffpjbkbaleiaaGreatDoor
open Go Go.RowKit Go.Maps
theorem gW {tree:List bu} {j:Nat} {e:bu} (h:tree[j]? =some e) (d:ByteArray):cd (tree.take (j+1)) d=cd (tree.take j) d++(if aT (bl e.path)=bl d then [e]else []):=by
 unfold cd;rw[bB h,List.filter_append]
 congr 1
 by_cases hp:aT (bl e.path)=bl d
 ·simp[hp]
 ·simp[hp]
theorem mP {G:List tH} {d:ByteArray} (h:G.find? (fun g=>decide (g.dir=d))=none):fo G d=[]:=by unfold fo; rw[h]
theorem gR {G:List tH} {d:ByteArray} {g:tH} (h:G.find? (fun g=>decide (g.dir=d))=some g):fo G d=g.ents.map Prod.snd:=by unfold fo; rw[h]
theorem mQ {A B:List tH} {g g':tH} (hd:g'.dir=g.dir) (hA: ∀x∈A,x.dir≠g.dir) (d:ByteArray):fo (A++g'::B) d=if g.dir=d then g'.ents.map Prod.snd else fo (A++g::B) d:=by
 by_cases h:g.dir=d
 ·rw[if_pos h];refine gR ?_;rw[List.find?_append,List.find?_eq_none.2 (fun x hx=>by rw[decide_eq_true_eq]; intro e; exact hA x hx (e.trans h.symm))];simp[hd,h]
 ·rw[if_neg h];unfold fo;rw[List.find?_append,List.find?_append,List.find?_cons,List.find?_cons,decide_eq_false (show ¬g'.dir=d by rw[hd]; exact h),decide_eq_false h]
theorem oL {G:List tH} {g:tH} (h:G.find? (fun x=>decide (x.dir=g.dir))=none) (d:ByteArray):fo (G++[g]) d=if g.dir=d then g.ents.map Prod.snd else fo G d:=by
 by_cases hd:g.dir=d
 ·rw[if_pos hd];refine gR ?_;rw[<-hd,List.find?_append,h];simp
 ·rw[if_neg hd];unfold fo;rw[List.find?_append]
  cases G.find? (fun x=>decide (x.dir=d))with
  | none=>simp[hd]
  | some x=>simp
section
variable {w w1 w2 : World} {base im : Nat} {A B G : List tH} {g : tH} {v' : Value} {y : iY} {q : ByteArray}
theorem jv.over (h:jv w base im (A++g::B)) (hb:base<=im) (hd:bE (· <base) w y.1 y.2.data/\gM y.2) (hown:w1.ownsRow base 79 6 v' (g.ents.length+1) (cW g.ents++oJ y.1 y.2)) (hg:w.grownBy w1 g.val.ownBlock) (hpl: ∀i,v'.ownBlock=some i->g.val.ownBlock=some i\/w.heap.size<=i)
  (hm:cO Tryz.prog 9 w2 im (A.map gx++(.string g.dir,v')::B.map gx)) (hg2:w1.grownBy w2 (some im)):jv w2 base im (A++⟨g.dir,v',g.ents++[y]⟩::B):=by
 have hgo:w.ownsRow base 79 6 g.val g.ents.length (cW g.ents):=h.own g (by simp);have him:w.heap[im]? =w1.heap[im]? ->True:=fun _=>trivial
 have hmc: ∀ {u:Value} {n:Nat} {xs:List Value} {t:TypeId} {sz:Nat},w1.ownsRow base t sz u n xs->w2.ownsRow base t sz u n xs:=fun {u n xs t sz} hr=>by
  refine hr.kept hg2 (.inr (fun e=> ?_));obtain⟨cs,hc⟩:=aA hr e;have h0:=h.map.lt;have hi:w1.heap[im]? =w.heap[im]? :=hg.block im h0 (fun e2=>by
   obtain⟨cs2,hc2⟩:=aA hgo e2.symm;exact h.map.ncells hc2)
  exact h.map.ncells (hi.symm.trans hc)
 have hoth: ∀x,x∈A\/x∈B-> ∀i,x.val.ownBlock=some i->g.val.ownBlock≠some i:=by
  intro x hx i hi;have hp:=List.pairwise_append.1 h.apart
  rcases hx with hx | hx
  ·exact hp.2.2 x hx g (by simp) i hi
  ·intro e;exact(List.pairwise_cons.1 hp.2.1).1 x hx i e hi
 have hdat: ∀ {u:Value} {bs:List UInt8},bE (· <base) w u bs->bE (· <base) w2 u bs:=fun {u bs} hu=>by
  refine aS.same hu (fun i hi=>(hg2.block i ?_ ?_).trans (hg.block i ?_ ?_))
  ·by_cases hlt:i<w.heap.size
   ·exact Nat.lt_of_lt_of_le hlt hg.size
   ·exact absurd h.map.lt (by omega)
  ·intro e;have:i=im:=by simpa using e
   omega
  ·have:=h.map.lt;omega
  ·intro e;have:=(hgo.lt i e.symm).1;omega
 have hmem: ∀x,x∈A++g::B->(x∈A\/x∈B)\/x=g:=by
  intro x hx;simp only[List.mem_append,List.mem_cons]at hx
  rcases hx with hx | hx | hx
  ·exact .inl (.inl hx)
  ·exact .inr hx
  ·exact .inl (.inr hx)
 refine⟨by simpa [gx]using hm,fun x hx=> ?_,fun x hx z hz=> ?_, ?_,fun x hx=> ?_⟩
 ·simp only[List.mem_append,List.mem_cons]at hx
  rcases hx with hx | hx | hx
  ·refine hmc ((h.own x (by simp[hx])).kept hg ?_)
   cases hv:x.val.ownBlock with
   | none=>exact .inl rfl
   | some i=>exact .inr (fun e=>hoth x (.inl hx) i hv e.symm)
  ·subst hx;simp only;rw[List.length_append,List.length_singleton,oK];exact hmc hown
  ·refine hmc ((h.own x (by simp[hx])).kept hg ?_)
   cases hv:x.val.ownBlock with
   | none=>exact .inl rfl
   | some i=>exact .inr (fun e=>hoth x (.inr hx) i hv e.symm)
 ·simp only[List.mem_append,List.mem_cons]at hx
  rcases hx with hx | hx | hx
  ·have:=h.dat x (by simp[hx]) z hz;exact⟨hdat this.1,this.2⟩
  ·subst hx
   rcases List.mem_append.1 hz with hz | hz
   ·have:=h.dat g (by simp) z hz;exact⟨hdat this.1,this.2⟩
   ·rw[List.mem_singleton]at hz;subst hz;exact⟨hdat hd.1,hd.2⟩
  ·have:=h.dat x (by simp[hx]) z hz;exact⟨hdat this.1,this.2⟩
 ·have hp:=List.pairwise_append.1 h.apart;have hc:=List.pairwise_cons.1 hp.2.1;have hlow: ∀x,x∈A\/x∈B-> ∀i,x.val.ownBlock=some i->i<w.heap.size:=by
   intro x hx i hi;have hx2:x∈A++g::B:=by rcases hx with hx | hx<;> simp[hx]
   exact((h.own x hx2).lt i hi).2
  refine List.pairwise_append.2 ⟨hp.1,List.pairwise_cons.2 ⟨fun x hx i hi e=> ?_,hc.2⟩,fun x hx z hz i hi e=> ?_⟩
  ·rcases hpl i hi with h2 | h2
   ·exact hc.1 x hx i h2 e
   ·have:=hlow x (.inr hx) i e;omega
  ·rcases List.mem_cons.1 hz with hz | hz
   ·subst hz
    rcases hpl i e with h2 | h2
    ·exact hoth x (.inl hx) i hi h2
    ·have:=hlow x (.inl hx) i hi;omega
   ·exact hp.2.2 x hx z (by simp[hz]) i hi e
 ·simp only[List.mem_append,List.mem_cons]at hx
  rcases hx with hx | hx | hx
  ·exact h.key x (by simp[hx])
  ·subst hx;exact h.key g (by simp)
  ·exact h.key x (by simp[hx])
theorem jv.new (h:jv w base im G) (hb:base<=im) (hq:q.size<=maxLen) (hd:bE (· <base) w y.1 y.2.data/\gM y.2) (hown:w1.ownsRow base 79 6 v' 1 (oJ y.1 y.2)) (hg:w.grownBy w1 none) (hpl: ∀i,v'.ownBlock=some i->w.heap.size<=i)
  (hm:cO Tryz.prog 9 w2 im (G.map gx++[(.string q,v')])) (hg2:w1.grownBy w2 (some im)):jv w2 base im (G++[⟨q,v',[y]⟩]):=by
 have hmc: ∀ {u:Value} {n:Nat} {xs:List Value} {t:TypeId} {sz:Nat},w1.ownsRow base t sz u n xs->w2.ownsRow base t sz u n xs:=fun {u n xs t sz} hr=>by
  refine hr.kept hg2 (.inr (fun e=> ?_));obtain⟨cs,hc⟩:=aA hr e;have h0:=h.map.lt;have hi:w1.heap[im]? =w.heap[im]? :=hg.block im h0 (by simp);exact h.map.ncells (hi.symm.trans hc)
 have hdat: ∀ {u:Value} {bs:List UInt8},bE (· <base) w u bs->bE (· <base) w2 u bs:=fun {u bs} hu=>by
  have h0:=h.map.lt;refine aS.same hu (fun i hi=>(hg2.block i ?_ ?_).trans (hg.block i ?_ (by simp)))
  ·have:=hg.size;omega
  ·intro e;have:i=im:=by simpa using e
   omega
  ·skip
   omega
 refine⟨by simpa [gx]using hm,fun x hx=> ?_,fun x hx z hz=> ?_,List.pairwise_append.2 ⟨h.apart,by simp,fun x hx z hz i hi e=> ?_⟩,fun x hx=> ?_⟩
 ·rcases List.mem_append.1 hx with hx | hx
  ·exact hmc ((h.own x hx).kept hg (by cases hv:x.val.ownBlock<;> simp))
  ·rw[List.mem_singleton]at hx;subst hx
   simpa [cW]using hmc hown
 ·rcases List.mem_append.1 hx with hx | hx
  ·have:=h.dat x hx z hz;exact⟨hdat this.1,this.2⟩
  ·rw[List.mem_singleton]at hx;subst hx;simp only[List.mem_singleton]at hz;subst hz;exact⟨hdat hd.1,hd.2⟩
 ·rw[List.mem_singleton]at hz;subst hz;have h1:=hpl i e;have h2:=((h.own x hx).lt i hi).2;omega
 ·rcases List.mem_append.1 hx with hx | hx
  ·exact h.key x hx
  ·rw[List.mem_singleton]at hx;subst hx;exact hq
end
def yQ (k:bF) (gs:List (ByteArray×Int)) (c:dE) (tree:List bu):List aI:=
 (tree.flatMap fun e=>(fB c e.data).map (aX k gs))++(List.range 515).flatMap fun n=>(⟨#[]⟩::tree.map bu.path).flatMap fun d=>match cC k gs c tree n d with
  | .ok p=>[aX k gs p.1]
  | .error _=>[]
theorem xQ {k:bF} {gs:List (ByteArray×Int)} {c:dE} {tree:List bu} (hc:iB c=true) (hl:tree.length<=4096) (hv: ∀e∈tree,iC e=true):(yQ k gs c tree).length<=100000000000:=by
 have h1:=fD (fun e:bu=>(fB c e.data).map (aX k gs)) 1048576 tree (fun e he=>by
  rw[List.length_map];have:=sL hc e.data;have:=(iK (hv e he)).2.2
  omega)
 have h2:=fD (fun n:Nat=>(⟨#[]⟩::tree.map bu.path).flatMap fun d=>match cC k gs c tree n d with
  | .ok p=>[aX k gs p.1]
  | .error _=>[]) 4097 (List.range 515) (fun n _=>by
   have h3:=fD (fun d=>match cC k gs c tree n d with
    | .ok p=>[aX k gs p.1]
    | .error _=>[]) 1 (⟨#[]⟩::tree.map bu.path) (fun d _=>by
     cases cC k gs c tree n d<;> simp)
   simp only[List.length_cons,List.length_map]at h3
   omega)
 rw[List.length_range]at h2;have h4:tree.length*1048576<=4096*1048576:=Nat.mul_le_mul_right _ hl;unfold yQ;rw[List.length_append];omega
theorem xR {k:bF} {gs:List (ByteArray×Int)} {c:dE} {tree:List bu} : ∀e∈tree,∀y∈fB c e.data,aX k gs y∈yQ k gs c tree:=fun e he y hy=>
 List.mem_append.2 (.inl (List.mem_flatMap.2 ⟨e,he,List.mem_map.2 ⟨y,hy,rfl⟩⟩))
theorem xS {k:bF} {gs:List (ByteArray×Int)} {c:dE} {tree:List bu} : ∀(n:Nat) (d:ByteArray) (p:List UInt8×List (List UInt8)),n<=514->(d.size=0\/ ∃e∈tree,e.path=d)->cC k gs c tree n d= .ok p->aX k gs p.1∈yQ k gs c tree:=fun n d p hn hd hp=>by
 refine List.mem_append.2 (.inr (List.mem_flatMap.2 ⟨n,List.mem_range.2 (by omega),List.mem_flatMap.2 ⟨d, ?_, ?_⟩⟩))
 ·rcases hd with hd | ⟨e,he,rfl⟩
  ·have:d=⟨#[]⟩:=by
    apply eN
    exact List.eq_nil_of_length_eq_zero (by rw[<-aw]; exact hd)
   simp[this]
  ·exact List.mem_cons_of_mem _ (List.mem_map.2 ⟨e,he,rfl⟩)
 ·rw[hp]; simp
end Go.Proofs.YtpffpjbkbaleiaaGreatDoor
namespace Go.Proofs.YtpffpjbkbaleiaaGreatDoor
open Go Go.RowKit Go.Maps
theorem zd {a:Act} {w:World} {b:Nat} {x0 x1 x2 e9 e10:Value} (h:w.heap[b]? =some (.cells #[x0,x1,x2] 26 (0,0)))
  (h8:a.tmps[8]? =some (.pointer (some ⟨b,0,none⟩))) (h9:a.tmps[9]? =some e9) (h10:a.tmps[10]? =some e10):(results Tryz.f22 a.tmps).run Tryz.prog w= .ok (.tuple #[.agg #[x0,x1,x2],e9,e10]) w:=by
 have m0:=ai (k:=0) h;have m1:=ai (k:=1) h;have m2:=ai (k:=2) h;simp only[aJ]at m0 m1 m2;simp[results,Tryz.results22,go_sem,h8,h9,h10,m0,m1,m2]
theorem dN {a:Act} {w:World} {b:Nat} {a0 a1 a2 x0 x1 x2 e9 e10:Value} {Q:Ending->World->Prop} (h:w.heap[b]? =some (.cells #[a0,a1,a2] 26 (0,0)))
  (h8:a.tmps[8]? =some (.pointer (some ⟨b,0,none⟩))) (h9:a.tmps[9]? =some e9) (h10:a.tmps[10]? =some e10) (hd:a.defers=[])
  (hQ:Q (.returned (.tuple #[.agg #[x0,x1,x2],e9,e10])) (((w.setCell ⟨b,0,none⟩ x0).setCell ⟨b,1,none⟩ x1).setCell ⟨b,2,none⟩ x2)):
  bodyPost Tryz.prog Tryz.f22 Q Exit.ret a (((w.setCell ⟨b,0,none⟩ x0).setCell ⟨b,1,none⟩ x1).setCell ⟨b,2,none⟩ x2):=bodyPost_ret (zd (yD h) h8 h9 h10) hd hQ
def tJ (res:Except Int (aI×List bK)) (w:World) (e:Ending) (w':World):Prop:=Below w.heap.size w w'/\match res with
 | .error x=>e= .returned (.tuple #[.agg #[.string ⟨#[]⟩, .int .i64 0, .int .i64 0], .slice none 0 0, .int .i64 x])/\x≠0
 | .ok p=> ∃v zs,e= .returned (.tuple #[bt p.1,v, .int .i64 0])/\zs.map Prod.snd=p.2/\dU w' w.heap.size v zs
theorem dU.other {w w':World} {base B b:Nat} {v:Value} {zs:List iG} {cs:Array Value} {t:TypeId} {z:Nat×Nat} (h:dU w base v zs) (hb:w.heap[b]? =some (.cells cs t z)) (h1:t≠53) (h2:t≠5) (hB:B<=base) (hs: ∀i,i≠b->w'.heap[i]? =w.heap[i]?):dU w' B v zs:=by
 refine⟨cJ (dr h.row (fun i hi hu=>hs i (fun e=> ?_))) hB,fun y hy=>cJ (dr (h.dat y hy) (fun i hi hu=>hs i (fun e=> ?_))) hB⟩
 ·subst e;obtain⟨cs2,hc2⟩:=aA h.row hu;exact h1 (aH hb hc2)
 ·subst e;obtain⟨cs2,hc2⟩:=aA (h.dat y hy) hu;exact h2 (aH hb hc2)
theorem xX (S:Nat->Prop) (L:List bu) (v:Value) (x:Int) (w:World) (hv:dy S w v L) (henv:gG w) (hx:cR L=x):Calls Tryz.prog 71 #[v] w fun e w'=>e= .returned (.int .i64 x)/\Below w.heap.size w w':=by
 rw[<-hx]; exact zh S L v w hv henv
theorem ee.nilKeep {w w':World} {base bb im kb:Nat} {k:bF} {c:dE} {gv:Value} (h:ee w base bb k c gv im kb (.slice none 0 0) []) (hs:w'.heap[bb]? =w.heap[bb]?) (hk:w'.heap[kb]? =w.heap[kb]?):ee w' base bb k c gv im kb (.slice none 0 0) []:=
 ⟨hs.trans h.box,⟨[],rfl,World.ownsRow_nil _ _ _ _,by simp⟩,h.known.same hk⟩
structure BgI (w4 : World) (base bb im kb : Nat) (k : bF) (c : dE) (gv : Value) (T : List bu) (wr : World) (G : List tH) : Prop where
 bd:ee wr base bb k c gv im kb (.slice none 0 0) []
 grp:jv wr base im G
 ents: ∀d,fo G d=cd T d
 below:Below base w4 wr
theorem qL (S T:Nat->Prop) (k:bF) (c:dE) (tree:List bu) (gs:List (ByteArray×Int)) (tv gv:Value) (w:World) (hsd:c.seed<18446744073709551616) (ht:dy S w tv tree) (hg:ii T w gv gs) (hE:kI w):
  Calls Tryz.prog 22 #[iM k,fC c,tv,gv] w (tJ (cQ k c tree gs) w):=by
 obtain⟨ta,tc,rfl,htn,htm,-⟩:=aP.shape ht qa.len;unfold maxLen at htm;obtain⟨n,hn⟩: ∃n,n=tree.length:=⟨_,rfl⟩;rw[<-hn]at ht htn ⊢;have HN:=ab hn;have HT:=ab ht;have HG:=ab hg;have HE:=ab hE;obtain⟨W0,hW0⟩: ∃W0,W0=((w.alloc (.cells #[.string k.nm, .string k.st, .string k.ck, .string k.ix, .string k.tk] 42)).alloc (.cells #[.int .i64 c.mn, .int .i64 c.mx, .int .i64 c.win, .int .i64 c.bits, .int .u64 (c.seed:Int)] 45)).alloc (.cells #[.string ⟨#[]⟩, .int .i64 0, .int .i64 0] 26):=⟨_,rfl⟩
 have hb0:Below w.heap.size w W0:=by rw[hW0]; exact(((Below.refl _ _).alloc (Nat.le_refl _) _).alloc (by simp) _).alloc (by simp; omega) _
 have HB0:=ab hb0;have HKX:=ab (show W0.heap[w.heap.size]? =some (.cells #[.string k.nm, .string k.st, .string k.ck, .string k.ix, .string k.tk] 42 (0,0)) by rw[hW0]; exact cF (cF (bQ w _) _) _);have HCX:=ab (show W0.heap[w.heap.size+1]? =some (.cells #[.int .i64 c.mn, .int .i64 c.mx, .int .i64 c.win, .int .i64 c.bits, .int .u64 (c.seed:Int)] 45 (0,0)) by rw[hW0]; exact cF (jg w _ _) _)
 have HRX:=ab (show W0.heap[w.heap.size+2]? =some (.cells #[.string ⟨#[]⟩, .int .i64 0, .int .i64 0] 26 (0,0)) by
  rw[hW0];have:=bQ ((w.alloc (.cells #[.string k.nm, .string k.st, .string k.ck, .string k.ix, .string k.tk] 42)).alloc (.cells #[.int .i64 c.mn, .int .i64 c.mx, .int .i64 c.win, .int .i64 c.bits, .int .u64 (c.seed:Int)] 45)) (.cells #[.string ⟨#[]⟩, .int .i64 0, .int .i64 0] 26);rw[show((w.alloc (.cells #[.string k.nm, .string k.st, .string k.ck, .string k.ix, .string k.tk] 42)).alloc (.cells #[.int .i64 c.mn, .int .i64 c.mx, .int .i64 c.win, .int .i64 c.bits, .int .u64 (c.seed:Int)] 45)).heap.size=w.heap.size+2 by simp]at this
  exact this)
 have hsc:=qz k W0 (hE.below hb0).envh;unfold iM at hsc ⊢;unfold fC;have HSC:=ab hsc;clear ht hg hE hn hb0 hsc
 go_enter Tryz.func22,Tryz.ntmps22
 go_upto_region 1 with(fail)
 rw[<-hW0];clear hW0;have a0:=aa (k:=0) HKX.out;have a1:=aa (k:=1) HKX.out;have a2:=aa (k:=2) HKX.out;have a3:=aa (k:=3) HKX.out;have a4:=aa (k:=4) HKX.out;simp only[aJ]at a0 a1 a2 a3 a4
 cases hkv:fK k with
 | false=>
  rw[hkv]at HSC;have HM:=ab (show cQ k c tree gs= .error 1 by unfold cQ; rw[if_neg (by rw[hkv]; simp)]);clear hkv;go_wp2_with fail;refine HSC.out.mono ?_;rintro e w1 ⟨⟨sv,rfl⟩,hb1⟩;have HB1:=ab (ah HB0.out hb1);have HR1:=ab ((hb1.block _ (lt_of_block HRX.out)).trans HRX.out);clear hb1 a0 a1 a2 a3 a4;have z0:=aa (k:=0) HR1.out;have z1:=aa (k:=1) HR1.out
  have z2:=aa (k:=2) HR1.out;have y0:=af (k:=0) HR1.out;have y1:=af (k:=1) HR1.out;have y2:=af (k:=2) HR1.out;simp only[aJ]at z0 z1 z2;go_wp2_with fail;refine dN HR1.out rfl rfl rfl rfl ⟨dh HB1.out (by show w.heap.size<=w.heap.size+2; omega), ?_⟩;rw[HM.out];exact⟨rfl,by decide⟩
 | true=>
  rw[hkv]at HSC;have HKV:=ab hkv;go_wp2_with fail;refine HSC.out.mono ?_;rintro e w1 ⟨⟨sv,rfl⟩,hb1⟩;have HB1:=ab (ah HB0.out hb1);have HW1:=ab hb1;have HR1:=ab ((hb1.block _ (lt_of_block HRX.out)).trans HRX.out);have HK1:=ab ((hb1.block _ (lt_of_block HKX.out)).trans HKX.out);have HC1:=ab ((hb1.block _ (lt_of_block HCX.out)).trans HCX.out);clear hb1 a0 a1 a2 a3 a4;have b0:=aa (k:=0) HC1.out
  have b1:=aa (k:=1) HC1.out;have b2:=aa (k:=2) HC1.out;have b3:=aa (k:=3) HC1.out;have b4:=aa (k:=4) HC1.out;simp only[aJ]at b0 b1 b2 b3 b4
  cases hcv:iB c with
  | false=>
   have HCV:=ab hcv;have HM:=ab (show cQ k c tree gs= .error 1 by unfold cQ; rw[if_neg (by rw[hcv]; simp)]);have hvc:=gQ c false w1 hcv;unfold fC at hvc;have HVC:=ab hvc;clear hkv hcv hvc;go_wp2_with fail;refine HVC.out.mono ?_;rintro e w2 ⟨rfl,hb2⟩;have HB2:=ab (ah HB1.out hb2);have HR2:=ab ((hb2.block _ (lt_of_block HR1.out)).trans HR1.out);clear hb2 b0 b1 b2 b3 b4
   have z0:=aa (k:=0) HR2.out;have z1:=aa (k:=1) HR2.out;have z2:=aa (k:=2) HR2.out;have y0:=af (k:=0) HR2.out;have y1:=af (k:=1) HR2.out;have y2:=af (k:=2) HR2.out;simp only[aJ]at z0 z1 z2;go_wp2_with fail;refine dN HR2.out rfl rfl rfl rfl ⟨dh HB2.out (by show w.heap.size<=w.heap.size+2; omega), ?_⟩;rw[HM.out];exact⟨rfl,by decide⟩
  | true=>
   have HCV:=ab hcv;have HM0:=ab (show cQ k c tree gs=(if(gs.all fun p=>decide (0<=p.2) && decide (p.2<=1099511627776))=true then
    (if cR tree=0 then(match cC k gs c tree 514 ⟨#[]⟩with
     | .error x=> .error x
     | .ok p=> .ok (aX k gs p.1,bG k gs p.2 []))
    else .error (cR tree))else .error 1) by unfold cQ; rw[if_pos ⟨hkv,hcv⟩]; rfl)
   have hvc:=gQ c true w1 hcv;unfold fC at hvc;have HVC:=ab hvc;clear hkv hcv hvc;go_wp2_with fail;refine HVC.out.mono ?_;rintro e w2 ⟨rfl,hb2⟩;have HB2:=ab (ah HB1.out hb2);have HR2:=ab ((hb2.block _ (lt_of_block HR1.out)).trans HR1.out);have HK2:=ab ((hb2.block _ (lt_of_block HK1.out)).trans HK1.out);have HC2:=ab ((hb2.block _ (lt_of_block HC1.out)).trans HC1.out)
   clear hb2 b0 b1 b2 b3 b4
   rcases HG.out with⟨rfl,hgs⟩ | ⟨gb,rfl,hTg,hgm⟩
   ·have HGS:=ab hgs;have hr:=fun(w:World)=>run_range_nilMap (P:=Tryz.prog) w 47 9 3 Tryz.underlying47
    have hnx:=fun(w:World) (ty:TypeId) (a b:Nat) (s:Array Nat)=>run_next_nilMap (P:=Tryz.prog) w ty a b s
    clear hgs;go_wp2_with fail;obtain⟨W3,hW3⟩: ∃W3:World,W3=w2.alloc (.mapIter none 0 #[] 0):=⟨_,rfl⟩;have hnx2: ∀ty,(Instr.next (.pointer (some ⟨w2.heap.size,0,none⟩)) false ty).run Tryz.prog W3= .ok (.tuple #[.bool false]) W3:=by rw[hW3]; exact fun ty=>hnx w2 ty _ _ _
    have hb3:Below w2.heap.size w2 W3:=by rw[hW3]; exact(Below.refl _ _).alloc (Nat.le_refl _) _
    have HB3:=ab (ah HB2.out hb3);have HR3:=ab ((hb3.block _ (lt_of_block HR2.out)).trans HR2.out);have HK3:=ab ((hb3.block _ (lt_of_block HK2.out)).trans HK2.out);have HC3:=ab ((hb3.block _ (lt_of_block HC2.out)).trans HC2.out);have HALL:=ab (show gs.all (fun p=>decide (0<=p.2) && decide (p.2<=1099511627776))=true by rw[HGS.out]; rfl);rw[<-hW3];clear hr hnx hb3 hW3
    go_loopw [14] (fun _ wr=>wr=W3) (fun _ _=>0)
    case atStart=>rfl
    case round=>
     subst hrel
     go_upto_region 9 with(fail)
     have HM1:=ab (show cQ k c tree gs=(if cR tree=0 then(match cC k gs c tree 514 ⟨#[]⟩with
      | .error x=> .error x
      | .ok p=> .ok (aX k gs p.1,bG k gs p.2 []))
     else .error (cR tree)) by rw[HM0.out,if_pos HALL.out])
     have htr:dy S (wr) (.slice ta n tc) tree:=dy.below HT.out HB3.out;have hev:=HE.out.below HB3.out;obtain⟨x,hx⟩: ∃x,cR tree=x:=⟨_,rfl⟩;have hck:=xX S tree (.slice ta n tc) x (wr) htr hev.env hx;have HCK:=ab hck;have HCX2:=ab hx;clear htr hev hck hx;go_wp2_with fail;refine HCK.out.mono ?_;rintro e w4 ⟨rfl,hb4⟩;have HB4:=ab (ah HB3.out hb4);have HR4:=ab ((hb4.block _ (lt_of_block HR3.out)).trans HR3.out)
     have HK4:=ab ((hb4.block _ (lt_of_block HK3.out)).trans HK3.out);have HC4:=ab ((hb4.block _ (lt_of_block HC3.out)).trans HC3.out);clear hb4
     by_cases hx0:x=0
     ·have e1:(x != 0)=false:=by simp[hx0]
      have HTO:=ab (ol.1 (HCX2.out.trans hx0));have HM2:=ab (show cQ k c tree gs=(match cC k gs c tree 514 ⟨#[]⟩with
       | .error x=> .error x
       | .ok p=> .ok (aX k gs p.1,bG k gs p.2 [])) by rw[HM1.out,if_pos (HCX2.out.trans hx0)])
      clear hx0;have a0:=aa (k:=0) HK4.out;have a1:=aa (k:=1) HK4.out;have a2:=aa (k:=2) HK4.out;have a3:=aa (k:=3) HK4.out;have a4:=aa (k:=4) HK4.out;have b0:=aa (k:=0) HC4.out;have b1:=aa (k:=1) HC4.out;have b2:=aa (k:=2) HC4.out;have b3:=aa (k:=3) HC4.out;have b4:=aa (k:=4) HC4.out;simp only[aJ]at a0 a1 a2 a3 a4 b0 b1 b2 b3 b4
      have hmm:= @run_makeMap Tryz.prog
      go_upto_region 13 with(fail)
      obtain⟨W5,hW5⟩: ∃W5:World,W5=((w4.alloc (.map #[] 0)).alloc (.map #[] 0)).alloc (.cells #[.string k.nm, .string k.st, .string k.ck, .string k.ix, .string k.tk, .int .i64 c.mn, .int .i64 c.mx, .int .i64 c.win, .int .i64 c.bits, .int .u64 (c.seed:Int), .map none, .map (some w4.heap.size), .slice none 0 0, .map (some (w4.heap.size+1))] 122):=⟨_,rfl⟩;rw[<-hW5];obtain⟨base,hbase⟩: ∃base,base=w4.heap.size:=⟨_,rfl⟩
      rw[<-hbase]at hW5 ⊢;have HBS:=ab hbase;have hbgi:BgI w4 base (base+1+1) base (base+1) k c (.map none) [] W5 []:=by
       have e1:(w4.alloc (.map #[] 0)).heap.size=base+1:=by simp[hbase]
       have e2:((w4.alloc (.map #[] 0)).alloc (.map #[] 0)).heap.size=base+1+1:=by simp[hbase]
       have h1:=cO.made (P:=Tryz.prog) (k:=9) w4;have h2:=dw.made (w4.alloc (.map #[] 0));rw[e1]at h2;rw[<-hbase]at h1;have h3:=bQ ((w4.alloc (.map #[] 0)).alloc (.map #[] 0)) (.cells #[.string k.nm, .string k.st, .string k.ck, .string k.ix, .string k.tk, .int .i64 c.mn, .int .i64 c.mx, .int .i64 c.win, .int .i64 c.bits, .int .u64 (c.seed:Int), .map none, .map (some base), .slice none 0 0, .map (some (base+1))] 122)
       rw[e2]at h3;have hs1:W5.heap[base]? =(w4.alloc (.map #[] 0)).heap[base]? :=by rw[hW5]; exact(Below.heap_alloc _ _ _ (by rw[e2]; omega)).trans (Below.heap_alloc _ _ _ (by rw[e1]; omega))
       have hs2:W5.heap[base+1]? =((w4.alloc (.map #[] 0)).alloc (.map #[] 0)).heap[base+1]? :=by rw[hW5]; exact Below.heap_alloc _ _ _ (by rw[e2]; omega)
       refine⟨⟨by rw[hW5]; exact h3,⟨[],rfl,World.ownsRow_nil _ _ _ _,by simp⟩,h2.same hs2⟩,⟨h1.same hs1,by simp,by simp,List.Pairwise.nil,by simp⟩,fun d=>rfl, ?_⟩;rw[hW5,hbase];exact(((Below.refl _ _).alloc (Nat.le_refl _) _).alloc (by simp) _).alloc (by simp; omega) _
      have HBG:=ab hbgi;have hne2:w.heap.size+2<base:=by have:=lt_of_block HR4.out; omega
      have hwb:w.heap.size<=base:=by omega
      clear hW5 a0 a1 a2 a3 a4 b0 b1 b2 b3 b4 hmm hbase hbgi;go_wp2_with fail
      go_loopw [64] (fun i wr=> ∃(j:Nat) (G:List tH),j<=n/\i= .int .i64 (j:Int)/\BgI w4 base (base+1+1) base (base+1) k c (.map none) (tree.take j) wr G) (fun i _=>n-(intOf i).toNat)
      case atStart=>exact⟨0,[],Nat.zero_le _,rfl,HBG.out⟩
      case round=>
       obtain⟨j,G,hj,rfl,hin⟩:=hrel;rename_i wq;have HIN:=ab hin;clear hin HBG
       by_cases hlt:j<n
       ·obtain⟨e,he⟩: ∃e,tree[j]? =some e:=⟨tree[j]'(by rw[<-HN.out]; exact hlt),by simp⟩;have hbw:Below w.heap.size w wr:=HB4.out.trans (HIN.out.below.mono hwb);obtain⟨b,o,dv,rfl,-,-,hdd,heok,-,p0,p1,p2,p3,p4,p5⟩:=kj (dy.below HT.out hbw) he;obtain⟨da,dc,rfl,-,-⟩:=bE.slice hdd;have HDY:=ab (show bE (· <base) wr (.slice da e.data.length dc) e.data/\gM e from by
         obtain⟨b9,o9,dv9,he9,_,_,hd9,_,_,_,_,_,_,hp9,_⟩:=kj HT.out he
         cases he9
         have hq:=(hbw.cell (p:=⟨b,o+j*6+4,none⟩) (aO (a:=⟨b,o+j*6+4,none⟩) hp9)).trans hp9;rw[p4]at hq
         cases hq
         have hd0:=aS.lt' hd9 (by decide);exact⟨aS.same (aS.weak (T:=(· <w.heap.size)) hd0 (fun _ h=>h)) (fun i hi=>hbw.block i hi) |> fun h=>aS.weak h (fun i hi=>Nat.lt_of_lt_of_le hi hwb),heok⟩)
        have hval:=HTO.out.val e (List.mem_of_getElem? he);have hep:=bM hval;have hes:e.path.size<=512:=(iK hval).1;obtain⟨q,hq⟩: ∃q:ByteArray,q=⟨(aT (bl e.path)).toArray⟩:=⟨_,rfl⟩;have HQ:=ab hq;have hqs:q.size<=maxLen:=by
         have h1:=lg (l:=bl e.path) (fun h=>by have:=jn hep; rw[h]at this; simp at this);rw[hq,aw,fa];rw[<-aw e.path]at h1;unfold maxLen;omega
        have HEA:=ab he;have hpc:=fun W hE=>eJ e.path q W hE hep hq
        have HPC:=ab hpc;have hbz:base<=wr.heap.size:=by have h1:=HIN.out.grp.map.lt; omega
        have h7:7<=base:=Nat.le_trans HE.out.seven hwb;clear hval hep hq hdd heok he hpc
        go_upto_region 16 with(fail)
        obtain⟨W6,hW6⟩: ∃W6:World,W6=wr.alloc (.cells #[.string e.path, .int .i64 e.kind, .int .i64 e.mode, .int .i64 e.time, .slice da e.data.length dc, .string e.link] 79):=⟨_,rfl⟩;rw[<-hW6];have hb6:Below wr.heap.size wr W6:=by rw[hW6]; exact(Below.refl _ _).alloc (Nat.le_refl _) _
        have HB6:=ab hb6;have HX6:=ab (show W6.heap[wr.heap.size]? =some (.cells #[.string e.path, .int .i64 e.kind, .int .i64 e.mode, .int .i64 e.time, .slice da e.data.length dc, .string e.link] 79 (0,0)) by rw[hW6]; exact bQ wr _);have HE6:=ab (HE.out.keep (HB4.out.trans ((HIN.out.below.mono hwb).trans (hb6.mono (Nat.le_trans hwb hbz)))) HE.out.seven);clear hW6 hb6 p0 p1 p2 p3 p4 p5
        have d0:=aa (k:=0) HX6.out;have d1:=aa (k:=1) HX6.out;have d2:=aa (k:=2) HX6.out;have d3:=aa (k:=3) HX6.out;have d4:=aa (k:=4) HX6.out;have d5:=aa (k:=5) HX6.out;simp only[aJ]at d0 d1 d2 d3 d4 d5;go_wp2_with fail;refine(HPC.out W6 HE6.out.env).mono ?_;rintro e' w7 ⟨rfl,hb7⟩;have HX7:=ab ((hb7.block _ (lt_of_block HX6.out)).trans HX6.out)
        have HB7:=ab (ah HB6.out hb7);clear hb7 d0 d1 d2 d3 d4 d5;go_wp2_with fail;obtain⟨W8,hW8⟩: ∃W8:World,W8=w7.drew:=⟨_,rfl⟩;have hb8:Below w7.heap.size w7 W8:=by rw[hW8]; exact(Below.refl _ _).drew
        have HB8:=ab (ah HB7.out hb8);have HX8:=ab ((hb8.block _ (lt_of_block HX7.out)).trans HX7.out);have hkp8:=cT.ofBelow (bb:=base+1+1) (kb:=base+1) (v:= .slice none 0 0) HB8.out hbz;have HBD8:=ab (HIN.out.bd.below HB8.out);have HGR8:=ab (HIN.out.grp.keep HIN.out.bd hkp8 (by omega));have HBX8:=ab HBD8.out.box;have hltx:wr.heap.size<W8.heap.size:=lt_of_block HX8.out
        have HDY8:=ab (show bE (· <base) W8 (.slice da e.data.length dc) e.data/\gM e from⟨jb HDY.out.1 (HB8.out.mono hbz),HDY.out.2⟩);have ht:Tryz.prog.underlying 119=some (.map 9 46):=Tryz.underlying119;have HTY:=ab ht;clear ht hb8 hkp8;have k0:=aa (k:=0) HBX8.out;have k1:=aa (k:=1) HBX8.out;have k2:=aa (k:=2) HBX8.out;have k3:=aa (k:=3) HBX8.out
        have k4:=aa (k:=4) HBX8.out;have k10:=aa (k:=10) HBX8.out;have k11:=aa (k:=11) HBX8.out;have k12:=aa (k:=12) HBX8.out;have k13:=aa (k:=13) HBX8.out;simp only[fV,cY,dt,List.cons_append,List.nil_append,aJ]at k0 k1 k2 k3 k4 k10 k11 k12 k13;clear k0 k1 k2 k3 k4 k10 k12 k13;have d0:=aa (k:=0) HX8.out;have d1:=aa (k:=1) HX8.out
        have d2:=aa (k:=2) HX8.out;have d3:=aa (k:=3) HX8.out;have d4:=aa (k:=4) HX8.out;have d5:=aa (k:=5) HX8.out;simp only[aJ]at d0 d1 d2 d3 d4 d5
        cases hf:G.find? (fun g=>decide (g.dir=q))with
        | none=>
         have HF:=ab hf;clear hf;have hnew: ∀p∈G.map gx,p.1≠Value.string q:=by
          intro p hp e9;obtain⟨g9,hg9,rfl⟩:=List.mem_map.1 hp;simp only[gx,Value.string.injEq]at e9;have:=List.find?_eq_none.1 HF.out g9 hg9;simp[e9]at this
         have HNEW:=ab hnew;have HLK:=ab (show ∀W:World,W.heap[base]? =W8.heap[base]? ->(Instr.lookup 119 (.map (some base)) (.string q) false).run Tryz.prog W= .ok (.slice none 0 0) W from fun W hW=>by
          have:=(HGR8.out.map.same hW).is.miss bO HTY.out (show(zeroValue 46).run Tryz.prog W= .ok (.slice none 0 0) W by kernel_rfl) (cD hqs) HNEW.out false
          simpa using this)
         clear hnew;have HNE:=ab (show(Value.slice none 0 0).ownBlock≠some (base+1+1)/\(Value.slice none 0 0).ownBlock≠some wr.heap.size/\(Value.slice none 0 0).ownBlock≠some base from⟨by simp[Value.ownBlock],by simp[Value.ownBlock],by simp[Value.ownBlock]⟩);have HNK:=ab (show(Value.slice none 0 0).ownBlock≠some (base+1) by simp[Value.ownBlock]);have HLOW:=ab (show ∀i,(Value.slice none 0 0).ownBlock=some i->base<=i from fun i hi=>by simp[Value.ownBlock]at hi)
         have HLNB:=ab (show(0:Nat)<1099511627775 by decide);have hlk:=HLK.out W8 rfl;refine bR (fun w'=>w'.cell? ⟨base+1+1,11,none⟩=some (.map (some base))/\(Instr.lookup 119 (.map (some base)) (.string (q)) false).run Tryz.prog w'= .ok (.slice none 0 0) w'/\w'.cell? ⟨wr.heap.size,0,none⟩=some (.string e.path)/\w'.cell? ⟨wr.heap.size,1,none⟩=some (.int .i64 e.kind)/\w'.cell? ⟨wr.heap.size,2,none⟩=some (.int .i64 e.mode)/\w'.cell? ⟨wr.heap.size,3,none⟩=some (.int .i64 e.time)/\w'.cell? ⟨wr.heap.size,4,none⟩=some (.slice da e.data.length dc)/\w'.cell? ⟨wr.heap.size,5,none⟩=some (.string e.link)) (by kernel_rfl) (by kernel_rfl) ?_
         simp only[List.dropLast_cons_cons,List.dropLast_singleton,List.length_cons,List.length_nil,Nat.reduceAdd,Nat.reduceSub];rw[<-hW8];clear hW8;refine ag 0 rfl (by kernel_rfl) (by kernel_rfl) (by kernel_rfl) (fun _ _ _ h=>h) rfl ⟨k11,hlk,d0,d1,d2,d3,d4,d5⟩ (by rintro w' ⟨hw1,hw2,hw3,hw4,hw5,hw6,hw7,hw8⟩; go_simp; rfl) ?_;simp only[Act.put,aB,aC,aD];refine ag 1 rfl (by kernel_rfl) (by kernel_rfl) (by kernel_rfl) (fun _ _ _ h=>h) rfl ⟨k11,hlk,d0,d1,d2,d3,d4,d5⟩ (by rintro w' ⟨hw1,hw2,hw3,hw4,hw5,hw6,hw7,hw8⟩; go_simp; rfl) ?_
         simp only[Act.put,aB,aC,aD];refine ag 2 rfl (by kernel_rfl) (by kernel_rfl) (by kernel_rfl) (fun _ _ _ h=>h) rfl ⟨k11,hlk,d0,d1,d2,d3,d4,d5⟩ (by rintro w' ⟨hw1,hw2,hw3,hw4,hw5,hw6,hw7,hw8⟩; go_simp; rfl) ?_;simp only[Act.put,aB,aC,aD];refine ag 3 rfl (by kernel_rfl) (by kernel_rfl) (by kernel_rfl) (fun _ _ _ h=>h) rfl ⟨k11,hlk,d0,d1,d2,d3,d4,d5⟩ (by rintro w' ⟨hw1,hw2,hw3,hw4,hw5,hw6,hw7,hw8⟩; go_simp; rfl) ?_
         simp only[Act.put,aB,aC,aD];refine ag 4 rfl (by kernel_rfl) (by kernel_rfl) (by kernel_rfl) (fun _ _ _ h=>h) rfl ⟨k11,hlk,d0,d1,d2,d3,d4,d5⟩ (by rintro w' ⟨hw1,hw2,hw3,hw4,hw5,hw6,hw7,hw8⟩; go_simp; rfl) ?_;simp only[Act.put,aB,aC,aD];refine ag 5 rfl (by kernel_rfl) (by kernel_rfl) (by kernel_rfl) (fun _ _ _ h=>h) rfl ⟨k11,hlk,d0,d1,d2,d3,d4,d5⟩ (by rintro w' ⟨hw1,hw2,hw3,hw4,hw5,hw6,hw7,hw8⟩; go_simp; rfl) ?_
         simp only[Act.put,aB,aC,aD];refine ag 6 rfl (by kernel_rfl) (by kernel_rfl) (by kernel_rfl) (fun _ _ _ h=>h) rfl ⟨k11,hlk,d0,d1,d2,d3,d4,d5⟩ (by rintro w' ⟨hw1,hw2,hw3,hw4,hw5,hw6,hw7,hw8⟩; go_simp; rfl) ?_;simp only[Act.put,aB,aC,aD];refine ag 7 rfl (by kernel_rfl) (by kernel_rfl) (by kernel_rfl) (fun _ _ _ h=>h) rfl ⟨k11,hlk,d0,d1,d2,d3,d4,d5⟩ (by rintro w' ⟨hw1,hw2,hw3,hw4,hw5,hw6,hw7,hw8⟩; go_simp; rfl) ?_
         simp only[Act.put,aB,aC,aD];refine ag 8 rfl (by kernel_rfl) (by kernel_rfl) (by kernel_rfl) (fun _ _ _ h=>h) rfl ⟨k11,hlk,d0,d1,d2,d3,d4,d5⟩ (by rintro w' ⟨hw1,hw2,hw3,hw4,hw5,hw6,hw7,hw8⟩; go_simp; rfl) ?_;simp only[Act.put,aB,aC,aD];refine ag 9 rfl (by kernel_rfl) (by kernel_rfl) (by kernel_rfl) (fun _ _ _ h=>h) rfl ⟨k11,hlk,d0,d1,d2,d3,d4,d5⟩ (by rintro w' ⟨hw1,hw2,hw3,hw4,hw5,hw6,hw7,hw8⟩; go_simp; rfl) ?_
         simp only[Act.put,aB,aC,aD];refine ag 10 rfl (by kernel_rfl) (by kernel_rfl) (by kernel_rfl) (fun _ _ _ h=>h) rfl ⟨k11,hlk,d0,d1,d2,d3,d4,d5⟩ (by rintro w' ⟨hw1,hw2,hw3,hw4,hw5,hw6,hw7,hw8⟩; go_simp; rfl) ?_;simp only[Act.put,aB,aC,aD];refine ag 11 rfl (by kernel_rfl) (by kernel_rfl) (by kernel_rfl) (fun _ _ _ h=>h) rfl ⟨k11,hlk,d0,d1,d2,d3,d4,d5⟩ (by rintro w' ⟨hw1,hw2,hw3,hw4,hw5,hw6,hw7,hw8⟩; go_simp; rfl) ?_
         simp only[Act.put,aB,aC,aD];have HAL:=ab ((Below.refl W8.heap.size W8).alloc (Nat.le_refl _) (.cells #[.string e.path, .int .i64 e.kind, .int .i64 e.mode, .int .i64 e.time, .slice da e.data.length dc, .string e.link] 79));have hltb:base+1+1<W8.heap.size:=lt_of_block HBX8.out;have hS2:=And.intro ((HAL.out.cell (p:=⟨base+1+1,11,none⟩) hltb).trans k11) (And.intro (HLK.out _ (HAL.out.block base (by omega))) (And.intro ((HAL.out.cell (p:=⟨wr.heap.size,0,none⟩) hltx).trans d0) (And.intro ((HAL.out.cell (p:=⟨wr.heap.size,1,none⟩) hltx).trans d1) (And.intro ((HAL.out.cell (p:=⟨wr.heap.size,2,none⟩) hltx).trans d2) (And.intro ((HAL.out.cell (p:=⟨wr.heap.size,3,none⟩) hltx).trans d3) (And.intro ((HAL.out.cell (p:=⟨wr.heap.size,4,none⟩) hltx).trans d4) ((HAL.out.cell (p:=⟨wr.heap.size,5,none⟩) hltx).trans d5)))))))
         have HS2:=ab hS2;clear hS2;refine ar 12 rfl (by kernel_rfl) rfl (fun K hK=> ?_);go_wp2_with fail
         (first | (refine⟨HS2.out, ?_⟩) | skip)
         refine ar 13 rfl (by kernel_rfl) rfl (fun K hK=> ?_);have hz8:base<=W8.heap.size:=by omega
         go_wp2_with (at_builtin; go_must (refine aG Tryz.appEnts rfl _ _ rfl base (.slice none 0 0) (0) ([]) rfl W8 [.string e.path, .int .i64 e.kind, .int .i64 e.mode, .int .i64 e.time, .slice da e.data.length dc, .string e.link] _ rfl rfl (eE (e:=e)) ((World.ownsRow_nil _ _ _ _)) HLNB.out hz8 ?_); intro v' wc hown' hgrow' _ hpl; obtain⟨ae,ce,rfl,-,-⟩:=aj hown');have hbxc:=(hgrow'.block (base+1+1) hltb (fun e9=>HNE.out.1 e9.symm)).trans HBX8.out
         have hxc:=(hgrow'.block wr.heap.size hltx (fun e9=>HNE.out.2.1 e9.symm)).trans HX8.out;have hmc:=hgrow'.block base (by omega) (fun e9=>HNE.out.2.2 e9.symm);have hlkc:=HLK.out wc hmc;have HBXC:=ab hbxc;have HXC:=ab hxc;have HMC:=ab hmc;have HOWC:=ab hown';have HGRC:=ab hgrow';have HPLC:=ab hpl;clear hbxc hxc hmc hown' hgrow' hpl hlk k11 d0 d1 d2 d3 d4 d5;have d0:=aa (k:=0) HXC.out
         have d1:=aa (k:=1) HXC.out;have d2:=aa (k:=2) HXC.out;have d3:=aa (k:=3) HXC.out;have d4:=aa (k:=4) HXC.out;have d5:=aa (k:=5) HXC.out;simp only[aJ]at d0 d1 d2 d3 d4 d5;have k11:=aa (k:=11) HBXC.out;simp only[fV,cY,dt,List.cons_append,List.nil_append,aJ]at k11;refine⟨⟨k11,hlkc,d0,d1,d2,d3,d4,d5⟩, ?_⟩;refine aU (by kernel_rfl) ?_
         refine bY rfl rfl (fun K hK=> ?_);clear k11 hlkc d0 d1 d2 d3 d4 d5;have HMS:=ab (HGR8.out.map.same HMC.out);go_wp2_with (at_mapUpdate; go_must (refine ed bO rfl _ _ _ _ rfl HTY.out base (G.map gx) HMS.out rfl (.string q) (.slice ae (0+1) ce) rfl rfl (cD hqs) HNEW.out ?_); intro w10 hm10 hg10);have HG10:=ab hg10;have HGRN:=ab (HGR8.out.new (Nat.le_refl _) hqs (y:=(.slice da e.data.length dc,e)) HDY8.out HOWC.out HGRC.out (fun i hi=>by
          rcases HPLC.out i hi with h9 | h9
          ·simp[Value.ownBlock]at h9
          ·exact h9) hm10 hg10)
         clear hm10 hg10;have hb10:=HIN.out.below.trans ((HB8.out.mono hbz).trans (((Below.refl base W8).grown HGRC.out hz8 (fun i hi=>HLOW.out i hi)).grown HG10.out (Nat.le_trans hz8 HGRC.out.size) (fun i hi=>by cases hi; exact Nat.le_refl _)));have hbd10:=HBD8.out.nilKeep (w':=w10) ((HG10.out.block _ (Nat.lt_of_lt_of_le hltb HGRC.out.size) (fun e9=>by have:=Option.some.inj e9; omega)).trans (HBXC.out.trans HBX8.out.symm)) ((HG10.out.block _ (Nat.lt_of_lt_of_le HBD8.out.known.map.lt HGRC.out.size) (fun e9=>by have:=Option.some.inj e9; omega)).trans (HGRC.out.block _ HBD8.out.known.map.lt (fun e9=>HNK.out e9.symm)))
         go_roundw
         case rel=>
          refine⟨j+1,(G++[⟨q, .slice ae (0+1) ce,[(.slice da e.data.length dc,e)]⟩]),by omega,by go_num,⟨hbd10,HGRN.out,fun d=> ?_,hb10⟩⟩;rw[gW HEA.out];rw[oL (g:=⟨q, .slice ae (0+1) ce,[(.slice da e.data.length dc,e)]⟩) HF.out]
          by_cases hqd:q=d
          ·rw[if_pos hqd,if_pos (show aT (bl e.path)=bl d by rw[<-hqd,HQ.out]; exact(fa _).symm),<-HIN.out.ents d,<-hqd,mP HF.out]
           rfl
          ·rw[if_neg hqd,if_neg (fun h9=>hqd (eN (by rw[HQ.out]; exact(fa _).trans h9))),List.append_nil];exact HIN.out.ents d
         case measure=>simp[intOf]; omega
        | some g=>
         obtain⟨A,B,hAB,hgd,hA⟩: ∃A B,G=A++g::B/\g.dir=q/\ ∀x∈A,x.dir≠q:=by
          have h9:=List.find?_eq_some_iff_append.1 hf;obtain⟨h1,A,B,h2,h3⟩:=h9;exact⟨A,B,h2,by simpa using h1,fun x hx=>by simpa using h3 x hx⟩
         have hent:=gR hf;subst hgd;subst hAB;have HENT:=ab hent;have HA:=ab hA;have hgo:=HGR8.out.own g (by simp);have hgo0:=HIN.out.grp.own g (by simp);obtain⟨ga,gc,hgv,hgn,-⟩:=aj hgo;have hgl:g.ents.length<=4096:=by
          have h1:=HIN.out.ents g.dir;rw[hent]at h1;have h2:=congrArg List.length h1;rw[List.length_map]at h2;rw[h2];have h3:(cd (tree.take j) g.dir).length<=(tree.take j).length:=List.length_filter_le _ _;rw[List.length_take]at h3;have h4:=HTO.out.len;omega
         obtain⟨gl,hgl2⟩: ∃gl,gl=g.ents.length:=⟨_,rfl⟩;have HGL:=ab hgl2;rw[<-hgl2]at hgv hgl;have HLNB:=ab (show gl<1099511627775 by omega);have HGO:=ab (show W8.ownsRow base 79 6 (.slice ga gl gc) gl (cW g.ents) by rw[<-hgv,hgl2]; exact hgo);have HGV:=ab hgv;have HNE:=ab (show(Value.slice ga gl gc).ownBlock≠some (base+1+1)/\(Value.slice ga gl gc).ownBlock≠some wr.heap.size/\(Value.slice ga gl gc).ownBlock≠some base from by
          rw[<-hgv];refine⟨fun e9=> ?_,fun e9=> ?_,fun e9=> ?_⟩
          ·obtain⟨cs2,hc2⟩:=aA hgo e9;exact absurd (aH HBX8.out hc2) (by decide)
          ·have:=(hgo0.lt _ e9).2;omega
          ·obtain⟨cs2,hc2⟩:=aA hgo e9;exact HGR8.out.map.ncells hc2)
         have HNK:=ab (show(Value.slice ga gl gc).ownBlock≠some (base+1)from by
          rw[<-hgv];intro e9;obtain⟨cs2,hc2⟩:=aA hgo e9;exact HBD8.out.known.cells hc2)
         have HLOW:=ab (show ∀i,(Value.slice ga gl gc).ownBlock=some i->base<=i from fun i hi=>by
          rw[<-hgv]at hi;exact(hgo.lt i hi).1)
         have HLK:=ab (show ∀W:World,W.heap[base]? =W8.heap[base]? ->(Instr.lookup 119 (.map (some base)) (.string g.dir) false).run Tryz.prog W= .ok (.slice ga gl gc) W from fun W hW=>by
          have:=(HGR8.out.map.same hW).is.hit bO HTY.out (cD hqs) (val:=g.val) (List.mem_map.2 ⟨g,by simp,rfl⟩) false;rw[hgv]at this
          simpa using this)
         clear hf hent hA hgo hgo0 hgv hgl2;have hlk:=HLK.out W8 rfl;refine bR (fun w'=>w'.cell? ⟨base+1+1,11,none⟩=some (.map (some base))/\(Instr.lookup 119 (.map (some base)) (.string (g.dir)) false).run Tryz.prog w'= .ok (.slice ga gl gc) w'/\w'.cell? ⟨wr.heap.size,0,none⟩=some (.string e.path)/\w'.cell? ⟨wr.heap.size,1,none⟩=some (.int .i64 e.kind)/\w'.cell? ⟨wr.heap.size,2,none⟩=some (.int .i64 e.mode)/\w'.cell? ⟨wr.heap.size,3,none⟩=some (.int .i64 e.time)/\w'.cell? ⟨wr.heap.size,4,none⟩=some (.slice da e.data.length dc)/\w'.cell? ⟨wr.heap.size,5,none⟩=some (.string e.link)) (by kernel_rfl) (by kernel_rfl) ?_
         simp only[List.dropLast_cons_cons,List.dropLast_singleton,List.length_cons,List.length_nil,Nat.reduceAdd,Nat.reduceSub];rw[<-hW8];clear hW8;refine ag 0 rfl (by kernel_rfl) (by kernel_rfl) (by kernel_rfl) (fun _ _ _ h=>h) rfl ⟨k11,hlk,d0,d1,d2,d3,d4,d5⟩ (by rintro w' ⟨hw1,hw2,hw3,hw4,hw5,hw6,hw7,hw8⟩; go_simp; rfl) ?_;simp only[Act.put,aB,aC,aD];refine ag 1 rfl (by kernel_rfl) (by kernel_rfl) (by kernel_rfl) (fun _ _ _ h=>h) rfl ⟨k11,hlk,d0,d1,d2,d3,d4,d5⟩ (by rintro w' ⟨hw1,hw2,hw3,hw4,hw5,hw6,hw7,hw8⟩; go_simp; rfl) ?_
         simp only[Act.put,aB,aC,aD];refine ag 2 rfl (by kernel_rfl) (by kernel_rfl) (by kernel_rfl) (fun _ _ _ h=>h) rfl ⟨k11,hlk,d0,d1,d2,d3,d4,d5⟩ (by rintro w' ⟨hw1,hw2,hw3,hw4,hw5,hw6,hw7,hw8⟩; go_simp; rfl) ?_;simp only[Act.put,aB,aC,aD];refine ag 3 rfl (by kernel_rfl) (by kernel_rfl) (by kernel_rfl) (fun _ _ _ h=>h) rfl ⟨k11,hlk,d0,d1,d2,d3,d4,d5⟩ (by rintro w' ⟨hw1,hw2,hw3,hw4,hw5,hw6,hw7,hw8⟩; go_simp; rfl) ?_
         simp only[Act.put,aB,aC,aD];refine ag 4 rfl (by kernel_rfl) (by kernel_rfl) (by kernel_rfl) (fun _ _ _ h=>h) rfl ⟨k11,hlk,d0,d1,d2,d3,d4,d5⟩ (by rintro w' ⟨hw1,hw2,hw3,hw4,hw5,hw6,hw7,hw8⟩; go_simp; rfl) ?_;simp only[Act.put,aB,aC,aD];refine ag 5 rfl (by kernel_rfl) (by kernel_rfl) (by kernel_rfl) (fun _ _ _ h=>h) rfl ⟨k11,hlk,d0,d1,d2,d3,d4,d5⟩ (by rintro w' ⟨hw1,hw2,hw3,hw4,hw5,hw6,hw7,hw8⟩; go_simp; rfl) ?_
         simp only[Act.put,aB,aC,aD];refine ag 6 rfl (by kernel_rfl) (by kernel_rfl) (by kernel_rfl) (fun _ _ _ h=>h) rfl ⟨k11,hlk,d0,d1,d2,d3,d4,d5⟩ (by rintro w' ⟨hw1,hw2,hw3,hw4,hw5,hw6,hw7,hw8⟩; go_simp; rfl) ?_;simp only[Act.put,aB,aC,aD];refine ag 7 rfl (by kernel_rfl) (by kernel_rfl) (by kernel_rfl) (fun _ _ _ h=>h) rfl ⟨k11,hlk,d0,d1,d2,d3,d4,d5⟩ (by rintro w' ⟨hw1,hw2,hw3,hw4,hw5,hw6,hw7,hw8⟩; go_simp; rfl) ?_
         simp only[Act.put,aB,aC,aD];refine ag 8 rfl (by kernel_rfl) (by kernel_rfl) (by kernel_rfl) (fun _ _ _ h=>h) rfl ⟨k11,hlk,d0,d1,d2,d3,d4,d5⟩ (by rintro w' ⟨hw1,hw2,hw3,hw4,hw5,hw6,hw7,hw8⟩; go_simp; rfl) ?_;simp only[Act.put,aB,aC,aD];refine ag 9 rfl (by kernel_rfl) (by kernel_rfl) (by kernel_rfl) (fun _ _ _ h=>h) rfl ⟨k11,hlk,d0,d1,d2,d3,d4,d5⟩ (by rintro w' ⟨hw1,hw2,hw3,hw4,hw5,hw6,hw7,hw8⟩; go_simp; rfl) ?_
         simp only[Act.put,aB,aC,aD];refine ag 10 rfl (by kernel_rfl) (by kernel_rfl) (by kernel_rfl) (fun _ _ _ h=>h) rfl ⟨k11,hlk,d0,d1,d2,d3,d4,d5⟩ (by rintro w' ⟨hw1,hw2,hw3,hw4,hw5,hw6,hw7,hw8⟩; go_simp; rfl) ?_;simp only[Act.put,aB,aC,aD];refine ag 11 rfl (by kernel_rfl) (by kernel_rfl) (by kernel_rfl) (fun _ _ _ h=>h) rfl ⟨k11,hlk,d0,d1,d2,d3,d4,d5⟩ (by rintro w' ⟨hw1,hw2,hw3,hw4,hw5,hw6,hw7,hw8⟩; go_simp; rfl) ?_
         simp only[Act.put,aB,aC,aD];have HAL:=ab ((Below.refl W8.heap.size W8).alloc (Nat.le_refl _) (.cells #[.string e.path, .int .i64 e.kind, .int .i64 e.mode, .int .i64 e.time, .slice da e.data.length dc, .string e.link] 79));have hltb:base+1+1<W8.heap.size:=lt_of_block HBX8.out;have hS2:=And.intro ((HAL.out.cell (p:=⟨base+1+1,11,none⟩) hltb).trans k11) (And.intro (HLK.out _ (HAL.out.block base (by omega))) (And.intro ((HAL.out.cell (p:=⟨wr.heap.size,0,none⟩) hltx).trans d0) (And.intro ((HAL.out.cell (p:=⟨wr.heap.size,1,none⟩) hltx).trans d1) (And.intro ((HAL.out.cell (p:=⟨wr.heap.size,2,none⟩) hltx).trans d2) (And.intro ((HAL.out.cell (p:=⟨wr.heap.size,3,none⟩) hltx).trans d3) (And.intro ((HAL.out.cell (p:=⟨wr.heap.size,4,none⟩) hltx).trans d4) ((HAL.out.cell (p:=⟨wr.heap.size,5,none⟩) hltx).trans d5)))))))
         have HS2:=ab hS2;clear hS2;refine ar 12 rfl (by kernel_rfl) rfl (fun K hK=> ?_);go_wp2_with fail
         (first | (refine⟨HS2.out, ?_⟩) | skip)
         refine ar 13 rfl (by kernel_rfl) rfl (fun K hK=> ?_);have hz8:base<=W8.heap.size:=by omega
         go_wp2_with (at_builtin; go_must (refine aG Tryz.appEnts rfl _ _ rfl base (.slice ga gl gc) (gl) ((cW g.ents)) rfl W8 [.string e.path, .int .i64 e.kind, .int .i64 e.mode, .int .i64 e.time, .slice da e.data.length dc, .string e.link] _ rfl rfl (eE (e:=e)) (HGO.out) HLNB.out hz8 ?_); intro v' wc hown' hgrow' _ hpl; obtain⟨ae,ce,rfl,-,-⟩:=aj hown');have hbxc:=(hgrow'.block (base+1+1) hltb (fun e9=>HNE.out.1 e9.symm)).trans HBX8.out
         have hxc:=(hgrow'.block wr.heap.size hltx (fun e9=>HNE.out.2.1 e9.symm)).trans HX8.out;have hmc:=hgrow'.block base (by omega) (fun e9=>HNE.out.2.2 e9.symm);have hlkc:=HLK.out wc hmc;have HBXC:=ab hbxc;have HXC:=ab hxc;have HMC:=ab hmc;have HOWC:=ab hown';have HGRC:=ab hgrow';have HPLC:=ab hpl;clear hbxc hxc hmc hown' hgrow' hpl hlk k11 d0 d1 d2 d3 d4 d5;have d0:=aa (k:=0) HXC.out
         have d1:=aa (k:=1) HXC.out;have d2:=aa (k:=2) HXC.out;have d3:=aa (k:=3) HXC.out;have d4:=aa (k:=4) HXC.out;have d5:=aa (k:=5) HXC.out;simp only[aJ]at d0 d1 d2 d3 d4 d5;have k11:=aa (k:=11) HBXC.out;simp only[fV,cY,dt,List.cons_append,List.nil_append,aJ]at k11;refine⟨⟨k11,hlkc,d0,d1,d2,d3,d4,d5⟩, ?_⟩;refine aU (by kernel_rfl) ?_
         refine bY rfl rfl (fun K hK=> ?_);clear k11 hlkc d0 d1 d2 d3 d4 d5;have HMS:=ab (show cO Tryz.prog 9 wc base (A.map gx++(.string g.dir,g.val)::B.map gx)from by
          have:=HGR8.out.map.same HMC.out
          simpa [gx]using this)
         go_wp2_with (at_mapUpdate; go_must (refine jq bO rfl _ _ _ _ rfl HTY.out base (A.map gx) (B.map gx) (.string g.dir) (.slice ae (gl+1) ce) g.val HMS.out rfl rfl rfl ?_); intro w10 hm10 hg10);have HG10:=ab hg10;have HGRN:=ab (HGR8.out.over (Nat.le_refl _) (y:=(.slice da e.data.length dc,e)) HDY8.out (by rw[<-HGL.out]; exact HOWC.out) (by rw[HGV.out]; exact HGRC.out) (by rw[HGV.out]; exact HPLC.out) hm10 hg10)
         clear hm10 hg10;have hb10:=HIN.out.below.trans ((HB8.out.mono hbz).trans (((Below.refl base W8).grown HGRC.out hz8 (fun i hi=>HLOW.out i hi)).grown HG10.out (Nat.le_trans hz8 HGRC.out.size) (fun i hi=>by cases hi; exact Nat.le_refl _)));have hbd10:=HBD8.out.nilKeep (w':=w10) ((HG10.out.block _ (Nat.lt_of_lt_of_le hltb HGRC.out.size) (fun e9=>by have:=Option.some.inj e9; omega)).trans (HBXC.out.trans HBX8.out.symm)) ((HG10.out.block _ (Nat.lt_of_lt_of_le HBD8.out.known.map.lt HGRC.out.size) (fun e9=>by have:=Option.some.inj e9; omega)).trans (HGRC.out.block _ HBD8.out.known.map.lt (fun e9=>HNK.out e9.symm)))
         go_roundw
         case rel=>
          refine⟨j+1,(A++⟨g.dir, .slice ae (gl+1) ce,g.ents++[(.slice da e.data.length dc,e)]⟩::B),by omega,by go_num,⟨hbd10,HGRN.out,fun d=> ?_,hb10⟩⟩;rw[gW HEA.out];rw[mQ (A:=A) (B:=B) (g:=g) (g':=(⟨g.dir, .slice ae (gl+1) ce,g.ents++[((Value.slice da e.data.length dc,e):iY)]⟩:tH)) rfl HA.out d]
          by_cases hqd:g.dir=d
          ·rw[if_pos hqd,if_pos (show aT (bl e.path)=bl d by rw[<-hqd,HQ.out]; exact(fa _).symm),<-HIN.out.ents d,<-hqd,HENT.out,List.map_append]
           rfl
          ·rw[if_neg hqd,if_neg (fun h9=>hqd (eN (by rw[HQ.out]; exact(fa _).trans h9))),List.append_nil];exact HIN.out.ents d
         case measure=>simp[intOf]; omega
       ·have hk2:j=n:=by omega
        have hgl:vY wr base base tree:=⟨G,HIN.out.grp,fun d=>by have:=HIN.out.ents d; rwa [show tree.take j=tree by rw[hk2,HN.out,List.take_length]]at this⟩;have hbz:base<=wr.heap.size:=by have h1:=HIN.out.grp.map.lt; omega
        have h7:7<=base:=Nat.le_trans HE.out.seven hwb;have hgok: ∀p∈gs,0<=p.2/\p.2<=1099511627776:=fun p hp=>by have:=List.all_eq_true.1 HALL.out p hp; simpa using this
        have hX:AZ base (base+1+1) (base+1) base k c gs tree (yQ k gs c tree):=⟨HKV.out,HCV.out,hsd,hgok,by omega,by omega,h7,by omega,HTO.out.val,HTO.out.len,xQ HCV.out HTO.out.len HTO.out.val,xR,xS⟩;have hbw:Below w.heap.size w wr:=HB4.out.trans (HIN.out.below.mono hwb);have hgw:ii (· <base) wr (.map none) gs:=by
         rcases HG.out with⟨h1,h2⟩ | ⟨gb9,h1,_,h3⟩
         ·exact .inl ⟨h1,h2⟩
         ·exact .inr ⟨gb9,h1,Nat.lt_of_lt_of_le h3.lt hwb,h3.same (hbw.block _ h3.lt)⟩
        have hdr:=sP hX 514 (Nat.le_refl _) ⟨#[]⟩ (.slice none 0 0) [] wr (by show 514<=0+514; omega) (.inl rfl) HIN.out.bd hgw hgl (by intro b hb; simp at hb) (HE.out.keep hbw HE.out.seven) hbz;unfold sw at hdr;clear hgl hX hgw
        cases hdp:cC k gs c tree 514 ⟨#[]⟩with
        | error x9=>
         rw[hdp]at hdr;have HM3:=ab (show cQ k c tree gs= .error x9 by rw[HM2.out,hdp]);have HDR:=ab hdr;clear hdr hdp;go_wp2_with fail;refine HDR.out.mono ?_;rintro e' w5 ⟨rfl,hx9,v5,bs5,hbd5,hkp5⟩;have HB5:=ab (hbw.trans (hkp5.below.mono hwb));have HR5:=ab ((hkp5.below.block (w.heap.size+2) hne2).trans ((HIN.out.below.block (w.heap.size+2) hne2).trans HR4.out));have HX9:=ab hx9
         have e4:(x9 != 0)=true:=by simp[hx9]
         clear hx9 hbd5 hkp5 hbw
         go_upto_region 20 with(fail)
         obtain⟨W6,hW6⟩: ∃W6:World,W6=w5.alloc (.cells #[.string ⟨#[]⟩, .int .i64 0, .int .i64 0] 26):=⟨_,rfl⟩;rw[<-hW6];have hb6:Below w5.heap.size w5 W6:=by rw[hW6]; exact(Below.refl _ _).alloc (Nat.le_refl _) _
         have HB6:=ab (ah HB5.out hb6);have HR6:=ab ((hb6.block _ (lt_of_block HR5.out)).trans HR5.out);clear hb6 hW6;have z0:=aa (k:=0) HR6.out;have z1:=aa (k:=1) HR6.out;have z2:=aa (k:=2) HR6.out;have y0:=af (k:=0) HR6.out;have y1:=af (k:=1) HR6.out;have y2:=af (k:=2) HR6.out;simp only[aJ]at z0 z1 z2;go_wp2_with fail;refine dN HR6.out rfl rfl rfl rfl ⟨dh HB6.out (by show w.heap.size<=w.heap.size+2; omega), ?_⟩
         rw[HM3.out];exact⟨rfl,HX9.out⟩
        | ok p=>
         rw[hdp]at hdr
         dsimp only at hdr
         have HM3:=ab (show cQ k c tree gs= .ok (aX k gs p.1,bG k gs p.2 []) by rw[HM2.out,hdp]);obtain⟨r,hr⟩: ∃r,r=aX k gs p.1:=⟨_,rfl⟩;rw[<-hr]at hdr;have HRE:=ab hr;have HDR:=ab hdr;unfold bt at HDR;clear hdr hdp hr;go_wp2_with fail;refine HDR.out.mono ?_;rintro e' w5 ⟨rfl,-,v5,hbd5,hkp5⟩;have HB5:=ab (hbw.trans (hkp5.below.mono hwb));have HR5:=ab ((hkp5.below.block (w.heap.size+2) hne2).trans ((HIN.out.below.block (w.heap.size+2) hne2).trans HR4.out))
         have HBD5:=ab hbd5;clear hbd5 hkp5 hbw
         go_upto_region 22 with(fail)
         obtain⟨W6,hW6⟩: ∃W6:World,W6=(w5.alloc (.cells #[.string r.name, .int .i64 r.gen, .int .i64 r.size] 26)).drew:=⟨_,rfl⟩;have hb6:Below w5.heap.size w5 W6:=by rw[hW6]; exact((Below.refl _ _).alloc (Nat.le_refl _) _).drew
         have HB6:=ab (ah HB5.out hb6);have HR6:=ab ((hb6.block _ (lt_of_block HR5.out)).trans HR5.out);have HF6:=ab (show W6.heap[w5.heap.size]? =some (.cells #[.string r.name, .int .i64 r.gen, .int .i64 r.size] 26 (0,0)) by rw[hW6]; exact bQ w5 _);have HBD6:=ab (HBD5.out.below hb6);obtain⟨zs,hzs,hbo⟩:=HBD6.out.own;obtain⟨va,vc,hv6,-,-⟩:=aj hbo.row;subst hv6
         have HZS:=ab hzs;have HBO:=ab hbo;have HBX6:=ab HBD6.out.box;clear hb6 hzs hbo;have k12:=aa (k:=12) HBX6.out;have f0:=aa (k:=0) HF6.out;have f1:=aa (k:=1) HF6.out;have f2:=aa (k:=2) HF6.out;simp only[fV,cY,dt,List.cons_append,List.nil_append,aJ]at k12 f0 f1 f2;have z0:=aa (k:=0) HR6.out;have z1:=aa (k:=1) HR6.out;have z2:=aa (k:=2) HR6.out
         have y0:=af (k:=0) HR6.out;have y1:=af (k:=1) HR6.out;have y2:=af (k:=2) HR6.out;simp only[aJ]at z0 z1 z2;refine cI (fun w'=>w'.cell? ⟨base+1+1,12,none⟩=some (.slice va zs.length vc)/\w'.cell? ⟨w5.heap.size,0,none⟩=some (.string r.name)/\w'.cell? ⟨w5.heap.size,1,none⟩=some (.int .i64 r.gen)/\w'.cell? ⟨w5.heap.size,2,none⟩=some (.int .i64 r.size)) (by kernel_rfl) ?_
         rw[<-hW6];clear hW6;refine ag 0 rfl (by kernel_rfl) (by kernel_rfl) (by kernel_rfl) (fun _ _ _ h=>h) rfl ⟨k12,f0,f1,f2⟩ (by rintro w' ⟨hw1,hw2,hw3,hw4⟩; go_simp; rfl) ?_;simp only[Act.put,aB,aC,aD];refine ag 1 rfl (by kernel_rfl) (by kernel_rfl) (by kernel_rfl) (fun _ _ _ h=>h) rfl ⟨k12,f0,f1,f2⟩ (by rintro w' ⟨hw1,hw2,hw3,hw4⟩; go_simp; rfl) ?_;simp only[Act.put,aB,aC,aD]
         refine ag 2 rfl (by kernel_rfl) (by kernel_rfl) (by kernel_rfl) (fun _ _ _ h=>h) rfl ⟨k12,f0,f1,f2⟩ (by rintro w' ⟨hw1,hw2,hw3,hw4⟩; go_simp; rfl) ?_;simp only[Act.put,aB,aC,aD];refine ag 3 rfl (by kernel_rfl) (by kernel_rfl) (by kernel_rfl) (fun _ _ _ h=>h) rfl ⟨k12,f0,f1,f2⟩ (by rintro w' ⟨hw1,hw2,hw3,hw4⟩; go_simp; rfl) ?_;simp only[Act.put,aB,aC,aD]
         refine ag 4 rfl (by kernel_rfl) (by kernel_rfl) (by kernel_rfl) (fun _ _ _ h=>h) rfl ⟨k12,f0,f1,f2⟩ (by rintro w' ⟨hw1,hw2,hw3,hw4⟩; go_simp; rfl) ?_;simp only[Act.put,aB,aC,aD];refine ar 5 rfl (by kernel_rfl) rfl (fun K hK=> ?_);have hw5:w.heap.size+1+1<w5.heap.size:=lt_of_block HR5.out;have hbwb:base+1+1≠w.heap.size+1+1:=by omega
         have hwfb:w5.heap.size≠w.heap.size+1+1:=by omega
         have hS2:=fun(u0 u1 u2:Value)=>And.intro ((World.cell?_of_block (a:=⟨base+1+1,12,none⟩) (bz (w:=W6) (x0:=u0) (x1:=u1) (x2:=u2) hbwb)).trans k12) (And.intro ((World.cell?_of_block (a:=⟨w5.heap.size,0,none⟩) (bz (w:=W6) (x0:=u0) (x1:=u1) (x2:=u2) hwfb)).trans f0) (And.intro ((World.cell?_of_block (a:=⟨w5.heap.size,1,none⟩) (bz (w:=W6) (x0:=u0) (x1:=u1) (x2:=u2) hwfb)).trans f1) ((World.cell?_of_block (a:=⟨w5.heap.size,2,none⟩) (bz (w:=W6) (x0:=u0) (x1:=u1) (x2:=u2) hwfb)).trans f2)))
         have HS2:=ab hS2;clear hS2 k12 f0 f1 f2;go_wp2_with fail;refine⟨HS2.out _ _ _, ?_⟩;refine ag 6 rfl (by kernel_rfl) (by kernel_rfl) (by kernel_rfl) (fun _ _ _ h=>h) rfl (HS2.out _ _ _) (by rintro w' ⟨hw1,hw2,hw3,hw4⟩; go_simp; rfl) ?_;simp only[Act.put,aB,aC,aD];refine ag 7 rfl (by kernel_rfl) (by kernel_rfl) (by kernel_rfl) (fun _ _ _ h=>h) rfl (HS2.out _ _ _) (by rintro w' ⟨hw1,hw2,hw3,hw4⟩; go_simp; rfl) ?_
         simp only[Act.put,aB,aC,aD];refine aU (by kernel_rfl) ?_;go_wp2_with fail;refine dN HR6.out rfl rfl rfl rfl ⟨dh HB6.out (by show w.heap.size<=w.heap.size+2; omega), ?_⟩;rw[HM3.out];refine⟨_,zs,by rw[<-HRE.out]; rfl,HZS.out,HBO.out.other HR6.out (by decide) (by decide) hwb (fun i hi=>bz hi)⟩
     ·have e1:(x != 0)=true:=by simp[hx0]
      have HX0:=ab hx0;clear hx0;have z0:=aa (k:=0) HR4.out;have z1:=aa (k:=1) HR4.out;have z2:=aa (k:=2) HR4.out;have y0:=af (k:=0) HR4.out;have y1:=af (k:=1) HR4.out;have y2:=af (k:=2) HR4.out;simp only[aJ]at z0 z1 z2;go_wp2_with fail;refine dN HR4.out rfl rfl rfl rfl ⟨dh HB4.out (by show w.heap.size<=w.heap.size+2; omega), ?_⟩
      rw[HM1.out,if_neg (by rw[HCX2.out]; exact HX0.out)];rw[HCX2.out];exact⟨rfl,HX0.out⟩
   ·have HGM:=ab (hgm.same (w':=w2) (HB2.out.block gb hgm.lt));have hgbw:gb<w.heap.size:=hgm.lt;clear hgm hTg;go_wp2_with (at_range; go_must (refine qF rfl _ _ rfl eI gb _ rfl HGM.out ?_); intro w0 hrg0 hb0 hs0);obtain⟨r9,hr9⟩: ∃r9,r9=w2.heap.size:=⟨_,rfl⟩;rw[<-hr9]at hrg0 ⊢;have HR9:=ab hr9;have HB20:=ab hb0;clear hr9 hs0 hb0
    go_frame
    go_loopw [14] (fun _ wr=> ∃vis,jw Tryz.prog 9 wr gb r9 (gs.map ut) vis/\(∀p∈vis,∃z:Int,p.2= .int .i64 z/\0<=z/\z<=1099511627776)/\Below w2.heap.size w2 wr) (fun _ wr=>wr.rangeLeft gb r9)
    case atStart=>exact⟨[],hrg0,by simp,HB20.out⟩
    case round=>
     obtain⟨vis,hrg,hvis,hb2r⟩:=hrel;have HRG:=ab hrg;have HVIS:=ab hvis;have HB2R:=ab hb2r;clear hrg hvis hb2r;go_wp2_with (at_next; go_must (refine tG rfl _ rfl gb r9 _ _ rfl HRG.out ?_ ?_))
     ·intro hdone;have HALL:=ab (show gs.all (fun p=>decide (0<=p.2) && decide (p.2<=1099511627776))=true from by
       rw[List.all_eq_true];intro p hp;obtain⟨z,hz1,hz2,hz3⟩:=HVIS.out (ut p) (hdone.mem_iff.2 (List.mem_map.2 ⟨p,hp,rfl⟩));simp only[ut,Value.int.injEq,true_and]at hz1;subst hz1;simp[hz2,hz3])
      have HB3:=ab (ah HB2.out HB2R.out);have HR3:=ab ((HB2R.out.block _ (lt_of_block HR2.out)).trans HR2.out);have HK3:=ab ((HB2R.out.block _ (lt_of_block HK2.out)).trans HK2.out);have HC3:=ab ((HB2R.out.block _ (lt_of_block HC2.out)).trans HC2.out);clear hdone HRG hrg0
      go_upto_region 9 with(fail)
      have HM1:=ab (show cQ k c tree gs=(if cR tree=0 then(match cC k gs c tree 514 ⟨#[]⟩with
       | .error x=> .error x
       | .ok p=> .ok (aX k gs p.1,bG k gs p.2 []))
      else .error (cR tree)) by rw[HM0.out,if_pos HALL.out])
      have htr:dy S (wr) (.slice ta n tc) tree:=dy.below HT.out HB3.out;have hev:=HE.out.below HB3.out;obtain⟨x,hx⟩: ∃x,cR tree=x:=⟨_,rfl⟩;have hck:=xX S tree (.slice ta n tc) x (wr) htr hev.env hx;have HCK:=ab hck;have HCX2:=ab hx;clear htr hev hck hx;go_wp2_with fail;refine HCK.out.mono ?_;rintro e w4 ⟨rfl,hb4⟩;have HB4:=ab (ah HB3.out hb4);have HR4:=ab ((hb4.block _ (lt_of_block HR3.out)).trans HR3.out)
      have HK4:=ab ((hb4.block _ (lt_of_block HK3.out)).trans HK3.out);have HC4:=ab ((hb4.block _ (lt_of_block HC3.out)).trans HC3.out);clear hb4
      by_cases hx0:x=0
      ·have e1:(x != 0)=false:=by simp[hx0]
       have HTO:=ab (ol.1 (HCX2.out.trans hx0));have HM2:=ab (show cQ k c tree gs=(match cC k gs c tree 514 ⟨#[]⟩with
        | .error x=> .error x
        | .ok p=> .ok (aX k gs p.1,bG k gs p.2 [])) by rw[HM1.out,if_pos (HCX2.out.trans hx0)])
       clear hx0;have a0:=aa (k:=0) HK4.out;have a1:=aa (k:=1) HK4.out;have a2:=aa (k:=2) HK4.out;have a3:=aa (k:=3) HK4.out;have a4:=aa (k:=4) HK4.out;have b0:=aa (k:=0) HC4.out;have b1:=aa (k:=1) HC4.out;have b2:=aa (k:=2) HC4.out;have b3:=aa (k:=3) HC4.out;have b4:=aa (k:=4) HC4.out;simp only[aJ]at a0 a1 a2 a3 a4 b0 b1 b2 b3 b4
       have hmm:= @run_makeMap Tryz.prog
       go_upto_region 13 with(fail)
       obtain⟨W5,hW5⟩: ∃W5:World,W5=((w4.alloc (.map #[] 0)).alloc (.map #[] 0)).alloc (.cells #[.string k.nm, .string k.st, .string k.ck, .string k.ix, .string k.tk, .int .i64 c.mn, .int .i64 c.mx, .int .i64 c.win, .int .i64 c.bits, .int .u64 (c.seed:Int), .map (some gb), .map (some w4.heap.size), .slice none 0 0, .map (some (w4.heap.size+1))] 122):=⟨_,rfl⟩;rw[<-hW5];obtain⟨base,hbase⟩: ∃base,base=w4.heap.size:=⟨_,rfl⟩
       rw[<-hbase]at hW5 ⊢;have HBS:=ab hbase;have hbgi:BgI w4 base (base+1+1) base (base+1) k c (.map (some gb)) [] W5 []:=by
        have e1:(w4.alloc (.map #[] 0)).heap.size=base+1:=by simp[hbase]
        have e2:((w4.alloc (.map #[] 0)).alloc (.map #[] 0)).heap.size=base+1+1:=by simp[hbase]
        have h1:=cO.made (P:=Tryz.prog) (k:=9) w4;have h2:=dw.made (w4.alloc (.map #[] 0));rw[e1]at h2;rw[<-hbase]at h1;have h3:=bQ ((w4.alloc (.map #[] 0)).alloc (.map #[] 0)) (.cells #[.string k.nm, .string k.st, .string k.ck, .string k.ix, .string k.tk, .int .i64 c.mn, .int .i64 c.mx, .int .i64 c.win, .int .i64 c.bits, .int .u64 (c.seed:Int), .map (some gb), .map (some base), .slice none 0 0, .map (some (base+1))] 122)
        rw[e2]at h3;have hs1:W5.heap[base]? =(w4.alloc (.map #[] 0)).heap[base]? :=by rw[hW5]; exact(Below.heap_alloc _ _ _ (by rw[e2]; omega)).trans (Below.heap_alloc _ _ _ (by rw[e1]; omega))
        have hs2:W5.heap[base+1]? =((w4.alloc (.map #[] 0)).alloc (.map #[] 0)).heap[base+1]? :=by rw[hW5]; exact Below.heap_alloc _ _ _ (by rw[e2]; omega)
        refine⟨⟨by rw[hW5]; exact h3,⟨[],rfl,World.ownsRow_nil _ _ _ _,by simp⟩,h2.same hs2⟩,⟨h1.same hs1,by simp,by simp,List.Pairwise.nil,by simp⟩,fun d=>rfl, ?_⟩;rw[hW5,hbase];exact(((Below.refl _ _).alloc (Nat.le_refl _) _).alloc (by simp) _).alloc (by simp; omega) _
       have HBG:=ab hbgi;have hne2:w.heap.size+2<base:=by have:=lt_of_block HR4.out; omega
       have hwb:w.heap.size<=base:=by omega
       clear hW5 a0 a1 a2 a3 a4 b0 b1 b2 b3 b4 hmm hbase hbgi;go_wp2_with fail
       go_loopw [64] (fun i wr=> ∃(j:Nat) (G:List tH),j<=n/\i= .int .i64 (j:Int)/\BgI w4 base (base+1+1) base (base+1) k c (.map (some gb)) (tree.take j) wr G) (fun i _=>n-(intOf i).toNat)
       case atStart=>exact⟨0,[],Nat.zero_le _,rfl,HBG.out⟩
       case round=>
        obtain⟨j,G,hj,rfl,hin⟩:=hrel;rename_i wq;have HIN:=ab hin;clear hin HBG
        by_cases hlt:j<n
        ·obtain⟨e,he⟩: ∃e,tree[j]? =some e:=⟨tree[j]'(by rw[<-HN.out]; exact hlt),by simp⟩;have hbw:Below w.heap.size w wr:=HB4.out.trans (HIN.out.below.mono hwb);obtain⟨b,o,dv,rfl,-,-,hdd,heok,-,p0,p1,p2,p3,p4,p5⟩:=kj (dy.below HT.out hbw) he;obtain⟨da,dc,rfl,-,-⟩:=bE.slice hdd;have HDY:=ab (show bE (· <base) wr (.slice da e.data.length dc) e.data/\gM e from by
          obtain⟨b9,o9,dv9,he9,_,_,hd9,_,_,_,_,_,_,hp9,_⟩:=kj HT.out he
          cases he9
          have hq:=(hbw.cell (p:=⟨b,o+j*6+4,none⟩) (aO (a:=⟨b,o+j*6+4,none⟩) hp9)).trans hp9;rw[p4]at hq
          cases hq
          have hd0:=aS.lt' hd9 (by decide);exact⟨aS.same (aS.weak (T:=(· <w.heap.size)) hd0 (fun _ h=>h)) (fun i hi=>hbw.block i hi) |> fun h=>aS.weak h (fun i hi=>Nat.lt_of_lt_of_le hi hwb),heok⟩)
         have hval:=HTO.out.val e (List.mem_of_getElem? he);have hep:=bM hval;have hes:e.path.size<=512:=(iK hval).1;obtain⟨q,hq⟩: ∃q:ByteArray,q=⟨(aT (bl e.path)).toArray⟩:=⟨_,rfl⟩;have HQ:=ab hq;have hqs:q.size<=maxLen:=by
          have h1:=lg (l:=bl e.path) (fun h=>by have:=jn hep; rw[h]at this; simp at this);rw[hq,aw,fa];rw[<-aw e.path]at h1;unfold maxLen;omega
         have HEA:=ab he;have hpc:=fun W hE=>eJ e.path q W hE hep hq
         have HPC:=ab hpc;have hbz:base<=wr.heap.size:=by have h1:=HIN.out.grp.map.lt; omega
         have h7:7<=base:=Nat.le_trans HE.out.seven hwb;clear hval hep hq hdd heok he hpc
         go_upto_region 16 with(fail)
         obtain⟨W6,hW6⟩: ∃W6:World,W6=wr.alloc (.cells #[.string e.path, .int .i64 e.kind, .int .i64 e.mode, .int .i64 e.time, .slice da e.data.length dc, .string e.link] 79):=⟨_,rfl⟩;rw[<-hW6];have hb6:Below wr.heap.size wr W6:=by rw[hW6]; exact(Below.refl _ _).alloc (Nat.le_refl _) _
         have HB6:=ab hb6;have HX6:=ab (show W6.heap[wr.heap.size]? =some (.cells #[.string e.path, .int .i64 e.kind, .int .i64 e.mode, .int .i64 e.time, .slice da e.data.length dc, .string e.link] 79 (0,0)) by rw[hW6]; exact bQ wr _);have HE6:=ab (HE.out.keep (HB4.out.trans ((HIN.out.below.mono hwb).trans (hb6.mono (Nat.le_trans hwb hbz)))) HE.out.seven);clear hW6 hb6 p0 p1 p2 p3 p4 p5
         have d0:=aa (k:=0) HX6.out;have d1:=aa (k:=1) HX6.out;have d2:=aa (k:=2) HX6.out;have d3:=aa (k:=3) HX6.out;have d4:=aa (k:=4) HX6.out;have d5:=aa (k:=5) HX6.out;simp only[aJ]at d0 d1 d2 d3 d4 d5;go_wp2_with fail;refine(HPC.out W6 HE6.out.env).mono ?_;rintro e' w7 ⟨rfl,hb7⟩;have HX7:=ab ((hb7.block _ (lt_of_block HX6.out)).trans HX6.out)
         have HB7:=ab (ah HB6.out hb7);clear hb7 d0 d1 d2 d3 d4 d5;go_wp2_with fail;obtain⟨W8,hW8⟩: ∃W8:World,W8=w7.drew:=⟨_,rfl⟩;have hb8:Below w7.heap.size w7 W8:=by rw[hW8]; exact(Below.refl _ _).drew
         have HB8:=ab (ah HB7.out hb8);have HX8:=ab ((hb8.block _ (lt_of_block HX7.out)).trans HX7.out);have hkp8:=cT.ofBelow (bb:=base+1+1) (kb:=base+1) (v:= .slice none 0 0) HB8.out hbz;have HBD8:=ab (HIN.out.bd.below HB8.out);have HGR8:=ab (HIN.out.grp.keep HIN.out.bd hkp8 (by omega));have HBX8:=ab HBD8.out.box;have hltx:wr.heap.size<W8.heap.size:=lt_of_block HX8.out
         have HDY8:=ab (show bE (· <base) W8 (.slice da e.data.length dc) e.data/\gM e from⟨jb HDY.out.1 (HB8.out.mono hbz),HDY.out.2⟩);have ht:Tryz.prog.underlying 119=some (.map 9 46):=Tryz.underlying119;have HTY:=ab ht;clear ht hb8 hkp8;have k0:=aa (k:=0) HBX8.out;have k1:=aa (k:=1) HBX8.out;have k2:=aa (k:=2) HBX8.out;have k3:=aa (k:=3) HBX8.out
         have k4:=aa (k:=4) HBX8.out;have k10:=aa (k:=10) HBX8.out;have k11:=aa (k:=11) HBX8.out;have k12:=aa (k:=12) HBX8.out;have k13:=aa (k:=13) HBX8.out;simp only[fV,cY,dt,List.cons_append,List.nil_append,aJ]at k0 k1 k2 k3 k4 k10 k11 k12 k13;clear k0 k1 k2 k3 k4 k10 k12 k13;have d0:=aa (k:=0) HX8.out;have d1:=aa (k:=1) HX8.out
         have d2:=aa (k:=2) HX8.out;have d3:=aa (k:=3) HX8.out;have d4:=aa (k:=4) HX8.out;have d5:=aa (k:=5) HX8.out;simp only[aJ]at d0 d1 d2 d3 d4 d5
         cases hf:G.find? (fun g=>decide (g.dir=q))with
         | none=>
          have HF:=ab hf;clear hf;have hnew: ∀p∈G.map gx,p.1≠Value.string q:=by
           intro p hp e9;obtain⟨g9,hg9,rfl⟩:=List.mem_map.1 hp;simp only[gx,Value.string.injEq]at e9;have:=List.find?_eq_none.1 HF.out g9 hg9;simp[e9]at this
          have HNEW:=ab hnew;have HLK:=ab (show ∀W:World,W.heap[base]? =W8.heap[base]? ->(Instr.lookup 119 (.map (some base)) (.string q) false).run Tryz.prog W= .ok (.slice none 0 0) W from fun W hW=>by
           have:=(HGR8.out.map.same hW).is.miss bO HTY.out (show(zeroValue 46).run Tryz.prog W= .ok (.slice none 0 0) W by kernel_rfl) (cD hqs) HNEW.out false
           simpa using this)
          clear hnew;have HNE:=ab (show(Value.slice none 0 0).ownBlock≠some (base+1+1)/\(Value.slice none 0 0).ownBlock≠some wr.heap.size/\(Value.slice none 0 0).ownBlock≠some base from⟨by simp[Value.ownBlock],by simp[Value.ownBlock],by simp[Value.ownBlock]⟩);have HNK:=ab (show(Value.slice none 0 0).ownBlock≠some (base+1) by simp[Value.ownBlock]);have HLOW:=ab (show ∀i,(Value.slice none 0 0).ownBlock=some i->base<=i from fun i hi=>by simp[Value.ownBlock]at hi)
          have HLNB:=ab (show(0:Nat)<1099511627775 by decide);have hlk:=HLK.out W8 rfl;refine bR (fun w'=>w'.cell? ⟨base+1+1,11,none⟩=some (.map (some base))/\(Instr.lookup 119 (.map (some base)) (.string (q)) false).run Tryz.prog w'= .ok (.slice none 0 0) w'/\w'.cell? ⟨wr.heap.size,0,none⟩=some (.string e.path)/\w'.cell? ⟨wr.heap.size,1,none⟩=some (.int .i64 e.kind)/\w'.cell? ⟨wr.heap.size,2,none⟩=some (.int .i64 e.mode)/\w'.cell? ⟨wr.heap.size,3,none⟩=some (.int .i64 e.time)/\w'.cell? ⟨wr.heap.size,4,none⟩=some (.slice da e.data.length dc)/\w'.cell? ⟨wr.heap.size,5,none⟩=some (.string e.link)) (by kernel_rfl) (by kernel_rfl) ?_
          simp only[List.dropLast_cons_cons,List.dropLast_singleton,List.length_cons,List.length_nil,Nat.reduceAdd,Nat.reduceSub];rw[<-hW8];clear hW8;refine ag 0 rfl (by kernel_rfl) (by kernel_rfl) (by kernel_rfl) (fun _ _ _ h=>h) rfl ⟨k11,hlk,d0,d1,d2,d3,d4,d5⟩ (by rintro w' ⟨hw1,hw2,hw3,hw4,hw5,hw6,hw7,hw8⟩; go_simp; rfl) ?_;simp only[Act.put,aB,aC,aD];refine ag 1 rfl (by kernel_rfl) (by kernel_rfl) (by kernel_rfl) (fun _ _ _ h=>h) rfl ⟨k11,hlk,d0,d1,d2,d3,d4,d5⟩ (by rintro w' ⟨hw1,hw2,hw3,hw4,hw5,hw6,hw7,hw8⟩; go_simp; rfl) ?_
          simp only[Act.put,aB,aC,aD];refine ag 2 rfl (by kernel_rfl) (by kernel_rfl) (by kernel_rfl) (fun _ _ _ h=>h) rfl ⟨k11,hlk,d0,d1,d2,d3,d4,d5⟩ (by rintro w' ⟨hw1,hw2,hw3,hw4,hw5,hw6,hw7,hw8⟩; go_simp; rfl) ?_;simp only[Act.put,aB,aC,aD];refine ag 3 rfl (by kernel_rfl) (by kernel_rfl) (by kernel_rfl) (fun _ _ _ h=>h) rfl ⟨k11,hlk,d0,d1,d2,d3,d4,d5⟩ (by rintro w' ⟨hw1,hw2,hw3,hw4,hw5,hw6,hw7,hw8⟩; go_simp; rfl) ?_
          simp only[Act.put,aB,aC,aD];refine ag 4 rfl (by kernel_rfl) (by kernel_rfl) (by kernel_rfl) (fun _ _ _ h=>h) rfl ⟨k11,hlk,d0,d1,d2,d3,d4,d5⟩ (by rintro w' ⟨hw1,hw2,hw3,hw4,hw5,hw6,hw7,hw8⟩; go_simp; rfl) ?_;simp only[Act.put,aB,aC,aD];refine ag 5 rfl (by kernel_rfl) (by kernel_rfl) (by kernel_rfl) (fun _ _ _ h=>h) rfl ⟨k11,hlk,d0,d1,d2,d3,d4,d5⟩ (by rintro w' ⟨hw1,hw2,hw3,hw4,hw5,hw6,hw7,hw8⟩; go_simp; rfl) ?_
          simp only[Act.put,aB,aC,aD];refine ag 6 rfl (by kernel_rfl) (by kernel_rfl) (by kernel_rfl) (fun _ _ _ h=>h) rfl ⟨k11,hlk,d0,d1,d2,d3,d4,d5⟩ (by rintro w' ⟨hw1,hw2,hw3,hw4,hw5,hw6,hw7,hw8⟩; go_simp; rfl) ?_;simp only[Act.put,aB,aC,aD];refine ag 7 rfl (by kernel_rfl) (by kernel_rfl) (by kernel_rfl) (fun _ _ _ h=>h) rfl ⟨k11,hlk,d0,d1,d2,d3,d4,d5⟩ (by rintro w' ⟨hw1,hw2,hw3,hw4,hw5,hw6,hw7,hw8⟩; go_simp; rfl) ?_
          simp only[Act.put,aB,aC,aD];refine ag 8 rfl (by kernel_rfl) (by kernel_rfl) (by kernel_rfl) (fun _ _ _ h=>h) rfl ⟨k11,hlk,d0,d1,d2,d3,d4,d5⟩ (by rintro w' ⟨hw1,hw2,hw3,hw4,hw5,hw6,hw7,hw8⟩; go_simp; rfl) ?_;simp only[Act.put,aB,aC,aD];refine ag 9 rfl (by kernel_rfl) (by kernel_rfl) (by kernel_rfl) (fun _ _ _ h=>h) rfl ⟨k11,hlk,d0,d1,d2,d3,d4,d5⟩ (by rintro w' ⟨hw1,hw2,hw3,hw4,hw5,hw6,hw7,hw8⟩; go_simp; rfl) ?_
          simp only[Act.put,aB,aC,aD];refine ag 10 rfl (by kernel_rfl) (by kernel_rfl) (by kernel_rfl) (fun _ _ _ h=>h) rfl ⟨k11,hlk,d0,d1,d2,d3,d4,d5⟩ (by rintro w' ⟨hw1,hw2,hw3,hw4,hw5,hw6,hw7,hw8⟩; go_simp; rfl) ?_;simp only[Act.put,aB,aC,aD];refine ag 11 rfl (by kernel_rfl) (by kernel_rfl) (by kernel_rfl) (fun _ _ _ h=>h) rfl ⟨k11,hlk,d0,d1,d2,d3,d4,d5⟩ (by rintro w' ⟨hw1,hw2,hw3,hw4,hw5,hw6,hw7,hw8⟩; go_simp; rfl) ?_
          simp only[Act.put,aB,aC,aD];have HAL:=ab ((Below.refl W8.heap.size W8).alloc (Nat.le_refl _) (.cells #[.string e.path, .int .i64 e.kind, .int .i64 e.mode, .int .i64 e.time, .slice da e.data.length dc, .string e.link] 79));have hltb:base+1+1<W8.heap.size:=lt_of_block HBX8.out;have hS2:=And.intro ((HAL.out.cell (p:=⟨base+1+1,11,none⟩) hltb).trans k11) (And.intro (HLK.out _ (HAL.out.block base (by omega))) (And.intro ((HAL.out.cell (p:=⟨wr.heap.size,0,none⟩) hltx).trans d0) (And.intro ((HAL.out.cell (p:=⟨wr.heap.size,1,none⟩) hltx).trans d1) (And.intro ((HAL.out.cell (p:=⟨wr.heap.size,2,none⟩) hltx).trans d2) (And.intro ((HAL.out.cell (p:=⟨wr.heap.size,3,none⟩) hltx).trans d3) (And.intro ((HAL.out.cell (p:=⟨wr.heap.size,4,none⟩) hltx).trans d4) ((HAL.out.cell (p:=⟨wr.heap.size,5,none⟩) hltx).trans d5)))))))
          have HS2:=ab hS2;clear hS2;refine ar 12 rfl (by kernel_rfl) rfl (fun K hK=> ?_);go_wp2_with fail
          (first | (refine⟨HS2.out, ?_⟩) | skip)
          refine ar 13 rfl (by kernel_rfl) rfl (fun K hK=> ?_);have hz8:base<=W8.heap.size:=by omega
          go_wp2_with (at_builtin; go_must (refine aG Tryz.appEnts rfl _ _ rfl base (.slice none 0 0) (0) ([]) rfl W8 [.string e.path, .int .i64 e.kind, .int .i64 e.mode, .int .i64 e.time, .slice da e.data.length dc, .string e.link] _ rfl rfl (eE (e:=e)) ((World.ownsRow_nil _ _ _ _)) HLNB.out hz8 ?_); intro v' wc hown' hgrow' _ hpl; obtain⟨ae,ce,rfl,-,-⟩:=aj hown')
          have hbxc:=(hgrow'.block (base+1+1) hltb (fun e9=>HNE.out.1 e9.symm)).trans HBX8.out;have hxc:=(hgrow'.block wr.heap.size hltx (fun e9=>HNE.out.2.1 e9.symm)).trans HX8.out;have hmc:=hgrow'.block base (by omega) (fun e9=>HNE.out.2.2 e9.symm);have hlkc:=HLK.out wc hmc;have HBXC:=ab hbxc;have HXC:=ab hxc;have HMC:=ab hmc;have HOWC:=ab hown';have HGRC:=ab hgrow'
          have HPLC:=ab hpl;clear hbxc hxc hmc hown' hgrow' hpl hlk k11 d0 d1 d2 d3 d4 d5;have d0:=aa (k:=0) HXC.out;have d1:=aa (k:=1) HXC.out;have d2:=aa (k:=2) HXC.out;have d3:=aa (k:=3) HXC.out;have d4:=aa (k:=4) HXC.out;have d5:=aa (k:=5) HXC.out;simp only[aJ]at d0 d1 d2 d3 d4 d5;have k11:=aa (k:=11) HBXC.out;simp only[fV,cY,dt,List.cons_append,List.nil_append,aJ]at k11
          refine⟨⟨k11,hlkc,d0,d1,d2,d3,d4,d5⟩, ?_⟩;refine aU (by kernel_rfl) ?_;refine bY rfl rfl (fun K hK=> ?_);clear k11 hlkc d0 d1 d2 d3 d4 d5;have HMS:=ab (HGR8.out.map.same HMC.out);go_wp2_with (at_mapUpdate; go_must (refine ed bO rfl _ _ _ _ rfl HTY.out base (G.map gx) HMS.out rfl (.string q) (.slice ae (0+1) ce) rfl rfl (cD hqs) HNEW.out ?_); intro w10 hm10 hg10)
          have HG10:=ab hg10;have HGRN:=ab (HGR8.out.new (Nat.le_refl _) hqs (y:=(.slice da e.data.length dc,e)) HDY8.out HOWC.out HGRC.out (fun i hi=>by
           rcases HPLC.out i hi with h9 | h9
           ·simp[Value.ownBlock]at h9
           ·exact h9) hm10 hg10)
          clear hm10 hg10;have hb10:=HIN.out.below.trans ((HB8.out.mono hbz).trans (((Below.refl base W8).grown HGRC.out hz8 (fun i hi=>HLOW.out i hi)).grown HG10.out (Nat.le_trans hz8 HGRC.out.size) (fun i hi=>by cases hi; exact Nat.le_refl _)));have hbd10:=HBD8.out.nilKeep (w':=w10) ((HG10.out.block _ (Nat.lt_of_lt_of_le hltb HGRC.out.size) (fun e9=>by have:=Option.some.inj e9; omega)).trans (HBXC.out.trans HBX8.out.symm)) ((HG10.out.block _ (Nat.lt_of_lt_of_le HBD8.out.known.map.lt HGRC.out.size) (fun e9=>by have:=Option.some.inj e9; omega)).trans (HGRC.out.block _ HBD8.out.known.map.lt (fun e9=>HNK.out e9.symm)))
          go_roundw
          case rel=>
           refine⟨j+1,(G++[⟨q, .slice ae (0+1) ce,[(.slice da e.data.length dc,e)]⟩]),by omega,by go_num,⟨hbd10,HGRN.out,fun d=> ?_,hb10⟩⟩;rw[gW HEA.out];rw[oL (g:=⟨q, .slice ae (0+1) ce,[(.slice da e.data.length dc,e)]⟩) HF.out]
           by_cases hqd:q=d
           ·rw[if_pos hqd,if_pos (show aT (bl e.path)=bl d by rw[<-hqd,HQ.out]; exact(fa _).symm),<-HIN.out.ents d,<-hqd,mP HF.out]
            rfl
           ·rw[if_neg hqd,if_neg (fun h9=>hqd (eN (by rw[HQ.out]; exact(fa _).trans h9))),List.append_nil];exact HIN.out.ents d
          case measure=>simp[intOf]; omega
         | some g=>
          obtain⟨A,B,hAB,hgd,hA⟩: ∃A B,G=A++g::B/\g.dir=q/\ ∀x∈A,x.dir≠q:=by
           have h9:=List.find?_eq_some_iff_append.1 hf;obtain⟨h1,A,B,h2,h3⟩:=h9;exact⟨A,B,h2,by simpa using h1,fun x hx=>by simpa using h3 x hx⟩
          have hent:=gR hf;subst hgd;subst hAB;have HENT:=ab hent;have HA:=ab hA;have hgo:=HGR8.out.own g (by simp);have hgo0:=HIN.out.grp.own g (by simp);obtain⟨ga,gc,hgv,hgn,-⟩:=aj hgo;have hgl:g.ents.length<=4096:=by
           have h1:=HIN.out.ents g.dir;rw[hent]at h1;have h2:=congrArg List.length h1;rw[List.length_map]at h2;rw[h2];have h3:(cd (tree.take j) g.dir).length<=(tree.take j).length:=List.length_filter_le _ _;rw[List.length_take]at h3;have h4:=HTO.out.len;omega
          obtain⟨gl,hgl2⟩: ∃gl,gl=g.ents.length:=⟨_,rfl⟩;have HGL:=ab hgl2;rw[<-hgl2]at hgv hgl;have HLNB:=ab (show gl<1099511627775 by omega);have HGO:=ab (show W8.ownsRow base 79 6 (.slice ga gl gc) gl (cW g.ents) by rw[<-hgv,hgl2]; exact hgo);have HGV:=ab hgv;have HNE:=ab (show(Value.slice ga gl gc).ownBlock≠some (base+1+1)/\(Value.slice ga gl gc).ownBlock≠some wr.heap.size/\(Value.slice ga gl gc).ownBlock≠some base from by
           rw[<-hgv];refine⟨fun e9=> ?_,fun e9=> ?_,fun e9=> ?_⟩
           ·obtain⟨cs2,hc2⟩:=aA hgo e9;exact absurd (aH HBX8.out hc2) (by decide)
           ·have:=(hgo0.lt _ e9).2;omega
           ·obtain⟨cs2,hc2⟩:=aA hgo e9;exact HGR8.out.map.ncells hc2)
          have HNK:=ab (show(Value.slice ga gl gc).ownBlock≠some (base+1)from by
           rw[<-hgv];intro e9;obtain⟨cs2,hc2⟩:=aA hgo e9;exact HBD8.out.known.cells hc2)
          have HLOW:=ab (show ∀i,(Value.slice ga gl gc).ownBlock=some i->base<=i from fun i hi=>by
           rw[<-hgv]at hi;exact(hgo.lt i hi).1)
          have HLK:=ab (show ∀W:World,W.heap[base]? =W8.heap[base]? ->(Instr.lookup 119 (.map (some base)) (.string g.dir) false).run Tryz.prog W= .ok (.slice ga gl gc) W from fun W hW=>by
           have:=(HGR8.out.map.same hW).is.hit bO HTY.out (cD hqs) (val:=g.val) (List.mem_map.2 ⟨g,by simp,rfl⟩) false;rw[hgv]at this
           simpa using this)
          clear hf hent hA hgo hgo0 hgv hgl2;have hlk:=HLK.out W8 rfl;refine bR (fun w'=>w'.cell? ⟨base+1+1,11,none⟩=some (.map (some base))/\(Instr.lookup 119 (.map (some base)) (.string (g.dir)) false).run Tryz.prog w'= .ok (.slice ga gl gc) w'/\w'.cell? ⟨wr.heap.size,0,none⟩=some (.string e.path)/\w'.cell? ⟨wr.heap.size,1,none⟩=some (.int .i64 e.kind)/\w'.cell? ⟨wr.heap.size,2,none⟩=some (.int .i64 e.mode)/\w'.cell? ⟨wr.heap.size,3,none⟩=some (.int .i64 e.time)/\w'.cell? ⟨wr.heap.size,4,none⟩=some (.slice da e.data.length dc)/\w'.cell? ⟨wr.heap.size,5,none⟩=some (.string e.link)) (by kernel_rfl) (by kernel_rfl) ?_
          simp only[List.dropLast_cons_cons,List.dropLast_singleton,List.length_cons,List.length_nil,Nat.reduceAdd,Nat.reduceSub];rw[<-hW8];clear hW8;refine ag 0 rfl (by kernel_rfl) (by kernel_rfl) (by kernel_rfl) (fun _ _ _ h=>h) rfl ⟨k11,hlk,d0,d1,d2,d3,d4,d5⟩ (by rintro w' ⟨hw1,hw2,hw3,hw4,hw5,hw6,hw7,hw8⟩; go_simp; rfl) ?_;simp only[Act.put,aB,aC,aD];refine ag 1 rfl (by kernel_rfl) (by kernel_rfl) (by kernel_rfl) (fun _ _ _ h=>h) rfl ⟨k11,hlk,d0,d1,d2,d3,d4,d5⟩ (by rintro w' ⟨hw1,hw2,hw3,hw4,hw5,hw6,hw7,hw8⟩; go_simp; rfl) ?_
          simp only[Act.put,aB,aC,aD];refine ag 2 rfl (by kernel_rfl) (by kernel_rfl) (by kernel_rfl) (fun _ _ _ h=>h) rfl ⟨k11,hlk,d0,d1,d2,d3,d4,d5⟩ (by rintro w' ⟨hw1,hw2,hw3,hw4,hw5,hw6,hw7,hw8⟩; go_simp; rfl) ?_;simp only[Act.put,aB,aC,aD];refine ag 3 rfl (by kernel_rfl) (by kernel_rfl) (by kernel_rfl) (fun _ _ _ h=>h) rfl ⟨k11,hlk,d0,d1,d2,d3,d4,d5⟩ (by rintro w' ⟨hw1,hw2,hw3,hw4,hw5,hw6,hw7,hw8⟩; go_simp; rfl) ?_
          simp only[Act.put,aB,aC,aD];refine ag 4 rfl (by kernel_rfl) (by kernel_rfl) (by kernel_rfl) (fun _ _ _ h=>h) rfl ⟨k11,hlk,d0,d1,d2,d3,d4,d5⟩ (by rintro w' ⟨hw1,hw2,hw3,hw4,hw5,hw6,hw7,hw8⟩; go_simp; rfl) ?_;simp only[Act.put,aB,aC,aD];refine ag 5 rfl (by kernel_rfl) (by kernel_rfl) (by kernel_rfl) (fun _ _ _ h=>h) rfl ⟨k11,hlk,d0,d1,d2,d3,d4,d5⟩ (by rintro w' ⟨hw1,hw2,hw3,hw4,hw5,hw6,hw7,hw8⟩; go_simp; rfl) ?_
          simp only[Act.put,aB,aC,aD];refine ag 6 rfl (by kernel_rfl) (by kernel_rfl) (by kernel_rfl) (fun _ _ _ h=>h) rfl ⟨k11,hlk,d0,d1,d2,d3,d4,d5⟩ (by rintro w' ⟨hw1,hw2,hw3,hw4,hw5,hw6,hw7,hw8⟩; go_simp; rfl) ?_;simp only[Act.put,aB,aC,aD];refine ag 7 rfl (by kernel_rfl) (by kernel_rfl) (by kernel_rfl) (fun _ _ _ h=>h) rfl ⟨k11,hlk,d0,d1,d2,d3,d4,d5⟩ (by rintro w' ⟨hw1,hw2,hw3,hw4,hw5,hw6,hw7,hw8⟩; go_simp; rfl) ?_
          simp only[Act.put,aB,aC,aD];refine ag 8 rfl (by kernel_rfl) (by kernel_rfl) (by kernel_rfl) (fun _ _ _ h=>h) rfl ⟨k11,hlk,d0,d1,d2,d3,d4,d5⟩ (by rintro w' ⟨hw1,hw2,hw3,hw4,hw5,hw6,hw7,hw8⟩; go_simp; rfl) ?_;simp only[Act.put,aB,aC,aD];refine ag 9 rfl (by kernel_rfl) (by kernel_rfl) (by kernel_rfl) (fun _ _ _ h=>h) rfl ⟨k11,hlk,d0,d1,d2,d3,d4,d5⟩ (by rintro w' ⟨hw1,hw2,hw3,hw4,hw5,hw6,hw7,hw8⟩; go_simp; rfl) ?_
          simp only[Act.put,aB,aC,aD];refine ag 10 rfl (by kernel_rfl) (by kernel_rfl) (by kernel_rfl) (fun _ _ _ h=>h) rfl ⟨k11,hlk,d0,d1,d2,d3,d4,d5⟩ (by rintro w' ⟨hw1,hw2,hw3,hw4,hw5,hw6,hw7,hw8⟩; go_simp; rfl) ?_;simp only[Act.put,aB,aC,aD];refine ag 11 rfl (by kernel_rfl) (by kernel_rfl) (by kernel_rfl) (fun _ _ _ h=>h) rfl ⟨k11,hlk,d0,d1,d2,d3,d4,d5⟩ (by rintro w' ⟨hw1,hw2,hw3,hw4,hw5,hw6,hw7,hw8⟩; go_simp; rfl) ?_
          simp only[Act.put,aB,aC,aD];have HAL:=ab ((Below.refl W8.heap.size W8).alloc (Nat.le_refl _) (.cells #[.string e.path, .int .i64 e.kind, .int .i64 e.mode, .int .i64 e.time, .slice da e.data.length dc, .string e.link] 79));have hltb:base+1+1<W8.heap.size:=lt_of_block HBX8.out;have hS2:=And.intro ((HAL.out.cell (p:=⟨base+1+1,11,none⟩) hltb).trans k11) (And.intro (HLK.out _ (HAL.out.block base (by omega))) (And.intro ((HAL.out.cell (p:=⟨wr.heap.size,0,none⟩) hltx).trans d0) (And.intro ((HAL.out.cell (p:=⟨wr.heap.size,1,none⟩) hltx).trans d1) (And.intro ((HAL.out.cell (p:=⟨wr.heap.size,2,none⟩) hltx).trans d2) (And.intro ((HAL.out.cell (p:=⟨wr.heap.size,3,none⟩) hltx).trans d3) (And.intro ((HAL.out.cell (p:=⟨wr.heap.size,4,none⟩) hltx).trans d4) ((HAL.out.cell (p:=⟨wr.heap.size,5,none⟩) hltx).trans d5)))))))
          have HS2:=ab hS2;clear hS2;refine ar 12 rfl (by kernel_rfl) rfl (fun K hK=> ?_);go_wp2_with fail
          (first | (refine⟨HS2.out, ?_⟩) | skip)
          refine ar 13 rfl (by kernel_rfl) rfl (fun K hK=> ?_);have hz8:base<=W8.heap.size:=by omega
          go_wp2_with (at_builtin; go_must (refine aG Tryz.appEnts rfl _ _ rfl base (.slice ga gl gc) (gl) ((cW g.ents)) rfl W8 [.string e.path, .int .i64 e.kind, .int .i64 e.mode, .int .i64 e.time, .slice da e.data.length dc, .string e.link] _ rfl rfl (eE (e:=e)) (HGO.out) HLNB.out hz8 ?_); intro v' wc hown' hgrow' _ hpl; obtain⟨ae,ce,rfl,-,-⟩:=aj hown');have hbxc:=(hgrow'.block (base+1+1) hltb (fun e9=>HNE.out.1 e9.symm)).trans HBX8.out
          have hxc:=(hgrow'.block wr.heap.size hltx (fun e9=>HNE.out.2.1 e9.symm)).trans HX8.out;have hmc:=hgrow'.block base (by omega) (fun e9=>HNE.out.2.2 e9.symm);have hlkc:=HLK.out wc hmc;have HBXC:=ab hbxc;have HXC:=ab hxc;have HMC:=ab hmc;have HOWC:=ab hown';have HGRC:=ab hgrow';have HPLC:=ab hpl;clear hbxc hxc hmc hown' hgrow' hpl hlk k11 d0 d1 d2 d3 d4 d5;have d0:=aa (k:=0) HXC.out
          have d1:=aa (k:=1) HXC.out;have d2:=aa (k:=2) HXC.out;have d3:=aa (k:=3) HXC.out;have d4:=aa (k:=4) HXC.out;have d5:=aa (k:=5) HXC.out;simp only[aJ]at d0 d1 d2 d3 d4 d5;have k11:=aa (k:=11) HBXC.out;simp only[fV,cY,dt,List.cons_append,List.nil_append,aJ]at k11;refine⟨⟨k11,hlkc,d0,d1,d2,d3,d4,d5⟩, ?_⟩;refine aU (by kernel_rfl) ?_
          refine bY rfl rfl (fun K hK=> ?_);clear k11 hlkc d0 d1 d2 d3 d4 d5;have HMS:=ab (show cO Tryz.prog 9 wc base (A.map gx++(.string g.dir,g.val)::B.map gx)from by
           have:=HGR8.out.map.same HMC.out
           simpa [gx]using this)
          go_wp2_with (at_mapUpdate; go_must (refine jq bO rfl _ _ _ _ rfl HTY.out base (A.map gx) (B.map gx) (.string g.dir) (.slice ae (gl+1) ce) g.val HMS.out rfl rfl rfl ?_); intro w10 hm10 hg10);have HG10:=ab hg10;have HGRN:=ab (HGR8.out.over (Nat.le_refl _) (y:=(.slice da e.data.length dc,e)) HDY8.out (by rw[<-HGL.out]; exact HOWC.out) (by rw[HGV.out]; exact HGRC.out) (by rw[HGV.out]; exact HPLC.out) hm10 hg10)
          clear hm10 hg10;have hb10:=HIN.out.below.trans ((HB8.out.mono hbz).trans (((Below.refl base W8).grown HGRC.out hz8 (fun i hi=>HLOW.out i hi)).grown HG10.out (Nat.le_trans hz8 HGRC.out.size) (fun i hi=>by cases hi; exact Nat.le_refl _)));have hbd10:=HBD8.out.nilKeep (w':=w10) ((HG10.out.block _ (Nat.lt_of_lt_of_le hltb HGRC.out.size) (fun e9=>by have:=Option.some.inj e9; omega)).trans (HBXC.out.trans HBX8.out.symm)) ((HG10.out.block _ (Nat.lt_of_lt_of_le HBD8.out.known.map.lt HGRC.out.size) (fun e9=>by have:=Option.some.inj e9; omega)).trans (HGRC.out.block _ HBD8.out.known.map.lt (fun e9=>HNK.out e9.symm)))
          go_roundw
          case rel=>
           refine⟨j+1,(A++⟨g.dir, .slice ae (gl+1) ce,g.ents++[(.slice da e.data.length dc,e)]⟩::B),by omega,by go_num,⟨hbd10,HGRN.out,fun d=> ?_,hb10⟩⟩;rw[gW HEA.out];rw[mQ (A:=A) (B:=B) (g:=g) (g':=(⟨g.dir, .slice ae (gl+1) ce,g.ents++[((Value.slice da e.data.length dc,e):iY)]⟩:tH)) rfl HA.out d]
           by_cases hqd:g.dir=d
           ·rw[if_pos hqd,if_pos (show aT (bl e.path)=bl d by rw[<-hqd,HQ.out]; exact(fa _).symm),<-HIN.out.ents d,<-hqd,HENT.out,List.map_append]
            rfl
           ·rw[if_neg hqd,if_neg (fun h9=>hqd (eN (by rw[HQ.out]; exact(fa _).trans h9))),List.append_nil];exact HIN.out.ents d
          case measure=>simp[intOf]; omega
        ·have hk2:j=n:=by omega
         have hgl:vY wr base base tree:=⟨G,HIN.out.grp,fun d=>by have:=HIN.out.ents d; rwa [show tree.take j=tree by rw[hk2,HN.out,List.take_length]]at this⟩;have hbz:base<=wr.heap.size:=by have h1:=HIN.out.grp.map.lt; omega
         have h7:7<=base:=Nat.le_trans HE.out.seven hwb;have hgok: ∀p∈gs,0<=p.2/\p.2<=1099511627776:=fun p hp=>by have:=List.all_eq_true.1 HALL.out p hp; simpa using this
         have hX:AZ base (base+1+1) (base+1) base k c gs tree (yQ k gs c tree):=⟨HKV.out,HCV.out,hsd,hgok,by omega,by omega,h7,by omega,HTO.out.val,HTO.out.len,xQ HCV.out HTO.out.len HTO.out.val,xR,xS⟩;have hbw:Below w.heap.size w wr:=HB4.out.trans (HIN.out.below.mono hwb);have hgw:ii (· <base) wr (.map (some gb)) gs:=by
          rcases HG.out with⟨h1,h2⟩ | ⟨gb9,h1,_,h3⟩
          ·exact .inl ⟨h1,h2⟩
          ·exact .inr ⟨gb9,h1,Nat.lt_of_lt_of_le h3.lt hwb,h3.same (hbw.block _ h3.lt)⟩
         have hdr:=sP hX 514 (Nat.le_refl _) ⟨#[]⟩ (.slice none 0 0) [] wr (by show 514<=0+514; omega) (.inl rfl) HIN.out.bd hgw hgl (by intro b hb; simp at hb) (HE.out.keep hbw HE.out.seven) hbz;unfold sw at hdr;clear hgl hX hgw
         cases hdp:cC k gs c tree 514 ⟨#[]⟩with
         | error x9=>
          rw[hdp]at hdr;have HM3:=ab (show cQ k c tree gs= .error x9 by rw[HM2.out,hdp]);have HDR:=ab hdr;clear hdr hdp;go_wp2_with fail;refine HDR.out.mono ?_;rintro e' w5 ⟨rfl,hx9,v5,bs5,hbd5,hkp5⟩;have HB5:=ab (hbw.trans (hkp5.below.mono hwb));have HR5:=ab ((hkp5.below.block (w.heap.size+2) hne2).trans ((HIN.out.below.block (w.heap.size+2) hne2).trans HR4.out));have HX9:=ab hx9
          have e4:(x9 != 0)=true:=by simp[hx9]
          clear hx9 hbd5 hkp5 hbw
          go_upto_region 20 with(fail)
          obtain⟨W6,hW6⟩: ∃W6:World,W6=w5.alloc (.cells #[.string ⟨#[]⟩, .int .i64 0, .int .i64 0] 26):=⟨_,rfl⟩;rw[<-hW6];have hb6:Below w5.heap.size w5 W6:=by rw[hW6]; exact(Below.refl _ _).alloc (Nat.le_refl _) _
          have HB6:=ab (ah HB5.out hb6);have HR6:=ab ((hb6.block _ (lt_of_block HR5.out)).trans HR5.out);clear hb6 hW6;have z0:=aa (k:=0) HR6.out;have z1:=aa (k:=1) HR6.out;have z2:=aa (k:=2) HR6.out;have y0:=af (k:=0) HR6.out;have y1:=af (k:=1) HR6.out;have y2:=af (k:=2) HR6.out;simp only[aJ]at z0 z1 z2;go_wp2_with fail;refine dN HR6.out rfl rfl rfl rfl ⟨dh HB6.out (by show w.heap.size<=w.heap.size+2; omega), ?_⟩
          rw[HM3.out];exact⟨rfl,HX9.out⟩
         | ok p=>
          rw[hdp]at hdr
          dsimp only at hdr
          have HM3:=ab (show cQ k c tree gs= .ok (aX k gs p.1,bG k gs p.2 []) by rw[HM2.out,hdp]);obtain⟨r,hr⟩: ∃r,r=aX k gs p.1:=⟨_,rfl⟩;rw[<-hr]at hdr;have HRE:=ab hr;have HDR:=ab hdr;unfold bt at HDR;clear hdr hdp hr;go_wp2_with fail;refine HDR.out.mono ?_;rintro e' w5 ⟨rfl,-,v5,hbd5,hkp5⟩;have HB5:=ab (hbw.trans (hkp5.below.mono hwb));have HR5:=ab ((hkp5.below.block (w.heap.size+2) hne2).trans ((HIN.out.below.block (w.heap.size+2) hne2).trans HR4.out))
          have HBD5:=ab hbd5;clear hbd5 hkp5 hbw
          go_upto_region 22 with(fail)
          obtain⟨W6,hW6⟩: ∃W6:World,W6=(w5.alloc (.cells #[.string r.name, .int .i64 r.gen, .int .i64 r.size] 26)).drew:=⟨_,rfl⟩;have hb6:Below w5.heap.size w5 W6:=by rw[hW6]; exact((Below.refl _ _).alloc (Nat.le_refl _) _).drew
          have HB6:=ab (ah HB5.out hb6);have HR6:=ab ((hb6.block _ (lt_of_block HR5.out)).trans HR5.out);have HF6:=ab (show W6.heap[w5.heap.size]? =some (.cells #[.string r.name, .int .i64 r.gen, .int .i64 r.size] 26 (0,0)) by rw[hW6]; exact bQ w5 _);have HBD6:=ab (HBD5.out.below hb6);obtain⟨zs,hzs,hbo⟩:=HBD6.out.own;obtain⟨va,vc,hv6,-,-⟩:=aj hbo.row;subst hv6
          have HZS:=ab hzs;have HBO:=ab hbo;have HBX6:=ab HBD6.out.box;clear hb6 hzs hbo;have k12:=aa (k:=12) HBX6.out;have f0:=aa (k:=0) HF6.out;have f1:=aa (k:=1) HF6.out;have f2:=aa (k:=2) HF6.out;simp only[fV,cY,dt,List.cons_append,List.nil_append,aJ]at k12 f0 f1 f2;have z0:=aa (k:=0) HR6.out;have z1:=aa (k:=1) HR6.out;have z2:=aa (k:=2) HR6.out
          have y0:=af (k:=0) HR6.out;have y1:=af (k:=1) HR6.out;have y2:=af (k:=2) HR6.out;simp only[aJ]at z0 z1 z2;refine cI (fun w'=>w'.cell? ⟨base+1+1,12,none⟩=some (.slice va zs.length vc)/\w'.cell? ⟨w5.heap.size,0,none⟩=some (.string r.name)/\w'.cell? ⟨w5.heap.size,1,none⟩=some (.int .i64 r.gen)/\w'.cell? ⟨w5.heap.size,2,none⟩=some (.int .i64 r.size)) (by kernel_rfl) ?_
          rw[<-hW6];clear hW6;refine ag 0 rfl (by kernel_rfl) (by kernel_rfl) (by kernel_rfl) (fun _ _ _ h=>h) rfl ⟨k12,f0,f1,f2⟩ (by rintro w' ⟨hw1,hw2,hw3,hw4⟩; go_simp; rfl) ?_;simp only[Act.put,aB,aC,aD];refine ag 1 rfl (by kernel_rfl) (by kernel_rfl) (by kernel_rfl) (fun _ _ _ h=>h) rfl ⟨k12,f0,f1,f2⟩ (by rintro w' ⟨hw1,hw2,hw3,hw4⟩; go_simp; rfl) ?_;simp only[Act.put,aB,aC,aD]
          refine ag 2 rfl (by kernel_rfl) (by kernel_rfl) (by kernel_rfl) (fun _ _ _ h=>h) rfl ⟨k12,f0,f1,f2⟩ (by rintro w' ⟨hw1,hw2,hw3,hw4⟩; go_simp; rfl) ?_;simp only[Act.put,aB,aC,aD];refine ag 3 rfl (by kernel_rfl) (by kernel_rfl) (by kernel_rfl) (fun _ _ _ h=>h) rfl ⟨k12,f0,f1,f2⟩ (by rintro w' ⟨hw1,hw2,hw3,hw4⟩; go_simp; rfl) ?_;simp only[Act.put,aB,aC,aD]
          refine ag 4 rfl (by kernel_rfl) (by kernel_rfl) (by kernel_rfl) (fun _ _ _ h=>h) rfl ⟨k12,f0,f1,f2⟩ (by rintro w' ⟨hw1,hw2,hw3,hw4⟩; go_simp; rfl) ?_;simp only[Act.put,aB,aC,aD];refine ar 5 rfl (by kernel_rfl) rfl (fun K hK=> ?_);have hw5:w.heap.size+1+1<w5.heap.size:=lt_of_block HR5.out;have hbwb:base+1+1≠w.heap.size+1+1:=by omega
          have hwfb:w5.heap.size≠w.heap.size+1+1:=by omega
          have hS2:=fun(u0 u1 u2:Value)=>And.intro ((World.cell?_of_block (a:=⟨base+1+1,12,none⟩) (bz (w:=W6) (x0:=u0) (x1:=u1) (x2:=u2) hbwb)).trans k12) (And.intro ((World.cell?_of_block (a:=⟨w5.heap.size,0,none⟩) (bz (w:=W6) (x0:=u0) (x1:=u1) (x2:=u2) hwfb)).trans f0) (And.intro ((World.cell?_of_block (a:=⟨w5.heap.size,1,none⟩) (bz (w:=W6) (x0:=u0) (x1:=u1) (x2:=u2) hwfb)).trans f1) ((World.cell?_of_block (a:=⟨w5.heap.size,2,none⟩) (bz (w:=W6) (x0:=u0) (x1:=u1) (x2:=u2) hwfb)).trans f2)))
          have HS2:=ab hS2;clear hS2 k12 f0 f1 f2;go_wp2_with fail;refine⟨HS2.out _ _ _, ?_⟩;refine ag 6 rfl (by kernel_rfl) (by kernel_rfl) (by kernel_rfl) (fun _ _ _ h=>h) rfl (HS2.out _ _ _) (by rintro w' ⟨hw1,hw2,hw3,hw4⟩; go_simp; rfl) ?_;simp only[Act.put,aB,aC,aD];refine ag 7 rfl (by kernel_rfl) (by kernel_rfl) (by kernel_rfl) (fun _ _ _ h=>h) rfl (HS2.out _ _ _) (by rintro w' ⟨hw1,hw2,hw3,hw4⟩; go_simp; rfl) ?_
          simp only[Act.put,aB,aC,aD];refine aU (by kernel_rfl) ?_;go_wp2_with fail;refine dN HR6.out rfl rfl rfl rfl ⟨dh HB6.out (by show w.heap.size<=w.heap.size+2; omega), ?_⟩;rw[HM3.out];refine⟨_,zs,by rw[<-HRE.out]; rfl,HZS.out,HBO.out.other HR6.out (by decide) (by decide) hwb (fun i hi=>bz hi)⟩
      ·have e1:(x != 0)=true:=by simp[hx0]
       have HX0:=ab hx0;clear hx0;have z0:=aa (k:=0) HR4.out;have z1:=aa (k:=1) HR4.out;have z2:=aa (k:=2) HR4.out;have y0:=af (k:=0) HR4.out;have y1:=af (k:=1) HR4.out;have y2:=af (k:=2) HR4.out;simp only[aJ]at z0 z1 z2;go_wp2_with fail;refine dN HR4.out rfl rfl rfl rfl ⟨dh HB4.out (by show w.heap.size<=w.heap.size+2; omega), ?_⟩
       rw[HM1.out,if_neg (by rw[HCX2.out]; exact HX0.out)];rw[HCX2.out];exact⟨rfl,HX0.out⟩
     ·intro key v1 w1' a0 e0 hmem hxe hnew hrg1 hg1 hs1 hen;simp only[ut,Prod.mk.injEq]at hxe;obtain⟨rfl,rfl⟩:=hxe;have HMEM:=ab hmem;have HRG1:=ab hrg1;have hr9w:w2.heap.size<=r9:=by have:=HR9.out; omega
      have hb21:Below w2.heap.size w2 w1':=HB2R.out.grown hg1 HB2R.out.size (fun i hi=>by cases hi; exact hr9w);have HB21:=ab hb21;have hlt9:wr.rangeLeft gb r9=(gs.map ut).length-vis.length:=by have:=HRG.out.left; omega
      have hlt91:w1'.rangeLeft gb r9+(vis++[(Value.string a0,Value.int .i64 e0)]).length=(gs.map ut).length:=hrg1.left;have HLT:=ab (show w1'.rangeLeft gb r9<wr.rangeLeft gb r9 by
       have h1:=HRG.out.left;rw[List.length_append,List.length_singleton]at hlt91
       omega)
      clear hmem hnew hrg1 hg1 hs1 hb21 hlt9 hlt91
      by_cases hok:0<=e0/\e0<=1099511627776
      ·obtain⟨ho1,ho2⟩:=hok;have HO:=ab (And.intro ho1 ho2);go_wp2_with fail
       go_roundw
       case rel=>
        refine⟨_,HRG1.out,fun p hp=> ?_,HB21.out⟩
        rcases List.mem_append.1 hp with hp | hp
        ·exact HVIS.out p hp
        ·rw[List.mem_singleton]at hp;subst hp;exact⟨e0,rfl,HO.out.1,HO.out.2⟩
       case measure=>exact HLT.out
      ·have HNO:=ab (show cQ k c tree gs= .error 1 by
        rw[HM0.out,if_neg];intro h9;have:=List.all_eq_true.1 h9 _ HMEM.out;simp only[Bool.and_eq_true,decide_eq_true_eq]at this;exact hok this)
       have HR5:=ab ((HB21.out.block _ (lt_of_block HR2.out)).trans HR2.out);have HB5:=ab (ah HB2.out HB21.out);have z0:=aa (k:=0) HR5.out;have z1:=aa (k:=1) HR5.out;have z2:=aa (k:=2) HR5.out;have y0:=af (k:=0) HR5.out;have y1:=af (k:=1) HR5.out;have y2:=af (k:=2) HR5.out;simp only[aJ]at z0 z1 z2
       by_cases hneg:e0<0
       ·clear hok;go_wp2_with fail;refine dN HR5.out rfl rfl rfl rfl ⟨dh HB5.out (by show w.heap.size<=w.heap.size+2; omega), ?_⟩;rw[HNO.out];exact⟨rfl,by decide⟩
       ·have hbig:1099511627776<e0:=by omega
        clear hok;go_wp2_with fail;refine dN HR5.out rfl rfl rfl rfl ⟨dh HB5.out (by show w.heap.size<=w.heap.size+2; omega), ?_⟩;rw[HNO.out];exact⟨rfl,by decide⟩
end Go.Proofs.YtpffpjbkbaleiaaGreatDoor
namespace Go.Proofs.YtpffpjbkbaleiaaGreatDoor
open Go Go.RowKit Go.Maps
theorem tp {W:World} {b n sz:Nat} {cells:List Value} {t:TypeId} (h:W.heap[b]? =some (.cells cells.toArray t (0,0))) (hl:cells.length=n*sz) (hn:n<=maxLen):aS (fun k=>k=b) W sz (.slice (some ⟨b,0,none⟩) n n) n cells:=
 ⟨hl,some ⟨b,0,none⟩,n,rfl,Nat.le_refl _,hn, .inr ⟨b,0,rfl,rfl,fun j u hj=>by rw[ai h,Nat.zero_add,List.getElem?_toArray]; exact hj⟩⟩
theorem kQ {S:Nat->Prop} {w:World} {v:Value} {bs:List UInt8} (h:ay S w v bs):(convert 29 9 v).run Tryz.prog w= .ok (.string ⟨bs.toArray⟩) w:=by
 have h1:=zm (S:=S) (w:=w) (v:=v) (bs:=bs) h;rw[pQ]at h1;exact h1
theorem BF (w:World) (c:UInt8):(convert 29 9 (.slice (some ⟨w.heap.size,0,none⟩) 1 1)).run Tryz.prog (w.alloc (.cells #[.int .u8 (c.toNat:Int)] 5))= .ok (.string ⟨#[c]⟩) (w.alloc (.cells #[.int .u8 (c.toNat:Int)] 5)):=by
 have h:=kQ (S:=fun _=>True) (bs:=[c]) (w:=w.alloc (.cells #[.int .u8 (c.toNat:Int)] 5)) (v:= .slice (some ⟨w.heap.size,0,none⟩) 1 1) ((tp (cells:=[au c]) (heap_alloc_new w _) rfl (by decide)).weak (fun _ _=>trivial));exact h
theorem lH (c:UInt8) (w:World):Calls Tryz.prog 93 #[.int .u8 (c.toNat:Int)] w fun e w'=>e= .returned (.string (oY c))/\Below w.heap.size w w':=by
 have hcv:=BF w c
 go_enter Tryz.func93,Tryz.ntmps93
 go_wp2_with fail;go_ret;refine⟨?_,(Below.refl _ _).alloc (Nat.le_refl _) _⟩
 rfl
theorem uQ (w:World):Calls Tryz.prog 33 #[] w fun e w'=>e= .returned (iM cX)/\Below w.heap.size w w':=by
 have HBK:=ab ((Below.refl w.heap.size w).alloc (Nat.le_refl _) (.cells #[.string ⟨#[]⟩, .string ⟨#[]⟩, .string ⟨#[]⟩, .string ⟨#[]⟩, .string ⟨#[]⟩] 42));have HXK:=ab (bQ w (.cells #[.string ⟨#[]⟩, .string ⟨#[]⟩, .string ⟨#[]⟩, .string ⟨#[]⟩, .string ⟨#[]⟩] 42))
 go_enter Tryz.func33,Tryz.ntmps33
 go_wp2_with fail;refine(lH 110 _).mono ?_;rintro e wk ⟨rfl,hbk⟩;have HBQ:=ab (ah HBK.out hbk);have HXQ:=ab ((hbk.block _ (lt_of_block HXK.out)).trans HXK.out);clear hbk HBK HXK;have HBK:=HBQ;have HXK:=HXQ;clear HBQ HXQ;go_wp2_with fail;refine(lH 115 _).mono ?_;rintro e wk ⟨rfl,hbk⟩;have HBQ:=ab (ah HBK.out hbk);have HXQ:=ab ((hbk.block _ (lt_of_block HXK.out)).trans HXK.out)
 clear hbk HBK HXK;have HBK:=HBQ;have HXK:=HXQ;clear HBQ HXQ;go_wp2_with fail;refine(lH 99 _).mono ?_;rintro e wk ⟨rfl,hbk⟩;have HBQ:=ab (ah HBK.out hbk);have HXQ:=ab ((hbk.block _ (lt_of_block HXK.out)).trans HXK.out);clear hbk HBK HXK;have HBK:=HBQ;have HXK:=HXQ;clear HBQ HXQ;go_wp2_with fail;refine(lH 105 _).mono ?_;rintro e wk ⟨rfl,hbk⟩;have HBQ:=ab (ah HBK.out hbk)
 have HXQ:=ab ((hbk.block _ (lt_of_block HXK.out)).trans HXK.out);clear hbk HBK HXK;have HBK:=HBQ;have HXK:=HXQ;clear HBQ HXQ;go_wp2_with fail;refine(lH 116 _).mono ?_;rintro e wk ⟨rfl,hbk⟩;have HBQ:=ab (ah HBK.out hbk);have hx:=(hbk.block _ (lt_of_block HXK.out)).trans HXK.out;have c0:=aa (k:=0) hx;have c1:=aa (k:=1) hx;have c2:=aa (k:=2) hx;have c3:=aa (k:=3) hx
 have c4:=aa (k:=4) hx;have f0:=af (k:=0) hx;have f1:=af (k:=1) hx;have f2:=af (k:=2) hx;have f3:=af (k:=3) hx;have f4:=af (k:=4) hx;simp only[aJ]at c0 c1 c2 c3 c4;have h5:=cK (k:=4) (cK (k:=3) (cK (k:=2) (cK (k:=1) (cK (k:=0) hx (.string (oY 110))) (.string (oY 115))) (.string (oY 99))) (.string (oY 105))) (.string (oY 116))
 simp only[List.setIfInBounds_toArray,List.set_cons_succ,List.set_cons_zero]at h5;have H5:=ab h5;clear hbk hx h5;go_wp2_with fail;have m0:=aa (k:=0) H5.out;have m1:=aa (k:=1) H5.out;have m2:=aa (k:=2) H5.out;have m3:=aa (k:=3) H5.out;have m4:=aa (k:=4) H5.out;simp only[aJ]at m0 m1 m2 m3 m4;refine bodyPost_ret (v:=iM cX) (by simp[results,Tryz.results33,go_sem,m0,m1,m2,m3,m4]; rfl) rfl ⟨rfl, ?_⟩
 have hb:w.heap.size<=w.heap.size:=Nat.le_refl _;exact Below.setCell (Below.setCell (Below.setCell (Below.setCell (Below.setCell HBQ.out hb _) hb _) hb _) hb _) hb _
theorem mO (w:World):Calls Tryz.prog 34 #[] w fun e w'=>e= .returned (fC jB)/\Below w.heap.size w w':=by
 have hx:=bQ w (.cells #[.int .i64 2, .int .i64 6, .int .i64 1, .int .i64 1, .int .u64 0] 45);have m0:=aa (k:=0) hx;have m1:=aa (k:=1) hx;have m2:=aa (k:=2) hx;have m3:=aa (k:=3) hx;have m4:=aa (k:=4) hx;simp only[aJ]at m0 m1 m2 m3 m4;have M:=ab (And.intro m0 (And.intro m1 (And.intro m2 (And.intro m3 m4))));clear hx m0 m1 m2 m3 m4
 go_enter Tryz.func34,Tryz.ntmps34
 go_wp2_with fail;obtain⟨m0,m1,m2,m3,m4⟩:=M.out;exact bodyPost_ret (v:=fC jB) (by simp[results,Tryz.results34,go_sem,m0,m1,m2,m3,m4]; rfl) rfl ⟨rfl,(Below.refl _ _).alloc (Nat.le_refl _) _⟩
end Go.Proofs.YtpffpjbkbaleiaaGreatDoor
namespace Go.Proofs.YtpffpjbkbaleiaaGreatDoor
open Go Go.RowKit Go.Maps
def ti :List (ByteArray×List UInt8)->ByteArray->List UInt8->List (ByteArray×List UInt8)
 | [],n,x=>[(n,x)]
 | p::cs,n,x=>if p.1=n then(n,x)::cs else p::ti cs n x
def oC (bs:List bK):List (ByteArray×List UInt8):=bs.foldl (fun cs b=>ti cs b.ref.name b.con) []
theorem wt {bs:List bK} {j:Nat} {b:bK} (h:bs[j]? =some b):oC (bs.take (j+1))=ti (oC (bs.take j)) b.ref.name b.con:=by
 unfold oC;rw[bB h,List.foldl_append]
 rfl
theorem bq.miss' {S:Nat->Prop} {w:World} {n:ByteArray} {v:Value} {x:List UInt8} (hv:ay S w v x): ∀ {m:List (Value×Value)} {cs:List (ByteArray×List UInt8)},bq S w m cs->(∀p∈m,p.1≠Value.string n)->bq S w (m++[(.string n,v)]) (ti cs n x)
 | [],[],_,_=>⟨rfl,hv,trivial⟩
 | [],_::_,h,_=>False.elim h
 | _::_,[],h,_=>False.elim h
 | (k,u)::m,(n',b')::cs,h,hm=>by
  have hne:n'≠n:=fun e=>hm (k,u) (by simp) (by rw[h.1,e])
  rw[ti,if_neg hne];exact⟨h.1,h.2.1,bq.miss' hv h.2.2 (fun p hp=>hm p (by simp[hp]))⟩
theorem bq.hit' {S:Nat->Prop} {w:World} {n:ByteArray} : ∀ {m:List (Value×Value)} {cs:List (ByteArray×List UInt8)},bq S w m cs->(∃p∈m,p.1=Value.string n)-> ∃m1 old m2,m=m1++(.string n,old)::m2/\ ∀(w':World) (S':Nat->Prop) (v:Value) (x:List UInt8),(∀v bs,ay S w v bs->ay S' w' v bs)->ay S' w' v x->bq S' w' (m1++(.string n,v)::m2) (ti cs n x)
 | [],[],_,⟨_,hp,_⟩=>by simp at hp
 | [],_::_,h,_=>False.elim h
 | _::_,[],h,_=>False.elim h
 | (k,u)::m,(n',b')::cs,h,hp=>by
  have hmono: ∀ {w':World} {S':Nat->Prop},(∀v bs,ay S w v bs->ay S' w' v bs)->bq S w m cs->bq S' w' m cs:=by
   intro w' S' hm;have: ∀ {m:List (Value×Value)} {cs:List (ByteArray×List UInt8)},bq S w m cs->bq S' w' m cs:=by
    intro m
    induction m with
    | nil=>intro cs h; cases cs with
     | nil=>trivial
     | cons=>exact h
    | cons p m ih=>intro cs h; cases cs with
     | nil=>exact h
     | cons q cs=>exact⟨h.1,hm _ _ h.2.1,ih h.2.2⟩
   exact this
  by_cases hn:n'=n
  ·subst hn;refine⟨[],u,m,by rw[h.1]; rfl,fun w' S' v x hm hv=> ?_⟩;rw[ti,if_pos rfl];exact⟨rfl,hv,hmono hm h.2.2⟩
  ·obtain⟨p,hp1,hp2⟩:=hp;have hp3:p∈m:=by
    rcases List.mem_cons.1 hp1 with rfl | hp3
    ·have:=h.1.symm.trans hp2;simp only[Value.string.injEq]at this;exact absurd this hn
    ·exact hp3
   obtain⟨m1,old,m2,h1,h2⟩:=bq.hit' h.2.2 ⟨p,hp3,hp2⟩;refine⟨(k,u)::m1,old,m2,by rw[h1]; rfl,fun w' S' v x hm hv=> ?_⟩;rw[ti,if_neg hn];exact⟨h.1,hm _ _ h.2.1,h2 w' S' v x hm hv⟩
def gL (S:Nat->Prop) (w:World) (v:Value) (bs:List bK):Prop:= ∃zs:List iG,zs.map Prod.snd=bs/\aS S w 4 v zs.length (ey zs)/\ ∀z∈zs,ay S w z.1 z.2.con/\bg z.2.ref
theorem ob : ∀ {zs:List iG} {k:Nat} {z:iG},zs[k]? =some z-> ∀j,j<4->(ey zs)[k*4+j]? =(jr z.1 z.2)[j]?
 | [],k,_,h,_,_=>by simp at h
 | x::zs,0,z,h,j,hj=>by
  simp at h; subst h;unfold ey;rw[List.flatMap_cons,Nat.zero_mul,Nat.zero_add,List.getElem?_append_left (by exact hj)]
 | x::zs,k+1,z,h,j,hj=>by
  have:=ob (zs:=zs) (k:=k) (z:=z) (by simpa using h) j hj;unfold ey at this ⊢;rw[List.flatMap_cons,List.getElem?_append_right (by show 4<=_; omega),<-this]
  congr 1
  show(k+1)*4+j-4=_
  omega
theorem tT {S:Nat->Prop} {w:World} {a:Option Addr} {n cap:Nat} {zs:List iG} (h:aS S w 4 (.slice a n cap) zs.length (ey zs)) {k:Nat} {z:iG} (hz:zs[k]? =some z):
  ∃b o,a=some ⟨b,o,none⟩/\S b/\b<w.heap.size/\ ∀j,j<4->w.cell? ⟨b,o+k*4+j,none⟩=(jr z.1 z.2)[j]? :=by
 obtain⟨_,a',cap',he,_,_,h0⟩:=h
 cases he
 have hlt:=(List.getElem?_eq_some_iff.1 hz).1
 rcases h0 with h0 | ⟨b,o,rfl,hS,hc⟩
 ·omega
 ·have g:=fun j (hj:j<4)=>hc (k*4+j) _ ((ob hz j hj).trans (List.getElem?_eq_getElem (l:=jr z.1 z.2) hj))
  have g0:=g 0 (by omega);refine⟨b,o,rfl,hS,aO (a:=⟨b,o+(k*4+0),none⟩) g0,fun j hj=> ?_⟩;rw[Nat.add_assoc,g j hj];exact(List.getElem?_eq_getElem (l:=jr z.1 z.2) hj).symm
theorem gL.below {S:Nat->Prop} {w w':World} {v:Value} {bs:List bK} (h:gL S w v bs) (hb:Below w.heap.size w w'):gL S w' v bs:=by
 obtain⟨zs,h1,h2,h3⟩:=h;exact⟨zs,h1,aS.below h2 (by omega) hb,fun z hz=>⟨aS.below (h3 z hz).1 (by omega) hb,(h3 z hz).2⟩⟩
def DB (S:Nat->Prop) (bs:List bK) (w:World) (e:Ending) (w':World):Prop:= ∃mb m,e= .returned (.map (some mb))/\w.heap.size<=mb/\cO Tryz.prog 9 w' mb m/\bq S w' m (oC bs)/\Below w.heap.size w w'
theorem sJ (S:Nat->Prop) (bs:List bK) (v:Value) (w:World) (hv:gL S w v bs) (hl:bs.length<=1000000):Calls Tryz.prog 36 #[v] w (DB S bs w):=by
 obtain⟨zs,hzs,hrow,hdat⟩:=hv;obtain⟨_,a,cap,rfl,hcp,hm,-⟩:=id hrow;unfold maxLen at hm;have HROW:=ab hrow;have HDAT:=ab hdat
 have HZS:=ab hzs;obtain⟨n,hn⟩: ∃n,n=zs.length:=⟨_,rfl⟩;have hln:n<=1000000:=by rw[hn,<-List.length_map (f:=Prod.snd),hzs]; exact hl
 rw[<-hn]at hcp ⊢;have HN:=ab hn;have hmm:= @run_makeMap Tryz.prog;obtain⟨W0,hW0⟩: ∃W0,W0=w.alloc (.map #[] 0):=⟨_,rfl⟩;have HM0:=ab (show cO Tryz.prog 9 W0 w.heap.size [] by rw[hW0]; exact cO.made w);have HB0:=ab (show Below w.heap.size w W0 by rw[hW0]; exact(Below.refl _ _).alloc (Nat.le_refl _) _);clear hrow hdat hzs hn hl
 go_enter Tryz.func36,Tryz.ntmps36
 go_upto_region 2 with(fail)
 rw[<-hW0];clear hW0 hmm;go_wp2_with fail
 go_loopw [4] (fun i wr=> ∃(j:Nat) (m:List (Value×Value)),j<=n/\i= .int .i64 (j:Int)/\cO Tryz.prog 9 wr w.heap.size m/\bq S wr m (oC (bs.take j))/\Below w.heap.size w wr) (fun i _=>n-(intOf i).toNat)
 case atStart=>exact⟨0,[],Nat.zero_le _,rfl,HM0.out,trivial,HB0.out⟩
 case round=>
  obtain⟨j,m,hj,rfl,hms,hen,hb⟩:=hrel;have HMS:=ab hms;have HEN:=ab hen;have HB:=ab hb;clear hms hen hb
  by_cases hlt:j<n
  ·obtain⟨z,hz⟩: ∃z,zs[j]? =some z:=⟨zs[j]'(by rw[<-HN.out]; exact hlt),by simp⟩;obtain⟨b,o,rfl,-,hbl,hcl⟩:=tT HROW.out hz;have hzd:=HDAT.out z (List.mem_of_getElem? hz);have HZD:=ab hzd;have HZN:=ab (show bs[j]? =some z.2 by rw[<-HZS.out,List.getElem?_map,hz]; rfl);obtain⟨_,za,zc,hzv,-,-,-⟩:=id hzd.1;have g:=fun i (hi:i<4)=>(HB.out.cell (p:=⟨b,o+j*4+i,none⟩) hbl).trans (hcl i hi)
   have q0:=g 0 (by omega);have q3:=g 3 (by omega);simp only[jr,BW,Nat.add_zero]at q0 q3;rw[hzv]at q3;obtain⟨zl,hzl⟩: ∃zl,zl=z.2.con.length:=⟨_,rfl⟩;rw[<-hzl]at q3;obtain⟨nm,hnm⟩: ∃nm,nm=z.2.ref.name:=⟨_,rfl⟩;rw[<-hnm]at q0;have hnms:nm.size<=maxLen:=by rw[hnm]; exact hzd.2.nm
   have ht:Tryz.prog.underlying 55=some (.map 9 29):=Tryz.underlying55;have HTY:=ab ht;have HST:=ab (show oC (bs.take (j+1))=ti (oC (bs.take j)) nm z.2.con by rw[wt HZN.out,hnm]);have HBV:=ab (show ∀W:World,Below w.heap.size w W->ay S W (.slice za zl zc) z.2.con from fun W hW=>by rw[hzl,<-hzv]; exact aS.below hzd.1 (by omega) hW);have hbw:w.heap.size<wr.heap.size:=HMS.out.lt
   clear ht hz hcl hzd hzv g hzl hnm;go_wp2_with fail;refine an [some 12,none] (by kernel_rfl) (by kernel_rfl) (by kernel_rfl) ?_;simp only[bi,List.take_succ_cons,List.take_zero,List.drop_succ_cons,List.drop_zero];have HMD:=ab (HMS.out.same (w':=wr.drew) rfl)
   repeat (first | (refine aF rfl ?_; simp only[Act.put,aB,aC,aD]) | (refine aL rfl (fun K hK=> ?_); go_simp; refine hK _ ?_; clear hK K))
   refine aK ?_;refine bA rfl (fun K hK=> ?_);have hby: ∀(w9:World),wr.drew.grownBy w9 (some w.heap.size)->Below w.heap.size w w9:=fun w9 hg=>(HB.out.trans ((Below.refl wr.heap.size wr).drew.mono HB.out.size)).grown hg (Nat.le_of_lt hbw) (fun i hi=>by cases hi; exact Nat.le_refl _)
   have HBY:=ab hby
   have hkeep: ∀(w9:World),wr.drew.grownBy w9 (some w.heap.size)-> ∀v bs,ay S wr v bs->ay S w9 v bs:=fun w9 hg v bs hv=>by
    obtain⟨h1,a9,cap9,rfl,h2,h3,h4⟩:=hv;refine⟨h1,a9,cap9,rfl,h2,h3, ?_⟩
    rcases h4 with h4 | ⟨b9,o9,rfl,hS,hc⟩
    ·exact .inl h4
    ·refine .inr ⟨b9,o9,rfl,hS,fun i u hi=> ?_⟩;have q:=hc i u hi;rw[<-q];refine World.cell?_of_block (hg.block b9 (aO (a:=⟨b9,o9+i,none⟩) q) (fun e=> ?_));have:b9=w.heap.size:=by simpa using e
     subst this;obtain⟨es,clock,hb9,_⟩:=HMS.out;simp[World.cell?,hb9]at q
   have HKP:=ab hkeep;clear hby hkeep
   by_cases hin: ∃p∈m,p.1=Value.string nm
   ·obtain⟨m1,old,m2,rfl,hnew⟩:=HEN.out.hit' hin;have HNW:=ab hnew;clear hin hnew;go_wp2_with (at_mapUpdate; go_must (refine jq bO rfl _ _ _ _ rfl HTY.out w.heap.size m1 m2 (.string nm) (.slice za zl zc) old HMD.out rfl rfl rfl ?_); intro w9 hm9 hg9);have HM9:=ab hm9;have HG9:=ab hg9;clear hm9 hg9;go_wp2_with fail
    go_roundw
    case rel=>exact⟨j+1,_,by omega,by go_num,HM9.out,by rw[HST.out]; exact HNW.out w9 S _ _ (HKP.out w9 HG9.out) (HBV.out w9 (HBY.out w9 HG9.out)),HBY.out w9 HG9.out⟩
    case measure=>simp[intOf]; omega
   ·have hno: ∀p∈m,p.1≠Value.string nm:=fun p hp e=>hin ⟨p,hp,e⟩
    have HNO:=ab hno;clear hin hno;go_wp2_with (at_mapUpdate; go_must (refine ed bO rfl _ _ _ _ rfl HTY.out w.heap.size m HMD.out rfl (.string nm) (.slice za zl zc) rfl rfl (cD hnms) HNO.out ?_); intro w9 hm9 hg9);have HM9:=ab hm9;have HG9:=ab hg9;clear hm9 hg9;go_wp2_with fail
    go_roundw
    case rel=>exact⟨j+1,_,by omega,by go_num,HM9.out,by rw[HST.out]; exact bq.miss' (HBV.out w9 (HBY.out w9 HG9.out)) (HEN.out.mono (HKP.out w9 HG9.out)) HNO.out,HBY.out w9 HG9.out⟩
    case measure=>simp[intOf]; omega
  ·have hk2:j=n:=by omega
   subst hk2;go_wp2_with fail;go_ret;have h1:=HEN.out;rw[List.take_of_length_le (by rw[<-HZS.out,List.length_map,<-HN.out]; exact Nat.le_refl _)]at h1;exact⟨_,m,rfl,Nat.le_refl _,HMS.out,h1,HB.out⟩
end Go.Proofs.YtpffpjbkbaleiaaGreatDoor
namespace Go.Proofs.YtpffpjbkbaleiaaGreatDoor
open Go Go.RowKit
theorem Cf {a:Act} {w:World} {b:Nat} {x0 x1 x2 x3 x4 x5 x6 x7 x8 x9 e7:Value} (h:w.heap[b]? =some (.cells #[x0,x1,x2,x3,x4,x5,x6,x7,x8,x9] 28 (0,0)))
  (h6:a.tmps[6]? =some (.pointer (some ⟨b,0,none⟩))) (h7:a.tmps[7]? =some e7):(results Tryz.f28 a.tmps).run Tryz.prog w= .ok (.tuple #[.agg #[x0,x1,x2,x3,x4,x5,x6,x7,x8,x9],e7]) w:=by
 have m0:=ai (k:=0) h;have m1:=ai (k:=1) h;have m2:=ai (k:=2) h;have m3:=ai (k:=3) h;have m4:=ai (k:=4) h;have m5:=ai (k:=5) h;have m6:=ai (k:=6) h;have m7:=ai (k:=7) h;have m8:=ai (k:=8) h;have m9:=ai (k:=9) h;simp only[aJ]at m0 m1 m2 m3 m4 m5 m6 m7 m8 m9;simp[results,Tryz.results28,go_sem,h6,h7,m0,m1,m2,m3,m4,m5,m6,m7,m8,m9]
theorem iN {a:Act} {w:World} {b:Nat} {a0 a1 a2 a3 a4 a5 a6 a7 a8 a9 x0 x1 x2 x3 x4 x5 x6 x7 x8 x9 e7:Value} {Q:Ending->World->Prop} (h:w.heap[b]? =some (.cells #[a0,a1,a2,a3,a4,a5,a6,a7,a8,a9] 28 (0,0)))
  (h6:a.tmps[6]? =some (.pointer (some ⟨b,0,none⟩))) (h7:a.tmps[7]? =some e7) (hd:a.defers=[])
  (hQ:Q (.returned (.tuple #[.agg #[x0,x1,x2,x3,x4,x5,x6,x7,x8,x9],e7])) ((((((((((w.setCell ⟨b,0,none⟩ x0).setCell ⟨b,1,none⟩ x1).setCell ⟨b,2,none⟩ x2).setCell ⟨b,3,none⟩ x3).setCell ⟨b,4,none⟩ x4).setCell ⟨b,5,none⟩ x5).setCell ⟨b,6,none⟩ x6).setCell ⟨b,7,none⟩ x7).setCell ⟨b,8,none⟩ x8).setCell ⟨b,9,none⟩ x9)):
  bodyPost Tryz.prog Tryz.f28 Q Exit.ret a ((((((((((w.setCell ⟨b,0,none⟩ x0).setCell ⟨b,1,none⟩ x1).setCell ⟨b,2,none⟩ x2).setCell ⟨b,3,none⟩ x3).setCell ⟨b,4,none⟩ x4).setCell ⟨b,5,none⟩ x5).setCell ⟨b,6,none⟩ x6).setCell ⟨b,7,none⟩ x7).setCell ⟨b,8,none⟩ x8).setCell ⟨b,9,none⟩ x9):=bodyPost_ret (Cf (yC h) h6 h7) hd hQ
theorem CZ {S:Nat->Prop} {w w':World} {a:Option Addr} {n cap:Nat} {xs:List ByteArray} (h:gq S w (.slice a n cap) xs) (hb:Below w.heap.size w w') {k:Nat} {x:ByteArray} (hx:xs[k]? =some x):
  ∃b o,a=some ⟨b,o,none⟩/\b<w.heap.size/\w'.cell? ⟨b,o+k,none⟩=some (.string x):=by
 obtain⟨_,a',cap',he,_,_,h0⟩:=h
 cases he
 rcases h0 with h0 | ⟨b,o,rfl,_,hc⟩
 ·have:=(List.getElem?_eq_some_iff.1 hx).1;omega
 ·have q:=hc k (.string x) (sU hx);exact⟨b,o,rfl,aO q,(hb.cell (p:=⟨b,o+k,none⟩) (aO q)).trans q⟩
structure LkI (w2 : World) (ib : Nat) (wr : World) (it : az) : Prop where
 below:Below ib w2 wr
 box: ∃ca cc,wr.heap[ib]? =some (.cells (cL (.slice ca it.chunks.length cc) it).toArray 28 (0,0))/\aM (fun k=>ib<k) wr (.slice ca it.chunks.length cc) it.chunks
 ok:cz it
theorem LkI.next {w2 wr w':World} {ib:Nat} {it:az} (h:LkI w2 ib wr it) (hb:Below wr.heap.size wr w'):LkI w2 ib w' it:=by
 obtain⟨ca,cc,h1,h2⟩:=h.box;have hl:=lt_of_block h1;exact⟨h.below.trans (hb.mono (by omega)),⟨ca,cc,(hb.block ib hl).trans h1,aP.below h2 (by omega) hb (fun _ _ _ h=>h)⟩,h.ok⟩
theorem wy {root:aI} (h:bg root):cz (dz root):=⟨by show(0:Nat)<=_; unfold maxLen; omega,by show(0:Nat)<=_; unfold maxLen; omega,h⟩
def nF (cs:List (ByteArray×List UInt8)) (root:aI) (path:ByteArray) (w:World) (e:Ending) (w':World):Prop:=Below w.heap.size w w'/\match bW cs root path with
 | .error x=>e= .returned (.tuple #[.agg #[.string ⟨#[]⟩, .int .i64 0, .int .i64 0, .int .i64 0, .int .i64 0, .string ⟨#[]⟩, .slice none 0 0, .string ⟨#[]⟩, .int .i64 0, .int .i64 0], .int .i64 x])/\x≠0
 | .ok it=> ∃v,e= .returned (.tuple #[dT v it, .int .i64 0])/\aM (w.heap.size<= ·) w' v it.chunks/\cz it
theorem ir (S:Nat->Prop) (cv:Value) (cs:List (ByteArray×List UInt8)) (root:aI) (path:ByteArray) (w:World) (hc:bD S w cv cs) (henv:gG w) (hr:bg root):Calls Tryz.prog 28 #[bt root,cv, .string path] w (nF cs root path w):=by
 obtain⟨W0,hW0⟩: ∃W0,W0=(w.alloc (.cells #[.string root.name, .int .i64 root.gen, .int .i64 root.size] 26)).alloc (.cells #[.string ⟨#[]⟩, .int .i64 0, .int .i64 0, .int .i64 0, .int .i64 0, .string ⟨#[]⟩, .slice none 0 0, .string ⟨#[]⟩, .int .i64 0, .int .i64 0] 28):=⟨_,rfl⟩;have HB0:=ab (show Below w.heap.size w W0 by rw[hW0]; exact((Below.refl _ _).alloc (Nat.le_refl _) _).alloc (by simp) _)
 have HX0:=ab (show W0.heap[w.heap.size]? =some (.cells #[.string root.name, .int .i64 root.gen, .int .i64 root.size] 26 (0,0)) by rw[hW0]; exact cF (bQ w _) _);have HY0:=ab (show W0.heap[w.heap.size+1]? =some (.cells #[.string ⟨#[]⟩, .int .i64 0, .int .i64 0, .int .i64 0, .int .i64 0, .string ⟨#[]⟩, .slice none 0 0, .string ⟨#[]⟩, .int .i64 0, .int .i64 0] 28 (0,0)) by rw[hW0]; exact jg w _ _)
 have HI:=ab (eX.start (hc.below HB0.out) (henv.below HB0.out));have HR:=ab hr;unfold bt;clear hc henv hr
 go_enter Tryz.func28,Tryz.ntmps28
 go_upto_region 1 with(fail)
 rw[<-hW0];clear hW0
 cases hp:be (bl path)with
 | false=>
  have HM:=ab (show bW cs root path= .error 1 by unfold bW; rw[if_neg (by rw[hp]; simp)]);have HP:=ab hp;clear hp;go_wp2_with fail;refine(AH path W0 HI.out.env HP.out).mono ?_;rintro e w1 ⟨rfl,hb1⟩;have HB1:=ab (ah HB0.out hb1);have HY1:=ab ((hb1.block _ (lt_of_block HY0.out)).trans HY0.out);have z0:=aa (k:=0) HY1.out;have z1:=aa (k:=1) HY1.out
  have z2:=aa (k:=2) HY1.out;have z3:=aa (k:=3) HY1.out;have z4:=aa (k:=4) HY1.out;have z5:=aa (k:=5) HY1.out;have z6:=aa (k:=6) HY1.out;have z7:=aa (k:=7) HY1.out;have z8:=aa (k:=8) HY1.out;have z9:=aa (k:=9) HY1.out;have g0:=af (k:=0) HY1.out;have g1:=af (k:=1) HY1.out;have g2:=af (k:=2) HY1.out;have g3:=af (k:=3) HY1.out
  have g4:=af (k:=4) HY1.out;have g5:=af (k:=5) HY1.out;have g6:=af (k:=6) HY1.out;have g7:=af (k:=7) HY1.out;have g8:=af (k:=8) HY1.out;have g9:=af (k:=9) HY1.out;simp only[aJ]at z0 z1 z2 z3 z4 z5 z6 z7 z8 z9;clear hb1;go_wp2_with fail;refine iN HY1.out rfl rfl rfl ⟨bI HB1.out (by show w.heap.size<=w.heap.size+1; omega), ?_⟩
  rw[HM.out];exact⟨rfl,by decide⟩
 | true=>
  have HP:=ab hp
  cases hv:dM root with
  | false=>
   have HM:=ab (show bW cs root path= .error 1 by unfold bW; rw[if_neg (by rw[hv]; simp)]);have HVR:=ab hv;clear hp hv;go_wp2_with fail;refine(vM path W0 HI.out.env HP.out).mono ?_;rintro e w1 ⟨ap,cp,rfl,-,-,-,hb1⟩;have HB1:=ab (ah HB0.out hb1);have HW1:=ab hb1;have HX1:=ab ((hb1.block _ (lt_of_block HX0.out)).trans HX0.out);have HY1:=ab ((hb1.block _ (lt_of_block HY0.out)).trans HY0.out)
   have r0:=aa (k:=0) HX1.out;have r1:=aa (k:=1) HX1.out;have r2:=aa (k:=2) HX1.out;simp only[aJ]at r0 r1 r2;clear hb1;go_wp2_with fail;refine(de root false _ HR.out HVR.out).mono ?_;rintro e w2 ⟨rfl,hb2⟩;have HB2:=ab (ah HB1.out hb2);have HY2:=ab ((hb2.block _ (lt_of_block HY1.out)).trans HY1.out);have z0:=aa (k:=0) HY2.out;have z1:=aa (k:=1) HY2.out
   have z2:=aa (k:=2) HY2.out;have z3:=aa (k:=3) HY2.out;have z4:=aa (k:=4) HY2.out;have z5:=aa (k:=5) HY2.out;have z6:=aa (k:=6) HY2.out;have z7:=aa (k:=7) HY2.out;have z8:=aa (k:=8) HY2.out;have z9:=aa (k:=9) HY2.out;have g0:=af (k:=0) HY2.out;have g1:=af (k:=1) HY2.out;have g2:=af (k:=2) HY2.out;have g3:=af (k:=3) HY2.out
   have g4:=af (k:=4) HY2.out;have g5:=af (k:=5) HY2.out;have g6:=af (k:=6) HY2.out;have g7:=af (k:=7) HY2.out;have g8:=af (k:=8) HY2.out;have g9:=af (k:=9) HY2.out;simp only[aJ]at z0 z1 z2 z3 z4 z5 z6 z7 z8 z9;clear hb2 r0 r1 r2;go_wp2_with fail;refine iN HY2.out rfl rfl rfl ⟨bI HB2.out (by show w.heap.size<=w.heap.size+1; omega), ?_⟩
   rw[HM.out];exact⟨rfl,by decide⟩
  | true=>
   have HM:=ab (show bW cs root path=dI cs (eB (bl path)) (dz root) by unfold bW; rw[if_pos ⟨hp,hv⟩]);have HVR:=ab hv;clear hp hv;go_wp2_with fail;refine(vM path W0 HI.out.env HP.out).mono ?_;rintro e w1 ⟨ap,cp,rfl,hpn,hpm,hps,hb1⟩;obtain⟨ps,hpd⟩: ∃ps,ps=eB (bl path):=⟨_,rfl⟩;rw[<-hpd]at hps hpn ⊢;have HPD:=ab hpd;obtain⟨np,hnp⟩: ∃np,np=ps.length:=⟨_,rfl⟩
   rw[<-hnp]at hps hpn ⊢;have HNP:=ab hnp;have HPS:=ab hps;unfold maxLen at hpm;have HB1:=ab (ah HB0.out hb1);have HW1:=ab hb1;have HX1:=ab ((hb1.block _ (lt_of_block HX0.out)).trans HX0.out);have HY1:=ab ((hb1.block _ (lt_of_block HY0.out)).trans HY0.out);have r0:=aa (k:=0) HX1.out;have r1:=aa (k:=1) HX1.out;have r2:=aa (k:=2) HX1.out;simp only[aJ]at r0 r1 r2
   clear hb1;clear hpd hnp hps;go_wp2_with fail;refine(de root true _ HR.out HVR.out).mono ?_;rintro e w2 ⟨rfl,hb2⟩;have HB2:=ab (ah HB1.out hb2);have HY2:=ab ((hb2.block _ (lt_of_block HY1.out)).trans HY1.out);have hx2:=(hb2.block _ (lt_of_block HX1.out)).trans HX1.out;clear r0 r1 r2;have r0:=aa (k:=0) hx2;have r1:=aa (k:=1) hx2;have r2:=aa (k:=2) hx2
   simp only[aJ]at r0 r1 r2;clear hx2;go_wp2_with fail;obtain⟨W3,hW3⟩: ∃W3,W3=w2.alloc (.cells #[.string ⟨#[]⟩, .int .i64 2, .int .i64 0, .int .i64 0, .int .i64 0, .string ⟨#[]⟩, .slice none 0 0, .string root.name, .int .i64 root.gen, .int .i64 root.size] 28):=⟨_,rfl⟩;rw[<-hW3];have HLK:=ab (show LkI w2 w2.heap.size W3 (dz root)from⟨by rw[hW3]; exact(Below.refl _ _).alloc (Nat.le_refl _) _,⟨none,0,by rw[hW3]; exact bQ w2 _,aP.nil⟩,wy HR.out⟩)
   obtain⟨ib,hib⟩: ∃ib,ib=w2.heap.size:=⟨_,rfl⟩;rw[<-hib]at HLK ⊢;have HIB:=ab hib;have HPS2:=ab (aS.below HPS.out (by omega) hb2);have HW2:=ab (ah HW1.out hb2);clear hW3 r0 r1 r2 hb2 hib
   go_loopw [33] (fun i wr=> ∃(k:Nat) (it:az),k<=np/\i= .int .i64 (k:Int)/\dI cs (ps.drop k) it=bW cs root path/\LkI w2 ib wr it) (fun i _=>np-(intOf i).toNat)
   case atStart=>exact⟨0,dz root,Nat.zero_le _,rfl,by rw[HM.out,<-HPD.out]; rfl,HLK.out⟩
   case round=>
    obtain⟨k,it,hk,rfl,hlp,hin⟩:=hrel;have HLP:=ab hlp;have HIN:=ab hin;obtain⟨ca,cc,hbx,hrf⟩:=hin.box;have HBX:=ab hbx;have HRF:=ab hrf;clear hlp hin hbx hrf HLK;have HYR:=ab ((HIN.out.below.block (w.heap.size+1) (by rw[HIB.out]; exact lt_of_block HY2.out)).trans HY2.out);have HWR:=ab (HB2.out.trans (HIN.out.below.mono (by rw[HIB.out]; exact HB2.out.size)));have hne:w.heap.size+1≠ib:=by have:=lt_of_block HY2.out; have:=HIB.out; omega
    by_cases hlt:k<np
    ·obtain⟨c,hc⟩: ∃c,ps[k]? =some c:=⟨ps[k]'(by rw[<-HNP.out]; exact hlt),by simp⟩;obtain⟨pb,po,rfl,hpb,hcell⟩:=CZ HPS2.out (by have:=HIN.out.below; rw[HIB.out]at this; exact this) hc;have HDR:=ab (show ps.drop k=c::ps.drop (k+1) by
      rw[List.drop_eq_getElem_cons (by rw[<-HNP.out]; exact hlt)]
      congr 1
      exact(List.getElem?_eq_some_iff.1 hc).2)
     obtain⟨W4,hW4⟩: ∃W4,W4=wr.alloc (.cells #[.string c] 9):=⟨_,rfl⟩;have hb4:Below wr.heap.size wr W4:=by rw[hW4]; exact(Below.refl _ _).alloc (Nat.le_refl _) _
     have HC4:=ab (show W4.cell? ⟨wr.heap.size,0,none⟩=some (.string c) by rw[hW4]; exact(aa (bQ wr _)).trans rfl);have HIN4:=ab (HIN.out.next hb4);have HBX4:=ab ((hb4.block ib (lt_of_block HBX.out)).trans HBX.out);have HY4:=ab ((hb4.block _ (lt_of_block HYR.out)).trans HYR.out);have HB4:=ab (ah HWR.out hb4);have HI4:=ab (HI.out.keepL (HW2.out.trans ((HIN.out.below.mono (by rw[HIB.out]; exact HW2.out.size)).trans (hb4.mono (Nat.le_trans HW2.out.size (by have:=HIN.out.below.size; exact this))))) (Nat.le_refl _))
     clear hc hb4
     go_upto_region 8 with(fail)
     rw[<-hW4];clear hW4 hcell;have i0:=aa (k:=0) HBX4.out;have i1:=aa (k:=1) HBX4.out;have i2:=aa (k:=2) HBX4.out;have i3:=aa (k:=3) HBX4.out;have i4:=aa (k:=4) HBX4.out;have i5:=aa (k:=5) HBX4.out;have i6:=aa (k:=6) HBX4.out;have i7:=aa (k:=7) HBX4.out;have i8:=aa (k:=8) HBX4.out;have i9:=aa (k:=9) HBX4.out;simp only[cL,aJ]at i0 i1 i2 i3 i4 i5 i6 i7 i8 i9
     by_cases hk2:it.kind=2
     ·have e1:(it.kind != 2)=false:=by simp[hk2]
      have HLP2:=ab (show(match cE cs it.node with | .error x=> .error x | .ok l=>match l.find? (fun y=>decide (y.name=c))with | none=> .error 4 | some y=>dI cs (ps.drop (k+1)) y)=bW cs root path by have:=HLP.out; rw[HDR.out,dI,if_pos hk2]at this; exact this);have hnd:=lM _ cv cs it.node W4 HI4.out.cont HIN.out.ok.nd HI4.out.env;unfold lr at hnd;clear hk2
      cases hnp:cE cs it.node with
      | error x=>
       rw[hnp]at hnd;have HND:=ab hnd;have HM5:=ab (show bW cs root path= .error x by have:=HLP2.out; rw[hnp]at this; exact this.symm);clear hnp hnd;go_wp2_with fail;refine HND.out.mono ?_;rintro e w5 ⟨hb5,rfl,hx⟩;have HB5:=ab (ah HB4.out hb5);have HY5:=ab ((hb5.block _ (lt_of_block HY4.out)).trans HY4.out);have e2:(x != 0)=true:=by simp[hx]
       have HX:=ab hx;clear hx hb5 i0 i1 i2 i3 i4 i5 i6 i7 i8 i9;have z0:=aa (k:=0) HY5.out;have z1:=aa (k:=1) HY5.out;have z2:=aa (k:=2) HY5.out;have z3:=aa (k:=3) HY5.out;have z4:=aa (k:=4) HY5.out;have z5:=aa (k:=5) HY5.out;have z6:=aa (k:=6) HY5.out;have z7:=aa (k:=7) HY5.out;have z8:=aa (k:=8) HY5.out;have z9:=aa (k:=9) HY5.out
       have g0:=af (k:=0) HY5.out;have g1:=af (k:=1) HY5.out;have g2:=af (k:=2) HY5.out;have g3:=af (k:=3) HY5.out;have g4:=af (k:=4) HY5.out;have g5:=af (k:=5) HY5.out;have g6:=af (k:=6) HY5.out;have g7:=af (k:=7) HY5.out;have g8:=af (k:=8) HY5.out;have g9:=af (k:=9) HY5.out;simp only[aJ]at z0 z1 z2 z3 z4 z5 z6 z7 z8 z9
       go_wp2_with fail;refine iN HY5.out rfl rfl rfl ⟨bI HB5.out (by show w.heap.size<=w.heap.size+1; omega), ?_⟩;rw[HM5.out];exact⟨rfl,HX.out⟩
      | ok l=>
       rw[hnp]at hnd;have HND:=ab hnd;have HLP3:=ab (show(match l.find? (fun y=>decide (y.name=c))with | none=> .error 4 | some y=>dI cs (ps.drop (k+1)) y)=bW cs root path by have:=HLP2.out; rw[hnp]at this; exact this);have HLV:=ab (ld hnp);clear hnp hnd;go_wp2_with fail;refine HND.out.mono ?_;rintro e w5 ⟨hb5,v5,rfl,hv5⟩;have HB5:=ab (ah HB4.out hb5)
       have HY5:=ab ((hb5.block _ (lt_of_block HY4.out)).trans HY4.out);have HIN5:=ab (HIN4.out.next hb5);have HBX5:=ab ((hb5.block _ (lt_of_block HBX4.out)).trans HBX4.out);have HC5:=ab ((hb5.cell (p:=⟨wr.heap.size,0,none⟩) (aO HC4.out)).trans HC4.out);obtain⟨a5,cap5,rfl,hc5,hm5,-⟩:=aP.shape hv5 dR.len;unfold maxLen at hm5;have HV5:=ab hv5;have HZ4:=ab (show ib<W4.heap.size from lt_of_block HBX4.out)
       obtain⟨nl,hnl⟩: ∃nl,nl=l.length:=⟨_,rfl⟩;rw[<-hnl]at HV5 hc5 ⊢;have HNL:=ab hnl;have hn4:nl<=4096:=by rw[hnl]; exact HLV.out.1
       clear hb5 hv5 hnl i0 i1 i2 i3 i4 i5 i6 i7 i8 i9;go_wp2_with fail;refine(qi _ l c wr.heap.size (.slice a5 nl cap5) w5 HV5.out HC5.out).mono ?_;rintro e w6 ⟨rfl,hb6⟩;have HB6:=ab (ah HB5.out hb6);have HY6:=ab ((hb6.block _ (lt_of_block HY5.out)).trans HY5.out);have HIN6:=ab (HIN5.out.next hb6);have HBX6:=ab ((hb6.block _ (lt_of_block HBX5.out)).trans HBX5.out)
       have HB56:=ab hb6;clear hb6
       rcases rm c l 0 with⟨hf,hix⟩ | ⟨j,y,hj,hf,hix⟩
       ·have HM6:=ab (show bW cs root path= .error 4 by have:=HLP3.out; rw[hf]at this; exact this.symm);rw[hix];clear hf hix;have z0:=aa (k:=0) HY6.out;have z1:=aa (k:=1) HY6.out;have z2:=aa (k:=2) HY6.out;have z3:=aa (k:=3) HY6.out;have z4:=aa (k:=4) HY6.out;have z5:=aa (k:=5) HY6.out;have z6:=aa (k:=6) HY6.out;have z7:=aa (k:=7) HY6.out
        have z8:=aa (k:=8) HY6.out;have z9:=aa (k:=9) HY6.out;have g0:=af (k:=0) HY6.out;have g1:=af (k:=1) HY6.out;have g2:=af (k:=2) HY6.out;have g3:=af (k:=3) HY6.out;have g4:=af (k:=4) HY6.out;have g5:=af (k:=5) HY6.out;have g6:=af (k:=6) HY6.out;have g7:=af (k:=7) HY6.out;have g8:=af (k:=8) HY6.out
        have g9:=af (k:=9) HY6.out;simp only[aJ]at z0 z1 z2 z3 z4 z5 z6 z7 z8 z9;go_wp2_with fail;refine iN HY6.out rfl rfl rfl ⟨bI HB6.out (by show w.heap.size<=w.heap.size+1; omega), ?_⟩;rw[HM6.out];exact⟨rfl,by decide⟩
       ·have HM6:=ab (show dI cs (ps.drop (k+1)) y=bW cs root path by have:=HLP3.out; rw[hf]at this; exact this);rw[hix,Nat.zero_add];obtain⟨b7,o7,ca7,cc7,rfl,hok7,hrf7,hbl7,-,hcl⟩:=dF HV5.out HB56.out hj;have hjl:j<nl:=by rw[HNL.out]; exact(List.getElem?_eq_some_iff.1 hj).1
        have HOK7:=ab hok7;have HRF7:=ab hrf7;have q0:=hcl 0 (by omega);have q1:=hcl 1 (by omega);have q2:=hcl 2 (by omega);have q3:=hcl 3 (by omega);have q4:=hcl 4 (by omega);have q5:=hcl 5 (by omega);have q6:=hcl 6 (by omega);have q7:=hcl 7 (by omega);have q8:=hcl 8 (by omega);have q9:=hcl 9 (by omega);simp only[cL,BW,Nat.add_zero]at q0 q1 q2 q3 q4 q5 q6 q7 q8 q9
        have i0:=aa (k:=0) HBX6.out;have i1:=aa (k:=1) HBX6.out;have i2:=aa (k:=2) HBX6.out;have i3:=aa (k:=3) HBX6.out;have i4:=aa (k:=4) HBX6.out;have i5:=aa (k:=5) HBX6.out;have i6:=aa (k:=6) HBX6.out;have i7:=aa (k:=7) HBX6.out;have i8:=aa (k:=8) HBX6.out;have i9:=aa (k:=9) HBX6.out;simp only[cL,aJ]at i0 i1 i2 i3 i4 i5 i6 i7 i8 i9
        have g0:=af (k:=0) HBX6.out;have g1:=af (k:=1) HBX6.out;have g2:=af (k:=2) HBX6.out;have g3:=af (k:=3) HBX6.out;have g4:=af (k:=4) HBX6.out;have g5:=af (k:=5) HBX6.out;have g6:=af (k:=6) HBX6.out;have g7:=af (k:=7) HBX6.out;have g8:=af (k:=8) HBX6.out;have g9:=af (k:=9) HBX6.out;clear hf hix hj hok7 hrf7 hcl
        go_wp2_with fail
        go_roundw
        case rel=>
         refine⟨k+1,y,by omega,by go_num,HM6.out,⟨bI HIN6.out.below (Nat.le_refl _),⟨ca7,cc7,yC HBX6.out,aM.same HRF7.out (fun i hi hS=>⟨Nat.lt_of_lt_of_le HZ4.out hS,jd (by have:=HZ4.out; omega)⟩)⟩,HOK7.out⟩⟩
        case measure=>simp[intOf]; omega
     ·have e1:(it.kind != 2)=true:=by simp[hk2]
      have HM4:=ab (show bW cs root path= .error 4 by have:=HLP.out; rw[HDR.out,dI,if_neg hk2]at this; exact this.symm);clear hk2;have z0:=aa (k:=0) HY4.out;have z1:=aa (k:=1) HY4.out;have z2:=aa (k:=2) HY4.out;have z3:=aa (k:=3) HY4.out;have z4:=aa (k:=4) HY4.out;have z5:=aa (k:=5) HY4.out;have z6:=aa (k:=6) HY4.out;have z7:=aa (k:=7) HY4.out
      have z8:=aa (k:=8) HY4.out;have z9:=aa (k:=9) HY4.out;have g0:=af (k:=0) HY4.out;have g1:=af (k:=1) HY4.out;have g2:=af (k:=2) HY4.out;have g3:=af (k:=3) HY4.out;have g4:=af (k:=4) HY4.out;have g5:=af (k:=5) HY4.out;have g6:=af (k:=6) HY4.out;have g7:=af (k:=7) HY4.out;have g8:=af (k:=8) HY4.out;have g9:=af (k:=9) HY4.out
      simp only[aJ]at z0 z1 z2 z3 z4 z5 z6 z7 z8 z9;go_wp2_with fail;refine iN HY4.out rfl rfl rfl ⟨bI HB4.out (by show w.heap.size<=w.heap.size+1; omega), ?_⟩;rw[HM4.out];exact⟨rfl,by decide⟩
    ·have hk2:k=np:=by omega
     subst hk2;have hit:bW cs root path= .ok it:=by have:=HLP.out; rw[HNP.out,List.drop_length]at this; rw[<-this]; rfl
     have HIT:=ab hit;have z0:=aa (k:=0) HYR.out;have z1:=aa (k:=1) HYR.out;have z2:=aa (k:=2) HYR.out;have z3:=aa (k:=3) HYR.out;have z4:=aa (k:=4) HYR.out;have z5:=aa (k:=5) HYR.out;have z6:=aa (k:=6) HYR.out;have z7:=aa (k:=7) HYR.out;have z8:=aa (k:=8) HYR.out;have z9:=aa (k:=9) HYR.out;have g0:=af (k:=0) HYR.out
     have g1:=af (k:=1) HYR.out;have g2:=af (k:=2) HYR.out;have g3:=af (k:=3) HYR.out;have g4:=af (k:=4) HYR.out;have g5:=af (k:=5) HYR.out;have g6:=af (k:=6) HYR.out;have g7:=af (k:=7) HYR.out;have g8:=af (k:=8) HYR.out;have g9:=af (k:=9) HYR.out;simp only[aJ]at z0 z1 z2 z3 z4 z5 z6 z7 z8 z9;have i0:=aa (k:=0) HBX.out
     have i1:=aa (k:=1) HBX.out;have i2:=aa (k:=2) HBX.out;have i3:=aa (k:=3) HBX.out;have i4:=aa (k:=4) HBX.out;have i5:=aa (k:=5) HBX.out;have i6:=aa (k:=6) HBX.out;have i7:=aa (k:=7) HBX.out;have i8:=aa (k:=8) HBX.out;have i9:=aa (k:=9) HBX.out;simp only[cL,aJ]at i0 i1 i2 i3 i4 i5 i6 i7 i8 i9;clear hit;go_wp2_with fail
     refine iN HYR.out rfl rfl rfl ⟨bI HWR.out (by show w.heap.size<=w.heap.size+1; omega), ?_⟩;rw[HIT.out];refine⟨_,rfl,aM.same HRF.out (fun k hk hS=>⟨by have:=lt_of_block HY2.out; have:=HIB.out; omega,jd (by have:=lt_of_block HY2.out; have:=HIB.out; omega)⟩),HIN.out.ok⟩
end Go.Proofs.YtpffpjbkbaleiaaGreatDoor
namespace Go.Proofs.YtpffpjbkbaleiaaGreatDoor
open Go Go.RowKit Go.Maps
theorem tU {k:bF} {c:dE} {tree:List bu} {gs:List (ByteArray×Int)} {r:aI} {bs:List bK} {w w':World} {e:Ending} (h:tJ (cQ k c tree gs) w e w') (hb:cQ k c tree gs= .ok (r,bs)) (hr: ∀b∈bs,bg b.ref):
  Below w.heap.size w w'/\ ∃a cap,e= .returned (.tuple #[bt r, .slice a bs.length cap, .int .i64 0])/\bs.length<=cap/\cap<=maxLen/\gL (fun i=>w.heap.size<=i) w' (.slice a bs.length cap) bs:=by
 rw[hb]at h;obtain⟨h1,v,zs,h2,h3',h4⟩:=h;have h3:zs.map Prod.snd=bs:=h3';have hlen:bs.length=zs.length:=by rw[<-h3,List.length_map]
 obtain⟨a,cap,rfl,h5,h6⟩:=aj h4.row;refine⟨h1,a,cap,by rw[hlen]; exact h2,by omega,h6,zs,h3, ?_,fun z hz=>⟨aS.weak (bn (h4.dat z hz)) (fun i hi=>hi.1),hr _ (by rw[<-h3]; exact List.mem_map.2 ⟨z,hz,rfl⟩)⟩⟩;rw[hlen];exact aS.weak (bn h4.row) (fun i hi=>hi.1)
theorem kM {S:Nat->Prop} {w w':World} {a:Option Addr} {n cap:Nat} {bs:List bK} (h:gL S w (.slice a n cap) bs) (hb:Below w.heap.size w w') {k:Nat} {b:bK} (hk:bs[k]? =some b):
  ∃bk o za zc,a=some ⟨bk,o,none⟩/\bk<w.heap.size/\ay S w' (.slice za b.con.length zc) b.con/\w'.cell? ⟨bk,o+k*4,none⟩=some (.string b.ref.name)/\w'.cell? ⟨bk,o+k*4+1,none⟩=some (.int .i64 b.ref.gen)/\w'.cell? ⟨bk,o+k*4+2,none⟩=some (.int .i64 b.ref.size)/\w'.cell? ⟨bk,o+k*4+3,none⟩=some (.slice za b.con.length zc):=by
 obtain⟨zs,h1,h2,h3⟩:=h;rw[<-h1,List.getElem?_map,Option.map_eq_some_iff]at hk;obtain⟨z,hz,rfl⟩:=hk;obtain⟨bk,o,rfl,-,hlt,hc⟩:=tT h2 hz;have hd:=(h3 z (List.mem_of_getElem? hz)).1;obtain⟨_,za,zc,hzv,-,-,-⟩:=id hd;have g:=fun i (hi:i<4)=>(hb.cell (p:=⟨bk,o+k*4+i,none⟩) hlt).trans (hc i hi)
 have q0:=g 0 (by omega);have q1:=g 1 (by omega);have q2:=g 2 (by omega);have q3:=g 3 (by omega);simp only[jr,BW,Nat.add_zero]at q0 q1 q2 q3;rw[hzv]at q3;exact⟨bk,o,za,zc,rfl,hlt,by rw[<-hzv]; exact aS.below hd (by omega) hb,q0,q1,q2,q3⟩
def Dk :List Value:=[.string ⟨#[97]⟩, .int .i64 1, .int .i64 0, .int .i64 0, .slice none 0 0, .string ⟨#[]⟩, .string ⟨#[100]⟩, .int .i64 2, .int .i64 0, .int .i64 0, .slice none 0 0, .string ⟨#[]⟩, .string ⟨#[100,47,108]⟩, .int .i64 3, .int .i64 5, .int .i64 6, .slice none 0 0, .string ⟨#[97]⟩]
theorem xy (S:Nat->Prop) (w:World):bN (qa S w) Dk gZ:=by
 refine⟨[.string ⟨#[97]⟩, .int .i64 1, .int .i64 0, .int .i64 0, .slice none 0 0, .string ⟨#[]⟩],_,rfl,⟨.slice none 0 0,rfl,bE.nil _ _,⟨by decide,by decide,by decide,by decide,by decide⟩⟩, ?_⟩;refine⟨[.string ⟨#[100]⟩, .int .i64 2, .int .i64 0, .int .i64 0, .slice none 0 0, .string ⟨#[]⟩],_,rfl,⟨.slice none 0 0,rfl,bE.nil _ _,⟨by decide,by decide,by decide,by decide,by decide⟩⟩, ?_⟩
 exact⟨[.string ⟨#[100,47,108]⟩, .int .i64 3, .int .i64 5, .int .i64 6, .slice none 0 0, .string ⟨#[97]⟩],[],rfl,⟨.slice none 0 0,rfl,bE.nil _ _,⟨by decide,by decide,by decide,by decide,by decide⟩⟩,rfl⟩
theorem wl {S:Nat->Prop} {w:World} {b o n c:Nat} {x:bK} {bs:List bK} (h:gL S w (.slice (some ⟨b,o,none⟩) (n+1) c) (x::bs)):gL S w (.slice (some ⟨b,o+4,none⟩) n (c-1)) bs:=by
 obtain⟨zs,h1,h2,h3⟩:=h
 cases zs with
 | nil=>simp at h1
 | cons z zs=>
  simp only[List.map_cons,List.cons.injEq]at h1;refine⟨zs,h1.2, ?_,fun y hy=>h3 y (by simp[hy])⟩;obtain⟨h4,a',c',he,h5,h6,h7⟩:=h2;simp only[Value.slice.injEq,List.length_cons]at he;obtain⟨rfl,hn,rfl⟩:=he;have hzl:(ey (z::zs)).length=4+(ey zs).length:=by unfold ey; rw[List.flatMap_cons,List.length_append]; rfl
  simp only[List.length_cons]at h4 h5 h7;refine⟨by omega,some ⟨b,o+4,none⟩,c-1,by rw[show n=zs.length by omega],by omega,by omega, ?_⟩
  rcases h7 with h7 | ⟨b9,o9,he9,hS,hc⟩
  ·omega
  ·cases he9
   refine .inr ⟨b,o+4,rfl,hS,fun j u hj=> ?_⟩;have:=hc (4+j) u (by
    unfold ey at hj ⊢;rw[List.flatMap_cons,List.getElem?_append_right (by show 4<=_; omega)];rw[show 4+j-(jr z.1 z.2).length=j by show 4+j-4=j; omega];exact hj)
   rwa [<-Nat.add_assoc]at this
theorem EB :bg (aX cX [] [0]):=fI (by simp) (by decide)
theorem EA :bg jR:=fI (by simp) (by decide)
theorem yz :bg fQ:=fI (by simp) (by decide+kernel)
theorem tP (w:World) (hE:kI w):Calls Tryz.prog 14 #[] w fun e w'=>e= .returned (.bool true)/\Below w.heap.size w w':=by
 have HE:=ab hE;obtain⟨W0,hW0⟩: ∃W0,W0=w.alloc (.cells #[.int .u8 0] 5):=⟨_,rfl⟩;have hb0:Below w.heap.size w W0:=by rw[hW0]; exact(Below.refl _ _).alloc (Nat.le_refl _) _
 have HB0:=ab hb0;have hby:ay (fun i=>i=w.heap.size) W0 (.slice (some ⟨w.heap.size,0,none⟩) 1 1) [0]:=tp (cells:=[au 0]) (by rw[hW0]; exact bQ w _) rfl (by decide);have hit:=rx _ [0] _ W0 hby (hE.below hb0).env;unfold tM at hit;rw[Fs]at hit;have HIT:=ab hit;clear hE hb0 hby hit
 go_enter Tryz.func14,Tryz.ntmps14
 go_wp2_with fail;rw[<-hW0];clear hW0;refine HIT.out.mono ?_;rintro e w1 ⟨hb1,iv,rfl,hiv⟩;obtain⟨ia,ic,rfl,-,-,-⟩:=aP.shape hiv dR.len;have HB1:=ab (ah HB0.out hb1);clear hb1 hiv HIT;go_wp2_with fail;refine(uQ w1).mono ?_;rintro e w2 ⟨rfl,hb2⟩;have HB2:=ab (ah HB1.out hb2);clear hb2;go_wp2_with fail;refine(mO w2).mono ?_;rintro e w3 ⟨rfl,hb3⟩
 have HB3:=ab (ah HB2.out hb3);clear hb3;go_wp2_with fail;refine(qL (fun _=>True) (fun _=>True) cX jB [] [] (.slice none 0 0) (.map none) w3 (by decide) (dy.nil _ _) (.inl ⟨rfl,rfl⟩) (HE.out.below HB3.out)).mono ?_;rintro e w4 hres;obtain⟨hb4,a4,c4,rfl,hc4,hm4,hbl4⟩:=tU hres Fm (by intro b hb; simp only[List.mem_singleton]at hb; subst hb; exact EB)
 obtain⟨r,hr⟩: ∃r,r=aX cX [] [0]:=⟨_,rfl⟩;rw[<-hr]at hbl4 ⊢;have HB4:=ab (ah HB3.out hb4);have HBL4:=ab hbl4;unfold maxLen at hm4;simp only[List.length_singleton]at hc4 ⊢;clear hres hb4 hbl4 hr;unfold bt;go_wp2_with fail;obtain⟨W5,hW5⟩: ∃W5:World,W5=(w4.alloc (.cells #[.string r.name, .int .i64 r.gen, .int .i64 r.size] 26)).drew:=⟨_,rfl⟩;have hb5:Below w4.heap.size w4 W5:=by rw[hW5]; exact((Below.refl _ _).alloc (Nat.le_refl _) _).drew
 have HF5:=ab (show W5.heap[w4.heap.size]? =some (.cells #[.string r.name, .int .i64 r.gen, .int .i64 r.size] 26 (0,0)) by rw[hW5]; exact bQ w4 _);obtain⟨bk,o,za,zc,rfl,hbk,hcon,q0,q1,q2,q3⟩:=kM HBL4.out hb5 (k:=0) (b:=⟨r,[0]⟩) rfl;simp only[List.length_singleton,Nat.zero_mul,Nat.add_zero]at hcon q0 q1 q2 q3;have hcv:=kQ hcon;have r0:=aa (k:=0) HF5.out
 have r1:=aa (k:=1) HF5.out;have r2:=aa (k:=2) HF5.out;simp only[aJ]at r0 r1 r2;have HB5:=ab (ah HB4.out hb5);clear hb5 hcon;refine an [some 32] (by kernel_rfl) (by kernel_rfl) (by kernel_rfl) ?_;simp only[bi,List.take_succ_cons,List.take_zero];rw[<-hW5];clear hW5
 repeat (first | (refine aF rfl ?_; simp only[Act.put,aB,aC,aD]) | (refine aL rfl (fun K hK=> ?_); go_simp; refine hK _ ?_; clear hK K))
 refine aK ?_;go_wp2_with fail;obtain⟨W6,hW6⟩: ∃W6:World,W6=W5.alloc (.cells Dk.toArray 79):=⟨_,rfl⟩;have hb6:Below W5.heap.size W5 W6:=by rw[hW6]; exact(Below.refl _ _).alloc (Nat.le_refl _) _
 have HB6:=ab (ah HB5.out hb6);have HTR:=ab (show dy (fun i=>i=W5.heap.size) W6 (.slice (some ⟨W5.heap.size,0,none⟩) 3 3) gZ from⟨Dk,tp (by rw[hW6]; exact bQ W5 _) rfl (by decide),xy _ _⟩);have hW6':W6=W5.alloc (.cells #[.string ⟨#[97]⟩, .int .i64 1, .int .i64 0, .int .i64 0, .slice none 0 0, .string ⟨#[]⟩, .string ⟨#[100]⟩, .int .i64 2, .int .i64 0, .int .i64 0, .slice none 0 0, .string ⟨#[]⟩, .string ⟨#[100,47,108]⟩, .int .i64 3, .int .i64 5, .int .i64 6, .slice none 0 0, .string ⟨#[97]⟩] 79):=hW6
 rw[<-hW6'];clear hW6 hW6' hb6 q0 q1 q2 q3 r0 r1 r2 hcv;refine(uQ W6).mono ?_;rintro e w7 ⟨rfl,hb7⟩;have HB7:=ab (ah HB6.out hb7);have HT7:=ab (dy.below HTR.out hb7);clear hb7;go_wp2_with fail;refine(mO w7).mono ?_;rintro e w8 ⟨rfl,hb8⟩;have HB8:=ab (ah HB7.out hb8);have HT8:=ab (dy.below HT7.out hb8);clear hb8;go_wp2_with fail;refine(qL _ (fun _=>True) cX jB gZ [] _ (.map none) w8 (by decide) HT8.out (.inl ⟨rfl,rfl⟩) (HE.out.below HB8.out)).mono ?_
 rintro e w9 hres;obtain⟨hb9,a9,c9,rfl,hc9,hm9,hbl9⟩:=tU hres Fo (by intro b hb; simp only[List.mem_cons,List.not_mem_nil,or_false]at hb; rcases hb with rfl | rfl; exact EA; exact yz);have HB9:=ab (ah HB8.out hb9);have HBL9:=ab hbl9;unfold maxLen at hm9;simp only[List.length_cons,List.length_nil,Nat.reduceAdd]at hc9 HBL9 ⊢;clear hres hb9 hbl9;unfold bt
 obtain⟨rt,hrt⟩: ∃rt,rt=fQ:=⟨_,rfl⟩;have HRT:=ab hrt;rw[<-hrt]at HBL9 ⊢;clear hrt
 go_upto_region 7 with(fail)
 obtain⟨W10,hW10⟩: ∃W10:World,W10=w9.alloc (.cells #[.string rt.name, .int .i64 rt.gen, .int .i64 rt.size] 26):=⟨_,rfl⟩;rw[<-hW10];have hb10:Below w9.heap.size w9 W10:=by rw[hW10]; exact(Below.refl _ _).alloc (Nat.le_refl _) _
 have HB10:=ab (ah HB9.out hb10);have HF10:=ab (show W10.heap[w9.heap.size]? =some (.cells #[.string rt.name, .int .i64 rt.gen, .int .i64 rt.size] 26 (0,0)) by rw[hW10]; exact bQ w9 _);obtain⟨bb,oo,ya,yc,rfl,hbb,hcon,q0,q1,q2,q3⟩:=kM HBL9.out hb10 (k:=0) (b:=⟨jR,kA⟩) rfl;have hcv:(convert 29 9 (.slice ya 8 yc)).run Tryz.prog W10= .ok (.string ⟨#[1,1,108,3,5,6,1,97]⟩) W10:=kQ hcon
 replace q3:W10.cell? ⟨bb,oo+0*4+3,none⟩=some (.slice ya 8 yc):=q3
 simp only[Nat.zero_mul,Nat.add_zero]at q0 q1 q2 q3;have HBL10:=ab (HBL9.out.below hb10);clear hW10 hb10 hcon
 go_upto_region 9 with(fail)
 clear q0 q1 q2 q3 hcv;go_wp2_with fail;refine(sJ _ _ _ _ (wl (n:=1) HBL10.out) (by simp)).mono ?_;rintro e w11 ⟨mb,mm,rfl,hmb,hms,hen,hb11⟩;have HB11:=ab (ah HB10.out hb11);have HC11:=ab (show bD (fun _=>True) w11 (.map (some mb)) oD from by
  rw[HRT.out]at hen;exact .inr ⟨mb,mm,rfl,trivial,hms.is,bq.wide hen⟩)
 have HF11:=ab ((hb11.block _ (lt_of_block HF10.out)).trans HF10.out);have HBL11:=ab (HBL10.out.below hb11);clear hb11 hmb hms hen HBL10 HF10;have r0:=aa (k:=0) HF11.out;have r1:=aa (k:=1) HF11.out;have r2:=aa (k:=2) HF11.out;simp only[aJ]at r0 r1 r2;go_wp2_with fail;have HRO:=ab (show bg rt by rw[HRT.out]; exact yz);have HLA:=ab (show nb oD rt= .error 10 by rw[HRT.out]; exact FW)
 have HMI:=ab (show Ch oD rt= .ok [jR] by rw[HRT.out]; exact Ga);have HL1:=ab (show bW oD rt ⟨#[97]⟩= .ok lF by rw[HRT.out]; exact FZ);have HL2:=ab (show bW oD rt ⟨#[100,47,108]⟩= .error 10 by rw[HRT.out]; exact Fx);refine(uZ _ (.map (some mb)) oD rt w11 HC11.out (HE.out.below HB11.out).env HRO.out).mono ?_;rintro e w12 ⟨hb12,hl12⟩;rw[HLA.out]at hl12
 obtain⟨rfl,-⟩:=hl12;have HB12:=ab (ah HB11.out hb12);have HC12:=ab (HC11.out.below hb12);have HF12:=ab ((hb12.block _ (lt_of_block HF11.out)).trans HF11.out);have HBL12:=ab (HBL11.out.below hb12);clear hb12 HC11 HF11 HBL11 r0 r1 r2;have r0:=aa (k:=0) HF12.out;have r1:=aa (k:=1) HF12.out;have r2:=aa (k:=2) HF12.out;simp only[aJ]at r0 r1 r2;go_wp2_with fail
 refine(qo (by decide) _ (.map (some mb)) rt w12 HC12.out (HE.out.below HB12.out).env HRO.out).mono ?_;rintro e w13 ⟨hb13,hm13⟩;rw[HMI.out]at hm13;obtain⟨mv,rfl,hmv⟩:=hm13;obtain⟨ma,mc,rfl,-,-,-⟩:=aP.shape hmv gH.len;have HMV:=ab hmv;have HB13:=ab (ah HB12.out hb13);have HC13:=ab (HC12.out.below hb13);have HF13:=ab ((hb13.block _ (lt_of_block HF12.out)).trans HF12.out)
 have HBL13:=ab (HBL12.out.below hb13);clear hb13 hmv HC12 HF12 HBL12 r0 r1 r2;have r0:=aa (k:=0) HF13.out;have r1:=aa (k:=1) HF13.out;have r2:=aa (k:=2) HF13.out;simp only[aJ]at r0 r1 r2;go_wp2_with fail;refine(ir _ (.map (some mb)) oD rt ⟨#[97]⟩ w13 HC13.out (HE.out.below HB13.out).env HRO.out).mono ?_;rintro e w14 ⟨hb14,hl14⟩;rw[HL1.out]at hl14;obtain⟨lv,rfl,hlv,-⟩:=hl14
 have HB14:=ab (ah HB13.out hb14);have HC14:=ab (HC13.out.below hb14);have HF14:=ab ((hb14.block _ (lt_of_block HF13.out)).trans HF13.out);have HBL14:=ab (HBL13.out.below hb14);have HMV14:=ab (aP.below HMV.out (by omega) hb14 (fun _ _ _ h=>h));obtain⟨la,lc,rfl,-,-,-⟩:=aP.shape hlv gH.len;clear hb14 hlv HC13 HF13 HBL13 HMV r0 r1 r2;unfold dT
 go_upto_region 13 with(fail)
 obtain⟨W15,hW15⟩: ∃W15:World,W15=w14.alloc (.cells #[.string lF.name, .int .i64 lF.kind, .int .i64 lF.mode, .int .i64 lF.time, .int .i64 lF.size, .string lF.link, .slice la lF.chunks.length lc, .string lF.node.name, .int .i64 lF.node.gen, .int .i64 lF.node.size] 28):=⟨_,rfl⟩;rw[<-hW15];have hb15:Below w14.heap.size w14 W15:=by rw[hW15]; exact(Below.refl _ _).alloc (Nat.le_refl _) _
 have HI15:=ab (show W15.heap[w14.heap.size]? =some (.cells #[.string lF.name, .int .i64 lF.kind, .int .i64 lF.mode, .int .i64 lF.time, .int .i64 lF.size, .string lF.link, .slice la lF.chunks.length lc, .string lF.node.name, .int .i64 lF.node.gen, .int .i64 lF.node.size] 28 (0,0)) by rw[hW15]; exact bQ w14 _);have HB15:=ab (ah HB14.out hb15);have HC15:=ab (HC14.out.below hb15)
 have HF15:=ab ((hb15.block _ (lt_of_block HF14.out)).trans HF14.out);have HBL15:=ab (HBL14.out.below hb15);have HMV15:=ab (aP.below HMV14.out (by omega) hb15 (fun _ _ _ h=>h));clear hb15 hW15 HC14 HF14 HBL14 HMV14;have r0:=aa (k:=0) HF15.out;have r1:=aa (k:=1) HF15.out;have r2:=aa (k:=2) HF15.out;simp only[aJ]at r0 r1 r2;go_wp2_with fail;refine(ir _ (.map (some mb)) oD rt ⟨#[100,47,108]⟩ W15 HC15.out (HE.out.below HB15.out).env HRO.out).mono ?_
 rintro e w16 ⟨hb16,hl16⟩;rw[HL2.out]at hl16;obtain⟨rfl,-⟩:=hl16;have HB16:=ab (ah HB15.out hb16);have HI16:=ab ((hb16.block _ (lt_of_block HI15.out)).trans HI15.out);have HBL16:=ab (HBL15.out.below hb16);have HMV16:=ab (aP.below HMV15.out (by omega) hb16 (fun _ _ _ h=>h));clear hb16 HC15 HF15 HBL15 HMV15 HI15 r0 r1 r2
 go_upto_region 14 with(fail)
 obtain⟨W17,hW17⟩: ∃W17:World,W17=(w16.alloc (.cells #[.string ⟨#[]⟩, .int .i64 0, .int .i64 0, .int .i64 0, .int .i64 0, .string ⟨#[]⟩, .slice none 0 0, .string ⟨#[]⟩, .int .i64 0, .int .i64 0] 28)).drew:=⟨_,rfl⟩;have hb17:Below w16.heap.size w16 W17:=by rw[hW17]; exact((Below.refl _ _).alloc (Nat.le_refl _) _).drew
 have HB17:=ab (ah HB16.out hb17);have hi17:=(hb17.block _ (lt_of_block HI16.out)).trans HI16.out;have i1:=aa (k:=1) hi17;simp only[aJ]at i1
 replace i1:W17.cell? ⟨w14.heap.size,1,none⟩=some (.int .i64 1):=i1
 obtain⟨mb2,mo2,rfl,-,p0,p1,p2⟩:=fy HMV16.out hb17 (k:=0) (r:=jR) rfl;obtain⟨rd,hrd⟩: ∃rd,rd=jR:=⟨_,rfl⟩;rw[<-hrd]at p0 p1 p2;obtain⟨b9,o9,y9,z9,he9,-,-,q0,q1,q2,-⟩:=kM HBL16.out hb17 (k:=0) (b:=⟨jR,kA⟩) rfl
 cases he9
 simp only at q0 q1 q2;rw[<-hrd]at q0 q1 q2;simp only[Nat.zero_mul,Nat.add_zero]at p0 p1 p2 q0 q1 q2;clear hi17 hb17 hrd;refine an [some 35] (by kernel_rfl) (by kernel_rfl) (by kernel_rfl) ?_;simp only[bi,List.take_succ_cons,List.take_zero];rw[<-hW17];clear hW17
 repeat (first | (refine aF rfl ?_; simp only[Act.put,aB,aC,aD]) | (refine aL rfl (fun K hK=> ?_); go_simp; refine hK _ ?_; clear hK K))
 refine aK ?_;go_wp2_with fail;go_ret;exact⟨rfl,HB17.out⟩
end Go.Proofs.YtpffpjbkbaleiaaGreatDoor
namespace Go.Proofs.YtpffpjbkbaleiaaGreatDoor
open Go Go.RowKit Go.Maps Go.MapKept
def pC (v:Value):Option (DataW Unit×List MemPlace):=match v with
 | .slice _ _ _=>some (.nil,[])
 | _=>none
def gm (S:Nat->Prop) (w:World) (cv:Value) (cs:List (ByteArray×List UInt8)):Prop:=
 (cv= .map none/\cs=[])\/ ∃b es clock,cv= .map (some b)/\S b/\w.heap[b]? =some (.map es clock)/\es.size<=maxLen/\Stamped es clock/\(∀x∈es.toList,∃l,keyOf Tryz.prog 9 x.key=some l)/\bq S w (es.toList.map fun e=>(e.key,e.val)) cs
theorem bq.len {S:Nat->Prop} {w:World} : ∀ {m:List (Value×Value)} {cs:List (ByteArray×List UInt8)},bq S w m cs->m.length=cs.length
 | [],[],_=>rfl
 | [],_::_,h=>False.elim h
 | _::_,[],h=>False.elim h
 | (_,_)::_,(_,_)::_,h=>by simp[bq.len h.2.2]
theorem bq.vals {S:Nat->Prop} {w:World} : ∀ {m:List (Value×Value)} {cs:List (ByteArray×List UInt8)},bq S w m cs-> ∀p∈m,∃n bs,p.1= .string n/\ay S w p.2 bs
 | [],[],_,_,hp=>by simp at hp
 | [],_::_,h,_,_=>False.elim h
 | _::_,[],h,_,_=>False.elim h
 | (k,v)::m,(n,bs)::cs,h,p,hp=>by
  rcases List.mem_cons.1 hp with rfl | hp
  ·exact⟨n,bs,h.1,h.2.1⟩
  ·exact bq.vals h.2.2 p hp
theorem gm.at {S:Nat->Prop} {w:World} {cv:Value} {cs:List (ByteArray×List UInt8)} (h:gm S w cv cs):bD S w cv cs:=by
 rcases h with h | ⟨b,es,clock,h1,h2,h3,h4,h5,h6,h7⟩
 ·exact .inl h
 ·refine .inr ⟨b,_,h1,h2,⟨es,clock,h3,rfl, ?_, ?_⟩,h7⟩
  ·rw[List.map_map];exact h5.2.2
  ·intro p hp;obtain⟨x,hx,rfl⟩:=List.mem_map.1 hp;exact h6 x hx
theorem gm.below {S:Nat->Prop} {w w':World} {cv:Value} {cs:List (ByteArray×List UInt8)} (h:gm S w cv cs) (hb:Below w.heap.size w w'):gm S w' cv cs:=by
 rcases h with h | ⟨b,es,clock,h1,h2,h3,h4,h5,h6,h7⟩
 ·exact .inl h
 ·exact .inr ⟨b,es,clock,h1,h2,(hb.block b (Array.getElem?_eq_some_iff.1 h3).1).trans h3,h4,h5,h6,h7.mono (fun v bs hv=>aS.below hv (by omega) hb)⟩
theorem gm.owns {S:Nat->Prop} {w:World} {b:Nat} {cs:List (ByteArray×List UInt8)} (h:gm S w (.map (some b)) cs):b<w.heap.size/\ ∃es clock,w.heap[b]? =some (.map es clock)/\es.size=cs.length/\ ∃D,w.ownsMap (H:=Unit) Tryz.prog 9 pC b es.size D:=by
 rcases h with⟨h,_⟩ | ⟨b',es,clock,h1,h2,h3,h4,h5,h6,h7⟩
 ·cases h
 ·cases h1
  have hF:WideElems.Fit Tryz.prog 9 pC es clock:=⟨h4,h5,fun x hx=>by
   obtain⟨l,hl⟩:=h6 x hx;obtain⟨n,bs,_,hb⟩:=h7.vals (x.key,x.val) (List.mem_map.2 ⟨x,hx,rfl⟩);obtain⟨_,a,cap,hv,_⟩:=hb;simp only at hv;simp[WideElems.rd,hl,hv,pC]⟩
  have hs:es.size=cs.length:=by have:=h7.len; simpa using this
  exact⟨(Array.getElem?_eq_some_iff.1 h3).1,es,clock,h3,hs,_,⟨es,clock,h3,hF,Nat.le_refl _,rfl⟩⟩
theorem vA {w:World} {b:Nat} {es:Array MapEntry} {clock:Nat} (hb:w.heap[b]? =some (.map es clock)) (ty:TypeId):(Builtin.len_ #[55] ty #[.map (some b)]).run Tryz.prog w= .ok (.int .i64 (es.size:Int)) w:=by
 simp[Builtin.len_,run_underlying Tryz.underlying55,MapKept.run_getObj_map hb,goInt,Result.andThen]
end Go.Proofs.YtpffpjbkbaleiaaGreatDoor
namespace Go.Proofs.YtpffpjbkbaleiaaGreatDoor
open Go Go.RowKit Go.Maps Go.MapKept
def FN (cs:List (ByteArray×List UInt8)) (w:World) (e:Ending) (w':World):Prop:= ∃b,e= .returned (.bool b)/\Below w.heap.size w w'/\(b=true->cs.length<=40)
theorem zp (S:Nat->Prop) (cv:Value) (cs:List (ByteArray×List UInt8)) (w:World) (hc:gm S w cv cs):Calls Tryz.prog 24 #[cv] w (FN cs w):=by
 go_enter Tryz.func24,Tryz.ntmps24
 rcases id hc with⟨rfl,rfl⟩ | ⟨mb,_,_,rfl,_⟩
 ·have hr:=fun(w:World)=>run_range_nilMap (P:=Tryz.prog) w 55 9 29 Tryz.underlying55
  have hn:=fun(w:World) (ty:TypeId) (a b:Nat) (s:Array Nat)=>run_next_nilMap (P:=Tryz.prog) w ty a b s
  have hln:=fun(w:World) (ty:TypeId)=>Maps.len_nil (P:=Tryz.prog) (w:=w) (k:=9) (e:=29) Tryz.underlying55 ty
  clear hc;go_wp2_with fail
  go_loopw [4] (fun n wr=>wr=w.alloc (.mapIter none 0 #[] 0)) (fun _ _=>0)
  case atStart=>exact rfl
  case round=>
   obtain rfl:=hrel;go_wp2_with fail;go_ret;exact⟨_,rfl,(Below.refl _ _).alloc (Nat.le_refl _) _,fun _=>by simp⟩
 ·obtain⟨hmb,es,clock,hes,hsz,D,hown⟩:=gm.owns hc;have HES:=ab hes;have HSZ:=ab hsz;have HOWN:=ab hown;clear hc hes hsz hown;go_wp2_with (at_range; go_must (refine wpList_range_own _ rfl _ 55 rfl 9 29 jK Tryz.underlying55 pC mb es.size D rfl HOWN.out ?_); intro w0 hrg0 hg0 hs0);have HR0:=ab hrg0;have HB0:=ab (show Below w.heap.size w w0 from⟨hg0.os,hg0.tape,hg0.output,hg0.size,fun k hk=>hg0.block k hk (by simp)⟩)
  clear hrg0 hg0 hs0
  try go_frame
  go_loopw [4] (fun n wr=> ∃left cnt,wr.ranges Tryz.prog 9 pC mb w.heap.size es.size D left cnt/\Below w.heap.size w wr) (fun _ wr=>wr.rangeLeft mb w.heap.size)
  case atStart=>exact⟨_,_,HR0.out,HB0.out⟩
  case round=>
   obtain⟨left,cnt,hrg,hb⟩:=hrel;have HRG:=ab hrg;have HB:=ab hb;have hlm:=fun(ty:TypeId)=>vA ((hb.block mb hmb).trans HES.out) ty
   clear hrg hb HR0 HB0;go_wp2_with (at_next; go_must (refine wpList_next_ranges _ rfl _ rfl 9 jK pC Value.string (fun c:Option Addr×Nat×Nat=>Value.slice c.1 c.2.1 c.2.2) (fun key kl h=>by cases key<;> simp[keyOf,Tryz.underlying9,mapKey]at h; exact⟨_,rfl⟩) (fun v y h=>by cases v<;> simp[pC]at h; exact⟨(_,_,_),rfl⟩) mb w.heap.size es.size D left cnt rfl HRG.out ?_ ?_))
   ·intro _ _;go_wp2_with fail;go_ret;exact⟨_,rfl,HB.out,fun h=>by rw[<-HSZ.out]; have:=of_decide_eq_true h; omega⟩
   ·intro key ca cn cc kl y1 y2 w1 cnt1 _ _ _ _ hrg1 hlt1 hg1 hs1 hen;have HB1:=ab (show Below w.heap.size w w1 from HB.out.grown hg1 HB.out.size (fun k hk=>by cases hk; exact Nat.le_refl _));have HRG1:=ab hrg1;clear hrg1 hg1 hs1 hlm;go_wp2_with fail
    ·go_ret;exact⟨_,rfl,HB1.out,fun h=>by cases h⟩
    ·go_roundw
     case rel=>exact⟨_,cnt1,HRG1.out,HB1.out⟩
     case measure=>rw[HRG1.out.left_eq,HRG.out.left_eq]; omega
end Go.Proofs.YtpffpjbkbaleiaaGreatDoor
namespace Go.Proofs.YtpffpjbkbaleiaaGreatDoor
open Go Go.RowKit
theorem BK (s:ByteArray) (w:World) (hs:s.size<=16777216):Calls Tryz.prog 87 #[.string s] w fun e w'=> ∃a cap,e= .returned (.slice a (eB (bl s)).length cap)/\(eB (bl s)).length<=cap/\cap<=maxLen/\gq (w.heap.size<= ·) w' (.slice a (eB (bl s)).length cap) (eB (bl s))/\Below w.heap.size w w':=by
 refine(jl s w hs).mono ?_;rintro e w' ⟨v,xs,rfl,hx,hv,hb⟩;have:xs=eB (bl s):=kL (hx.trans (ms _).symm);subst this;obtain⟨a,cap,rfl,h1,h2,_⟩:=hv.shape;exact⟨a,cap,rfl,h1,h2,hv,hb⟩
theorem yI (s:ByteArray) (o:Bool) (w:World) (hs:s.size<=16777216) (h:be (bl s)=o):Calls Tryz.prog 86 #[.string s] w fun e w'=>e= .returned (.bool o)/\Below w.heap.size w w':=by rw[<-h]; exact vq s w hs
theorem Ej {a:Act} {w:World} {b:Nat} {x0 x1 x2 x3 x4 x5 x6 x7 x8 x9 e7:Value} (h:w.heap[b]? =some (.cells #[x0,x1,x2,x3,x4,x5,x6,x7,x8,x9] 28 (0,0)))
  (h6:a.tmps[6]? =some (.pointer (some ⟨b,0,none⟩))) (h7:a.tmps[7]? =some e7):(results Tryz.f29 a.tmps).run Tryz.prog w= .ok (.tuple #[.agg #[x0,x1,x2,x3,x4,x5,x6,x7,x8,x9],e7]) w:=by
 have m0:=ai (k:=0) h;have m1:=ai (k:=1) h;have m2:=ai (k:=2) h;have m3:=ai (k:=3) h;have m4:=ai (k:=4) h;have m5:=ai (k:=5) h;have m6:=ai (k:=6) h;have m7:=ai (k:=7) h;have m8:=ai (k:=8) h;have m9:=ai (k:=9) h;simp only[aJ]at m0 m1 m2 m3 m4 m5 m6 m7 m8 m9;simp[results,Tryz.results29,go_sem,h6,h7,m0,m1,m2,m3,m4,m5,m6,m7,m8,m9]
theorem kq {a:Act} {w:World} {b:Nat} {a0 a1 a2 a3 a4 a5 a6 a7 a8 a9 x0 x1 x2 x3 x4 x5 x6 x7 x8 x9 e7:Value} {Q:Ending->World->Prop} (h:w.heap[b]? =some (.cells #[a0,a1,a2,a3,a4,a5,a6,a7,a8,a9] 28 (0,0)))
  (h6:a.tmps[6]? =some (.pointer (some ⟨b,0,none⟩))) (h7:a.tmps[7]? =some e7) (hd:a.defers=[])
  (hQ:Q (.returned (.tuple #[.agg #[x0,x1,x2,x3,x4,x5,x6,x7,x8,x9],e7])) ((((((((((w.setCell ⟨b,0,none⟩ x0).setCell ⟨b,1,none⟩ x1).setCell ⟨b,2,none⟩ x2).setCell ⟨b,3,none⟩ x3).setCell ⟨b,4,none⟩ x4).setCell ⟨b,5,none⟩ x5).setCell ⟨b,6,none⟩ x6).setCell ⟨b,7,none⟩ x7).setCell ⟨b,8,none⟩ x8).setCell ⟨b,9,none⟩ x9)):
  bodyPost Tryz.prog Tryz.f29 Q Exit.ret a ((((((((((w.setCell ⟨b,0,none⟩ x0).setCell ⟨b,1,none⟩ x1).setCell ⟨b,2,none⟩ x2).setCell ⟨b,3,none⟩ x3).setCell ⟨b,4,none⟩ x4).setCell ⟨b,5,none⟩ x5).setCell ⟨b,6,none⟩ x6).setCell ⟨b,7,none⟩ x7).setCell ⟨b,8,none⟩ x8).setCell ⟨b,9,none⟩ x9):=bodyPost_ret (Ej (yC h) h6 h7) hd hQ
structure LuI (w w2 wr : World) (r : aI) : Prop where
 below:Below w.heap.size w wr
 rows: ∀k,k<w2.heap.size->k≠w.heap.size->wr.heap[k]? =w2.heap[k]?
 size:w2.heap.size<=wr.heap.size
 box:wr.heap[w.heap.size]? =some (.cells #[.string r.name, .int .i64 r.gen, .int .i64 r.size] 26 (0,0))
 res:wr.heap[w.heap.size+1]? =some (.cells #[.string ⟨#[]⟩, .int .i64 0, .int .i64 0, .int .i64 0, .int .i64 0, .string ⟨#[]⟩, .slice none 0 0, .string ⟨#[]⟩, .int .i64 0, .int .i64 0] 28 (0,0))
 ok:bg r
theorem LuI.next {w w2 wr w':World} {r:aI} (h:LuI w w2 wr r) (hb:Below wr.heap.size wr w'):LuI w w2 w' r:=
 ⟨ah h.below hb,fun k hk hne=>by rw[hb.block k (Nat.lt_of_lt_of_le hk h.size)]; exact h.rows k hk hne,Nat.le_trans h.size hb.size,(hb.block _ (lt_of_block h.box)).trans h.box,(hb.block _ (lt_of_block h.res)).trans h.res,h.ok⟩
theorem LuI.step {w w2 wr:World} {r r':aI} (h:LuI w w2 wr r) (hr:bg r') (_hw:w.heap.size+1<w2.heap.size):LuI w w2 (((wr.setCell ⟨w.heap.size,0,none⟩ (.string r'.name)).setCell ⟨w.heap.size,1,none⟩ (.int .i64 r'.gen)).setCell ⟨w.heap.size,2,none⟩ (.int .i64 r'.size)) r':=by
 have hb:=h.box;have hs:=lt_of_block hb;refine⟨((h.below.setCell (Nat.le_refl _) _).setCell (Nat.le_refl _) _).setCell (Nat.le_refl _) _,fun k hk hne=> ?_,by simpa using h.size, ?_, ?_,hr⟩
 ·rw[bz hne]; exact h.rows k hk hne
 ·exact yD hb
 ·rw[bz (by omega)]; exact h.res
theorem EQ {S:Nat->Prop} {w:World} {a:Option Addr} {n cap:Nat} {xs:List ByteArray} (h:gq S w (.slice a n cap) xs) {k:Nat} {x:ByteArray} (hx:xs[k]? =some x):
  ∃b o,a=some ⟨b,o,none⟩/\b<w.heap.size/\S b/\w.cell? ⟨b,o+k,none⟩=some (.string x):=by
 obtain⟨_,a',cap',he,_,_,h0⟩:=h
 cases he
 rcases h0 with h0 | ⟨b,o,rfl,hS,hc⟩
 ·have:=(List.getElem?_eq_some_iff.1 hx).1;omega
 ·have q:=hc k (.string x) (sU hx);exact⟨b,o,rfl,aO q,hS,q⟩
theorem ki (w:World): ∀n,Below w.heap.size w (w.drewN n)
 | 0=>Below.refl _ _
 | n+1=>(ki w n).drew
theorem yh {l:List az} {c:ByteArray} (h: ∀y∈l,y.name≠c):l.find? (fun y=>decide (y.name=c))=none:=List.find?_eq_none.2 (fun y hy=>by simp[h y hy])
theorem BP {l:List az} {c:ByteArray} {k:Nat} {y:az} (h: ∀y∈l.take k,y.name≠c) (hy:l[k]? =some y) (hn:y.name=c):l.find? (fun y=>decide (y.name=c))=some y:=by
 obtain⟨hk,he⟩:=List.getElem?_eq_some_iff.1 hy;have e:l=l.take k++y::l.drop (k+1):=by
  rw[<-he,<-List.drop_eq_getElem_cons hk,List.take_append_drop]
 rw[e,List.find?_append,yh h,List.find?_cons];simp[hn]
theorem zD {cs:List (ByteArray×List UInt8)} {ps:List ByteArray} {y:az} (hp:ps≠[]) (hk:y.kind=2):dI cs ps y=dI cs ps (dz y.node):=by
 cases ps with
 | nil=>exact absurd rfl hp
 | cons c r=>rw[dI,dI,if_pos hk,if_pos (show(dz y.node).kind=2 from rfl)]; rfl
theorem sT (S:Nat->Prop) (cv:Value) (cs:List (ByteArray×List UInt8)) (root:aI) (path:ByteArray) (w:World) (hc:bD S w cv cs) (hr:bg root) (hs:path.size<=16777216):Calls Tryz.prog 29 #[bt root,cv, .string path] w (nF cs root path w):=by
 obtain⟨W0,hW0⟩: ∃W0,W0=(w.alloc (.cells #[.string root.name, .int .i64 root.gen, .int .i64 root.size] 26)).alloc (.cells #[.string ⟨#[]⟩, .int .i64 0, .int .i64 0, .int .i64 0, .int .i64 0, .string ⟨#[]⟩, .slice none 0 0, .string ⟨#[]⟩, .int .i64 0, .int .i64 0] 28):=⟨_,rfl⟩;have HB0:=ab (show Below w.heap.size w W0 by rw[hW0]; exact((Below.refl _ _).alloc (Nat.le_refl _) _).alloc (by simp) _)
 have HX0:=ab (show W0.heap[w.heap.size]? =some (.cells #[.string root.name, .int .i64 root.gen, .int .i64 root.size] 26 (0,0)) by rw[hW0]; exact cF (bQ w _) _);have HY0:=ab (show W0.heap[w.heap.size+1]? =some (.cells #[.string ⟨#[]⟩, .int .i64 0, .int .i64 0, .int .i64 0, .int .i64 0, .string ⟨#[]⟩, .slice none 0 0, .string ⟨#[]⟩, .int .i64 0, .int .i64 0] 28 (0,0)) by rw[hW0]; exact jg w _ _)
 have HC:=ab hc;have HR:=ab hr;have HS:=ab hs;unfold bt;clear hc hr hs
 go_enter Tryz.func29,Tryz.ntmps29
 go_upto_region 1 with(fail)
 rw[<-hW0];clear hW0;have r0:=aa (k:=0) HX0.out;have r1:=aa (k:=1) HX0.out;have r2:=aa (k:=2) HX0.out;simp only[aJ]at r0 r1 r2
 cases hv:dM root with
 | false=>
  have HM:=ab (show bW cs root path= .error 1 by unfold bW; rw[if_neg (by rw[hv]; simp)]);have HVR:=ab hv;clear hv;go_wp2_with fail;refine(jP root false _ HR.out HVR.out).mono ?_;rintro e w1 ⟨rfl,hb1⟩;have HB1:=ab (ah HB0.out hb1);have HY1:=ab ((hb1.block _ (lt_of_block HY0.out)).trans HY0.out);have z0:=aa (k:=0) HY1.out;have z1:=aa (k:=1) HY1.out
  have z2:=aa (k:=2) HY1.out;have z3:=aa (k:=3) HY1.out;have z4:=aa (k:=4) HY1.out;have z5:=aa (k:=5) HY1.out;have z6:=aa (k:=6) HY1.out;have z7:=aa (k:=7) HY1.out;have z8:=aa (k:=8) HY1.out;have z9:=aa (k:=9) HY1.out;have g0:=af (k:=0) HY1.out;have g1:=af (k:=1) HY1.out;have g2:=af (k:=2) HY1.out;have g3:=af (k:=3) HY1.out
  have g4:=af (k:=4) HY1.out;have g5:=af (k:=5) HY1.out;have g6:=af (k:=6) HY1.out;have g7:=af (k:=7) HY1.out;have g8:=af (k:=8) HY1.out;have g9:=af (k:=9) HY1.out;simp only[aJ]at z0 z1 z2 z3 z4 z5 z6 z7 z8 z9;clear hb1 r0 r1 r2;go_wp2_with fail;refine kq HY1.out rfl rfl rfl ⟨bI HB1.out (by show w.heap.size<=w.heap.size+1; omega), ?_⟩
  rw[HM.out];exact⟨rfl,by decide⟩
 | true=>
  have HVR:=ab hv;go_wp2_with fail;refine(jP root true _ HR.out HVR.out).mono ?_;rintro e w1 ⟨rfl,hb1⟩;have HB1:=ab (ah HB0.out hb1);have HX1:=ab ((hb1.block _ (lt_of_block HX0.out)).trans HX0.out);have HY1:=ab ((hb1.block _ (lt_of_block HY0.out)).trans HY0.out);clear hb1 r0 r1 r2
  cases hp:be (bl path)with
  | false=>
   have HM:=ab (show bW cs root path= .error 1 by unfold bW; rw[if_neg (by rw[hp]; simp)]);have HP:=ab hp;clear hp hv;go_wp2_with fail;refine(yI path false _ HS.out HP.out).mono ?_;rintro e w2 ⟨rfl,hb2⟩;have HB2:=ab (ah HB1.out hb2);have HY2:=ab ((hb2.block _ (lt_of_block HY1.out)).trans HY1.out);have z0:=aa (k:=0) HY2.out;have z1:=aa (k:=1) HY2.out
   have z2:=aa (k:=2) HY2.out;have z3:=aa (k:=3) HY2.out;have z4:=aa (k:=4) HY2.out;have z5:=aa (k:=5) HY2.out;have z6:=aa (k:=6) HY2.out;have z7:=aa (k:=7) HY2.out;have z8:=aa (k:=8) HY2.out;have z9:=aa (k:=9) HY2.out;have g0:=af (k:=0) HY2.out;have g1:=af (k:=1) HY2.out;have g2:=af (k:=2) HY2.out;have g3:=af (k:=3) HY2.out
   have g4:=af (k:=4) HY2.out;have g5:=af (k:=5) HY2.out;have g6:=af (k:=6) HY2.out;have g7:=af (k:=7) HY2.out;have g8:=af (k:=8) HY2.out;have g9:=af (k:=9) HY2.out;simp only[aJ]at z0 z1 z2 z3 z4 z5 z6 z7 z8 z9;clear hb2;go_wp2_with fail;refine kq HY2.out rfl rfl rfl ⟨bI HB2.out (by show w.heap.size<=w.heap.size+1; omega), ?_⟩
   rw[HM.out];exact⟨rfl,by decide⟩
  | true=>
   have HM:=ab (show bW cs root path=dI cs (eB (bl path)) (dz root) by unfold bW; rw[if_pos ⟨hp,hv⟩]);have HP:=ab hp;clear hp hv;go_wp2_with fail;refine(yI path true _ HS.out HP.out).mono ?_;rintro e w2 ⟨rfl,hb2⟩;have HB2:=ab (ah HB1.out hb2);have HX2:=ab ((hb2.block _ (lt_of_block HX1.out)).trans HX1.out);have HY2:=ab ((hb2.block _ (lt_of_block HY1.out)).trans HY1.out)
   clear hb2;go_wp2_with fail;refine(BK path _ HS.out).mono ?_;rintro e w3 ⟨ap,cp,rfl,hpn,hpm,hps,hb3⟩;obtain⟨ps,hpd⟩: ∃ps,ps=eB (bl path):=⟨_,rfl⟩;rw[<-hpd]at hps hpn ⊢;have HPD:=ab hpd;obtain⟨np,hnp⟩: ∃np,np=ps.length:=⟨_,rfl⟩;rw[<-hnp]at hps hpn ⊢;have HNP:=ab hnp;have HPS:=ab hps;unfold maxLen at hpm;have hp0:0<np:=by
    have h:=pO 47 (bl path);rw[<-ms,List.length_map,<-hpd,<-hnp]at h;exact h
   have HB3:=ab (ah HB2.out hb3);have hz23:w.heap.size+1<w3.heap.size:=Nat.lt_of_lt_of_le (lt_of_block HY2.out) hb3.size;have HLU:=ab (show LuI w w3 w3 root from⟨HB3.out,fun _ _ _=>rfl,Nat.le_refl _,(hb3.block _ (lt_of_block HX2.out)).trans HX2.out,(hb3.block _ (lt_of_block HY2.out)).trans HY2.out,HR.out⟩);clear hpd hnp hps hb3;go_wp2_with fail
   go_loopw [9,10,11,12] (fun i q x j wr=> ∃(k:Nat) (r:aI),k<np/\i= .int .i64 (k:Int)/\dI cs (ps.drop k) (dz r)=bW cs root path/\LuI w w3 wr r) (fun i _ _ _ _=>np-(intOf i).toNat)
   case atStart=>exact⟨0,root,hp0,rfl,by rw[HM.out,<-HPD.out]; rfl,HLU.out⟩
   case round=>
    obtain⟨k,r,hk,rfl,hlp,hin⟩:=hrel;obtain⟨wo,hwo⟩: ∃x,x=wr:=⟨_,rfl⟩;subst hwo;have HLP:=ab hlp;have HIN:=ab hin;have hbx:=hin.box;have r0:=aa (k:=0) hbx;have r1:=aa (k:=1) hbx;have r2:=aa (k:=2) hbx;simp only[aJ]at r0 r1 r2;obtain⟨c,hc⟩: ∃c,ps[k]? =some c:=⟨ps[k]'(by rw[<-HNP.out]; exact hk),by simp⟩;have HCK:=ab hc;have HDR:=ab (show ps.drop k=c::ps.drop (k+1) by
     rw[List.drop_eq_getElem_cons (by rw[<-HNP.out]; exact hk)]
     congr 1
     exact(List.getElem?_eq_some_iff.1 hc).2)
    have HLP2:=ab (show(match cE cs r with | .error x=> .error x | .ok l=>match l.find? (fun y=>decide (y.name=c))with | none=> .error 4 | some y=>dI cs (ps.drop (k+1)) y)=bW cs root path by rw[HDR.out,dI,if_pos (show(dz r).kind=2 from rfl)]at hlp; exact hlp);have hnd:=vg uE S cv cs r wo (HC.out.below HIN.out.below) hin.ok;unfold lr bt at hnd
    clear hlp hin hbx hc HLU
    cases hnp:cE cs r with
    | error x=>
     rw[hnp]at hnd;have HND:=ab hnd;have HM5:=ab (show bW cs root path= .error x by have:=HLP2.out; rw[hnp]at this; exact this.symm);clear hnp hnd;go_wp2_with fail;refine HND.out.mono ?_;rintro e w5 ⟨hb5,rfl,hx⟩;have HIN5:=ab (HIN.out.next hb5);have HY5:=ab HIN5.out.res;have e2:(x != 0)=true:=by simp[hx]
     have HX:=ab hx;clear hx hb5 r0 r1 r2;have z0:=aa (k:=0) HY5.out;have z1:=aa (k:=1) HY5.out;have z2:=aa (k:=2) HY5.out;have z3:=aa (k:=3) HY5.out;have z4:=aa (k:=4) HY5.out;have z5:=aa (k:=5) HY5.out;have z6:=aa (k:=6) HY5.out;have z7:=aa (k:=7) HY5.out;have z8:=aa (k:=8) HY5.out;have z9:=aa (k:=9) HY5.out;have g0:=af (k:=0) HY5.out
     have g1:=af (k:=1) HY5.out;have g2:=af (k:=2) HY5.out;have g3:=af (k:=3) HY5.out;have g4:=af (k:=4) HY5.out;have g5:=af (k:=5) HY5.out;have g6:=af (k:=6) HY5.out;have g7:=af (k:=7) HY5.out;have g8:=af (k:=8) HY5.out;have g9:=af (k:=9) HY5.out;simp only[aJ]at z0 z1 z2 z3 z4 z5 z6 z7 z8 z9;go_wp2_with fail;refine kq HY5.out rfl rfl rfl ⟨bI HIN5.out.below (by show w.heap.size<=w.heap.size+1; omega), ?_⟩
     rw[HM5.out];exact⟨rfl,HX.out⟩
    | ok l=>
     rw[hnp]at hnd;have HND:=ab hnd;have HLP3:=ab (show(match l.find? (fun y=>decide (y.name=c))with | none=> .error 4 | some y=>dI cs (ps.drop (k+1)) y)=bW cs root path by have:=HLP2.out; rw[hnp]at this; exact this);have HLV:=ab (ld hnp);clear hnp hnd;go_wp2_with fail;refine HND.out.mono ?_;rintro e w5 ⟨hb5,v5,rfl,hv5⟩;have HIN5:=ab (HIN.out.next hb5)
     obtain⟨a5,cap5,rfl,hc5,hm5,-⟩:=aP.shape hv5 dR.len;unfold maxLen at hm5;obtain⟨nl,hnl⟩: ∃nl,nl=l.length:=⟨_,rfl⟩;rw[<-hnl]at hv5 hc5 ⊢;have HNL:=ab hnl;have HV5:=ab hv5;have hn4:nl<=4096:=by rw[hnl]; exact HLV.out.1
     obtain⟨pb,po,hap,hpb,hpS,hcell⟩:=EQ HPS.out HCK.out;subst hap;have HPC:=ab (show w5.cell? ⟨pb,po+k,none⟩=some (.string c) by
      have h1:=HIN5.out.rows pb hpb (by have:=lt_of_block HX2.out; omega);simp only[World.cell?]at hcell ⊢;rw[h1]; exact hcell)
     clear hb5 hv5 hnl r0 r1 r2 hcell;go_wp2_with fail
     go_loopw [12] (fun j wr=> ∃i:Nat,i<=nl/\j= .int .i64 (i:Int)/\(∀y∈l.take i,y.name≠c)/\Below w5.heap.size w5 wr) (fun j _=>nl-(intOf j).toNat)
     case atStart=>exact⟨0,Nat.zero_le _,rfl,by simp,Below.refl _ _⟩
     case round=>
      obtain⟨i,hi,rfl,hno,hbr⟩:=hrel;have HNO:=ab hno;have HBR:=ab hbr;have HPR:=ab ((hbr.cell (p:=⟨pb,po+k,none⟩) (aO HPC.out)).trans HPC.out);have HINR:=ab (HIN5.out.next hbr);clear hno hbr
      by_cases hlt:i<nl
      ·obtain⟨y,hy⟩: ∃y,l[i]? =some y:=⟨l[i]'(by rw[<-HNL.out]; exact hlt),by simp⟩;obtain⟨b7,o7,ca7,cc7,rfl,hok7,hrf7,hbl7,-,hcl⟩:=dF HV5.out HBR.out hy;have HCL:=ab hcl;have HOK7:=ab hok7;have HRF7:=ab hrf7;have q0:=hcl 0 (by omega);simp only[cL,List.getElem?_cons_zero,Nat.add_zero]at q0;have p0:=HPR.out;have HY:=ab hy;clear hok7 hrf7 hcl hy
       by_cases hn:y.name=c
       ·have e1:(y.name.toList == c.toList)=true:=by simp[hn]
        have HN:=ab hn;clear hn;go_wp2_with fail
        go_quiet (fail)
        obtain⟨W,hW⟩: ∃W,W=wr.drewN nq:=⟨_,rfl⟩;rw[<-hW];have HBW:=ab (show Below wr.heap.size wr W by rw[hW]; exact ki wr nq);have HIW:=ab (HINR.out.next HBW.out);have HM6:=ab (show dI cs (ps.drop (k+1)) y=bW cs root path by have:=HLP3.out; rw[BP HNO.out HY.out HN.out]at this; exact this);obtain⟨_,_,ca8,cc8,e8,hok8,hrf8,hbl8,hs8,hcl8⟩:=dF HV5.out (HBR.out.trans (HBW.out.mono HBR.out.size)) HY.out
        cases e8
        have HRF8:=ab hrf8;have q0:=hcl8 0 (by omega);have q1:=hcl8 1 (by omega);have q2:=hcl8 2 (by omega);have q3:=hcl8 3 (by omega);have q4:=hcl8 4 (by omega);have q5:=hcl8 5 (by omega);have q6:=hcl8 6 (by omega);have q7:=hcl8 7 (by omega);have q8:=hcl8 8 (by omega);have q9:=hcl8 9 (by omega);simp only[cL,BW,Nat.add_zero]at q0 q1 q2 q3 q4 q5 q6 q7 q8 q9;clear hW p0 hok8 hrf8 hcl8
        have hwi:IntKind.i64.wrap ((np:Int)-1)=(np:Int)-1:=by rw[IntKind.wrap_i64]; omega
        by_cases hlast:k+1=np
        ·have HMI:=ab (show bW cs root path= .ok y by have:=HM6.out; rw[hlast,HNP.out,List.drop_length]at this; rw[<-this]; rfl);have HYW:=ab HIW.out.res;have z0:=aa (k:=0) HYW.out;have z1:=aa (k:=1) HYW.out;have z2:=aa (k:=2) HYW.out;have z3:=aa (k:=3) HYW.out;have z4:=aa (k:=4) HYW.out;have z5:=aa (k:=5) HYW.out;have z6:=aa (k:=6) HYW.out
         have z7:=aa (k:=7) HYW.out;have z8:=aa (k:=8) HYW.out;have z9:=aa (k:=9) HYW.out;have g0:=af (k:=0) HYW.out;have g1:=af (k:=1) HYW.out;have g2:=af (k:=2) HYW.out;have g3:=af (k:=3) HYW.out;have g4:=af (k:=4) HYW.out;have g5:=af (k:=5) HYW.out;have g6:=af (k:=6) HYW.out;have g7:=af (k:=7) HYW.out
         have g8:=af (k:=8) HYW.out;have g9:=af (k:=9) HYW.out;simp only[aJ]at z0 z1 z2 z3 z4 z5 z6 z7 z8 z9;have eqL:((k:Int) == (np:Int)-1)=true:=by rw[beq_iff_eq]; omega
         clear hlast;go_wp2_with fail;have hz:=HIN.out.size;have hzy:=lt_of_block HIN.out.res;refine kq HYW.out rfl rfl rfl ⟨bI HIW.out.below (by show w.heap.size<=w.heap.size+1; omega), ?_⟩;rw[HMI.out];exact⟨_,rfl,aM.same HRF8.out (fun j hj hS=>⟨Nat.le_trans HIN.out.below.size hS,jd (by have:=hzy; omega)⟩),HOK7.out⟩
        ·have hne:ps.drop (k+1)≠[]:=by
          intro e;have:=congrArg List.length e;rw[List.length_drop,<-HNP.out]at this;simp at this;omega
         have HNE:=ab hne;have eq1:((k:Int) == (np:Int)-1)=false:=by simp; omega
         by_cases hk2:y.kind=2
         ·have eq2:(y.kind != 2)=false:=by simp[hk2]
          have HMD:=ab (show dI cs (ps.drop (k+1)) (dz y.node)=bW cs root path by rw[<-zD HNE.out hk2]; exact HM6.out);have hbw:=HIW.out.box;have r0:=aa (k:=0) hbw;have r1:=aa (k:=1) hbw;have r2:=aa (k:=2) hbw;have f0:=af (k:=0) hbw;have f1:=af (k:=1) hbw;have f2:=af (k:=2) hbw;simp only[aJ]at r0 r1 r2;clear hk2 hbw hne
          go_wp2_with fail
          go_roundw
          case rel=>exact⟨k+1,y.node,by omega,by go_num,HMD.out,HIW.out.step HOK7.out.nd hz23⟩
          case measure=>simp[intOf]; omega
         ·have eq2:(y.kind != 2)=true:=by simp[hk2]
          have HMI:=ab (show bW cs root path= .error 4 by rw[<-HM6.out]; cases hps:ps.drop (k+1)with | nil=>exact absurd hps HNE.out | cons a b=>rw[dI,if_neg hk2]);have HYW:=ab HIW.out.res;have z0:=aa (k:=0) HYW.out;have z1:=aa (k:=1) HYW.out;have z2:=aa (k:=2) HYW.out;have z3:=aa (k:=3) HYW.out;have z4:=aa (k:=4) HYW.out;have z5:=aa (k:=5) HYW.out
          have z6:=aa (k:=6) HYW.out;have z7:=aa (k:=7) HYW.out;have z8:=aa (k:=8) HYW.out;have z9:=aa (k:=9) HYW.out;have g0:=af (k:=0) HYW.out;have g1:=af (k:=1) HYW.out;have g2:=af (k:=2) HYW.out;have g3:=af (k:=3) HYW.out;have g4:=af (k:=4) HYW.out;have g5:=af (k:=5) HYW.out;have g6:=af (k:=6) HYW.out
          have g7:=af (k:=7) HYW.out;have g8:=af (k:=8) HYW.out;have g9:=af (k:=9) HYW.out;simp only[aJ]at z0 z1 z2 z3 z4 z5 z6 z7 z8 z9;clear hk2 hne;go_wp2_with fail;refine kq HYW.out rfl rfl rfl ⟨bI HIW.out.below (by show w.heap.size<=w.heap.size+1; omega), ?_⟩;rw[HMI.out];exact⟨rfl,by decide⟩
       ·have e1:(y.name.toList == c.toList)=false:=by
         rw[beq_eq_false_iff_ne];exact fun e=>hn (eN (by rw[<-bS,<-bS,e]))
        have HNX:=ab (show ∀z∈l.take (i+1),z.name≠c by
         rw[bB HY.out];intro z hz
         rcases List.mem_append.1 hz with hz | hz
         ·exact HNO.out z hz
         ·rw[List.mem_singleton]at hz; rw[hz]; exact hn)
        clear hn;go_wp2_with fail
        go_quiet (fail)
        obtain⟨W,hW⟩: ∃W,W=wr.drewN nq:=⟨_,rfl⟩;rw[<-hW];have HBW:=ab (show Below wr.heap.size wr W by rw[hW]; exact ki wr nq);clear hW p0 q0;go_wp2_with fail
        go_roundw
        case rel=>exact⟨i+1,by omega,by go_num,HNX.out,ah HBR.out HBW.out⟩
        case measure=>simp[intOf]; omega
      ·obtain rfl:i=nl:=by omega
       have HM6:=ab (show bW cs root path= .error 4 by
        have h1:=HNO.out;rw[HNL.out,List.take_of_length_le (Nat.le_refl _)]at h1;have:=HLP3.out; rw[yh h1]at this; exact this.symm)
       go_wp2_with fail
       go_quiet (fail)
       obtain⟨W,hW⟩: ∃W,W=wr.drewN nq:=⟨_,rfl⟩;rw[<-hW];have HIW:=ab (HINR.out.next (show Below wr.heap.size wr W by rw[hW]; exact ki wr nq));clear hW;have HYW:=ab HIW.out.res;have z0:=aa (k:=0) HYW.out;have z1:=aa (k:=1) HYW.out;have z2:=aa (k:=2) HYW.out;have z3:=aa (k:=3) HYW.out;have z4:=aa (k:=4) HYW.out;have z5:=aa (k:=5) HYW.out
       have z6:=aa (k:=6) HYW.out;have z7:=aa (k:=7) HYW.out;have z8:=aa (k:=8) HYW.out;have z9:=aa (k:=9) HYW.out;have g0:=af (k:=0) HYW.out;have g1:=af (k:=1) HYW.out;have g2:=af (k:=2) HYW.out;have g3:=af (k:=3) HYW.out;have g4:=af (k:=4) HYW.out;have g5:=af (k:=5) HYW.out;have g6:=af (k:=6) HYW.out;have g7:=af (k:=7) HYW.out
       have g8:=af (k:=8) HYW.out;have g9:=af (k:=9) HYW.out;simp only[aJ]at z0 z1 z2 z3 z4 z5 z6 z7 z8 z9;go_wp2_with fail;refine kq HYW.out rfl rfl rfl ⟨bI HIW.out.below (by show w.heap.size<=w.heap.size+1; omega), ?_⟩;rw[HM6.out];exact⟨rfl,by decide⟩
end Go.Proofs.YtpffpjbkbaleiaaGreatDoor
