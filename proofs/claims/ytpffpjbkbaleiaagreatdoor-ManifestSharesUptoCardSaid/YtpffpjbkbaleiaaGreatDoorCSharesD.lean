/- Texts of this proof, one after the other: MapS, Glob, OrdP, RefP, RejP, TreeP, TreeQ, TreeR, Ent, TreeM, FtA, FtB, EndB, RoundR, OwnE, EndC, BuildP, PreP, LastP, GdP, GdQ, ItemF, Lib, ContP, NcP, WrA, WrB, NodA, FileA, FileB, LoadP, LdP. -/
import Derived.Test.YtpffpjbkbaleiaaGreatDoorCSharesC
set_option maxRecDepth 100000
set_option maxHeartbeats 8000000
namespace Go.Proofs.YtpffpjbkbaleiaaGreatDoor
section
open Go Go.RowKit Go.Maps Go.MapKept
open Go.ChangeMaps (modify_eq_set map_eraseIdx)
def iQ (P:Program) (k:TypeId) (w:World) (b:Nat) (m:List (Value×Value)):Prop:=
 ∃es clock,w.heap[b]? =some (.map es clock)/\es.toList.map (fun e=>(e.key,e.val))=m/\Stamped es clock/\ ∀p∈m,∃l,keyOf P k p.1=some l
section
variable {P : Program} {k t e : TypeId} {w w' : World} {b : Nat} {m : List (Value × Value)} {key val z : Value}
theorem yY {es:Array MapEntry} {clock:Nat} (h:Stamped es clock):((es.toList.map (fun e=>(e.key,e.val))).map Prod.fst).Nodup:=by rw[gV];have:=((stamped_iff es clock).1 h).2.2;unfold List.Nodup;rw[fz];exact this
theorem iQ.is (h:iQ P k w b m):jX P k w b m:=by obtain⟨es,clock,hb,he,hs,hk⟩:=h;exact⟨es,clock,hb,he,by rw[<-he]; exact yY hs,hk⟩
theorem iQ.lt (h:iQ P k w b m):b<w.heap.size:=h.is.lt
theorem iQ.same (h:iQ P k w b m) (hs:w'.heap[b]? =w.heap[b]?):iQ P k w' b m:=by obtain⟨es,clock,hb,h2⟩:=h;exact⟨es,clock,hs.trans hb,h2⟩
theorem iQ.made (w:World):iQ P k (w.alloc (.map #[] 0)) w.heap.size []:=⟨#[],0,(MapKept.heap_alloc w _).1,rfl,stamped_empty 0,by simp⟩
theorem iQ.nodup (h:iQ P k w b m):(m.map Prod.fst).Nodup:=by obtain⟨_,_,_,_,hn,_⟩:=h.is; exact hn
theorem qV {w:World} {b:Nat} {x:Obj} (hb:w.heap[b]? =some x) (o:Obj):w.grownBy (ChangeMaps.setBlock w b o) (some b):=
 ⟨rfl,rfl,rfl,by simp[ChangeMaps.setBlock],fun i _ hi=>Ae hb _ (fun e=>hi (by rw[e]))⟩
theorem iQ.put (h:iQ P k w b m) (K:Keyed P k) (ht:P.underlying t=some (.map k e)) (hkey: ∃l,keyOf P k key=some l) (hm: ∀p∈m,p.1≠key) (val:Value):
  ∃w',(Instr.mapUpdate t (.map (some b)) key val).run P w= .ok () w'/\iQ P k w' b (m++[(key,val)])/\w.grownBy w' (some b):=by
 obtain⟨es,clock,hb,he,hc,hk⟩:=h;obtain⟨kl,ha⟩:=hkey
 rcases K.find w ha es.toList (jX.keys he hk)with⟨h1,h2⟩ | ⟨j,e0,h1,h2,h3⟩
 ·refine⟨ChangeMaps.setBlock w b (.map (es.push ⟨key,val,clock⟩) (clock+1)), ?_,⟨_,_,xw hb _, ?_,stamped_push hc h2, ?_⟩,qV hb _⟩
  ·simp[Instr.mapUpdate,run_underlying ht,MapKept.run_getObj_map hb,K.check w false ha,h1,MapKept.run_setObj_map _ hb,Result.andThen,ChangeMaps.setBlock]
  ·simp[<-he]
  ·intro p hp
   rcases aP.1 hp with hp | hp
   ·exact hk p hp
   ·simp only[aL]at hp;subst hp;exact⟨kl,ha⟩
 ·exact absurd h3 (hm (e0.key,e0.val) (by rw[<-he]; exact aQ.2 ⟨e0,aM h2,rfl⟩))
theorem iQ.over {m1 m2:List (Value×Value)} {old:Value} (h:iQ P k w b (m1++(key,old)::m2)) (K:Keyed P k) (ht:P.underlying t=some (.map k e)) (val:Value):
  ∃w',(Instr.mapUpdate t (.map (some b)) key val).run P w= .ok () w'/\iQ P k w' b (m1++(key,val)::m2)/\w.grownBy w' (some b):=by
 have hh:=h.nodup;obtain⟨es,clock,hb,he,hl,hk⟩:=h;obtain⟨kl,hc⟩:=hk (key,old) (by simp)
 rcases K.find w hc es.toList (jX.keys he hk)with⟨h1,h2⟩ | ⟨j,e0,h1,h2,h3⟩
 ·exfalso
  have:(key,old)∈es.toList.map (fun e=>(e.key,e.val)):=by rw[he]; simp
  obtain⟨x,hx,hm⟩:=aQ.1 this;exact h2 x hx (congrArg Prod.fst hm)
 ·have hj:es[j]? =some e0:=by simpa using h2
  have ha:(es.modify j (fun e'=> {e' with key:=key,val:=val})).toList=es.toList.set j {e0 with key:=key,val:=val} :=by rw[Array.toList_modify,modify_eq_set _ _ _ _ h2]
  have hg:j=m1.length:=by
   have h4:(m1++(key,old)::m2)[j]? =some (e0.key,e0.val):=by rw[<-he,bm,h2]; rfl
   have h5:((m1++(key,old)::m2).map Prod.fst)[j]? =some key:=by rw[bm,h4]; simp[h3]
   have h6:((m1++(key,old)::m2).map Prod.fst)[m1.length]? =some key:=by simp
   have hf:=(aA.1 h5).1;exact(List.getElem?_inj hf hh).1 (h5.trans h6.symm)
  refine⟨ChangeMaps.setBlock w b (.map (es.modify j (fun e'=> {e' with key:=key,val:=val})) clock), ?_,⟨_,_,xw hb _, ?_, ?_, ?_⟩,qV hb _⟩
  ·simp[Instr.mapUpdate,run_underlying ht,MapKept.run_getObj_map hb,K.check w false hc,h1,hj,h3,K.stays w hc,MapKept.run_setObj_map _ hb,Result.andThen,ChangeMaps.setBlock]
  ·rw[ha,List.map_set,he,hg];simp
  ·exact stamped_modify hl j _ (fun _ _=>rfl) (fun e' _ hd=>by rw[hj]at hd; cases hd; exact h3.symm)
  ·intro p hp
   rcases aP.1 hp with hp | hp
   ·exact hk p (by simp[hp])
   ·rcases aU.1 hp with rfl | hp
    ·exact⟨kl,hc⟩
    ·exact hk p (by simp[hp])
theorem iQ.len (h:iQ P k w b m) (ht:P.underlying t=some (.map k e)) (ty:TypeId):(Builtin.len_ #[t] ty #[.map (some b)]).run P w= .ok (.int .i64 (m.length:Int)) w:=by
 obtain⟨es,clock,hb,he,_⟩:=h;have:es.size=m.length:=by rw[<-he]; simp
 simp[Builtin.len_,run_underlying ht,MapKept.run_getObj_map hb,goInt,Result.andThen,this]
def pW (P:Program) (k:TypeId) (w:World) (b r:Nat) (m vis:List (Value×Value)):Prop:=
 ∃es clock since seen c0,w.heap[b]? =some (.map es clock)/\es.toList.map (fun e=>(e.key,e.val))=m/\Stamped es clock/\(∀p∈m,∃l,keyOf P k p.1=some l)/\
  w.heap[r]? =some (.mapIter (some b) since seen c0)/\(∀x∈es.toList,x.born<since)/\since<=c0/\since<=clock/\vis.Perm ((es.toList.filter fun x=>seen.contains x.born).map (fun e=>(e.key,e.val)))
theorem pW.map {r:Nat} {vis:List (Value×Value)} (h:pW P k w b r m vis):iQ P k w b m:=by obtain⟨es,clock,_,_,_,hb,he,hs,hk,_⟩:=h;exact⟨es,clock,hb,he,hs,hk⟩
theorem pW.same {r:Nat} {vis:List (Value×Value)} (h:pW P k w b r m vis) (h1:w'.heap[b]? =w.heap[b]?) (h2:w'.heap[r]? =w.heap[r]?):pW P k w' b r m vis:=by obtain⟨es,clock,since,seen,c0,hb,he,hs,hk,hr,h3⟩:=h;exact⟨es,clock,since,seen,c0,h1.trans hb,he,hs,hk,h2.trans hr,h3⟩
theorem pW.ne {r:Nat} {vis:List (Value×Value)} (h:pW P k w b r m vis):r≠b:=by
 obtain⟨es,clock,since,seen,c0,hb,_,_,_,hr,_⟩:=h;intro e1;subst e1;rw[hb]at hr
 cases hr
theorem pW.sub {r:Nat} {vis:List (Value×Value)} (h:pW P k w b r m vis): ∀p∈vis,p∈m:=by obtain⟨es,clock,since,seen,c0,hb,he,hs,hk,hr,_,_,_,hv⟩:=h;intro p hp;obtain⟨x,hx,rfl⟩:=aQ.1 (hv.subset hp);rw[<-he];exact aQ.2 ⟨x,(dQ.1 hx).1,rfl⟩
theorem tK {α:Type} (p:α->Bool): ∀(l:List α),(l.filter p).length+(l.filter fun x=> !p x).length=l.length
 | []=>rfl
 | a::l=>by
  have:=tK p l
  cases h:p a<;> simp[h]<;> omega
theorem pW.left {r:Nat} {vis:List (Value×Value)} (h:pW P k w b r m vis):w.rangeLeft b r+vis.length=m.length:=by
 obtain⟨es,clock,since,seen,c0,hb,he,hs,hk,hr,_,_,_,hv⟩:=h;have h1:w.rangeLeft b r=(leftOf es seen).size:=by simp only[World.rangeLeft,hb,hr]
 have h2:(leftOf es seen).size=(es.toList.filter fun x=> !seen.contains x.born).length:=by unfold leftOf;rw[<-Array.toList_filter,Array.length_toList]
 have h3:=tK (fun x:MapEntry=>seen.contains x.born) es.toList;rw[h1,h2,hv.length_eq,aw,<-he,aw];omega
theorem iQ.range (h:iQ P k w b m) (ht:P.underlying t=some (.map k e)):
  ∃w',(Instr.range t (.map (some b))).run P w= .ok (.pointer (some ⟨w.heap.size,0,none⟩)) w'/\pW P k w' b w.heap.size m []/\Below w.heap.size w w'/\w'.heap.size=w.heap.size+1:=by
 have ha:=h.lt;obtain⟨es,clock,hb,he,hs,hk⟩:=h;refine⟨_,run_range_map w t k e b es clock ht hb,⟨es,clock,clock, #[],clock,((MapKept.heap_alloc w _).2 b ha).trans hb,he,hs,hk,(MapKept.heap_alloc w _).1,((stamped_iff es clock).1 hs).1,ah _,ah _, ?_⟩,eT,by simp⟩;simp
theorem Pb {es:Array MapEntry} {clock:Nat} (hs:Stamped es clock) {x y:MapEntry} (hx:x∈es.toList) (hy:y∈es.toList) (h:x.born=y.born):x=y:=born_inj ((stamped_iff es clock).1 hs).2.1 hx hy h
theorem KL {es:List MapEntry} {seen:Array Nat} {e0:MapEntry} (hn:es.Nodup) (hinj: ∀x∈es,x.born=e0.born->x=e0) (he:e0∈es) (h0:seen.contains e0.born=false):
  ((es.filter fun x=>seen.contains x.born)++[e0]).Perm (es.filter fun x=>(seen.push e0.born).contains x.born):=by
 refine(List.perm_ext_iff_of_nodup ?_ (hn.filter _)).2 (fun x=> ?_)
 ·rw[dX];refine⟨hn.filter _,by simp,fun a ha c hc=> ?_⟩;simp only[aL]at hc;subst hc;rintro rfl;rw[dQ]at ha;rw[ha.2]at h0
  cases h0
 ·simp only[aP,dQ,aL,contains_push,gU,kf]
  constructor
  ·rintro(⟨h1,h2⟩ | rfl)
   ·exact⟨h1, .inl h2⟩
   ·exact⟨he, .inr rfl⟩
  ·rintro⟨h1,h2 | h2⟩
   ·exact .inl ⟨h1,h2⟩
   ·exact .inr (hinj x h1 h2)
theorem pW.next {r:Nat} {vis:List (Value×Value)} (h:pW P k w b r m vis) (ty:TypeId):
  (vis.Perm m/\(Instr.next (.pointer (some ⟨r,0,none⟩)) false ty).run P w= .ok (.tuple #[.bool false]) w)\/
  ∃key v w',(key,v)∈m/\(∀p∈vis,p.1≠key)/\(Instr.next (.pointer (some ⟨r,0,none⟩)) false ty).run P w= .ok (.tuple #[.bool true,key,v]) w'/\
   pW P k w' b r m (vis++[(key,v)])/\w.grownBy w' (some r)/\w'.heap.size=w.heap.size/\(Instr.entry (.pointer (some ⟨r,0,none⟩))).run P w'= .ok (.tuple #[key,v]) w':=by
 have hw:=h.ne;obtain⟨es,clock,since,seen,c0,hb,he,hs,hk,hr,hf,hB,hn,hv⟩:=h;have hl:=(stamped_iff es clock).1 hs
 rcases run_next_at (P:=P) w ty r b since c0 seen es clock hr hb hf hB with⟨h0,hc⟩ | ⟨e0,hq,w1,hg,hc⟩
 ·refine Or.inl ⟨?_,hc⟩;have:(es.toList.filter fun x=>seen.contains x.born)=es.toList:=by rw[List.filter_eq_self];intro x hx;exact all_seen es seen h0 x hx
  rw[this,he]at hv;exact hv
 ·obtain⟨hd,hh⟩:=mem_left hq;have hA:w1.heap[r]? =some (.mapIter (some b) since seen c0):=by rcases hg with rfl | rfl<;> exact hr
  have ho:w1.heap[b]? =some (.map es clock):=by rcases hg with rfl | rfl<;> exact hb
  have ha:=heap_set (o':= .mapIter (some b) since (seen.push e0.born) clock) hA;have hm:(ChangeMaps.setBlock w1 r (.mapIter (some b) since (seen.push e0.born) clock)).heap[b]? =some (.map es clock):=(ha.2 b (fun e1=>hw e1.symm)).trans ho;have hu:es.toList.Nodup:=by have:=hl.2.1;unfold List.Nodup at this;rw[fz]at this;exact this.imp (fun h e=>h (by rw[e]))
  have hj: ∀x∈es.toList,x.born=e0.born->x=e0:=fun x hx hE=>Pb hs hx hd hE
  have hz:=KL hu hj hd hh;refine Or.inr ⟨e0.key,e0.val,_,by rw[<-he]; exact aQ.2 ⟨e0,hd,rfl⟩,fun p hp hy=> ?_,hc,⟨es,clock,since,seen.push e0.born,clock,hm,he,hs,hk,ha.1,hf,hn,hn, ?_⟩, ?_, ?_,
   run_entry_at _ r b since seen es clock e0 ha.1 hm hd hl.2.1⟩
  ·obtain⟨x,hx,rfl⟩:=aQ.1 (hv.subset hp);obtain⟨hC,hD⟩:=dQ.1 hx;have:x=e0:=entry_eq_of_key hl.2.2 hC hd hy;subst this;rw[hD]at hh
   cases hh
  ·refine(hv.append_right _).trans ?_;have:=hz.map (fun e:MapEntry=>(e.key,e.val));rw[aI]at this;exact this
  ·rcases hg with rfl | rfl<;> exact⟨rfl,rfl,rfl,by simp[ChangeMaps.setBlock],fun i _ hi=>ha.2 i (fun e1=>hi (by rw[e1]))⟩
  ·rcases hg with rfl | rfl<;> simp[ChangeMaps.setBlock]
end
section
variable {P : Program} {w : World} {ops : Array Oper} {rest : List Oper} {o : Oper} {a : Act} {Q : Exit → Act → World → Prop} {k e : TypeId}
theorem zv (hg:o.guard=none) (mo:Operand) (t:TypeId) (hop:o.op=Op.range t mo) (ht:P.underlying t=some (.map k e)) (b:Nat) (m:List (Value×Value)) (hm:a.eval mo= .map (some b)) (h:iQ P k w b m)
  (hK: ∀w',pW P k w' b w.heap.size m []->Below w.heap.size w w'->w'.heap.size=w.heap.size+1->wpList P ops Q rest (a.put o.dst (.pointer (some ⟨w.heap.size,0,none⟩))) w'):wpList P ops Q (o::rest) a w:=by
 refine gJ hg fun K' hb=> ?_
 obtain⟨w',ha,r1,r2,r3⟩:=h.range ht;unfold Oper.wp;simp[execOp,hop,hm,ha,Result.andThen];exact hb _ _ (hK w' r1 r2 r3)
theorem Cp (hg:o.guard=none) (it:Operand) (hop:o.op=Op.next it false) (b r:Nat) (m vis:List (Value×Value)) (hit:a.eval it= .pointer (some ⟨r,0,none⟩)) (h:pW P k w b r m vis)
  (hDone:vis.Perm m->wpList P ops Q rest (a.put o.dst (.tuple #[.bool false])) w)
  (hMore: ∀(key v:Value) (w':World),(key,v)∈m->(∀p∈vis,p.1≠key)->pW P k w' b r m (vis++[(key,v)])->w.grownBy w' (some r)->w'.heap.size=w.heap.size->
   (Instr.entry (.pointer (some ⟨r,0,none⟩))).run P w'= .ok (.tuple #[key,v]) w'->wpList P ops Q rest (a.put o.dst (.tuple #[.bool true,key,v])) w'):wpList P ops Q (o::rest) a w:=by
 refine gJ hg fun K' hb=> ?_
 unfold Oper.wp
 rcases h.next o.type with⟨h0,ha⟩ | ⟨key,v,w',h1,h2,ha,h3,h4,h5,h6⟩
 ·simp[execOp,hop,hit,ha,Result.andThen];exact hb _ _ (hDone h0)
 ·simp[execOp,hop,hit,ha,Result.andThen];exact hb _ _ (hMore key v w' h1 h2 h3 h4 h5 h6)
theorem kO (K:Keyed P k) (hg:o.guard=none) (mo x v:Operand) (t:TypeId) (hop:o.op=Op.mapUpdate t mo x v) (ht:P.underlying t=some (.map k e)) (b:Nat) (m:List (Value×Value)) (h:iQ P k w b m) (hmo:a.eval mo= .map (some b)) (key val:Value) (hx:a.eval x=key) (hv:a.eval v=val) (hkey: ∃l,keyOf P k key=some l) (hnew: ∀p∈m,p.1≠key)
  (hK: ∀w',iQ P k w' b (m++[(key,val)])->w.grownBy w' (some b)->wpList P ops Q rest (a.put o.dst undef) w'):wpList P ops Q (o::rest) a w:=by
 refine gJ hg fun K' hb=> ?_
 obtain⟨w',ha,r1,r2⟩:=h.put K ht hkey hnew val;unfold Oper.wp;simp[execOp,hop,hmo,hx,hv,ha,Result.andThen];exact hb _ _ (hK w' r1 r2)
theorem qA (K:Keyed P k) (hg:o.guard=none) (mo x v:Operand) (t:TypeId) (hop:o.op=Op.mapUpdate t mo x v) (ht:P.underlying t=some (.map k e)) (b:Nat) (m1 m2:List (Value×Value)) (key val old:Value) (h:iQ P k w b (m1++(key,old)::m2)) (hmo:a.eval mo= .map (some b)) (hx:a.eval x=key) (hv:a.eval v=val)
  (hK: ∀w',iQ P k w' b (m1++(key,val)::m2)->w.grownBy w' (some b)->wpList P ops Q rest (a.put o.dst undef) w'):wpList P ops Q (o::rest) a w:=by
 refine gJ hg fun K' hb=> ?_
 obtain⟨w',ha,r1,r2⟩:=h.over K ht val;unfold Oper.wp;simp[execOp,hop,hmo,hx,hv,ha,Result.andThen];exact hb _ _ (hK w' r1 r2)
end
end
section
def lZ :Nat->List UInt8->List Int
 | 0,_=>[]
 | n+1,l=>if l=[]then []else((Lib.decodeL l).1:Int)::lZ n (l.drop (Lib.decodeL l).2)
def uR (l:List UInt8):List Int:=lZ l.length l
def Mj {T:Type} (f:List T->Bool):List T->Bool
 | []=>f []
 | t::us=>f (t::us) || Mj f us
def QZ {T:Type} (m:T->Bool) (f:List T->Bool):List T->Bool
 | []=>false
 | t::us=>m t && f us
def dv {P T:Type} (star:P->Bool) (m:P->T->Bool):List P->List T->Bool
 | [],ts=>ts.isEmpty
 | p::ps,ts=>if star p then Mj (dv star m ps) ts else QZ (m p) (dv star m ps) ts
theorem ni (l:List UInt8) (h:l≠[]):1<=(Lib.decodeL l).2/\(Lib.decodeL l).2<=l.length:=⟨Lib.decodeL_width l,Lib.decodeL_le l h⟩
theorem ub : ∀(n m:Nat) (l:List UInt8),l.length<=n->l.length<=m->lZ n l=lZ m l
 | 0,m,l,h,_=>by have:l=[]:=bq (by omega);subst this; cases m<;> simp[lZ]
 | n,0,l,_,h=>by have:l=[]:=bq (by omega);subst this; cases n<;> simp[lZ]
 | n+1,m+1,l,h1,h2=>by
  unfold lZ
  split
  ·rfl
  ·rename_i hl;have:=ni l hl;rw[ub n m (l.drop (Lib.decodeL l).2) (by rw[bz]; omega) (by rw[bz]; omega)]
theorem Ex (l:List UInt8) (h:l≠[]):uR l=((Lib.decodeL l).1:Int)::uR (l.drop (Lib.decodeL l).2):=by
 have h1:=ni l h;have hl:l.length=(l.length-1)+1:=by have:=List.length_pos_iff.2 h; omega
 unfold uR;rw[hl,lZ,if_neg h,ub _ (l.drop (Lib.decodeL l).2).length (l.drop (Lib.decodeL l).2) (by rw[bz]; omega) (ah _)]
theorem ru : ∀(n:Nat) (l:List UInt8),(lZ n l).length<=n
 | 0,_=>by simp[lZ]
 | n+1,l=>by
  unfold lZ
  split
  ·simp
  ·have:=ru n (l.drop (Lib.decodeL l).2); simp; omega
theorem zn (l:List UInt8):(uR l).length<=l.length:=ru _ _
theorem mH {a b:UInt8} (h:iB a=iB b):a=b:=by
 unfold iB at h
 split at h<;> split at h
 ·simp[*]
 ·omega
 ·omega
 ·apply gw.1; omega
theorem NK (a:UInt8) (h:a≠47):0<=iB a:=by unfold iB; rw[if_neg h]; omega
theorem QY : ∀(a b:List UInt8),fA a b= -1\/fA a b=0\/fA a b=1
 | [],[]=>by simp[fA]
 | [],_::_=>by simp[fA]
 | _::_,[]=>by simp[fA]
 | a::l,b::r=>by
  unfold fA
  split
  ·exact QY l r
  ·unfold Lib.compareInt; split
   ·simp
   ·split<;> simp
theorem BG : ∀(a b:List UInt8),fA b a= -fA a b
 | [],[]=>by simp[fA]
 | [],_::_=>by simp[fA]
 | _::_,[]=>by simp[fA]
 | a::l,b::r=>by
  unfold fA
  by_cases h:a=b
  ·rw[if_pos h,if_pos h.symm]; exact BG l r
  ·rw[if_neg h,if_neg (ks h)];have:iB a≠iB b:=fun e=>h (mH e)
   unfold Lib.compareInt
   rcases Int.lt_trichotomy (iB a) (iB b)with h1 | h1 | h1
   ·rw[if_neg (by omega),if_pos (by omega),if_pos h1]; rfl
   ·exact absurd h1 this
   ·rw[if_pos (by omega),if_neg (by omega),if_pos (by omega)]
theorem CQ : ∀(a b:List UInt8),fA a b=0<->a=b
 | [],[]=>by simp[fA]
 | [],_::_=>by simp[fA]
 | _::_,[]=>by simp[fA]
 | a::l,b::r=>by
  unfold fA
  by_cases h:a=b
  ·rw[if_pos h,CQ l r]; simp[h]
  ·rw[if_neg h];have:iB a≠iB b:=fun e=>h (mH e)
   unfold Lib.compareInt
   constructor
   ·intro e; split at e
    ·omega
    ·split at e<;> omega
   ·intro e; simp at e; exact absurd e.1 h
theorem zN : ∀(a b c:List UInt8),fA a b<=0->fA b c<=0->fA a c<=0/\(fA a c=0->fA a b=0/\fA b c=0)
 | [],b,[],h1,h2=>by
  cases b with
  | nil=>simp[fA]
  | cons x b=>simp[fA]at h2
 | [],_,_::_,_,_=>by simp[fA]
 | _::_,[],_,h1,_=>by simp[fA]at h1
 | x::a,y::b,[],_,h2=>by simp[fA]at h2
 | x::a,y::b,z::c,h1,h2=>by
  unfold fA at h1 h2 ⊢
  by_cases hxy:x=y
  ·subst hxy;rw[if_pos rfl]at h1 ⊢
   by_cases hxz:x=z
   ·subst hxz;rw[if_pos rfl]at h2 ⊢;rw[if_pos rfl];exact zN a b c h1 h2
   ·rw[if_neg hxz]at h2 ⊢;rw[if_neg hxz];refine⟨h2,fun e=> ?_⟩
    exfalso
    have:iB x≠iB z:=fun e=>hxz (mH e)
    unfold Lib.compareInt at e
    split at e
    ·omega
    ·split at e<;> omega
  ·rw[if_neg hxy]at h1 ⊢;have n1:iB x≠iB y:=fun e=>hxy (mH e)
   have l1:iB x<iB y:=by
    unfold Lib.compareInt at h1
    split at h1
    ·assumption
    ·split at h1
     ·omega
     ·omega
   by_cases ha:y=z
   ·subst ha;rw[if_neg hxy];refine⟨h1,fun e=> ?_⟩
    exfalso
    unfold Lib.compareInt at e;rw[if_pos l1]at e; omega
   ·rw[if_neg ha]at h2;have n2:iB y≠iB z:=fun e=>ha (mH e)
    have l2:iB y<iB z:=by
     unfold Lib.compareInt at h2
     split at h2
     ·assumption
     ·split at h2<;> omega
    have n3:x≠z:=fun e=>by subst e; omega
    rw[if_neg n3];unfold Lib.compareInt;rw[if_pos (by omega)];exact⟨by omega,fun e=>by omega⟩
theorem BF : ∀(p q:List UInt8),fA p (p++q)<=0
 | [],[]=>by simp[fA]
 | [],_::_=>by simp[fA]
 | a::p,q=>by rw[aK,fA,if_pos rfl]; exact BF p q
theorem vq : ∀(d b r:List UInt8),fA d b<=0->fA b (d++47::r)<=0->b=d\/ ∃s,b=d++47::s
 | [],[],_,_,_=> .inl rfl
 | [],x::b,r,_,h2=>by
  by_cases hx:x=47
  ·exact .inr ⟨b,by simp[hx]⟩
  ·rw[aJ,fA,if_neg hx]at h2;have h3:=NK x hx;have h4:iB 47= -1:=rfl;unfold Lib.compareInt at h2;rw[h4,if_neg (by omega),if_pos (by omega)]at h2;omega
 | y::d,[],_,h1,_=>by simp[fA]at h1
 | y::d,x::b,r,h1,h2=>by
  rw[aK]at h2;unfold fA at h1 h2
  by_cases hxy:y=x
  ·subst hxy;rw[if_pos rfl]at h1 h2
   rcases vq d b r h1 h2 with h | ⟨s,h⟩
   ·exact .inl (by rw[h])
   ·exact .inr ⟨s,by rw[h]; rfl⟩
  ·rw[if_neg hxy]at h1;rw[if_neg (ks hxy)]at h2;have n1:iB y≠iB x:=fun e=>hxy (mH e)
   unfold Lib.compareInt at h1 h2
   split at h1
   ·split at h2
    ·omega
    ·first | omega | (split at h2<;> omega)
   ·first | omega | (split at h1<;> omega)
theorem tz (k n:Nat) (z:Int) (h:z=((k+n:Nat):Int)):UInt8.ofNat k+UInt8.ofNat n=UInt8.ofNat z.toNat:=by subst h; rw[fx,UInt8.ofNat_add]
theorem Fu (r:Nat):(Utf8.encode (r:Int)).data.toList=Lib.encodeRune (r:Int):=by
 unfold Lib.encodeRune
 by_cases c1:r<128
 ·have v:Utf8.valid (r:Int)=true:=by simp[Utf8.valid]; omega
  rw[Lib.encodeRuneZ_one (by omega) (by omega)]; simp[Utf8.encode,v,c1]
 by_cases c2:r<2048
 ·have v:Utf8.valid (r:Int)=true:=by simp[Utf8.valid]; omega
  rw[Lib.encodeRuneZ_two (by omega) (by omega)]; simp[Utf8.encode,v,c1,c2]; exact⟨tz 192 _ _ (by omega),tz 128 _ _ (by omega)⟩
 by_cases hb:(55296<=r/\r<=57343)\/1114111<r
 ·have v:Utf8.valid (r:Int)=false:=by simp[Utf8.valid]; omega
  rw[Lib.encodeRuneZ_bad (by omega)]; simp[Utf8.encode,v,Utf8.runeError]
 by_cases c3:r<65536
 ·have v:Utf8.valid (r:Int)=true:=by simp[Utf8.valid]; omega
  rw[Lib.encodeRuneZ_three (by omega)]; simp[Utf8.encode,v,c1,c2,c3]; exact⟨tz 224 _ _ (by omega),tz 128 _ _ (by omega),tz 128 _ _ (by omega)⟩
 ·have v:Utf8.valid (r:Int)=true:=by simp[Utf8.valid]; omega
  rw[Lib.encodeRuneZ_four (by omega) (by omega)]; simp[Utf8.encode,v,c1,c2,c3]; exact⟨tz 240 _ _ (by omega),tz 128 _ _ (by omega),tz 128 _ _ (by omega),tz 128 _ _ (by omega)⟩
def Ce (l:List UInt8):List UInt8:=(uR l).flatMap Lib.encodeRune
theorem Cf :Ce []=[]:=rfl
theorem Es (l:List UInt8) (h:l≠[]):Ce l=Lib.encodeRune ((Lib.decodeL l).1:Int)++Ce (l.drop (Lib.decodeL l).2):=by unfold Ce; rw[Ex l h,bC]
theorem xg (r:Int):(Lib.encodeRune r).length<=4:=by have:=(Lib.encodeRuneZ_length r).2; simpa [Lib.encodeRune]using this
theorem Jc : ∀(n:Nat) (l:List UInt8),l.length<=n->l.length<=(Ce l).length/\(Ce l=l<->Lib.validD l=true)
 | 0,l,h=>by have:l=[]:=bq (by omega);subst this;exact⟨by simp,by simp[Cf,Lib.validD_nil]⟩
 | n+1,l,h=>by
  by_cases hl:l=[]
  ·subst hl;exact⟨by simp,by simp[Cf,Lib.validD_nil]⟩
  ·have hw:=ni l hl;obtain⟨ih1,ih2⟩:=Jc n (l.drop (Lib.decodeL l).2) (by rw[bz]; omega);rw[bz]at ih1;rw[Es l hl,Lib.validD_step l hl]
   by_cases hb:(Lib.decodeL l).1=65533/\(Lib.decodeL l).2=1
   ·have e3:(Lib.encodeRune ((Lib.decodeL l).1:Int)).length=3:=by rw[hb.1]; rfl
    rw[if_pos hb];refine⟨by rw[ai,e3]; omega,⟨fun e=> ?_,fun e=>by cases e⟩⟩;have:=congrArg List.length e;rw[ai,e3]at this;omega
   ·rw[if_neg hb,Lib.encode_decode l hl hb];refine⟨by rw[ai,aW]; omega, ?_⟩;rw[<-ih2]
    constructor
    ·intro e;have h2:l.take (Lib.decodeL l).2++Ce (l.drop (Lib.decodeL l).2)=l.take (Lib.decodeL l).2++l.drop (Lib.decodeL l).2:=by rw[dA]; exact e
     exact List.append_cancel_left h2
    ·intro e; rw[e,dA]
theorem KR (l:List UInt8):(Ce l == l)=Lib.validD l:=by rw[dy,kf]; exact(Jc l.length l (ah _)).2
theorem CS (l:List UInt8):((dd 47 l).length == 1)= !l.contains 47:=by
 by_cases h:(47:UInt8)∈l
 ·obtain⟨p,q,rfl,hp⟩:=Ah l 47 h;have:=ov 47 q;rw[lx 47 p q hp];have h2:((p::dd 47 q).length == 1)=false:=by rw[ir]; simp; exact pR 47 q
  rw[h2]; simp
 ·rw[fW 47 l h]; simp[h]
theorem EO (ps:List (List UInt8)) (p:List UInt8):jS (ps++[p])=if ps=[]then p else jS ps++[47]++p:=by
 cases ps with
 | nil=>simp[jS,Lib.join_one]
 | cons q ps=>
  simp only[aK,jS,Lib.join_cons,if_neg (List.cons_ne_nil q ps)];have: ∀(l:List (List UInt8)),Lib.joinTail [47] (l++[p])=Lib.joinTail [47] l++47::p:=by
   intro l
   induction l with
   | nil=>simp[Lib.joinTail]
   | cons a l _=>simp only[aK,Lib.joinTail]; simp
  rw[this]; simp
theorem CR {p:List UInt8} (h:iV p=true):p≠[]/\p≠[46]/\p≠[46,46]/\47∉p:=by simp only[iV,aE]at h;obtain⟨⟨⟨⟨⟨h1,_⟩,h2⟩,h3⟩,h4⟩,_⟩:=h;exact⟨by simpa using h1,by simpa using h2,by simpa using h3,by simpa using h4⟩
theorem rA {l:List UInt8} (h:dH l=true): ∀p∈dd 47 l,iV p=true:=by simp only[dH,aE]at h;exact cB.1 h.2
open Go.RowKit
structure dk where
 path:ByteArray
 kind:Int
 mode:Int
 time:Int
 data:List UInt8
 link:ByteArray
deriving DecidableEq
def pw (l:List UInt8):Bool:=decide (1<=l.length) && decide (l.length<=512) && !l.contains 0
def kY (e:dk):Bool:=
 if e.kind=1 then decide (e.data.length<=1048576) && decide (e.link.size=0)
 else if e.kind=2 then decide (e.data.length=0) && decide (e.link.size=0)
 else if e.kind=3 then decide (e.data.length=0) && pw (bl e.link)
 else false
def oy (e:dk):Bool:=decide (0<=e.mode) && decide (e.mode<=511) && decide (0<=e.time)
def ij (e:dk):Bool:=dH (bl e.path) && oy e && kY e
def jJ (L:List dk) (p:ByteArray):Option dk:=L.find? fun e=>decide (e.path=p)
def mD (L:List dk) (p:List UInt8):Int:=if p=[]then 0 else match jJ L ⟨p.toArray⟩with
 | none=>4
 | some e=>if e.kind=2 then 0 else 13
def nC (a b:dk):Int:=fA (bl a.path) (bl b.path)
def nP (pre:List dk) (e:dk):Bool:=match pre.getLast? with
 | none=>true
 | some f=>decide (nC f e<0)
def gm (pre:List dk) (e:dk):Int:=if(ij e && nP pre e)=true then mD pre (cu (bl e.path))else 1
def pj :List dk->List dk->Int
 | _,[]=>0
 | pre,e::r=>if gm pre e=0 then pj (pre++[e]) r else gm pre e
def iJ (L:List dk):Int:=if 4096<L.length then 2 else pj [] L
theorem Ja {p:ByteArray} {l:List UInt8} (h:bl p=l):p=⟨l.toArray⟩:=kF (by rw[h]; simp[bl])
theorem wS (a b:dk):nC b a= -nC a b:=BG _ _
theorem pE {a b:dk} :nC a b=0<->a.path=b.path:=by unfold nC; rw[CQ]; exact⟨kF,fun h=>by rw[h]⟩
theorem sA {a b c:dk} (h1:nC a b<0) (h2:nC b c<0):nC a c<0:=by
 obtain⟨h3,h4⟩:=zN (bl a.path) (bl b.path) (bl c.path) (by unfold nC at h1; omega) (by unfold nC at h2; omega)
 rcases Int.lt_or_eq_of_le h3 with h | h
 ·exact h
 ·have:=(h4 h).1; unfold nC at h1; omega
def jn (L:List dk):Prop:=L.Pairwise fun a b=>nC a b<0
theorem jn.nodup {L:List dk} (h:jn L):(L.map dk.path).Nodup:=by unfold List.Nodup;rw[fz];exact List.Pairwise.imp (fun h e=>by have:=pE.2 e; omega) h
theorem jn.filter {L:List dk} (h:jn L) (p:dk->Bool):jn (L.filter p):=List.Pairwise.filter p h
theorem rx : ∀ {L M:List dk},jn L->jn M->L.Perm M->L=M
 | [],M,_,_,hp=>by rw[List.nil_perm.1 hp]
 | a::L,[],_,_,hp=>by exact absurd hp.length_eq (by simp)
 | a::L,b::M,hl,hm,hp=>by
  obtain⟨hl1,hl2⟩:=fO.1 hl;obtain⟨hm1,hm2⟩:=fO.1 hm;have hab:a=b:=by
   have h1:a∈b::M:=hp.subset (by simp);have h2:b∈a::L:=hp.symm.subset (by simp)
   rcases aU.1 h1 with h1 | h1
   ·exact h1
   ·rcases aU.1 h2 with h2 | h2
    ·exact h2.symm
    ·have h3:=hm1 a h1;have h4:=hl1 b h2;have h5:=wS a b;omega
  subst hab;rw[rx hl2 hm2 hp.cons_inv]
theorem sQ {L:List dk} {p:ByteArray} {e:dk} (h:jJ L p=some e):e∈L/\e.path=p:=by unfold jJ at h;exact⟨ed h,by have:=jB h; simpa using this⟩
theorem xp {L:List dk} {p:ByteArray} (h:jJ L p=none): ∀e∈L,e.path≠p:=by unfold jJ at h;rw[fg]at h;intro e he hp;exact h e he (by simp[hp])
theorem uE {L:List dk} (hn:(L.map dk.path).Nodup) {e:dk} (he:e∈L):jJ L e.path=some e:=by
 cases h:jJ L e.path with
 | none=>exact absurd rfl (xp h e he)
 | some f=>
  obtain⟨h1,h2⟩:=sQ h;have:f=e:=by
   unfold List.Nodup at hn;rw[fz,List.pairwise_iff_getElem]at hn;obtain⟨i,hi,rfl⟩:=eq h1;obtain⟨j,hj,rfl⟩:=eq he
   by_cases hb:i=j
   ·subst hb; rfl
   ·exfalso
    rcases Nat.lt_or_gt_of_ne hb with ha | ha
    ·exact hn i j hi hj ha h2
    ·exact hn j i hj hi ha h2.symm
  rw[this]
structure un (L : List dk) : Prop where
 ord:jn L
 val: ∀e∈L,ij e=true
 up: ∀e∈L,mD L (cu (bl e.path))=0
 len:L.length<=4096
theorem un.nil :un []:=⟨fy,by simp,by simp,by simp⟩
theorem un.nodup {L:List dk} (h:un L):(L.map dk.path).Nodup:=h.ord.nodup
theorem dm {e:dk} (h:ij e=true):dH (bl e.path)=true:=by unfold ij at h; simp only[aE]at h; exact h.1.1
theorem pT {l:List UInt8} (h:dH l=true):l≠[]:=by intro e; subst e; exact absurd h (by decide)
theorem mM {l:List UInt8} (h:dH l=true):l.length<=512:=by simp only[dH,aE,aG]at h; exact h.1.1
theorem uA {L:List dk} {p:List UInt8} (h:mD L p=0) (hp:p≠[]): ∃f∈L,bl f.path=p/\f.kind=2:=by
 unfold mD at h;rw[if_neg hp]at h
 cases hf:jJ L ⟨p.toArray⟩with
 | none=>rw[hf]at h; simp at h
 | some f=>
  rw[hf]at h;simp only at h;obtain⟨h1,h2⟩:=sQ hf
  split at h
  ·exact⟨f,h1,by rw[h2]; simp[bl],by assumption⟩
  ·simp at h
theorem ws {L:List dk} (hn:(L.map dk.path).Nodup) {p:List UInt8} (h:p=[]\/ ∃f∈L,bl f.path=p/\f.kind=2):mD L p=0:=by
 unfold mD
 by_cases hp:p=[]
 ·rw[if_pos hp]
 ·rw[if_neg hp]
  rcases h with h | ⟨f,h1,h2,h3⟩
  ·exact absurd h hp
  ·have:f.path=⟨p.toArray⟩:=Ja h2;rw[<-this,uE hn h1];simp only[if_pos h3]
theorem tB {d q r:List UInt8} (h:q=d++47::r):cu q=d\/ ∃s,cu q=d++47::s:=by
 obtain⟨p,t,hq,ht⟩:=ob q (by rw[h]; simp);have ha:cu q=p:=by rw[hq]; exact lJ p t ht
 rw[ha];have he:p++47::t=d++47::r:=by rw[<-hq,h]
 rcases List.append_eq_append_iff.1 he with⟨a,h1,h2⟩ | ⟨a,h1,h2⟩
 ·cases a with
  | nil=>left; simpa using h1.symm
  | cons x a=>
   exfalso
   rw[aK,gt]at h2
   apply ht
   rw[h2.2];simp
 ·cases a with
  | nil=>left; simpa using h1
  | cons x a=>
   right
   rw[aK,gt]at h2;exact⟨a,by rw[h1,<-h2.1]⟩
theorem fL {l:List UInt8} (h:dH l=true):(cu l).length<l.length:=by
 by_cases hm:(47:UInt8)∈l
 ·obtain⟨p,t,hq,ht⟩:=ob l hm;have:cu l=p:=by rw[hq]; exact lJ p t ht
  rw[this,hq]; simp
 ·rw[oh l hm];have:=pT h
  cases l with
  | nil=>exact absurd rfl this
  | cons=>simp
def Qe (M:List dk) (x:dk):Prop:=cu (bl x.path)=[]\/ ∃f∈M,bl f.path=cu (bl x.path)/\f.kind=2
theorem GL {L:List dk} {x:dk} (h:mD L (cu (bl x.path))=0):Qe L x:=by
 by_cases hp:cu (bl x.path)=[]
 ·exact .inl hp
 ·obtain⟨f,h1,h2,h3⟩:=uA h hp;exact .inr ⟨f,h1,h2,h3⟩
theorem un.has {L:List dk} (h:un L) {e:dk} (he:e∈L):Qe L e:=GL (h.up e he)
theorem ri {l:List UInt8} (h:cu l≠[]): ∃t,l=cu l++47::t:=by
 by_cases hm:(47:UInt8)∈l
 ·obtain⟨p,q,rfl,hq⟩:=ob l hm;exact⟨q,by rw[lJ p q hq]⟩
 ·exact absurd (oh l hm) h
theorem zR {L M:List dk} (hm:(M.map dk.path).Nodup) (hs: ∀x∈L,x∈M) {p:List UInt8} (h:mD L p=0):mD M p=0:=by
 by_cases hp:p=[]
 ·exact ws hm (.inl hp)
 ·obtain⟨f,h1,h2,h3⟩:=uA h hp;exact ws hm (.inr ⟨f,hs f h1,h2,h3⟩)
structure Tr (L : List dk) : Prop where
 ord:jn L
 val: ∀e∈L,ij e=true
 up: ∀e∈L,mD L (cu (bl e.path))=0
theorem zi {e f:dk} (hv:ij e=true) (hp:cu (bl e.path)≠[]) (hf:bl f.path=cu (bl e.path)):nC f e<0:=by
 obtain⟨t,ht⟩:=ri hp;have h1:nC f e<=0:=by
  unfold nC;rw[hf,ht];have:=BF (cu (bl e.path)) (47::t);have h2:cu (cu (bl e.path)++47::t)=cu (bl e.path):=by rw[<-ht]
  rw[h2]; exact this
 rcases Int.lt_or_eq_of_le h1 with h | h
 ·exact h
 ·have h2:=pE.1 h;have h3:=fL (dm hv);rw[<-hf,h2]at h3;omega
theorem Tr.pre {L M:List dk} (h:Tr (L++M)):Tr L:=by
 obtain⟨s1,s2,s3⟩:=eH.1 h.ord;refine⟨s1,fun e he=>h.val e (by simp[he]),fun e he=> ?_⟩;have hu:=GL (h.up e (by simp[he]));refine ws (jn.nodup s1) ?_
 rcases hu with hu | ⟨f,h1,h2,h3⟩
 ·exact .inl hu
 ·by_cases hp:cu (bl e.path)=[]
  ·exact .inl hp
  ·right
   have hb:=zi (h.val e (by simp[he])) hp h2
   rcases aP.1 h1 with h1 | h1
   ·exact⟨f,h1,h2,h3⟩
   ·have h4:=s3 e he f h1;have h5:=wS e f;omega
theorem wG {pre:List dk} (hs:jn pre) {e:dk} :nP pre e=true<->jn (pre++[e]):=by
 unfold nP
 cases hl:pre.getLast? with
 | none=>
  rw[List.getLast?_eq_none_iff]at hl;subst hl;simp[jn]
 | some f=>
  obtain⟨ys,hy⟩:=List.getLast?_eq_some_iff.1 hl;simp only[aG]
  constructor
  ·intro h;refine eH.2 ⟨hs,by simp,fun a ha b hb=> ?_⟩;simp only[aL]at hb;subst hb;rw[hy]at ha hs
   rcases aP.1 ha with ha | ha
   ·exact sA ((eH.1 hs).2.2 a ha f (by simp)) h
   ·simp only[aL]at ha; subst ha; exact h
  ·intro h;exact(eH.1 h).2.2 f (by rw[hy]; simp) e (by simp)
theorem qN {pre:List dk} (h:Tr pre) (e:dk):gm pre e=0<->Tr (pre++[e]):=by
 unfold gm
 constructor
 ·intro hc
  split at hc
  ·rename_i ha;rw[aE]at ha;have hs:=(wG h.ord).1 ha.2;have hm: ∀x∈pre,x∈pre++[e]:=fun x hx=>by simp[hx]
   refine⟨hs,fun x hx=> ?_,fun x hx=> ?_⟩
   ·rcases aP.1 hx with hx | hx
    ·exact h.val x hx
    ·simp only[aL]at hx; subst hx; exact ha.1
   ·rcases aP.1 hx with hx | hx
    ·exact zR hs.nodup hm (h.up x hx)
    ·simp only[aL]at hx; subst hx; exact zR hs.nodup hm hc
  ·simp at hc
 ·intro ht;have hv:=ht.val e (by simp);rw[if_pos (by rw[hv,(wG h.ord).2 ht.ord]; rfl)];refine ws h.ord.nodup ?_
  rcases GL (ht.up e (by simp))with hu | ⟨f,h1,h2,h3⟩
  ·exact .inl hu
  ·rcases aP.1 h1 with h1 | h1
   ·exact .inr ⟨f,h1,h2,h3⟩
   ·simp only[aL]at h1;subst h1;have:=fL (dm hv);rw[<-h2]at this; omega
theorem wM : ∀ {r pre:List dk},Tr pre->(pj pre r=0<->Tr (pre++r))
 | [],pre,h=>by simp only[pj,cg]; exact⟨fun _=>h,fun _=>trivial⟩
 | e::r,pre,h=>by
  have h1:=qN h e;rw[pj]
  split
  ·rename_i hc;have:=wM (r:=r) (h1.1 hc);rw[this]; simp
  ·rename_i hc
   constructor
   ·intro h2; exact absurd h2 hc
   ·intro h2;have h3:Tr (pre++[e]):=Tr.pre (M:=r) (by simpa using h2);exact absurd (h1.2 h3) hc
theorem qa {L:List dk} :iJ L=0<->un L:=by
 unfold iJ
 split
 ·rename_i h;exact⟨fun h2=>by simp at h2,fun h2=>by have:=h2.len; omega⟩
 ·rename_i h;rw[wM (r:=L) (pre:=[]) ⟨fy,by simp,by simp⟩,aJ];exact⟨fun t=>⟨t.ord,t.val,t.up,by omega⟩,fun t=>⟨t.ord,t.val,t.up⟩⟩
theorem rU {p:ByteArray} :p.size=0<->bl p=[]:=by rw[bi]; exact List.length_eq_zero_iff
def u8V (b:UInt8):Value:= .int .u8 (b.toNat:Int)
def eD (S:Nat->Prop) (w:World) (v:Value) (bs:List UInt8):Prop:=bX S w 1 v bs.length (bs.map u8V)
theorem eD.below {S:Nat->Prop} {w w':World} {v:Value} {bs:List UInt8} (h:eD S w v bs) (hb:Below w.heap.size w w'):eD S w' v bs:=bX.below h (by omega) hb
theorem eD.nil (S:Nat->Prop) (w:World):eD S w (.slice none 0 0) []:=bX.nil _ _ _
def JW (v:Value) (e:dk):Value:= .agg #[.string e.path, .int .i64 e.kind, .int .i64 e.mode, .int .i64 e.time,v, .string e.link]
def vR (v:Value) (e:dk):List Value:=[.string e.path, .int .i64 e.kind, .int .i64 e.mode, .int .i64 e.time,v, .string e.link]
structure nu (e : dk) : Prop where
 pth:e.path.size<=maxLen
 lnk:e.link.size<=maxLen
 knd:(Lit.int .i64 e.kind).wf=true
 mde:(Lit.int .i64 e.mode).wf=true
 tim:(Lit.int .i64 e.time).wf=true
def mu (S:Nat->Prop) (w:World) (c:List Value) (e:dk):Prop:= ∃v,c=vR v e/\eD S w v e.data/\nu e
theorem mu.len {S:Nat->Prop} {w:World} (c:List Value) (e:dk) (h:mu S w c e):c.length=6:=by obtain⟨v,rfl,_⟩:=h; rfl
theorem mu.below {S:Nat->Prop} {w w':World} {c:List Value} {e:dk} (h:mu S w c e) (hb:Below w.heap.size w w'):mu S w' c e:=by obtain⟨v,h1,h2,h3⟩:=h;exact⟨v,h1,h2.below hb,h3⟩
def eR (S:Nat->Prop) (w:World) (v:Value) (l:List dk):Prop:=cU S w 6 (mu S w) v l
theorem eR.below {S:Nat->Prop} {w w':World} {v:Value} {l:List dk} (h:eR S w v l) (hb:Below w.heap.size w w'):eR S w' v l:=
 cU.below h (by omega) hb (fun _ _ _ hr=>hr.below hb)
theorem eR.nil (S:Nat->Prop) (w:World):eR S w (.slice none 0 0) []:=cU.nil
theorem jN {S:Nat->Prop} {w:World} {a:Option Addr} {n cap:Nat} {l:List dk} (hv:eR S w (.slice a n cap) l) {k:Nat} {e:dk} (hr:l[k]? =some e):
  ∃b o v,a=some ⟨b,o,none⟩/\S b/\b<w.heap.size/\eD S w v e.data/\nu e/\n=l.length/\w.cell? ⟨b,o+k*6,none⟩=some (.string e.path)/\w.cell? ⟨b,o+k*6+1,none⟩=some (.int .i64 e.kind)/\w.cell? ⟨b,o+k*6+2,none⟩=some (.int .i64 e.mode)/\w.cell? ⟨b,o+k*6+3,none⟩=some (.int .i64 e.time)/\w.cell? ⟨b,o+k*6+4,none⟩=some v/\w.cell? ⟨b,o+k*6+5,none⟩=some (.string e.link):=by
 obtain⟨a',cap',he,hn,hm,hg⟩:=cU.shape hv mu.len;simp only[df]at he;obtain⟨rfl,rfl,rfl⟩:=he;obtain⟨b,o,c,ha,hb,⟨v,hc,hd,hh⟩,hl,hj⟩:=hg k e hr;subst hc;have hf:=hj 0 (by omega);exact⟨b,o,v,ha,hb,cR (hf.trans rfl),hd,hh,rfl,hf,by have h:=hj 1 (by omega); rwa [<-dp]at h,by have h:=hj 2 (by omega); rwa [<-dp]at h,by have h:=hj 3 (by omega); rwa [<-dp]at h,by have h:=hj 4 (by omega); rwa [<-dp]at h,by have h:=hj 5 (by omega); rwa [<-dp]at h⟩
open Go Go.RowKit Go.Maps
abbrev pX :=Value×dk
theorem gB :Keyed Tryz.prog 9:=string_keyed eo
theorem iL {n:ByteArray} (h:n.size<=maxLen): ∃l,keyOf Tryz.prog 9 (.string n)=some l:=⟨.string n.data.toList,by simp[keyOf,mapKey,Tryz.underlying9,h]⟩
section
variable {S S' : Nat → Prop} {w w' : World} {mb : Nat} {xs : List pX}
end
def Rn :Value:= .agg #[.string ByteArray.empty, .int .i64 0, .int .i64 0, .int .i64 0, .slice none 0 0, .string ByteArray.empty]
section
variable {S S' : Nat → Prop} {w w' : World} {tb mb : Nat} {L : List dk}
end
end
section
open Go.RowKit
theorem ar {w:World} {b k:Nat} {cs:Array Value} {t:TypeId} {x:Nat×Nat} (h:w.heap[b]? =some (.cells cs t x)):w.cell? ⟨b,k,none⟩=cs[k]? :=by simp[World.cell?,h]
theorem Dt (s:ByteArray) (w:World):Calls Tryz.prog 136 #[.string s, .int .u8 0] w fun e w'=>e= .returned (.int .i64 (Lib.indexByte (bl s) 0))/\w=w':=
 (Tryz.strings_IndexByte s 0 w).mono fun _ _ ⟨he,hw⟩=>⟨he,hw.symm⟩
theorem zt (s:ByteArray) (w:World) (hs:s.size<=maxLen):Calls Tryz.prog 149 #[.string s] w fun e w'=>e= .returned (.bool (pw (bl s)))/\w=w':=by
 unfold maxLen at hs;have HX:=ag (show pw (bl s)=(decide (1<=s.size) && decide (s.size<=512) && !(bl s).contains 0) by unfold pw; rw[bi]);have HI:=ag (lF (bl s) 0)
 go_enter Tryz.func149,Tryz.ntmps149
 go_wp2_with (go_at_call 136; refine(Dt s _).mono ?_; rintro e w3 ⟨rfl,rfl⟩)
 ·go_ret;refine⟨cj ?_,rfl⟩;have z1:decide (1<=s.size)=true:=by simp; omega
  have z2:decide (s.size<=512)=true:=by simp; omega
  rw[HX.o,z1,z2,<-HI.o];rw[dy];simp
 ·go_ret;refine⟨cj ?_,rfl⟩;have z2:decide (s.size<=512)=false:=by simp; omega
  rw[HX.o,z2];simp
 ·go_ret;refine⟨cj ?_,rfl⟩;have z1:decide (1<=s.size)=false:=cE (by omega);rw[HX.o,z1];simp
theorem tj (s:ByteArray) (b:Bool) (w:World) (he:nJ w) (h:dH (bl s)=b):Calls Tryz.prog 119 #[.string s] w fun e w'=>e= .returned (.bool b)/\Below w.heap.size w w':=by rw[<-h]; exact uY s w he
theorem GN (S:Nat->Prop) (en:dk) (v:Value) (w:World) (hd:eD S w v en.data) (hok:nu en) (henv:nJ w):Calls Tryz.prog 117 #[JW v en] w fun e w'=>e= .returned (.bool (ij en))/\Below w.heap.size w w':=by
 obtain⟨_,a,cap,rfl,hc,hm,-⟩:=hd;unfold maxLen at hm;have HE:=ag henv;have HO:=ag hok;have hp:=hok.pth;have hq:=hok.lnk;unfold maxLen at hp hq;have HL:=ag (show en.link.toList.isEmpty=decide (en.link.size=0) by rw[fF,bi,dy]; simp);clear henv hok;unfold JW
 cases hv:dH (bl en.path)
 ·have hk:=ag hv;clear hv
  go_enter Tryz.func117,Tryz.ntmps117
  go_wp2_with fail;obtain⟨W,hW⟩:=bH (w.alloc (.cells #[.string en.path, .int .i64 en.kind, .int .i64 en.mode, .int .i64 en.time, .slice a en.data.length cap, .string en.link] 79));rw[<-hW];have hg:=ag (show Below w.heap.size w W by rw[hW]; exact eT);have hh:=ag (show W.heap[w.heap.size]? =some (.cells #[.string en.path, .int .i64 en.kind, .int .i64 en.mode, .int .i64 en.time, .slice a en.data.length cap, .string en.link] 79 (0,0)) by rw[hW]; exact aC w _)
  clear hW;refine(tj en.path false _ (HE.o.below hg.o) hk.o).mono ?_;rintro e w1 ⟨rfl,he⟩;have ha:=ag (aj hg.o he);clear he;go_wp2_with fail;go_ret;exact⟨cj (by simp[ij,hk.o]),ha.o⟩
 ·have hk:=ag hv;clear hv
  by_cases ho:0<=en.mode/\en.mode<=511/\0<=en.time
  ·have HH:=ag (show ij en=kY en by obtain⟨x1,x2,x3⟩:=ho; unfold ij oy; rw[hk.o]; simp[x1,x2,x3]);obtain⟨hr,hs,hu⟩:=ho
   go_enter Tryz.func117,Tryz.ntmps117
   go_wp2_with fail;obtain⟨W,hW⟩:=bH (w.alloc (.cells #[.string en.path, .int .i64 en.kind, .int .i64 en.mode, .int .i64 en.time, .slice a en.data.length cap, .string en.link] 79));rw[<-hW];have hg:=ag (show Below w.heap.size w W by rw[hW]; exact eT);have hh:=ag (show W.heap[w.heap.size]? =some (.cells #[.string en.path, .int .i64 en.kind, .int .i64 en.mode, .int .i64 en.time, .slice a en.data.length cap, .string en.link] 79 (0,0)) by rw[hW]; exact aC w _)
   clear hW;refine(tj en.path true _ (HE.o.below hg.o) hk.o).mono ?_;rintro e w1 ⟨rfl,he⟩;have hb:=ag ((he.block w.heap.size ((aN.1 hh.o).1)).trans hh.o);have ha:=ag (aj hg.o he);have hn:w.heap.size<w1.heap.size:=(aN.1 hb.o).1;obtain⟨c0,c1,c2,c3,c4,c5,_⟩:=aT hb.o;clear he hh
   by_cases hf:en.kind=1
   ·have e1:(en.kind == 1)=true:=by simp[hf]
    have HK:=ag (show kY en=(decide (en.data.length<=1048576) && decide (en.link.size=0)) by unfold kY; rw[if_pos hf]);clear hf;go_wp2_with fail
    ·go_ret;refine⟨cj ?_,ha.o⟩;rw[HH.o,HK.o,HL.o,de (p:=en.data.length<=1048576) (by omega)]
     rfl
    ·go_ret;refine⟨cj ?_,ha.o⟩;rw[HH.o,HK.o,cE (p:=en.data.length<=1048576) (by omega)]
     rfl
   ·have e1:(en.kind == 1)=false:=by simp[hf]
    by_cases hj:en.kind=2
    ·have e2:(en.kind == 2)=true:=by simp[hj]
     have HK:=ag (show kY en=(decide (en.data.length=0) && decide (en.link.size=0)) by unfold kY; rw[if_neg hf,if_pos hj]);clear hf hj;go_wp2_with fail
     ·go_ret;refine⟨cj ?_,ha.o⟩;rw[HH.o,HK.o,HL.o,de (p:=en.data.length=0) (by rw[show en.data=[] by assumption]; rfl)]
      rfl
     ·go_ret;refine⟨cj ?_,ha.o⟩;rw[HH.o,HK.o,cE (p:=en.data.length=0) (fun h=>absurd (bq h) (by assumption))]
      rfl
    ·have e2:(en.kind == 2)=false:=by simp[hj]
     by_cases hl:en.kind=3
     ·have e3:(en.kind == 3)=true:=by simp[hl]
      have HK:=ag (show kY en=(decide (en.data.length=0) && pw (bl en.link)) by unfold kY; rw[if_neg hf,if_neg hj,if_pos hl]);clear hf hj hl;go_wp2_with (go_at_call 149; refine(zt en.link _ HO.o.lnk).mono ?_; rintro e w3 ⟨rfl,rfl⟩)
      ·go_ret;refine⟨cj ?_,ha.o⟩;rw[HH.o,HK.o,de (p:=en.data.length=0) (by rw[show en.data=[] by assumption]; rfl)]
       rfl
      ·go_ret;refine⟨cj ?_,ha.o⟩;rw[HH.o,HK.o,cE (p:=en.data.length=0) (fun h=>absurd (bq h) (by assumption))]
       rfl
     ·have e3:(en.kind == 3)=false:=by simp[hl]
      have HK:=ag (show kY en=false by unfold kY; rw[if_neg hf,if_neg hj,if_neg hl]);clear hf hj hl;go_wp2_with fail;go_ret;exact⟨cj (by rw[HH.o,HK.o]),ha.o⟩
  ·have HF:=ag (show ij en=false by
    have:oy en=false:=by unfold oy; rw[fw]; simp; omega
    unfold ij; rw[this]; simp)
   go_enter Tryz.func117,Tryz.ntmps117
   go_wp2_with fail;obtain⟨W,hW⟩:=bH (w.alloc (.cells #[.string en.path, .int .i64 en.kind, .int .i64 en.mode, .int .i64 en.time, .slice a en.data.length cap, .string en.link] 79));rw[<-hW];have hg:=ag (show Below w.heap.size w W by rw[hW]; exact eT);have hh:=ag (show W.heap[w.heap.size]? =some (.cells #[.string en.path, .int .i64 en.kind, .int .i64 en.mode, .int .i64 en.time, .slice a en.data.length cap, .string en.link] 79 (0,0)) by rw[hW]; exact aC w _)
   clear hW;refine(tj en.path true _ (HE.o.below hg.o) hk.o).mono ?_;rintro e w1 ⟨rfl,he⟩;have hb:=ag ((he.block w.heap.size ((aN.1 hh.o).1)).trans hh.o);have ha:=ag (aj hg.o he);have hn:w.heap.size<w1.heap.size:=(aN.1 hb.o).1;obtain⟨c0,c1,c2,c3,c4,c5,_⟩:=aT hb.o;clear he hh;go_wp2_with fail
   all_goals first
    | (exfalso; omega)
    | (go_ret; exact⟨cj (by rw[HF.o]),ha.o⟩)
theorem JO (S:Nat->Prop) (v:Value) (bs:List UInt8) (w:World) (hd:eD S w v bs) (hl:bs.length<=140737488355328):Calls Tryz.prog 175 #[v] w fun e w'=> ∃v',e= .returned v'/\w'.ownsRow w.heap.size 5 1 v' bs.length (bs.map u8V)/\Below w.heap.size w w':=by
 obtain⟨_,a,cap,rfl,hn,hm,h0⟩:=hd
 cases a with
 | none=>
  have hz:bs.length=0:=by
   rcases h0 with h0 | ⟨b,o,ha,_⟩
   ·exact h0
   ·cases ha
  obtain rfl:=bq hz;refine(Any.bytes_Clone_nil Tryz.laysClone _ _ w).mono ?_;rintro e w' ⟨rfl,rfl⟩;exact⟨_,rfl,bN _ _ _ _,ak _ _⟩
 | some a=>
  refine(Any.bytes_Clone_at Tryz.laysClone a bs.length cap (bs.map fun b=>(b.toNat:Int)) w (by simp) hl ?_).mono ?_
  ·intro i hi
   rcases h0 with h0 | ⟨b,o,ha,_,hc⟩
   ·omega
   ·cases ha
    rw[tA];refine hc i _ ?_;simp[hi,u8V]
  ·rintro e w' ⟨v',rfl,h1,_,h2⟩;refine⟨v',rfl, ?_,h2⟩;rw[gV]at h1;exact h1
theorem gP {w:World} {base base' size n:Nat} {e:TypeId} {v:Value} {xs:List Value} (h:w.ownsRow base e size v n xs) (hb:base'<=base):w.ownsRow base' e size v n xs:=
 ⟨h.1,h.2.imp id (fun⟨g,cap,cur,e1,h1,h2⟩=>⟨g,cap,cur,e1,an hb h1,h2⟩)⟩
theorem qU {w:World} {b k:Nat} {cs:Array Value} {t:TypeId} (h:w.heap[b]? =some (.cells cs t (0,0))):w.frozen? ⟨b,k,none⟩=false:=by simp[World.frozen?,h]
theorem NW {w:World} {b k:Nat} {cs:Array Value} {t:TypeId} (h:w.heap[b]? =some (.cells cs t (0,0))) (x:Value):(w.setCell ⟨b,k,none⟩ x).heap[b]? =some (.cells (cs.setIfInBounds k x) t (0,0)):=by simp only[World.setCell,gR,if_true,h,dE]; rfl
theorem yq {w:World} {b c k:Nat} {o:Obj} (h:w.heap[b]? =some o) (hne:b≠c) (x:Value):(w.setCell ⟨c,k,none⟩ x).heap[b]? =some o:=by rw[az _ _ _ _ hne]; exact h
theorem nz {w:World} {b:Nat} {o:Obj} (h:w.heap[b]? =some o) (x:Obj):(w.alloc x).heap[b]? =some o:=by have ha:=(aN.1 h).1;rw[cN _ _ _ ha]; exact h
theorem ez (w:World) (x:Obj):(w.alloc x).heap[w.heap.size]? =some x:=by show(w.heap.push x)[w.heap.size]? =some x; simp
theorem ql (w:World) (x y:Obj):((w.alloc x).alloc y).heap[w.heap.size+1]? =some y:=by
 have:=ez (w.alloc x) y
 rwa [show(w.alloc x).heap.size=w.heap.size+1 by show(w.heap.push x).size=_; simp]at this
theorem ml {w:World} {b:Nat} {o:Obj} (h:w.heap[b]? =some o):b<w.heap.size:=(aN.1 h).1
theorem vi {B:Nat} {a w:World} {b k:Nat} {x:Value} (h:Below B a w) (hb:B<=b):Below B a (w.setCell ⟨b,k,none⟩ x):=cz h hb x
open Go Go.RowKit
theorem rV {S:Nat->Prop} {w:World} {a:Option Addr} {n cap:Nat} {bs:List UInt8} (h:bB S w (.slice a n cap) bs) {s e:Nat} (hs:s<e) (he:e<=bs.length):
  ∃a' cap',(∀w',(Instr.slice 29 (.slice a n cap) (some (.int .i64 (s:Int))) (some (.int .i64 (e:Int))) none).run Tryz.prog w'= .ok (.slice a' (je bs s e).length cap') w')/\bB S w (.slice a' (je bs s e).length cap') (je bs s e):=by
 obtain⟨hl,a0,cap0,hv,hn,hm,h0⟩:=h;simp only[df]at hv;obtain⟨rfl,rfl,rfl⟩:=hv;have hz: ∀w',(sizeOf (Tryz.prog.elem 29)).run Tryz.prog w'= .ok 1 w':=fun _=>by kernel_rfl
 have ha:(je bs s e).length=e-s:=by unfold je; rw[aW,bz]; omega
 refine⟨if cap-s=0 then a else a.map (fun p=>p.add s),cap-s,fun w'=> ?_, ?_⟩
 ·rw[run_slice_lh _ _ _ _ _ cV .i64 .i64 (s:Int) (e:Int) (by omega) (by omega) (by omega),hz,ha];simp only[Result.andThen,sliced,fx,kr];rw[if_neg (by omega: ¬cap-s=0)]
  try rw[if_neg (by omega)]
 ·refine⟨by simp,_,_,rfl,by omega,by omega, ?_⟩
  rcases h0 with h0 | ⟨b,o,rfl,hS,hc⟩
  ·omega
  ·refine .inr ⟨b,o+s, ?_,hS,fun j x hj=> ?_⟩
   ·rw[if_neg (by omega),dE,jU]
   ·rw[dp];refine hc (s+j) x ?_;unfold je at hj;rw[List.map_take,List.map_drop,eF]at hj
    split at hj
    ·rw[fN]at hj; exact hj
    ·cases hj
def QW (k n:Nat):Prop:=k=1-> ¬1048576<n
def sL (c:fQ) (n:Nat):Int:=if jT c=true then(if 1048576<n then 2 else 0)else 1
theorem oH (c:fQ) (b:Bool) (w:World) (h:jT c=b):Calls Tryz.prog 70 #[kB c] w fun e w'=>e= .returned (.bool b)/\Below w.heap.size w w':=by rw[<-h]; exact BM c w
theorem wO (c:fQ) (a:Option Addr) (n cap sb:Nat) (w:World) (hx:w.cell? ⟨sb,0,none⟩=some (.slice a n cap)) (hm:n<=maxLen):
  Calls Tryz.prog 173 #[kB c, .slice (some ⟨sb,0,none⟩) 1 1] w fun e w'=>e= .returned (.int .i64 (sL c n))/\Below w.heap.size w w':=by
 unfold maxLen at hm;have HX:=ag hx;clear hx;unfold kB
 by_cases hv:jT c=true
 ·have HV:=ag hv;have HE:=ag (show sL c n=if 1048576<n then 2 else 0 by unfold sL; rw[if_pos hv]);clear hv
  go_enter Tryz.func173,Tryz.ntmps173
  go_wp2_with (go_at_call 70; refine(oH c true _ HV.o).mono ?_; rintro e w1 ⟨rfl,hd⟩; have he:=ag (((ak _ _).alloc (ah w.heap.size) _).trans (hd.mono (by simp))); clear hd)
  go_loopw [12] (fun i wr=> ∃k:Nat,k<=1/\i= .int .i64 (k:Int)/\Below w.heap.size w wr/\QW k n) (fun i _=>1-(intOf i).toNat)
  ·exact⟨0,by omega,rfl,he.o,fun h=>by cases h⟩
  ·obtain⟨k,hk,rfl,hb,ha⟩:=hrel;have HB:=ag hb;have hf:=ag ha;clear hb ha
   by_cases h0:k=0
   ·subst h0;have hc:=(HB.o.cell (cR HX.o)).trans HX.o
    by_cases hn:1048576<n
    ·have hg:(1048576:Int)<(n:Int):=by omega
     go_wp2_with fail;go_ret;exact⟨dK (by rw[HE.o,if_pos hn]),HB.o⟩
    ·have hg:(n:Int)<=1048576:=by omega
     go_wp2_with fail
     go_roundw
     ·exact⟨1,by omega,by go_num,HB.o,fun _=>hn⟩
     simp[intOf]
   ·have h1:k=1:=by omega
    subst h1;go_wp2_with fail;go_ret;exact⟨dK (by rw[HE.o,if_neg (hf.o rfl)]),HB.o⟩
 ·have HV:=ag (show jT c=false by simpa using hv);have HE:=ag (show sL c n=1 by unfold sL; rw[if_neg hv]);clear hv
  go_enter Tryz.func173,Tryz.ntmps173
  go_wp2_with (go_at_call 70; refine(oH c false _ HV.o).mono ?_; rintro e w1 ⟨rfl,hd⟩; have he:=ag (((ak _ _).alloc (ah w.heap.size) _).trans (hd.mono (by simp))); clear hd);go_ret;exact⟨dK HE.o.symm,he.o⟩
theorem ME (c:fQ) (dv:Value) (w:World) (hd: ∃a n cap,dv= .slice a n cap):Calls Tryz.prog 174 #[kB c,dv] w fun e w'=>e= .returned (.func (.func 186) #[] #[.pointer (some ⟨w.heap.size,0,none⟩), .pointer (some ⟨w.heap.size+1,0,none⟩)])/\
  kZ c dv w.heap.size (w.heap.size+1) w'/\Below w.heap.size w w'/\w'.heap.size=w.heap.size+2:=by
 obtain⟨a,n,cap,rfl⟩:=hd;unfold kB
 go_enter Tryz.func174,Tryz.ntmps174
 go_wp2_with fail;go_ret;exact⟨rfl,⟨nz (ez w _) _,ql w _ _⟩,(eT).alloc (by simp) _,by simp⟩
end
section
open Go
section
variable {P : Program} {l n : Nat}
theorem CH {f:FuncId} {args:Array Value} {w:World} {R:Ending->World->Prop} (h:Calls P f args w R):CallsIn (Fence.wide.inRound l) n P f args w R:=CallsIn.inRound l (callsIn_wide.2 h)
theorem GM {o:Oper} {a:Act} {next:Act->World->Prop} {Q:Exit->Act->World->Prop} {r:Result Next} (h:o.upon P a next Q r):o.uponIn (Fence.wide.inRound l) n P a next Q r:=by
 cases r with
 | ok x w=>
  cases x with
  | value v=>exact h
  | skip=>exact h
  | defer d=>exact h
  | enter f args=>exact⟨fun e=>(by cases e),CH h⟩
  | row row args=>
   exact⟨fun e=>(by cases e),fun c cs _=>by obtain⟨v,w',h1,h2⟩:=(show Rows P row args w _ from h) c cs;exact⟨v,w',h1,stepsIn_wide.2 h2⟩⟩
  | _=>exact h.elim
 | halt x w=>
  cases x<;> first | exact h | exact h.elim
def qn (o:Oper):Bool:=match o.op with | .defer _=>false | _=>true
theorem Nt {o:Oper} {a:Act} {w:World} {K:Act->World->Prop} {Q:Exit->Act->World->Prop} (hd:qn o=true) (h:o.wp P a w K Q):o.wpIn (Fence.wide.inRound l) n P a w K Q:=
 ⟨fun _ _=>trivial,by rw[Oper.semAt_eq _ _ _ (fun c e=>by simp[qn,e]at hd)];exact GM h⟩
theorem GS {L:List Oper} {Q:Exit->Act->World->Prop} (hd:L.all qn=true) (hno: ¬LetsOut Q) {i:Nat} {K:Act->World->Prop} {a:Act} {w:World} (h:wpOp P L.toArray Q i K a w):wpOpIn (Fence.wide.inRound l) n P L.toArray Q i K a w:=by
 unfold wpOp at h;unfold wpOpIn
 cases hx:L.toArray[i]? with
 | none=>rw[hx]at h; exact h
 | some x=>
  rw[hx]at h;simp only at h ⊢;have ha:qn x=true:=cB.1 hd x (aM (by simpa using hx))
  split at h
  ·rename_i hw;rw[if_pos hw]
   rcases h with h | h
   ·exact Nt ha h
   ·exact absurd h.2 hno
  ·rename_i hw;rw[if_neg hw];exact⟨fun _ _=>trivial,h⟩
theorem vP {L:List Oper} {md:Region.Mode} {Q:Exit->Act->World->Prop} (hd:L.all qn=true) (hno: ¬LetsOut Q): ∀(fuel:Nat) (listed:Array Bool) (a:Act) (w:World),wpAny P md L.toArray Q fuel listed a w->wpAnyIn (Fence.wide.inRound l) n P md L.toArray Q fuel listed a w
 | 0,_,_,_,h=>h
 | fuel+1,_,_,_,h=>⟨h.1,fun i hi=>wpOpIn_mono (fun a' w' h'=>vP hd hno fuel _ a' w' h') (GS hd hno (h.2 i hi))⟩
theorem FC {id:Nat} {a:Act} {w:World} {L:List Oper} {Q:Exit->Act->World->Prop} (S:World->Prop) (hm:P.follows .mixedOrders=true) (hnd:L.all qn=true) (hno: ¬LetsOut Q) (hB:DF .any L=true)
  (h:pV P L.dropLast.toArray (zx P L.toArray (L.length-1) Q) S (L.length-1) (Array.replicate L.length false) a w.drew):(Code.region id L.toArray true).wpIn (Fence.wide.inRound l) n P Q a w:=by
 simp only[DF,aE,aG]at hB;obtain⟨⟨hc,hd⟩,hb⟩:=hB;have ha: ∀(i:Nat) (x:Oper),L[i]? =some x->(∀e∈x.after,e.on<i)/\ ∀j b,x.guard=some (j,b)->j<i:=fun i x hx=>by
  have:=cB.1 hb i (eh.2 (aA.1 hx).1);rw[hx]at this;simp only[aE]at this;refine⟨fun e he=> ?_,fun j b hg=> ?_⟩
  ·have:=Array.all_eq_true'.1 this.1 e he
   simpa using this
  ·have:=this.2;rw[hg]at this
   simpa using this
 refine wpIn_region_any hm ?_;have:=Ij hc hd (fun i x hx=>(ha i x hx).1) (fun i x j b hx=>(ha i x hx).2 j b) (L.length-1) _ a w.drew Dq (wpAny_of_held _ _ _ _ (by simpa using h.out));rw[show L.length-1+1=L.length by omega]at this;refine vP hnd hno _ _ _ _ ?_
 simpa using this
def Nk (Q:Exit->Act->World->Prop):Exit->Act->World->Prop
 | .outgrown,_,_=>False
 | e,a,w=>Q e a w
@[go_sem] theorem BV (Q:Exit->Act->World->Prop) (a:Act) (w:World):Nk Q .normal a w=Q .normal a w:=rfl
theorem KB (Q:Exit->Act->World->Prop): ¬LetsOut (Nk Q):=fun⟨_,_,h⟩=>h
theorem FB {id:Nat} {a:Act} {w:World} {L:List Oper} {Q:Exit->Act->World->Prop} (S:World->Prop) (hm:P.follows .mixedOrders=true) (hnd:L.all qn=true) (hB:DF .any L=true)
  (h:pV P L.dropLast.toArray (zx P L.toArray (L.length-1) (Nk Q)) S (L.length-1) (Array.replicate L.length false) a w.drew):(Code.region id L.toArray true).wpIn (Fence.wide.inRound l) n P Q a w:=
 wpIn_mono (FC S hm hnd (KB Q) hB h) (fun e _ _ h=>by cases e<;> first | exact h | exact h.elim)
end
open Go Go.RowKit Go.Maps
theorem Tryz.appEnts :kz Tryz.prog 46 79 6 80:=kz.mk' (z:=Rn) Tryz.underlying46 (by kernel_rfl) rfl (by decide) (by decide)
def jx (ys:List pX):List Value:=ys.flatMap fun y=>vR y.1 y.2
theorem xk (ys:List pX) (y:pX):jx (ys++[y])=jx ys++vR y.1 y.2:=by simp[jx]
theorem zX : ∀ys:List pX,(jx ys).length=ys.length*6
 | []=>rfl
 | y::ys=>by have:=zX ys;unfold jx at this ⊢;rw[bC,ai,this,ay,show(vR y.1 y.2).length=6 from rfl]; omega
theorem ln {a:Option Addr} {n c:Nat} {e:dk} : ∀u∈vR (.slice a n c) e,u.oneCell'=true:=by
 intro u hu;simp only[vR,aU,du,or_false]at hu
 rcases hu with rfl | rfl | rfl | rfl | rfl | rfl<;> rfl
theorem zW : ∀ {ys:List pX} {k:Nat} {y:pX},ys[k]? =some y-> ∀j,j<6->(jx ys)[k*6+j]? =(vR y.1 y.2)[j]?
 | [],k,_,h,_,_=>by simp at h
 | x::ys,0,y,h,j,hj=>by simp at h; subst h;unfold jx;rw[bC,jl,bO,bJ (by exact hj)]
 | x::ys,k+1,y,h,j,hj=>by
  have:=zW (ys:=ys) (k:=k) (y:=y) (by simpa using h) j hj;unfold jx at this ⊢;rw[bC,bE (by show 6<=_; omega),<-this]
  congr 1
  show(k+1)*6+j-6=_
  omega
theorem PE {w:World} {base n cap:Nat} {a:Option Addr} {ys:List pX} {m:Nat} (h:w.ownsRow base 79 6 (.slice a n cap) m (jx ys)) {k:Nat} {y:pX} (hk:ys[k]? =some y):
  ∃b,a=some ⟨b,0,none⟩/\base<=b/\b<w.heap.size/\n=ys.length/\w.cell? ⟨b,k*6,none⟩=some (.string y.2.path)/\w.cell? ⟨b,k*6+1,none⟩=some (.int .i64 y.2.kind)/\w.cell? ⟨b,k*6+2,none⟩=some (.int .i64 y.2.mode)/\w.cell? ⟨b,k*6+3,none⟩=some (.int .i64 y.2.time)/\w.cell? ⟨b,k*6+4,none⟩=some y.1/\w.cell? ⟨b,k*6+5,none⟩=some (.string y.2.link):=by
 have ha:=h.1;rw[zX]at ha;have hm:m=ys.length:=by omega
 subst hm;have hr:=cK h;obtain⟨_,a',cap',he,_,_,h0⟩:=hr;simp only[df]at he;obtain⟨rfl,rfl,rfl⟩:=he;have hf:=(aA.1 hk).1
 rcases h0 with h0 | ⟨b,o,rfl,hb,hc⟩
 ·omega
 ·rcases h.2 with⟨hn,_⟩ | ⟨g,cp,cur,hv,hd,hh,_⟩
  ·cases hn
  ·simp only[df,aV,iK]at hv;obtain⟨⟨rfl,rfl,-⟩,-,rfl⟩:=hv;have g:=fun j (hj:j<6)=>hc (k*6+j) _ ((zW hk j hj).trans (bn (l:=vR y.1 y.2) hj))
   have g0:=g 0 (by omega);have g1:=g 1 (by omega);have g2:=g 2 (by omega);have g3:=g 3 (by omega);have g4:=g 4 (by omega);have g5:=g 5 (by omega);simp only[bO,dh]at g0 g1 g2 g3 g4 g5;exact⟨b,rfl,hd,(aN.1 hh).1,rfl,g0,g1,g2,g3,g4,g5⟩
theorem eD.slice {S:Nat->Prop} {w:World} {v:Value} {bs:List UInt8} (h:eD S w v bs): ∃a c,v= .slice a bs.length c/\bs.length<=c/\c<=maxLen:=by obtain⟨_,a,c,rfl,h1,h2,_⟩:=h;exact⟨a,c,rfl,h1,h2⟩
theorem cY {w w':World} {B n sz:Nat} {e:TypeId} {v:Value} {xs:List Value} (h:w.ownsRow B e sz v n xs) (hb:Below w.heap.size w w'):w'.ownsRow B e sz v n xs:=by
 refine h.kept (row:=none) ⟨hb.os,hb.tape,hb.output,hb.size,fun k hk _=>hb.block k hk⟩ ?_
 cases hv:v.ownBlock
 ·exact .inl rfl
 ·exact .inr (by simp)
attribute [local go_sem] Oper.semAt_some
theorem Tryz.appChunks :kz Tryz.prog 181 29 1 24:=kz.mk' (z:= .slice none 0 0) Tryz.underlying181 (by kernel_rfl) rfl (by decide) (by decide)
def LU (B:Nat) (v:Value) (L:List (List UInt8)) (w:World):Prop:=
 ∃ys:List (Value×List UInt8),ys.map Prod.snd=L/\w.ownsRow B 29 1 v ys.length (ys.map Prod.fst)/\ ∀y∈ys,w.ownsRow B 5 1 y.1 y.2.length (y.2.map aZ)
theorem nN {A B:World} {row:Option Nat} {base sz m:Nat} {t:TypeId} {v:Value} {xs:List Value} (h:A.ownsRow base t sz v m xs) (hg:A.grownBy B row) (hr: ∀r,row=some r-> ∀cs,A.heap[r]? ≠some (.cells cs t (0,0))):B.ownsRow base t sz v m xs:=by
 refine h.kept hg ?_
 rcases h.2 with⟨rfl,_⟩ | ⟨g,cap,cur,rfl,_,ha,_⟩
 ·exact .inl rfl
 ·exact .inr fun e'=>hr g (by simpa [Value.ownBlock]using e'.symm) cur ha
theorem Gb {A:World} {b1 b2 s1 s2 m1 m2:Nat} {t1 t2:TypeId} {v1 v2:Value} {x1 x2:List Value} (h1:A.ownsRow b1 t1 s1 v1 m1 x1) (h2:A.ownsRow b2 t2 s2 v2 m2 x2) (ht:t1≠t2):v1.ownBlock=none\/v1.ownBlock≠v2.ownBlock:=by
 cases h:v1.ownBlock with
 | none=>exact .inl rfl
 | some k=>
  refine .inr fun e=> ?_
  obtain⟨_,c1,d1⟩:=pp h1 h;obtain⟨_,c2,d2⟩:=pp h2 e.symm;rw[d1]at d2
  cases d2
  exact ht rfl
def ChI (bx:Nat) (data:List UInt8) (w4:World) (pre:List Nat) (W:World):Prop:=
 (∃(ys:List (Value×List UInt8)) (v:Value),ys.map Prod.snd=jO data 0 pre/\ys.length=pre.length/\W.heap[bx]? =some (.cells #[v] 181 (0,0))/\W.ownsRow (bx+4) 29 1 v ys.length (ys.map Prod.fst)/\ ∀y∈ys,W.ownsRow (bx+4) 5 1 y.1 y.2.length (y.2.map aZ))/\
 W.heap[bx+1]? =some (.cells #[.int .i64 ((mr pre:Nat):Int)] 3 (0,0))/\Below bx w4 W
theorem ChI.turn {bx:Nat} {data:List UInt8} {w4:World} {pre:List Nat} {A B:World} {row:Option Nat} (h:ChI bx data w4 pre A) (h4:w4.heap.size=bx+4) (hg:A.grownBy B row) (hr: ∀r,row=some r->bx+4<=r/\ ∀cs t,A.heap[r]? =some (.cells cs t (0,0))->t=239):ChI bx data w4 pre B:=by
 obtain⟨⟨ys,v,h1,h2,h3,h5,h6⟩,h7,h8⟩:=h;have hs:=h8.size;refine⟨⟨ys,v,h1,h2,(hg.block _ (am h3) (fun e=>by have:=(hr _ e.symm).1; omega)).trans h3,nN h5 hg (fun r e cs hc=>by have:=(hr r e).2 cs _ hc; cases this),fun y hy=>nN (h6 y hy) hg (fun r e cs hc=>by have:=(hr r e).2 cs _ hc; cases this)⟩,
  (hg.block _ (am h7) (fun e=>by have:=(hr _ e.symm).1; omega)).trans h7,h8.grown hg (by omega) (fun k e=>by have:=(hr k e).1; omega)⟩
theorem Iq {bx:Nat} {data:List UInt8} {w4:World} (h4:w4.heap.size=bx+4):OwnFrom w4.heap.size (ChI bx data w4):=fun _ _ _ _ h hg hr=>h.turn h4 hg (fun r e=>⟨by have:=(hr r e).1; omega,fun cs t hc=>by obtain⟨_,o,ho,hw⟩:=hr r e;rw[ho]at hc; cases hc; cases hw⟩)
theorem Mr {bx:Nat} {data:List UInt8} {w4:World} (h4:w4.heap.size=bx+4):Ia 239 w4.heap.size (ChI bx data w4):=fun _ _ _ _ h hg hr=>h.turn h4 hg (fun r e=>⟨by have:=(hr r e).1; omega,fun cs t hc=>by obtain⟨_,cs',ho⟩:=hr r e;rw[ho]at hc; cases hc; rfl⟩)
def EF (c:fQ) (dv:Value) (w0 bx q:Nat):Act:=
 {tmps:= #[kB c,dv, .pointer (some ⟨w0,0,none⟩), .pointer (some ⟨w0+1,0,none⟩), .slice none 0 0, .int .i64 0, .int .i64 0, .pointer (some ⟨bx,0,none⟩), .pointer (some ⟨bx+1,0,none⟩), .int .i64 (q:Int),kB c,dv, .slice (some ⟨w0+1+1,0,none⟩) 1 1, .int .i64 0, .int .i64 0, .bool false,undef,kB c,dv,
   .func (.func 186) #[] #[.pointer (some ⟨bx+2,0,none⟩), .pointer (some ⟨bx+2+1,0,none⟩)], .int .i64 (q:Int),undef,undef,undef,undef,undef,undef,undef,undef,undef,undef],defers:=[]}
def ChA (c:fQ) (dv:Value) (w0 bx:Nat) (data:List UInt8) (w4:World) (pre:List Nat) (q:Nat) (a:Act) (W:World):Prop:=
 ChI bx data w4 pre W/\(mr pre<q/\q<=data.length)/\pre.length<data.length/\a=EF c dv w0 bx q
theorem Pc {c:fQ} {dv:Value} {w0 bx:Nat} {data:List UInt8} {w4:World} (h4:w4.heap.size=bx+4):OwnFrom w4.heap.size (fun(s:List Nat×Nat×Act) W=>ChA c dv w0 bx data w4 s.1 s.2.1 s.2.2 W):=fun s A B row h hg hr=>⟨Iq h4 s.1 A B row h.1 hg hr,h.2⟩
theorem Rs {n b1 b2:Nat} {t:TypeId} {A B C:World} (h:Below n A B/\jD t A B/\Mb b1 b2 A B) (k:Below n B C/\jD t B C/\Mb b1 b2 B C):Below n A C/\jD t A C/\Mb b1 b2 A C:=⟨h.1.trans k.1,h.2.1.trans k.2.1,k.2.2.1.trans h.2.2.1,k.2.2.2.trans h.2.2.2⟩
theorem wQ (S:Nat->Prop) (c:fQ) (data:List UInt8) (dv:Value) (w:World) (hc:jT c=true) (hs:c.seed<18446744073709551616) (hd:bB S w dv data) (hl:data.length<=1048576) (hT:Cu w):
  Calls Tryz.prog 155 #[kB c,dv] w fun e w'=> ∃v,e= .returned (.tuple #[v, .int .i64 0])/\LU w.heap.size v (jO data 0 (qT (qG c data) c.mn.toNat c.mx.toNat data.length)) w'/\Below w.heap.size w w':=by
 have HC:=ag hc;have HD:=ag hd;have HT:=ag hT;obtain⟨_,da,dcap,rfl,H4,yn,-⟩:=id hd;obtain⟨n,hn⟩:=bH data.length;rw[<-hn]at H4 hl HD ⊢;have HN:=ag hn;have HH:=ag (show sL c n=0 by unfold sL; rw[if_pos hc,if_neg (by omega)]);have HL:=ag (show n<=maxLen by unfold maxLen; omega);clear hc hd hT hn;refine(callsIn_wide (n:=4)).1 (callsIn_of_wp_marks Tryz.func155 rfl trivial ?_ rfl)
 simp only[Tryz.ntmps155,bR,ay,bp,Nat.reduceAdd,Nat.reduceSub,Array.replicate_succ,Array.replicate_zero,List.push_toArray,List.append_toArray,aJ,aK];refine(wpIn_wide (n:=4)).2 ?_;unfold kB;go_wp2_with fail;obtain⟨w1,hz⟩:=bH (((w.alloc (.cells #[.int .i64 c.mn, .int .i64 c.mx, .int .i64 c.win, .int .i64 c.bits, .int .u64 (c.seed:Int)] 45)).alloc (.cells #[.slice da n dcap] 29)).alloc (.cells #[.slice da n dcap] 29))
 rw[<-hz];have HB:=ag (show Below w.heap.size w w1 by rw[hz]; exact((eT).alloc (by simp) _).alloc (by simp; omega) _);have HR:=ag (show w1.heap[w.heap.size]? =some (.cells (gx c).toArray 45 (0,0)) by rw[hz]; exact nz (nz (ez w _) _) _);have HU:=ag (show w1.heap[w.heap.size+1]? =some (.cells #[.slice da n dcap] 29 (0,0)) by rw[hz]; exact nz (ql w _ _) _)
 have HX:=ag (show w1.heap[w.heap.size+1+1]? =some (.cells #[.slice da n dcap] 29 (0,0)) by rw[hz]; exact(by have:=aC ((w.alloc (.cells #[.int .i64 c.mn, .int .i64 c.mx, .int .i64 c.win, .int .i64 c.bits, .int .u64 (c.seed:Int)] 45)).alloc (.cells #[.slice da n dcap] 29)) (.cells #[.slice da n dcap] 29); simpa using this));clear hz;have hY:=wO c da n dcap (w.heap.size+1+1) w1 (ar HX.o) HL.o
 rw[HH.o]at hY;unfold kB at hY;refine hY.mono ?_;rintro e w2 ⟨rfl,hu⟩;have hM:=ag (aj HB.o hu);have HS:=ag (eA hu HR.o);have Hq:=ag (eA hu HU.o);clear hY hu;have hH:=ag (nz (nz HS.o (.cells #[.slice none 0 0] 181)) (.cells #[.int .i64 0] 3));have Hr:=ag (nz (nz Hq.o (.cells #[.slice none 0 0] 181)) (.cells #[.int .i64 0] 3));have hG:=ag (nz (ez w2 (.cells #[.slice none 0 0] 181)) (.cells #[.int .i64 0] 3))
 have hE:=ag (ql w2 (.cells #[.slice none 0 0] 181) (.cells #[.int .i64 0] 3));have HE:=ag (((ak w2.heap.size w2).alloc (ah _) (.cells #[.slice none 0 0] 181)).alloc (by simp) (.cells #[.int .i64 0] 3));have h0:((w2.alloc (.cells #[.slice none 0 0] 181)).alloc (.cells #[.int .i64 0] 3)).heap.size=w2.heap.size+2:=by simp
 have c0:=ar (k:=0) hH.o;have c1:=ar (k:=1) hH.o;have c2:=ar (k:=2) hH.o;have c3:=ar (k:=3) hH.o;have c4:=ar (k:=4) hH.o;have y0:=ar (k:=0) Hr.o;simp only[gx,fV]at c0 c1 c2 c3 c4 y0;go_wp2_with fail
 generalize (w2.alloc (.cells #[.slice none 0 0] 181)).alloc (.cells #[.int .i64 0] 3)=w3 at *
 have he:=ME c (.slice da n dcap) w3 ⟨_,_,_,rfl⟩;unfold kB at he;refine he.mono ?_;rintro e w4 ⟨rfl,hZ,hJ,Hy⟩;clear he c0 c1 c2 c3 c4 y0;obtain⟨bx,hm⟩:=bH w2.heap.size;rw[h0]at hZ ⊢;rw[<-hm]at hG hE hZ ⊢;have HF:=ag (hJ.mono (by rw[h0,hm]; omega:bx<=w3.heap.size));have hr:=ag (show Below w2.heap.size w2 w4 from HE.o.trans (by rw[<-hm]; exact HF.o))
 have Hb:=ag (eA hJ hG.o);have Ha:=ag (eA hJ hE.o);have HV:=ag (eA hJ Hr.o);have hw:w4.heap.size=bx+4:=by rw[Hy,h0,hm]
 have HI:=ag hZ;have He:=ag (show w.heap.size+1<bx by rw[hm]; exact am Hq.o);have hO:=ag hm;have Ho:=ag (show bB S w2 (.slice da n dcap) data from HD.o.below (by decide) hM.o);clear hZ hJ Hy h0 hm;go_wp2_with fail;refine LG (gf:=186) (lb:= #[.pointer (some ⟨bx+2,0,none⟩), .pointer (some ⟨bx+2+1,0,none⟩)]) rfl (enters_of Tryz.func186 (by kernel_rfl) rfl)
  (MF S c data (.slice da n dcap) (bx+2) (bx+2+1) w2 w4 HC.o hs HI.o Ho.o (by rw[<-HN.o]; exact hl) (HT.o.block (hM.o.block _ HT.o.lt) hM.o.size) hr.o) Rs (fun W l o o' yp h1 h2 h3=> ?kb) (fun _=>rfl)
  (ChI bx data w4) (fun _ _ _=>False) (ChA c (.slice da n dcap) w.heap.size bx data w4) (Iq hw) (Mr hw) (fun _ _ _ _ _ h _ _=>h) (Pc hw) ⟨⟨[], .slice none 0 0,rfl,rfl,Hb.o,bN _ _ _ _,by simp⟩,Ha.o,ak _ _⟩ ?assign ?body ?done ?stop
 case kb=>
  have yv:=(aN.1 h1).1;have hb:=hO.o;have hg:=grownBy_putObj' W l o';refine⟨mA (ak _ _) hg (by omega) (by omega),jD.grown hg (fun r e cs Hu=>by cases e; rw[h1]at Hu; cases Hu; cases h2),hg.block _ (by omega) (fun e=>by cases e; omega),hg.block _ (by omega) (fun e=>by cases e; omega)⟩
 case assign=>
  rintro l pre q W hW hI hD hN
  gi_wp2
  exact⟨KeepsOthers.refl _,⟨ak _ _,jD.refl _,rfl,rfl⟩,hI,hD,hN,rfl⟩
 case body=>
  rintro l pre q a₁ W ⟨hI,hD,hN,rfl⟩;obtain⟨⟨ys,v,h1,h2,h3,h5,h6⟩,h7,h8⟩:=hI;have H1:=ag h1;have H2:=ag h2;have H3:=ag h3;have H5:=ag h5;have H6:=ag h6;have H7:=ag h7;have H8:=ag h8;obtain⟨s,Hl⟩:=bH (mr pre);rw[<-Hl]at hD H7;have HP:=ag Hl;have y3:=h8.size;clear h1 h2 h3 h5 h6 h7 h8 Hl;obtain⟨av,cv,rfl,y5,y4⟩:=aH H5.o;have HJ:=ag (Ho.o.below (by decide) (hr.o.trans (H8.o.mono (by rw[<-hO.o]; omega))))
  have hR:=ag ((H8.o.block _ (by have:=He.o; omega)).trans HV.o);obtain⟨sa,sc,Hz,Hm⟩:=rV HJ.o hD.1 hD.2;obtain⟨pl,Hj⟩:=bH (je data s q);rw[<-Hj]at Hz Hm;have HO:=ag Hm;have Hp:=ag Hj;clear Hm Hj;simp only[EF]
  gi_wp2
  refine FB (fun w'=>w'.cell? ⟨bx,0,none⟩=some (.slice av ys.length cv)/\w'.cell? ⟨w.heap.size+1,0,none⟩=some (.slice da n dcap)/\w'.cell? ⟨bx+1,0,none⟩=some (.int .i64 (s:Int))) (by kernel_rfl) (by kernel_rfl) (by kernel_rfl) ?_;simp only[bu,bw,ay,bp,Nat.reduceAdd,Nat.reduceSub];obtain⟨V,hV⟩:=bH W.drew
  rw[<-hV];have hF:=ag (show Below W.heap.size W V by rw[hV]; exact(ak _ _).drew);have ya:V.heap.size=W.heap.size:=by rw[hV]; rfl
  clear hV;have k0:=ar (k:=0) (eA hF.o H3.o);have k1:=ar (k:=0) (eA hF.o hR.o);have k2:=ar (k:=0) (eA hF.o H7.o);simp only[aF,aD]at k0 k1 k2
  iterate 5 (refine cF rfl ⟨k0,k1,k2⟩ (by rintro w' ⟨hz,y6,y7⟩; go_simp; first | rfl | (rw[Hz]; rfl)) ?_; simp only[bM])
  have HQ:=ag (show bB S V (.slice sa pl.length sc) pl from HO.o.below (by decide) hF.o);refine cA 5 rfl (fun K hK=> ?_);go_wp2_with fail;refine(JO S _ pl V HQ.o (by rw[Hp.o]; unfold je; rw[aW,bz]; rw[<-HN.o]at hD; omega)).mono ?_;rintro e w5 ⟨v5,rfl,Hh,Ht⟩;obtain⟨a5,e5,rfl,y2,y1⟩:=aH Hh;have HM:=ag Hh;have hf:=ag (show Below W.heap.size W w5 from hF.o.trans (by rw[<-ya]; exact Ht))
  clear Hh Ht k0 k1 k2;have k0:=ar (k:=0) (eA hf.o H3.o);have k1:=ar (k:=0) (eA hf.o hR.o);have k2:=ar (k:=0) (eA hf.o H7.o);simp only[aF,aD]at k0 k1 k2;go_wp2_with fail;refine⟨⟨k0,k1,k2⟩, ?_⟩;have h9:=ag (show Below w5.heap.size w5 (w5.alloc (.cells #[.slice a5 pl.length e5] 29))from eT);have l0:=(h9.o.cell (cR k0)).trans k0
  have l1:=(h9.o.cell (cR k1)).trans k1;have l2:=(h9.o.cell (cR k2)).trans k2;refine cA 6 rfl (fun K hK=> ?_);go_wp2_with fail;refine⟨⟨l0,l1,l2⟩, ?_⟩;clear l0 l1 l2;have Hc:=ag (show w5.ownsRow (bx+4) 29 1 (.slice av ys.length cv) ys.length (ys.map Prod.fst)from cY H5.o hf.o);have HK:=ag (show ys.length<1099511627775 by rw[H2.o]; rw[<-HN.o]at hN; omega)
  have HG:=ag (show bx+4<=w5.heap.size by have:=hf.o.size; omega);refine cA 7 rfl (fun K hK=> ?_);go_wp2_with (at_builtin; go_must (refine bP Tryz.appChunks rfl _ _ rfl (bx+4) (.slice av ys.length cv) ys.length (ys.map Prod.fst) rfl w5 [.slice a5 pl.length e5] 29 rfl rfl (by simp[Value.oneCell']) Hc.o HK.o HG.o ?_); intro v7 w7 hh ha Hg Hk; obtain⟨a7,c7,rfl,-,-⟩:=aH hh)
  have Hv: ∀k,(Value.slice av ys.length cv).ownBlock=some k->bx+4<=k:=fun k e=>(pp Hc.o e).1
  have hX: ∀k,k<w5.heap.size->k<bx+4->w7.heap[k]? =w5.heap[k]? :=fun k h1 h2=>ha.block k h1 (fun e=>by have:=Hv k e.symm; omega)
  have yb:=hf.o.size;have hB:=ag (show w7.heap[bx]? =some (.cells #[.slice av ys.length cv] 181 (0,0)) by rw[hX _ (by omega) (by omega),hf.o.block _ (am H3.o),H3.o]);have hP:=ag (show w7.heap[bx+1]? =some (.cells #[.int .i64 (s:Int)] 3 (0,0)) by rw[hX _ (by omega) (by omega),hf.o.block _ (am H7.o),H7.o]);have HW:=ag (show w7.heap[w.heap.size+1]? =some (.cells #[.slice da n dcap] 29 (0,0)) by rw[hX _ (by have:=He.o; omega) (by have:=He.o; omega),hf.o.block _ (am hR.o),hR.o])
  have Hd:=ag hh;have hA:=ag ha;clear hh ha Hg Hk hX k0 k1 k2;refine⟨⟨ar hB.o,ar HW.o,ar hP.o⟩, ?_⟩;simp only[bM];have k0:=ar (k:=0) hB.o;have f0:=qU (k:=0) hB.o;have f1:=qU (k:=0) hP.o;have k2:=ar (k:=0) hP.o;simp only[aF,aD]at k0 k2;refine cH (by kernel_rfl) ?_
  refine eX rfl rfl (fun K hK=> ?_);go_wp2_with fail;rw[BV]
  gi_wp2
  have H0:(w7.setCell ⟨bx,0,none⟩ (.slice a7 (ys.length+1) c7)).heap[bx]? =some (.cells #[.slice a7 (ys.length+1) c7] 181 (0,0)):=by simpa using NW (k:=0) hB.o (.slice a7 (ys.length+1) c7)
  have Hf:(w7.setCell ⟨bx,0,none⟩ (.slice a7 (ys.length+1) c7)).heap[bx+1]? =some (.cells #[.int .i64 (s:Int)] 3 (0,0)):=yq hP.o (by omega) _;obtain⟨B,hU⟩:=bH ((w7.setCell ⟨bx,0,none⟩ (.slice a7 (ys.length+1) c7)).setCell ⟨bx+1,0,none⟩ (.int .i64 (q:Int)));rw[<-hU];have HY:B.heap[bx]? =some (.cells #[.slice a7 (ys.length+1) c7] 181 (0,0)):=by rw[hU]; exact yq H0 (by omega) _
  have HZ:B.heap[bx+1]? =some (.cells #[.int .i64 (q:Int)] 3 (0,0)):=by rw[hU]; simpa using NW (k:=0) Hf (.int .i64 (q:Int))
  have ho:=cJ (w7) bx 0 (.slice a7 (ys.length+1) c7);have hp:=cJ (w7.setCell ⟨bx,0,none⟩ (.slice a7 (ys.length+1) c7)) (bx+1) 0 (.int .i64 (q:Int));rw[<-hU]at hp;have H9: ∀k,k<w7.heap.size->k≠bx->k≠bx+1->B.heap[k]? =w7.heap[k]? :=fun k h1 h2 h3=>(hp.block k (aO h1 ho.size) (fun e=>h3 (bt e))).trans (ho.block k h1 (fun e=>h2 (bt e)))
  have yc:=hA.o.size;have hC: ∀k,k<W.heap.size->k≠bx->k≠bx+1->(Value.slice av ys.length cv).ownBlock≠some k->B.heap[k]? =W.heap[k]? :=fun k h1 h2 h3 h4=>by rw[H9 k (by omega) h2 h3,hA.o.block k (by omega) (fun e=>h4 e.symm),hf.o.block k h1]
  have hx:W.heap.size<=B.heap.size:=by have:=ho.size; have:=hp.size; omega
  have Hw:B.os=W.os:=by rw[hp.os,ho.os,hA.o.os,hf.o.os]
  have HA:B.tape=W.tape:=by rw[hp.tape,ho.tape,hA.o.tape,hf.o.tape]
  have Hx:B.output=W.output:=by rw[hp.output,ho.output,hA.o.output,hf.o.output]
  have hL: ∀(sz m:Nat) (t:TypeId) (u:Value) (xs:List Value),w5.ownsRow (bx+4) t sz u m xs->t=5->B.ownsRow (bx+4) t sz u m xs:=fun sz m t u xs h ht=>by have h7:w7.ownsRow (bx+4) t sz u m xs:=h.kept hA.o (Gb h Hc.o (by rw[ht]; decide));have h8:=nN h7 ho (fun r e cs hc=>by cases e; rw[hB.o]at hc; cases hc; cases ht);exact nN h8 hp (fun r e cs hc=>by cases e; rw[Hf]at hc; cases hc; cases ht)
  have hj: ∀k,k<bx+4->(Value.slice av ys.length cv).ownBlock≠some k:=fun k h1 e=>by have:=Hv k e; omega
  refine⟨⟨hx,fun k o hq Hi=> ?_⟩,⟨⟨Hw,HA,Hx,hx,fun k hk=> ?_⟩,fun k cs hk=> ?_, ?_, ?_⟩,⟨ys++[(.slice a5 pl.length e5,pl)], .slice a7 (ys.length+1) c7, ?_, ?_,HY, ?_, ?_⟩, ?_, ?_⟩
  ·rw[hC k (aN.1 hq).1 (fun e=>by rw[e,H3.o]at hq; cases hq; cases Hi) (fun e=>by rw[e,H7.o]at hq; cases hq; cases Hi) (fun e=>by obtain⟨_,cur,hv⟩:=pp H5.o e;rw[hv]at hq; cases hq; cases Hi)]
   exact hq
  ·rw[<-hO.o]at hk;exact hC k (by omega) (by omega) (by omega) (hj k (by omega))
  ·exact hC k (aN.1 hk).1 (fun e=>by rw[e,H3.o]at hk; cases hk) (fun e=>by rw[e,H7.o]at hk; cases hk) (fun e=>by obtain⟨_,cur,hv⟩:=pp H5.o e;rw[hv]at hk; cases hk)
  ·exact hC _ (by omega) (by omega) (by omega) (hj _ (by omega))
  ·exact hC _ (by omega) (by omega) (by omega) (hj _ (by omega))
  ·rw[aI,H1.o,lX,Hp.o,HP.o]; rfl
  ·rw[ai,ai,H2.o]; rfl
  ·rw[ai,aI];have h8:=nN Hd.o ho (fun r e cs hc=>by cases e; rw[hB.o]at hc; cases hc);exact nN h8 hp (fun r e cs hc=>by cases e; rw[Hf]at hc; cases hc)
  ·intro y hy
   rcases aP.1 hy with hy | hy
   ·exact hL _ _ _ _ _ (cY (H6.o y hy) hf.o) rfl
   ·rw[aL.1 hy];exact hL _ _ _ _ _ (gP HM.o (by omega)) rfl
  ·rw[mG]; exact HZ
  ·refine H8.o.trans ⟨Hw,HA,Hx,hx,fun k hk=>hC k (by omega) (by omega) (by omega) (hj k (by omega))⟩
 case done=>
  rintro Dl ys W yl hS ⟨⟨zs,v,h1,h2,h3,h5,h6⟩,h7,h8⟩ hK;have hc:=ar (k:=0) h3;simp only[aF,aD]at hc;go_wp2_with fail;have hu:=hM.o;have hm:=hO.o;refine⟨by simp, .inl ⟨_,_,rfl,run_takeDeferred hK, ?_⟩⟩;have Hn:=hu.size;refine⟨_,results_tmp2 rfl _ _ _,v,rfl,⟨zs,by rw[h1,hS,HN.o],ownsRow_putObj (gP h5 (by omega)) _ hK rfl,fun y hy=>ownsRow_putObj (gP (h6 y hy) (by omega)) _ hK rfl⟩, ?_⟩
  have Hs:Below w.heap.size w W:=(hu.trans (hr.o.mono Hn)).trans (h8.mono (by omega));exact mA Hs (grownBy_putObj' W Dl _) (by omega) Hs.size
 case stop=>
  rintro Dl c pre W _ _ h _;exact h.elim
end
section
open Go.RowKit
structure cQ where
 ref:bY
 con:List UInt8
def mU (gs:List (ByteArray×Int)) (n:ByteArray):Int:=((gs.find? fun p=>decide (p.1=n)).map Prod.snd).getD 0
def bF (k:dq) (gs:List (ByteArray×Int)) (c:List UInt8):bY:=⟨ms k (mU gs (ms k 0 c)).toNat c,mU gs (ms k 0 c),(c.length:Int)⟩
def kh (k:dq) (gs:List (ByteArray×Int)) (bs:List cQ) (c:List UInt8):List cQ:=if bF k gs c∈bs.map cQ.ref then bs else bs++[⟨bF k gs c,c⟩]
def dR (k:dq) (gs:List (ByteArray×Int)) (cs:List (List UInt8)) (bs:List cQ):List cQ:=cs.foldl (kh k gs) bs
def gK (c:fQ) (data:List UInt8):List (List UInt8):=jO data 0 (qT (qG c data) c.mn.toNat c.mx.toNat data.length)
def mV (dir path:List UInt8):List UInt8:=if(path.drop dir.length).head? =some 47 then(path.drop dir.length).tail else path.drop dir.length
def ii (tree:List dk) (dir:ByteArray):List dk:=tree.filter fun e=>decide (cu (bl e.path)=bl dir)
def dg (k:dq) (gs:List (ByteArray×Int)) (c:fQ) (dir:ByteArray) (e:dk) (node:bY):ci:=
 ⟨⟨(mV (bl dir) (bl e.path)).toArray⟩,e.kind,e.mode,e.time,if e.kind=1 then(e.data.length:Int)else 0,e.link,if e.kind=1 then(gK c e.data).map (bF k gs)else [],if e.kind=2 then node else eL⟩
def il (k:dq) (gs:List (ByteArray×Int)) (c:fQ) (rec:ByteArray->Except Int (List UInt8×List (List UInt8))) (dir:ByteArray):List dk->List ci->List (List UInt8)->Except Int (List ci×List (List UInt8))
 | [],its,cs=> .ok (its,cs)
 | e::r,its,cs=>
  if e.kind=1 then il k gs c rec dir r (its++[dg k gs c dir e eL]) (cs++gK c e.data)
  else if e.kind=2 then(match rec e.path with
   | .error x=> .error x
   | .ok p=>il k gs c rec dir r (its++[dg k gs c dir e (bF k gs p.1)]) (cs++p.2))
  else il k gs c rec dir r (its++[dg k gs c dir e eL]) cs
def ig (k:dq) (gs:List (ByteArray×Int)) (c:fQ) (tree:List dk):Nat->ByteArray->Except Int (List UInt8×List (List UInt8))
 | 0,_=> .error 0
 | f+1,dir=>match il k gs c (ig k gs c tree f) dir (ii tree dir) [] []with
  | .error x=> .error x
  | .ok (its,cs)=>if jL its=true then(if(gC its).length<=32768 then .ok (gC its,cs++[gC its])else .error 2)else .error 1
def iA (k:dq) (c:fQ) (tree:List dk) (gs:List (ByteArray×Int)):Except Int (bY×List cQ):=
 if jK k=true/\jT c=true then(if(gs.all fun p=>decide (0<=p.2) && decide (p.2<=1099511627776))=true then
  (if iJ tree=0 then(match ig k gs c tree 514 ⟨#[]⟩with
   | .error x=> .error x
   | .ok p=> .ok (bF k gs p.1,dR k gs p.2 []))
  else .error (iJ tree))else .error 1)else .error 1
theorem jF (k:dq) (gs:List (ByteArray×Int)) (a b:List (List UInt8)) (bs:List cQ):dR k gs (a++b) bs=dR k gs b (dR k gs a bs):=dW
def um (d p:List UInt8):Prop:=d=[]\/ ∃r,p=d++47::r
theorem um.trans {d p q:List UInt8} (h:um d p) (h2:um p q) (hp:p≠[]):um d q:=by
 rcases h with h | ⟨r,rfl⟩
 ·exact .inl h
 ·rcases h2 with h2 | ⟨s,rfl⟩
  ·exact absurd h2 hp
  ·exact .inr ⟨r++47::s,by simp⟩
theorem pZ (p:List UInt8):um (cu p) p:=by
 by_cases h:cu p=[]
 ·exact .inl h
 ·exact .inr (ri h)
theorem Mm {d p:List UInt8} (h:um d p) (hd:d≠[]):cu p=d\/um d (cu p):=by
 rcases h with h | ⟨r,h⟩
 ·exact absurd h hd
 ·rcases tB h with h1 | h1
  ·exact .inl h1
  ·exact .inr (.inr h1)
def dB (tree:List dk) (d:ByteArray):List dk:=tree.filter fun e=>decide (cu (bl e.path)=bl d)
theorem dY {tree:List dk} {d:ByteArray} {e:dk} :e∈dB tree d<->e∈tree/\cu (bl e.path)=bl d:=by unfold dB; rw[dQ,aG]
def sZ (tree:List dk):Nat->ByteArray->List dk
 | 0,_=>[]
 | f+1,d=>(dB tree d).flatMap fun e=>e::(if e.kind=2 then sZ tree f e.path else [])
section
variable {tree : List dk} (h : un tree)
include h
theorem lT {e:dk} (he:e∈tree):bl e.path≠[]:=pT (dm (h.val e he))
theorem Na (d:ByteArray): ∀(n:Nat) {e:dk},(bl e.path).length<=n->e∈tree->um (bl d) (bl e.path)-> ∃c∈dB tree d,c=e\/(c.kind=2/\um (bl c.path) (bl e.path))
 | 0,e,hn,he,_=>absurd (List.length_eq_zero_iff.1 (Nat.le_zero.1 hn)) (lT h he)
 | n+1,e,hn,he,hb=>by
  by_cases hp:cu (bl e.path)=bl d
  ·exact⟨e,dY.2 ⟨he,hp⟩, .inl rfl⟩
  ·have hne:cu (bl e.path)≠[]:=by
    intro h0
    by_cases hd:bl d=[]
    ·exact hp (by rw[h0,hd])
    ·rcases Mm hb hd with h1 | h1
     ·exact hp h1
     ·rw[h0]at h1
      rcases h1 with h1 | ⟨r,h1⟩
      ·exact hd h1
      ·simp at h1
   obtain⟨g,hg,ha,hj⟩:=uA (h.up e he) hne;have hh:um (bl d) (bl g.path):=by
    rw[ha]
    by_cases hd:bl d=[]
    ·exact .inl hd
    ·exact(Mm hb hd).resolve_left hp
   have hk:=fL (dm (h.val e he));have hf:um (bl g.path) (bl e.path):=by rw[ha]; exact pZ _
   obtain⟨c,hc,h1⟩:=Na d n (e:=g) (by rw[ha]; omega) hg hh;refine⟨c,hc, .inr ?_⟩
   rcases h1 with rfl | ⟨h1,h2⟩
   ·exact⟨hj,hf⟩
   ·exact⟨h1,h2.trans hf (lT h hg)⟩
theorem Ml {e x:dk} (he:e∈tree) (hb:um (bl e.path) (bl x.path)):nC e x<0:=by
 rcases hb with hb | ⟨r,hb⟩
 ·exact absurd hb (lT h he)
 ·have h1:nC e x<=0:=by unfold nC; rw[hb]; exact BF _ _
  rcases Int.lt_or_eq_of_le h1 with h2 | h2
  ·exact h2
  ·have h3:=pE.1 h2;rw[h3]at hb;have:=congrArg List.length hb;simp at this
theorem DC {d:ByteArray} {e g x:dk} (he:e∈dB tree d) (hg:g∈dB tree d) (hlt:nC e g<0) (hb:um (bl e.path) (bl x.path)):nC x g<0:=by
 obtain⟨ha,hc⟩:=dY.1 he;obtain⟨hf,hd⟩:=dY.1 hg
 rcases hb with hb | ⟨r,hb⟩
 ·exact absurd hb (lT h ha)
 ·rcases QY (bl x.path) (bl g.path)with h1 | h1 | h1
  ·show fA _ _<0; omega
  all_goals
   exfalso
   have h2:fA (bl g.path) (bl e.path++47::r)<=0:=by rw[<-hb,BG]; omega
   rcases vq _ _ _ (show fA (bl e.path) (bl g.path)<=0 from Int.le_of_lt hlt) h2 with h3 | ⟨s,h3⟩
   ·have h4:=pE.2 (kF h3);have h5:=wS e g;omega
   ·have h6:(cu (bl e.path)).length<(bl e.path).length:=fL (dm (h.val e ha))
    rcases tB h3 with h4 | ⟨s',h4⟩
    ·rw[hd,<-hc]at h4;have:=congrArg List.length h4;omega
    ·rw[hd,<-hc]at h4;have:=congrArg List.length h4;simp at this;omega
theorem wu : ∀(f:Nat) (d:ByteArray),512<f+(bl d).length-> ∀e,e∈sZ tree f d<->e∈tree/\um (bl d) (bl e.path)
 | 0,d,hf,e=>by
  constructor
  ·intro he; simp[sZ]at he
  ·rintro⟨he,hb⟩
   exfalso
   have h1:=mM (dm (h.val e he))
   rcases hb with hb | ⟨r,hb⟩
   ·rw[hb]at hf; simp at hf
   ·rw[hb]at h1;simp at h1;omega
 | f+1,d,hf,e=>by
  unfold sZ;rw[dt]
  constructor
  ·rintro⟨c,hc,he⟩;obtain⟨hc1,hc2⟩:=dY.1 hc;have hcb:um (bl d) (bl c.path):=by rw[<-hc2]; exact pZ _
   rcases aU.1 he with rfl | he
   ·exact⟨hc1,hcb⟩
   ·split at he
    ·have ha:=fL (dm (h.val c hc1));rw[hc2]at ha;obtain⟨h1,h2⟩:=(wu f c.path (by omega) e).1 he;exact⟨h1,hcb.trans h2 (lT h hc1)⟩
    ·cases he
  ·rintro⟨he,hb⟩;obtain⟨c,hc,h1⟩:=Na h d _ (ah _) he hb;refine⟨c,hc, ?_⟩
   rcases h1 with rfl | ⟨h1,h2⟩
   ·exact List.mem_cons_self
   ·obtain⟨hc1,hc2⟩:=dY.1 hc;have ha:=fL (dm (h.val c hc1));rw[hc2]at ha;rw[if_pos h1];exact eG _ ((wu f c.path (by omega) e).2 ⟨he,h2⟩)
theorem xZ : ∀(f:Nat) (d:ByteArray),512<f+(bl d).length->jn (sZ tree f d)
 | 0,_,_=>fy
 | f+1,d,hf=>by
  unfold sZ jn;have hin: ∀c∈dB tree d,512<f+(bl c.path).length:=fun c hc=>by obtain⟨hc1,hc2⟩:=dY.1 hc;have hlt:=fL (dm (h.val c hc1));rw[hc2]at hlt;omega
  have hbl: ∀c∈dB tree d,∀x∈(if c.kind=2 then sZ tree f c.path else []),um (bl c.path) (bl x.path):=fun c hc x hx=>by
   split at hx
   ·exact((wu h f c.path (hin c hc) x).1 hx).2
   ·cases hx
  rw[List.pairwise_flatMap]
  constructor
  ·intro c hc;rw[fO];refine⟨fun x hx=>Ml h (dY.1 hc).1 (hbl c hc x hx), ?_⟩
   split
   ·exact xZ f c.path (hin c hc)
   ·exact fy
  ·have hk:jn (dB tree d):=h.ord.filter _;refine List.Pairwise.imp_of_mem (R:=fun a b=>nC a b<0) ?_ hk;intro a b ha hb hab x hx y hy;have h1:nC x b<0:=by
    rcases aU.1 hx with rfl | hx
    ·exact hab
    ·exact DC h ha hb hab (hbl a ha x hx)
   rcases aU.1 hy with rfl | hy
   ·exact h1
   ·exact sA h1 (Ml h (dY.1 hb).1 (hbl b hb y hy))
theorem qw {L:List dk} (hs:jn L):L.Nodup:=by
 have _h:=h;exact List.Pairwise.imp (fun {a b} hab=>by
  intro e; subst e;have h1:=pE (a:=a) (b:=a);have:=h1.2 rfl
  omega) hs
theorem PG {f:Nat} (hf:512<f):sZ tree f ⟨#[]⟩=tree:=by have h0:bl (⟨#[]⟩:ByteArray)=[]:=rfl;have hs:=xZ h f ⟨#[]⟩ (by omega);refine rx hs h.ord ?_;rw[List.perm_ext_iff_of_nodup (qw h hs) (qw h h.ord)];intro e;rw[wu h f ⟨#[]⟩ (by omega) e];exact⟨fun h1=>h1.1,fun h1=>⟨h1, .inl h0⟩⟩
end
def oR (dir path:List UInt8):List UInt8:=if(path.drop dir.length).head? =some 47 then(path.drop dir.length).tail else path.drop dir.length
theorem CN : ∀ {a b:List UInt8},47∉a->47∉b->fA a b<0->Op.bytesLess a b=true
 | [],[],_,_,h=>by simp[fA]at h
 | [],_::_,_,_,_=>rfl
 | _::_,[],_,_,h=>by simp[fA]at h
 | x::a,y::b,ha,hb,h=>by
  unfold fA at h;unfold Op.bytesLess;simp only[aU,not_or]at ha hb
  by_cases hxy:x=y
  ·rw[if_pos hxy]at h;rw[CN ha.2 hb.2 h,hxy];simp
  ·rw[if_neg hxy]at h;unfold iB at h;rw[if_neg (fun e=>ha.1 e.symm),if_neg (fun e=>hb.1 e.symm)]at h;have h1:x<y:=by
    rw[UInt8.lt_iff_toNat_lt];unfold Lib.compareInt at h
    split at h
    ·omega
    ·split at h<;> omega
   simp[h1]
theorem CO : ∀(d a b:List UInt8),fA (d++a) (d++b)=fA a b
 | [],_,_=>rfl
 | x::d,a,b=>by rw[aK,aK,fA,if_pos rfl,CO d a b]
theorem Pf {t:List UInt8} (h:iV t=true):dH t=true:=by
 have ha:47∉t:=(CR h).2.2.2;unfold dH;rw[fW 47 t ha];have hl:t.length<=64:=by unfold iV at h;simp only[aE,aG]at h;exact h.1.1.1.1.2
 simp[h];omega
structure rF (d p t : List UInt8) : Prop where
 comp:iV t=true
 path:p=if d=[]then t else d++47::t
 last:oR d p=t
theorem oP {d p:List UInt8} (hv:dH p=true) (hp:cu p=d):rF d p (oR d p):=by
 by_cases hm:(47:UInt8)∈p
 ·obtain⟨q,t,rfl,ht⟩:=ob p hm;rw[lJ q t ht]at hp;subst hp;have hl:oR q (q++47::t)=t:=by unfold oR; simp
  have hc:iV t=true:=rA hv t (by rw[mK,fW 47 t ht]; simp);have hq:q≠[]:=by intro h0;subst h0;have:=rA hv [] (by rw[mK]; simp[dd]);exact absurd this (by decide)
  exact⟨by rw[hl]; exact hc,by rw[hl,if_neg hq],rfl⟩
 ·rw[oh p hm]at hp;subst hp;have ha:=pT hv;have hc:iV p=true:=rA hv p (by rw[fW 47 p hm]; simp);have hl:oR [] p=p:=by
   unfold oR
   cases p with
   | nil=>exact absurd rfl ha
   | cons x p=>
    simp only[bp,bQ,List.head?_cons,List.tail_cons];rw[if_neg];intro h;rw[aV]at h;subst h;exact hm (List.mem_cons_self)
  exact⟨by rw[hl]; exact hc,by rw[hl,if_pos rfl],rfl⟩
theorem rF.no {d p t:List UInt8} (h:rF d p t):47∉t:=(CR h.comp).2.2.2
theorem MY {d p q s t:List UInt8} (h:rF d p s) (h2:rF d q t) (hlt:fA p q<0):Op.bytesLess s t=true:=by
 refine CN h.no h2.no ?_;rw[h.path,h2.path]at hlt
 split at hlt
 ·exact hlt
 ·rw[CO]at hlt;unfold fA at hlt;rw[if_pos rfl]at hlt;exact hlt
def kC (gs:List (ByteArray×Int)):Prop:= ∀p∈gs,0<=p.2/\p.2<=1099511627776
theorem BQ {gs:List (ByteArray×Int)} (h:kC gs) (n:ByteArray):0<=mU gs n/\mU gs n<=1099511627776:=by
 unfold mU
 cases hf:gs.find? fun p=>decide (p.1=n)with
 | none=>simp
 | some p=>exact h p (ed hf)
theorem Nb (tree:List dk) (d:ByteArray):ii tree d=dB tree d:=rfl
theorem BN (c:fQ) (data:List UInt8):(gK c data).flatten=data:=xY
theorem pG {c:fQ} (hc:jT c=true) (x:List UInt8): ∀y∈gK c x,1<=y.length/\y.length<=32768:=by have hv:=mf.1 hc;intro y hy;have:=AN (mx:=c.mx.toNat) (by omega) (pH) y hy;omega
theorem Bh : ∀(l:List bY) (a:Int),0<=a->(∀r∈l,0<=r.size)->a+(l.map bY.size).sum<=9223372036854775807->l.foldl (fun a r=>wrap64 (a+r.size)) a=a+(l.map bY.size).sum
 | [],a,_,_,_=>by simp
 | r::l,a,h0,hs,hl=>by
  have h1:=hs r (by simp);have h2:0<=(l.map bY.size).sum:=by
   have: ∀(l:List bY),(∀r∈l,0<=r.size)->0<=(l.map bY.size).sum:=by
    intro l
    induction l with
    | nil=>simp
    | cons x l ih=>
     intro h;have h1:=h x (by simp);have h2:=ih fun r hr=>h r (by simp[hr])
     rw[bS,List.sum_cons]; omega
   exact this l fun x hx=>hs x (by simp[hx])
  rw[bS,List.sum_cons]at hl;rw[ei,bS,List.sum_cons,show wrap64 (a+r.size)=a+r.size by unfold wrap64; omega,Bh l _ (by omega) (fun x hx=>hs x (by simp[hx])) (by omega)];omega
section
variable {k : dq} {gs : List (ByteArray × Int)} {c : fQ}
theorem AU : ∀(l:List (List UInt8)),((l.map (bF k gs)).map bY.size).sum=((l.flatten.length:Nat):Int)
 | []=>by simp
 | x::l=>by
  rw[bS,bS,List.sum_cons,AU l,iO,ai]
  show(x.length:Int)+_=_
  omega
theorem JT {data:List UInt8} (hl:data.length<=1048576):nt ((gK c data).map (bF k gs))=(data.length:Int):=by
 have h1:=AU (k:=k) (gs:=gs) (gK c data);rw[BN]at h1;unfold nt;rw[Bh _ _ (by omega) (fun r hr=>by
  obtain⟨x,_,rfl⟩:=aQ.1 hr
  show(0:Int)<=(x.length:Int)
  omega) (by rw[h1]; omega),h1]
 omega
theorem om (hg:kC gs) {x:List UInt8} (hx:x.length<=32768):lj (bF k gs x)=true:=by have h1:=BQ hg (ms k 0 x);have h2:(bF k gs x).name.size=32:=lG _ _ _;have h3:(bF k gs x).gen=mU gs (ms k 0 x):=rfl;have h4:(bF k gs x).size=(x.length:Int):=rfl;unfold lj;rw[h2,h3,h4];simp only[aE,aG];exact⟨⟨⟨⟨trivial,h1.1⟩,h1.2⟩,by omega⟩,by omega⟩
theorem xj {e:dk} (h:ij e=true):(e.kind=1/\e.data.length<=1048576/\e.link.size=0)\/(e.kind=2/\e.data=[]/\e.link.size=0)\/(e.kind=3/\e.data=[]/\1<=e.link.size/\e.link.size<=512/\(bl e.link).contains 0=false):=by
 unfold ij kY at h;rw[aE]at h;have h2:=h.2
 split at h2
 ·simp only[aE,aG]at h2;exact .inl ⟨by assumption,h2⟩
 ·split at h2
  ·simp only[aE,aG]at h2;exact .inr (.inl ⟨by assumption,bq h2.1,h2.2⟩)
  ·split at h2
   ·simp only[aE,aG,pw,gh]at h2;refine .inr (.inr ⟨by assumption,bq h2.1, ?_, ?_,h2.2.2⟩)
    ·rw[bi]; exact h2.2.1.1
    ·rw[bi]; exact h2.2.1.2
   ·cases h2
theorem Dv (hc:jT c=true) (hg:kC gs) {d:ByteArray} {e:dk} {nd:bY} (hv:ij e=true) (hp:cu (bl e.path)=bl d) (hn:e.kind=2->lj nd=true):jA (dg k gs c d e nd)=true:=by
 have hk:=oP (dm hv) hp;have ha:bl (dg k gs c d e nd).name=oR (bl d) (bl e.path):=by
  show bl ⟨(mV (bl d) (bl e.path)).toArray⟩=_
  rw[jQ]; rfl
 have hh:uj (dg k gs c d e nd)=true:=by
  have h1:oy e=true:=by unfold ij at hv; simp only[aE]at hv; exact hv.1.2
  unfold oy at h1;unfold uj;rw[ha,Pf hk.comp];simp only[aE,aG,gh]at h1 ⊢;refine⟨⟨trivial, ?_⟩,⟨h1.1.1,h1.1.2⟩,h1.2⟩;have h2:=hk.no
  simpa using h2
 unfold jA;rw[hh,ie]
 rcases xj hv with⟨h1,h2,h3⟩ | ⟨h1,h2,h3⟩ | ⟨h1,h2,h3,h4,h5⟩
 ·have e1:dg k gs c d e nd=⟨⟨(mV (bl d) (bl e.path)).toArray⟩,1,e.mode,e.time,(e.data.length:Int),e.link,(gK c e.data).map (bF k gs),eL⟩:=by unfold dg; rw[h1]; simp
  rw[e1];unfold kX lC;rw[if_pos rfl];simp only[aE,aG,cB];refine⟨⟨h3,trivial⟩,fun r hr=> ?_, ?_,by omega⟩
  ·obtain⟨x,hx,rfl⟩:=aQ.1 hr;have h4:=pG hc e.data x hx;unfold rz;rw[om hg h4.2]
   show(true && decide ((1:Int)<=(x.length:Int)))=true
   simp;omega
  ·exact(JT h2).symm
 ·have e1:dg k gs c d e nd=⟨⟨(mV (bl d) (bl e.path)).toArray⟩,2,e.mode,e.time,0,e.link,[],nd⟩:=by unfold dg; rw[h1]; simp
  rw[e1];unfold kX;rw[if_neg (show ¬((2:Int)=1) by decide),if_pos rfl];simp[h3,hn h1]
 ·have e1:dg k gs c d e nd=⟨⟨(mV (bl d) (bl e.path)).toArray⟩,3,e.mode,e.time,0,e.link,[],eL⟩:=by unfold dg; rw[h1]; simp
  rw[e1];unfold kX;rw[if_neg (show ¬((3:Int)=1) by decide),if_neg (show ¬((3:Int)=2) by decide),if_pos rfl];have h6:(0:UInt8)∉bl e.link:=by simpa using h5
  simp[h3,h4,h6]
theorem DX : ∀(l:List ci) (p:Option ByteArray),(∀it∈l,jA it=true)->l.Pairwise (fun a b=>PA a.name b.name=true)->(∀q,p=some q-> ∀it∈l,PA q it.name=true)->ke p l=true
 | [],_,_,_,_=>rfl
 | it::l,p,hv,hs,hp=>by
  rw[fO]at hs;unfold ke;rw[hv it (by simp),DX l (some it.name) (fun x hx=>hv x (by simp[hx])) hs.2 (fun q hq x hx=>by simp only[aV]at hq;subst hq;exact hs.1 x hx)]
  cases p with
  | none=>rfl
  | some q=>
   have:=hp q rfl it (by simp);unfold qm;simp only;rw[this]; rfl
theorem sU {tree:List dk} (h:un tree) (hc:jT c=true) (hg:kC gs) (d:ByteArray) (nd:dk->bY) (hn: ∀e∈dB tree d,e.kind=2->lj (nd e)=true):jL ((dB tree d).map fun e=>dg k gs c d e (nd e))=true:=by
 have hl:(dB tree d).length<=tree.length:=dI _ _;unfold jL;rw[aE,aG];refine⟨by rw[aw]; have:=h.len; omega, ?_⟩;refine DX _ _ (fun it hf=> ?_) ?_ (fun q hq=>by cases hq)
 ·obtain⟨e,he,rfl⟩:=aQ.1 hf;obtain⟨h1,h2⟩:=dY.1 he;exact Dv hc hg (h.val e h1) h2 (hn e he)
 ·rw[fz];have hk:jn (dB tree d):=h.ord.filter _;refine List.Pairwise.imp_of_mem (R:=fun a b=>nC a b<0) ?_ hk;intro a b ha hb hd;obtain⟨a1,a2⟩:=dY.1 ha;obtain⟨b1,b2⟩:=dY.1 hb
  show Op.bytesLess (ByteArray.toList ⟨(mV (bl d) (bl a.path)).toArray⟩) (ByteArray.toList ⟨(mV (bl d) (bl b.path)).toArray⟩)=true
  rw[fF,fF,jQ,jQ];exact MY (oP (dm (h.val a a1)) a2) (oP (dm (h.val b b1)) b2) hd
end
section
variable (k : dq) (gs : List (ByteArray × Int)) (c : fQ) (tree : List dk)
def dS :Nat->ByteArray->List UInt8×List (List UInt8)
 | 0,_=>([],[])
 | f+1,d=>(gC ((dB tree d).map fun e=>dg k gs c d e (bF k gs (dS f e.path).1)),
  ((dB tree d).flatMap fun e=>if e.kind=1 then gK c e.data else if e.kind=2 then(dS f e.path).2 else [])++[gC ((dB tree d).map fun e=>dg k gs c d e (bF k gs (dS f e.path).1))])
def nj (f:Nat) (d:ByteArray):List ci:=(dB tree d).map fun e=>dg k gs c d e (bF k gs (dS k gs c tree f e.path).1)
def iG (f:Nat) (e:dk):List (List UInt8):=if e.kind=1 then gK c e.data else if e.kind=2 then(dS k gs c tree f e.path).2 else []
theorem fi (f:Nat) (d:ByteArray):dS k gs c tree (f+1) d=(gC (nj k gs c tree f d),(dB tree d).flatMap (iG k gs c tree f)++[gC (nj k gs c tree f d)]):=rfl
def nA :Nat->ByteArray->Bool
 | 0,_=>false
 | f+1,d=>(dB tree d).any (fun e=>decide (e.kind=2) && nA f e.path) || decide (32768<(dS k gs c tree (f+1) d).1.length)
end
section
variable {k : dq} {gs : List (ByteArray × Int)} {c : fQ} {tree : List dk}
theorem oa {d:ByteArray} {e:dk} (h:e.kind≠2) (a b:bY):dg k gs c d e a=dg k gs c d e b:=by unfold dg; rw[if_neg h,if_neg h]
def DV (k:dq) (gs:List (ByteArray×Int)) (rec:ByteArray->Except Int (List UInt8×List (List UInt8))) (e:dk):bY:=match rec e.path with
 | .ok p=>bF k gs p.1
 | .error _=>eL
def BI (c:fQ) (rec:ByteArray->Except Int (List UInt8×List (List UInt8))) (e:dk):List (List UInt8):=if e.kind=1 then gK c e.data else if e.kind=2 then(match rec e.path with | .ok p=>p.2 | .error _=>[])else []
theorem DD {rec:ByteArray->Except Int (List UInt8×List (List UInt8))} {d:ByteArray} : ∀(L:List dk) (its:List ci) (cs:List (List UInt8)),(∀e∈L,e.kind=2-> ∃p,rec e.path= .ok p)->
  il k gs c rec d L its cs= .ok (its++L.map (fun e=>dg k gs c d e (DV k gs rec e)),cs++L.flatMap (BI c rec))
 | [],its,cs,_=>by simp[il]
 | e::L,its,cs,h=>by
  have ih:=fun its cs=>DD (d:=d) L its cs fun x hx=>h x (by simp[hx])
  by_cases h1:e.kind=1
  ·rw[il,if_pos h1,ih,oa (b:=DV k gs rec e) (by omega)];rw[bS,bC,show BI c rec e=gK c e.data by unfold BI; rw[if_pos h1]];simp
  ·by_cases h2:e.kind=2
   ·obtain⟨p,hp⟩:=h e (by simp) h2;rw[il,if_neg h1,if_pos h2,hp];simp only;rw[ih,bS,bC,show BI c rec e=p.2 by unfold BI; rw[if_neg h1,if_pos h2,hp],show DV k gs rec e=bF k gs p.1 by unfold DV; rw[hp]];simp
   ·rw[il,if_neg h1,if_neg h2,ih,oa (b:=DV k gs rec e) h2];rw[bS,bC,show BI c rec e=[] by unfold BI; rw[if_neg h1,if_neg h2]];simp
theorem DE {rec:ByteArray->Except Int (List UInt8×List (List UInt8))} {d:ByteArray} : ∀(L:List dk) (its:List ci) (cs:List (List UInt8)),(∀e∈L,e.kind=2->(∃p,rec e.path= .ok p)\/rec e.path= .error 2)->
  (∃e∈L,e.kind=2/\rec e.path= .error 2)->il k gs c rec d L its cs= .error 2
 | [],its,cs,_,h=>by obtain⟨e,he,_⟩:=h; cases he
 | e::L,its,cs,h,hx=>by
  have ih:=fun its cs hx=>DE (d:=d) L its cs (fun x hx=>h x (by simp[hx])) hx
  by_cases h1:e.kind=1
  ·rw[il,if_pos h1];refine ih _ _ ?_;obtain⟨x,hx,h3,h4⟩:=hx
   rcases aU.1 hx with rfl | hx
   ·omega
   ·exact⟨x,hx,h3,h4⟩
  ·by_cases h2:e.kind=2
   ·rw[il,if_neg h1,if_pos h2]
    rcases h e (by simp) h2 with⟨p,hp⟩ | hp
    ·rw[hp];simp only;refine ih _ _ ?_;obtain⟨x,hx,h3,h4⟩:=hx
     rcases aU.1 hx with rfl | hx
     ·rw[hp]at h4; cases h4
     ·exact⟨x,hx,h3,h4⟩
    ·rw[hp]
   ·rw[il,if_neg h1,if_neg h2];refine ih _ _ ?_;obtain⟨x,hx,h3,h4⟩:=hx
    rcases aU.1 hx with rfl | hx
    ·exact absurd h3 h2
    ·exact⟨x,hx,h3,h4⟩
theorem oG {f:Nat} {d:ByteArray} (h:nA k gs c tree (f+1) d=false):(∀e∈dB tree d,e.kind=2->nA k gs c tree f e.path=false)/\(dS k gs c tree (f+1) d).1.length<=32768:=by
 unfold nA at h;rw[fX,fm,List.any_eq_false]at h;refine⟨fun e he hk=> ?_,by omega⟩;have:=h.1 e he
 simpa [hk]using this
theorem Iw (h:un tree) (hc:jT c=true) (hg:kC gs): ∀(f:Nat) (d:ByteArray),(bl d).length<=512->512<f+(bl d).length->ig k gs c tree f d=if nA k gs c tree f d=true then .error 2 else .ok (dS k gs c tree f d)
 | 0,d,h1,h2=>by omega
 | f+1,d,h1,h2=>by
  have ih: ∀e∈dB tree d,ig k gs c tree f e.path=if nA k gs c tree f e.path=true then .error 2 else .ok (dS k gs c tree f e.path):=fun e he=>by obtain⟨he1,he2⟩:=dY.1 he;have h3:=dm (h.val e he1);have h4:=fL h3;rw[he2]at h4;exact Iw h hc hg f e.path (mM h3) (by omega)
  have hf: ∀e∈dB tree d,1<=f:=fun e he=>by obtain⟨he1,he2⟩:=dY.1 he;have h3:=dm (h.val e he1);have h4:=fL h3;have h5:=mM h3;rw[he2]at h4;omega
  rw[ig,Nb]
  by_cases hb: ∃e∈dB tree d,e.kind=2/\nA k gs c tree f e.path=true
  ·obtain⟨e,he,hk,hbe⟩:=hb;rw[DE (dB tree d) [] [] (fun x hx hk=>by
    rw[ih x hx]
    cases hbx:nA k gs c tree f x.path
    ·exact .inl ⟨_,if_neg (by simp)⟩
    ·exact .inr (if_pos rfl)) ⟨e,he,hk,by rw[ih e he,hbe]; simp⟩]
   have hbt:nA k gs c tree (f+1) d=true:=by unfold nA;rw[gU,List.any_eq_true];exact .inl ⟨e,he,by simp[hk,hbe]⟩
   rw[hbt];simp
  ·have hd: ∀e∈dB tree d,e.kind=2->nA k gs c tree f e.path=false:=fun e he hk=>by
    cases hbe:nA k gs c tree f e.path
    ·rfl
    ·exact absurd ⟨e,he,hk,hbe⟩ hb
   have hh: ∀e∈dB tree d,e.kind=2->ig k gs c tree f e.path= .ok (dS k gs c tree f e.path):=fun e he hk=>by rw[ih e he,hd e he hk]; simp
   rw[DD (dB tree d) [] [] fun e he hk=>⟨_,hh e he hk⟩];simp only[aJ];have e1:(dB tree d).map (fun e=>dg k gs c d e (DV k gs (ig k gs c tree f) e))=nj k gs c tree f d:=by
    refine List.map_congr_left fun e he=> ?_
    by_cases hk:e.kind=2
    ·rw[show DV k gs (ig k gs c tree f) e=bF k gs (dS k gs c tree f e.path).1 by unfold DV; rw[hh e he hk]]
    ·exact oa hk _ _
   have e2:(dB tree d).flatMap (BI c (ig k gs c tree f))=(dB tree d).flatMap (iG k gs c tree f):=by
    rw[List.flatMap_def,List.flatMap_def]
    congr 1
    refine List.map_congr_left fun e he=> ?_
    unfold BI iG
    by_cases h1:e.kind=1
    ·rw[if_pos h1,if_pos h1]
    ·rw[if_neg h1,if_neg h1]
     by_cases hk:e.kind=2
     ·rw[if_pos hk,if_pos hk,hh e he hk]
     ·rw[if_neg hk,if_neg hk]
   rw[e1,e2];have hj:jL (nj k gs c tree f d)=true:=sU h hc hg d _ fun e he hk=>by refine om hg ?_;have h6:=hf e he;obtain⟨g,rfl⟩: ∃g,f=g+1:=⟨f-1,by omega⟩;exact(oG (hd e he hk)).2
   rw[if_pos hj];have ha:((dB tree d).any fun e=>decide (e.kind=2) && nA k gs c tree f e.path)=false:=by
    rw[List.any_eq_false];intro e he
    by_cases hk:e.kind=2
    ·simp[hk,hd e he hk]
    ·simp[hk]
   have hbt:nA k gs c tree (f+1) d=decide (32768<(gC (nj k gs c tree f d)).length):=by unfold nA;rw[ha,Bool.false_or,fi]
   rw[hbt,fi]
   by_cases hl:(gC (nj k gs c tree f d)).length<=32768
   ·rw[if_pos hl,if_neg (by simp; omega)]
   ·rw[if_neg hl,if_pos (by simp; omega)]
end
theorem nI (S:Nat->Prop) (l:List ci) (v:Value) (b:Bool) (w:World) (hv:eO S w v l) (henv:nJ w) (h:jL l=b):Calls Tryz.prog 47 #[v] w fun e w'=>e= .returned (.bool b)/\Below w.heap.size w w':=by rw[<-h]; exact zu S l v w hv henv
theorem oe :dZ eL:=⟨by decide,by decide,by decide⟩
theorem uG (S:Nat->Prop) (data:List UInt8) (v:Value) (w:World) (hv:bB S w v data) (henv:nJ w):Calls Tryz.prog 18 #[v] w (wB data w):=by
 obtain⟨_,a,cap,rfl,hn,hm,-⟩:=id hv;unfold maxLen at hm;have HV:=ag hv;have HE:=ag henv;clear hv henv
 by_cases hY:32768<data.length
 ·have HP:=ag (FJ hY)
  go_enter Tryz.func18,Tryz.ntmps18
  go_wp2_with fail
  go_ret2
  exact⟨ak _ _,by rw[HP.o]; rfl⟩
 ·have hN:=ag hY
  go_enter Tryz.func18,Tryz.ntmps18
  go_wp2_with fail;refine(ze S data _ w HV.o (by omega)).mono ?_;rintro e w1 ⟨rb,dv,rfl,HN,HT,HK⟩;have hg:=ag HT;have hM:=ag HK;clear HT HK;go_wp2_with fail;refine(Iu rb dv data ⟨0,0,0⟩ 4096 _ hg.o (by omega)).mono ?_;rintro e w2 ⟨n,s1,Hv,rfl,h7,HM⟩;have y1:n<=4096:=by have:=BH data 4096 ⟨0,0,0⟩; rw[Hv]at this; exact this
  have Hz:=ag Hv;have HU:=ag (show wC w1 rb w2 dv (.slice none 0 0) data s1 []from⟨h7,⟨_,hg.o⟩,⟨[],bN _ _ _ _,rfl⟩,HM⟩);clear Hv h7 HM;go_wp2_with fail
  go_loopw [5,16] (fun v i wr=> ∃(k:Nat) (l:List ci) (s:RS),k<=n/\i= .int .i64 k/\l.length=k/\ku data s1 k=some (l,s)/\wC w1 rb wr dv v data s l) (fun _ i _=>n-(intOf i).toNat)
  ·exact⟨0,[],s1,aR _,rfl,rfl,rfl,HU.o⟩
  ·obtain⟨k,l,s,hk,rfl,HR,HO,hA⟩:=hrel;have hT:=ag HO;have he:=ag hA;have hI:=ag HR;obtain⟨cells,hG,h8⟩:=hA.row;have hd:=ag hG;have hy:=ag h8;obtain⟨av,cv0,yl,y3,y2⟩:=aH hG;have Ho:=ag hA.rd;subst yl;clear HO hA HR hG h8
   by_cases yv:k<n
   ·go_wp2_with fail;refine(Oq rb dv data s 64 _ Ho.o (by omega)).mono ?_;rintro e w3 ⟨nm,s2,HS,rfl,h1,h2⟩;have HG:=ag HS;have Hi:=ag (kD.start Ho.o h1 h2 #[.string ⟨nm.toArray⟩, .int .i64 0, .int .i64 0, .int .i64 0, .int .i64 0, .string ⟨#[]⟩, .slice none 0 0, .string ⟨#[]⟩, .int .i64 0, .int .i64 0]);clear HS h1 h2;go_wp2_with fail;refine(yE rb dv data s2 _ Hi.o.rd).mono ?_
    rintro e w4 ⟨kd,s3,hp,rfl,h1,h2⟩;have H1:=ag hp;have Ha:=ag (Hi.o.call h1 h2);have ck:=Ha.o.cell 1;have fk:=Ha.o.free 1;simp only[fV]at ck;clear hp h1 h2;go_wp2_with fail;obtain⟨kv,hq⟩:=bH (wrap64 (kd:Int):Int);rw[<-hq];have hz:=ag hq;clear hq;obtain⟨w5,hs⟩:=bH (w4.setCell ⟨w3.heap.size,1,none⟩ (.int .i64 kv));rw[<-hs];have m4:=Ha.o.set 1 (.int .i64 kv)
    rw[<-hs]at m4;simp only[aX,cG,cr]at m4;have Hj:=ag m4;clear m4 hs ck fk Hi Ha;refine(yE rb dv data s3 _ Hj.o.rd).mono ?_;rintro e w6 ⟨md,s4,hp,rfl,h1,h2⟩;have H2:=ag hp;have Hb:=ag (Hj.o.call h1 h2);have ck:=Hb.o.cell 2;have fk:=Hb.o.free 2;simp only[fV]at ck;clear hp h1 h2;go_wp2_with fail
    obtain⟨mv,hq⟩:=bH (wrap64 (md:Int):Int);rw[<-hq];have Hr:=ag hq;clear hq;obtain⟨w7,hs⟩:=bH (w6.setCell ⟨w3.heap.size,2,none⟩ (.int .i64 mv));rw[<-hs];have m4:=Hb.o.set 2 (.int .i64 mv);rw[<-hs]at m4;simp only[aX,cG,cr]at m4;have Hk:=ag m4;clear m4 hs ck fk Hj Hb;refine(yE rb dv data s4 _ Hk.o.rd).mono ?_
    rintro e w8 ⟨td,s5,hp,rfl,h1,h2⟩;have H3:=ag hp;have Hc:=ag (Hk.o.call h1 h2);have ck:=Hc.o.cell 3;have fk:=Hc.o.free 3;simp only[fV]at ck;clear hp h1 h2
    go_upto_region 11 with(fail)
    obtain⟨tv,hq⟩:=bH (wrap64 (td:Int):Int);rw[<-hq];have Hs:=ag hq;clear hq;obtain⟨w9,hs⟩:=bH (w8.setCell ⟨w3.heap.size,3,none⟩ (.int .i64 tv));rw[<-hs];have m4:=Hc.o.set 3 (.int .i64 tv);rw[<-hs]at m4;simp only[aX,cG,cr]at m4;have hl:=ag m4;clear m4 hs ck fk Hk Hc;have ck:=hl.o.cell 1;simp only[fV]at ck
    have HH:=ag (xC HG.o H1.o H2.o H3.o);have H9:nm.length<=64:=by have:=Jo data 64 s; rw[HG.o]at this; exact this
    by_cases hC:kv=1
    ·have e1:(kv == 1)=true:=by simp[hC]
     have HY:=ag (show oE kd=1 from hz.o.symm.trans hC);clear hC;go_wp2_with fail;refine(Iu rb dv data s5 963 _ hl.o.rd (by omega)).mono ?_;rintro e wa ⟨n2,s6,hp,rfl,h1,h2⟩;have hW:=ag hp;have y0:n2<=963:=by have:=BH data 963 s5; rw[hp]at this; exact this
     have hf:=ag (hl.o.call h1 h2);clear hp h1 h2 ck hl;go_wp2_with fail;obtain⟨wo,yp⟩:=bH wr;subst yp
     go_loopw [39] (fun i wq=> ∃(j:Nat) (ch:List bY) (s7:RS) (cv:Value),j<=n2/\i= .int .i64 j/\ch.length=j/\jq data s6 j=(ch,s7)/\kD rb w3.heap.size wo wq dv data s7 #[.string ⟨nm.toArray⟩, .int .i64 kv, .int .i64 mv, .int .i64 tv, .int .i64 0, .string ⟨#[]⟩,cv, .string ⟨#[]⟩, .int .i64 0, .int .i64 0]/\wq.ownsRow (w3.heap.size+1) 26 3 cv ch.length (ch.flatMap jt)) (fun i _=>n2-(intOf i).toNat)
     ·exact⟨0,[],s6, .slice none 0 0,aR _,rfl,rfl,rfl,hf.o,bN _ _ _ _⟩
     ·obtain⟨j,ch,s7,cv,hj,rfl,HQ,HL,h4,Hx⟩:=hrel;have HC:=ag HQ;have Hg:=ag HL;have hw:=ag h4;have Hd:=ag Hx;obtain⟨a6,c6,ya,yc,yb⟩:=aH Hx;subst ya;clear HQ HL h4 Hx
      by_cases H8:j<n2
      ·have ck:=hw.o.cell 6;have fk:=hw.o.free 6;simp only[fV]at ck;go_wp2_with fail;refine eP (fun w'=>w'.cell? ⟨w3.heap.size,6,none⟩=some (.slice a6 ch.length c6)) (by kernel_rfl) (by kernel_rfl) ?_;simp only[bu,bw,ay,bp,Nat.reduceAdd,Nat.reduceSub];have Hl:=ag (hw.o.below ((ak _ _).drew))
       iterate 3 (refine cF rfl (by go_simp) (by intro w' yn; go_simp; rfl) ?_; simp only[bM])
       refine cA 3 rfl (fun K hK=> ?_);go_wp2_with (go_at_call 62; refine(vI rb dv data s7 _ Hl.o.rd).mono ?_; rintro e wb ⟨r,s8,hp,rfl,h1,h2,hr⟩; unfold eC);have H4:=ag hp;have HJ:=ag hr;have ho:=ag (Hl.o.call h1 h2);have Hn:=ag (Hd.o.kept (bW (b:=wr.drew) ⟨rfl,rfl,rfl,ah _,fun _ _ _=>rfl⟩ h2) (.inr (by
        intro e;have:=(Hd.o.lt _ e).1;have:=dr.lt hg.o;have:=he.o.grown.size;have:=hw.o.ge
        omega)))
       have ck2:=ho.o.cell 6;have HD:=ag (ho.o.below ((ak _ _).alloc (ah _) (.cells #[.string r.name, .int .i64 r.gen, .int .i64 r.size] 26)));have ck3:=HD.o.cell 6;have fk2:=ho.o.free 6;have Hu:w3.heap.size+1<=wb.heap.size:=(aN.1 ho.o.box).1;simp only[fV]at ck2 ck3;clear hp h1 h2 hr ck fk hw Hl;refine⟨ck2, ?_⟩;refine cA 4 rfl (fun K hK=> ?_)
       go_wp2_with fail
       (first | (refine⟨ck3, ?_⟩) | skip)
       refine cA 5 rfl (fun K hK=> ?_);go_wp2_with (at_builtin; go_must (refine bP Tryz.appRefs rfl _ _ rfl (w3.heap.size+1) (.slice a6 ch.length c6) ch.length (ch.flatMap jt) rfl wb [.string r.name, .int .i64 r.gen, .int .i64 r.size] _ rfl rfl (rm (r:=r)) Hn.o (by have:=HC.o; omega) Hu ?_); intro v' wc hb ha _ hu; obtain⟨ae,ce,rfl,-,-⟩:=aH hb)
       have Hm:=ag (ho.o.app ha (fun k hk=>by have:=(Hn.o.lt k hk).1; omega));have HF:=ag (show wc.ownsRow (w3.heap.size+1) 26 3 (.slice ae (ch.length+1) ce) (ch++[r]).length ((ch++[r]).flatMap jt) by rw[ai,bV]; simpa [jt]using hb);have ck4:=Hm.o.cell 6;have fk4:=Hm.o.free 6;simp only[fV]at ck4;clear hb ha hu ck2 ck3 fk2 HD ho Hn Hd
       refine⟨ck4, ?_⟩;refine cF rfl (by go_simp) (by intro w' yn; go_simp; rfl) ?_;simp only[bM];refine cH (by kernel_rfl) ?_;refine eX rfl rfl (fun K hK=> ?_);go_wp2_with fail
       go_roundw
       ·have m4:=Hm.o.set 6 (.slice ae (ch.length+1) ce);simp only[aX,cG,cr]at m4;refine⟨j+1,ch++[r],s8, .slice ae (ch.length+1) ce,by omega,by go_num,by simp[HC.o],vp Hg.o H4.o,m4,HF.o.kept (cJ _ _ _ _) (.inr (by
         intro e;have:=(HF.o.lt _ e).1
         omega))⟩
       simp[intOf]; omega
      ·obtain rfl:j=n2:=by omega
       have hB: ∀r∈ch,dZ r:=by have:=zL data s6 j;rw[Hg.o]at this; exact this
       have Hp:=ag (oq Hd.o hB);have ck:=hw.o.cell 6;simp only[fV]at ck;clear hB;go_wp2_with fail;refine(uU _ _ ch _ Hp.o).mono ?_;rintro e wb ⟨rfl,Ht⟩;have ho:=ag (hw.o.below Ht);have HI:=ag (show dJ (fun k=>w3.heap.size<k) wb (.slice a6 ch.length c6) ch from dJ.same (cU.below Hp.o (by omega) Ht (fun _ _ _ h=>h)) (fun k hk hS=>⟨by have:=hS.1; omega,rfl⟩))
       have ck4:=ho.o.cell 4;have fk4:=ho.o.free 4;simp only[fV]at ck4;obtain⟨tw,Hy⟩:=bH (nt ch:Int);rw[<-Hy];have H5:=ag Hy;clear Ht ck Hy Hp
       go_upto_region 23 with(fail)
       obtain⟨wd,He⟩:=bH (wb.setCell ⟨w3.heap.size,4,none⟩ (.int .i64 tw));rw[<-He];have m4:=ho.o.set 4 (.int .i64 tw);rw[<-He]at m4;simp only[aX,cG,cr]at m4;have hc:=ag m4;have hR:=ag (show nZ data s=some (⟨⟨nm.toArray⟩,oE kd,oE md,oE td,tw,⟨#[]⟩,ch,eL⟩,s7) by rw[HH.o,xA HY.o hW.o Hg.o,H5.o])
       have hV:=ag (show iI ⟨⟨nm.toArray⟩,kv,mv,tv,tw,⟨#[]⟩,ch,eL⟩from⟨by show ByteArray.size ⟨_⟩<=_; unfold maxLen; simp[ByteArray.size]; omega,by show ByteArray.size ⟨_⟩<=_; unfold maxLen; simp[ByteArray.size],oe⟩);have hO:=ag (show dJ (wo.heap.size<= ·) wd (.slice a6 ch.length c6) ch from dJ.same HI.o (fun k hk hS=>⟨by have:=hw.o.ge; show wo.heap.size<=k; omega,by rw[He]; exact az _ _ _ _ (by show k≠w3.heap.size; omega)⟩))
       clear m4 He ck4 fk4 ho hw HI;have d0:=hc.o.cell 0;have d1:=hc.o.cell 1;have d2:=hc.o.cell 2;have d3:=hc.o.cell 3;have d4:=hc.o.cell 4;have d5:=hc.o.cell 5;have d6:=hc.o.cell 6;have d7:=hc.o.cell 7;have d8:=hc.o.cell 8;have d9:=hc.o.cell 9;simp only[fV]at d0 d1 d2 d3 d4 d5 d6 d7 d8 d9;have hU:=ag (hd.o.kept hc.o.grown (.inr (by
        intro e;have:=(hd.o.lt _ e).1;have:=dr.lt hg.o
        omega)))
       have hZ:w1.heap.size<=wd.heap.size:=an he.o.grown.size hc.o.grown.size;have hX:=ag (show nZ data s=some (⟨⟨nm.toArray⟩,kv,mv,tv,tw,⟨#[]⟩,ch,eL⟩,s7) by rw[hR.o,hz.o,Hr.o,Hs.o]; rfl);have h3:l.length<4096:=by have:=hI.o; omega
       go_wp2_with (at_builtin; go_must (refine bP Tryz.appItems rfl _ _ rfl w1.heap.size (.slice av l.length cv0) l.length cells rfl wd [.string ⟨nm.toArray⟩, .int .i64 kv, .int .i64 mv, .int .i64 tv, .int .i64 (tw), .string ⟨#[]⟩, .slice a6 ch.length c6, .string ⟨#[]⟩, .int .i64 0, .int .i64 0] _ rfl rfl (kS (it:=⟨⟨nm.toArray⟩,kv,mv,tv,tw,⟨#[]⟩,ch,eL⟩)) hU.o (by omega) hZ ?_); intro v' we hb ha _ hu; have hP:=ag (he.o.added (it:=⟨⟨nm.toArray⟩,kv,mv,tv,tw,⟨#[]⟩,ch,eL⟩) hc.o hO.o hV.o hy.o hd.o hb ha hu); obtain⟨ae,ce,rfl,-,-⟩:=aH hb; clear hb ha hu)
       go_roundw
       ·exact⟨k+1,l++[⟨⟨nm.toArray⟩,kv,mv,tv,tw,⟨#[]⟩,ch,eL⟩],s7,by omega,by go_num,by simp[hI.o],oN hT.o hX.o,hP.o⟩
       simp[intOf]; omega
    ·have e1:(kv == 1)=false:=by simp[hC]
     by_cases hF:kv=2
     ·have e2:(kv == 2)=true:=by simp[hF]
      have HZ:=ag (show oE kd=2 from hz.o.symm.trans hF);clear hC hF;go_wp2_with fail;refine(vI rb dv data s5 _ hl.o.rd).mono ?_;rintro e wa ⟨r,s6,hp,rfl,h1,h2,hr⟩;have hW:=ag hp;have HJ:=ag hr;have hf:=ag (hl.o.call h1 h2);have c7:=hf.o.cell 7;have c8:=hf.o.cell 8;have c9:=hf.o.cell 9;have f7:=hf.o.free 7;have f8:=hf.o.free 8;have f9:=hf.o.free 9
      simp only[fV]at c7 c8 c9;unfold eC;clear hp h1 h2 hr ck
      go_upto_region 23 with(fail)
      obtain⟨wb,hH⟩:=bH (((wa.setCell ⟨w3.heap.size,7,none⟩ (.string r.name)).setCell ⟨w3.heap.size,8,none⟩ (.int .i64 r.gen)).setCell ⟨w3.heap.size,9,none⟩ (.int .i64 r.size));rw[<-hH];have m4:=((hf.o.set 7 (.string r.name)).set 8 (.int .i64 r.gen)).set 9 (.int .i64 r.size);rw[<-hH]at m4;simp only[aX,cG,cr]at m4
      have hc:=ag m4;have hR:=ag (HH.o.trans (Ai HZ.o hW.o));have hV:=ag (show iI ⟨⟨nm.toArray⟩,kv,mv,tv,0,⟨#[]⟩,[],r⟩from⟨by show ByteArray.size ⟨_⟩<=_; unfold maxLen; simp[ByteArray.size]; omega,by show ByteArray.size ⟨_⟩<=_; unfold maxLen; simp[ByteArray.size],HJ.o⟩);have hO:=ag (show dJ (wr.heap.size<= ·) wb (.slice none 0 0) []from cU.nil);clear m4 hH c7 c8 c9 f7 f8 f9 hf hl
      have d0:=hc.o.cell 0;have d1:=hc.o.cell 1;have d2:=hc.o.cell 2;have d3:=hc.o.cell 3;have d4:=hc.o.cell 4;have d5:=hc.o.cell 5;have d6:=hc.o.cell 6;have d7:=hc.o.cell 7;have d8:=hc.o.cell 8;have d9:=hc.o.cell 9;simp only[fV]at d0 d1 d2 d3 d4 d5 d6 d7 d8 d9;have hU:=ag (hd.o.kept hc.o.grown (.inr (by
       intro e;have:=(hd.o.lt _ e).1;have:=dr.lt hg.o
       omega)))
      have hZ:w1.heap.size<=wb.heap.size:=an he.o.grown.size hc.o.grown.size;have hX:=ag (show nZ data s=some (⟨⟨nm.toArray⟩,kv,mv,tv,0,⟨#[]⟩,[],r⟩,s6) by rw[hR.o,hz.o,Hr.o,Hs.o]; rfl);have h3:l.length<4096:=by have:=hI.o; omega
      go_wp2_with (at_builtin; go_must (refine bP Tryz.appItems rfl _ _ rfl w1.heap.size (.slice av l.length cv0) l.length cells rfl wb [.string ⟨nm.toArray⟩, .int .i64 kv, .int .i64 mv, .int .i64 tv, .int .i64 (0), .string ⟨#[]⟩, .slice none 0 0, .string r.name, .int .i64 r.gen, .int .i64 r.size] _ rfl rfl (kS (it:=⟨⟨nm.toArray⟩,kv,mv,tv,0,⟨#[]⟩,[],r⟩)) hU.o (by omega) hZ ?_); intro v' we hb ha _ hu; have hP:=ag (he.o.added (it:=⟨⟨nm.toArray⟩,kv,mv,tv,0,⟨#[]⟩,[],r⟩) hc.o hO.o hV.o hy.o hd.o hb ha hu); obtain⟨ae,ce,rfl,-,-⟩:=aH hb; clear hb ha hu)
      go_roundw
      ·exact⟨k+1,l++[⟨⟨nm.toArray⟩,kv,mv,tv,0,⟨#[]⟩,[],r⟩],s6,by omega,by go_num,by simp[hI.o],oN hT.o hX.o,hP.o⟩
      simp[intOf]; omega
     ·have e2:(kv == 2)=false:=by simp[hF]
      by_cases hL:kv=3
      ·have e3:(kv == 3)=true:=by simp[hL]
       have H0:=ag (show oE kd=3 from hz.o.symm.trans hL);clear hC hF hL;go_wp2_with fail;refine(Oq rb dv data s5 512 _ hl.o.rd (by omega)).mono ?_;rintro e wa ⟨lk,s6,hp,rfl,h1,h2⟩;have hW:=ag hp;have H7:lk.length<=512:=by have:=Jo data 512 s5; rw[hp]at this; exact this
       have hf:=ag (hl.o.call h1 h2);have c7:=hf.o.cell 5;have f7:=hf.o.free 5;simp only[fV]at c7;clear hp h1 h2 ck
       go_upto_region 23 with(fail)
       obtain⟨wb,hH⟩:=bH (wa.setCell ⟨w3.heap.size,5,none⟩ (.string ⟨lk.toArray⟩));rw[<-hH];have m4:=hf.o.set 5 (.string ⟨lk.toArray⟩);rw[<-hH]at m4;simp only[aX,cG,cr]at m4;have hc:=ag m4;have hR:=ag (HH.o.trans (xB H0.o hW.o));have hV:=ag (show iI ⟨⟨nm.toArray⟩,kv,mv,tv,0,⟨lk.toArray⟩,[],eL⟩from⟨by show ByteArray.size ⟨_⟩<=_; unfold maxLen; simp[ByteArray.size]; omega,by show ByteArray.size ⟨_⟩<=_; unfold maxLen; simp[ByteArray.size]; omega,oe⟩)
       have hO:=ag (show dJ (wr.heap.size<= ·) wb (.slice none 0 0) []from cU.nil);clear m4 hH c7 f7 hf hl;have d0:=hc.o.cell 0;have d1:=hc.o.cell 1;have d2:=hc.o.cell 2;have d3:=hc.o.cell 3;have d4:=hc.o.cell 4;have d5:=hc.o.cell 5;have d6:=hc.o.cell 6;have d7:=hc.o.cell 7;have d8:=hc.o.cell 8;have d9:=hc.o.cell 9;simp only[fV]at d0 d1 d2 d3 d4 d5 d6 d7 d8 d9
       have hU:=ag (hd.o.kept hc.o.grown (.inr (by
        intro e;have:=(hd.o.lt _ e).1;have:=dr.lt hg.o
        omega)))
       have hZ:w1.heap.size<=wb.heap.size:=an he.o.grown.size hc.o.grown.size;have hX:=ag (show nZ data s=some (⟨⟨nm.toArray⟩,kv,mv,tv,0,⟨lk.toArray⟩,[],eL⟩,s6) by rw[hR.o,hz.o,Hr.o,Hs.o]; rfl);have h3:l.length<4096:=by have:=hI.o; omega
       go_wp2_with (at_builtin; go_must (refine bP Tryz.appItems rfl _ _ rfl w1.heap.size (.slice av l.length cv0) l.length cells rfl wb [.string ⟨nm.toArray⟩, .int .i64 kv, .int .i64 mv, .int .i64 tv, .int .i64 (0), .string ⟨lk.toArray⟩, .slice none 0 0, .string ⟨#[]⟩, .int .i64 0, .int .i64 0] _ rfl rfl (kS (it:=⟨⟨nm.toArray⟩,kv,mv,tv,0,⟨lk.toArray⟩,[],eL⟩)) hU.o (by omega) hZ ?_); intro v' we hb ha _ hu; have hP:=ag (he.o.added (it:=⟨⟨nm.toArray⟩,kv,mv,tv,0,⟨lk.toArray⟩,[],eL⟩) hc.o hO.o hV.o hy.o hd.o hb ha hu); obtain⟨ae,ce,rfl,-,-⟩:=aH hb; clear hb ha hu)
       go_roundw
       ·exact⟨k+1,l++[⟨⟨nm.toArray⟩,kv,mv,tv,0,⟨lk.toArray⟩,[],eL⟩],s6,by omega,by go_num,by simp[hI.o],oN hT.o hX.o,hP.o⟩
       simp[intOf]; omega
      ·have e3:(kv == 3)=false:=by simp[hL]
       have hE:=ag (Dz hN.o Hz.o (Dx (Dy hT.o (HH.o.trans (FH (fun e=>hC (hz.o.trans e)) (fun e=>hF (hz.o.trans e)) (fun e=>hL (hz.o.trans e))))) n (by omega)));clear hC hF hL;go_wp2_with fail
       go_ret2
       have H6:Below w.heap.size w w9:=hM.o.trans ((gy.of_grown (S:=fun k=>k=rb) (bW he.o.grown hl.o.grown) (fun k hk=>by cases hk; rfl)).below hM.o.size (fun k hk=>by subst hk; exact HN));exact⟨H6,by rw[hE.o]; rfl⟩
   ·obtain rfl:k=n:=by omega
    have Hh:=ag (vA hN.o Hz.o hT.o);have HW:=ag (show eO (w.heap.size<= ·) wr (.slice av l.length cv0) l from by have y4:=hM.o.size;refine⟨cells,(cK hd.o).weak (fun k hk=>by have:=hk.1; omega),hy.o.mono (fun c x _ hx=>hx.same (fun k hk hS=>⟨by have:=hS.1; omega,rfl⟩))⟩)
    have h9:=ag (show Below w.heap.size w wr from hM.o.trans ((gy.of_grown (S:=fun k=>k=rb) he.o.grown (fun k hk=>by cases hk; rfl)).below hM.o.size (fun k hk=>by subst hk; exact HN)));go_wp2_with fail;refine(Pq rb dv data s _ Ho.o).mono ?_;rintro e we ⟨rfl,nd,rfl⟩;obtain⟨ev,Hw⟩:=bH (uB data s:Int);rw[<-Hw];have HB:=ag Hw;clear Hw
    by_cases h0:ev=0
    ·subst h0;have hD:=ag (show eO (w.heap.size<= ·) (wr.drewN nd) (.slice av l.length cv0) l from eO.below HW.o (gk (ak _ _) nd));have HA:=ag (HE.o.below (gk h9.o nd))
     cases hh:jL l
     ·have hE:=ag (show js data=none by rw[Hh.o,hh]; simp);have Hq:=ag hh;clear hh;go_wp2_with fail;refine(nI _ l _ false _ hD.o HA.o Hq.o).mono ?_;rintro e wf ⟨rfl,hJ⟩;have Hf:=ag (aj (gk h9.o nd) hJ);clear hJ;go_wp2_with fail
      go_ret2
      exact⟨Hf.o,by rw[hE.o]; rfl⟩
     ·have hE:=ag (show js data=some l by rw[Hh.o,hh]; simp[HB.o.symm]);have Hq:=ag hh;clear hh;go_wp2_with fail;refine(nI _ l _ true _ hD.o HA.o Hq.o).mono ?_;rintro e wf ⟨rfl,hJ⟩;have Hf:=ag (aj (gk h9.o nd) hJ);have HX:=ag (eO.below hD.o hJ);clear hJ;go_wp2_with fail
      go_ret2
      exact⟨Hf.o,by rw[hE.o]; exact⟨_,rfl,HX.o⟩⟩
    ·have hE:=ag (show js data=none by rw[Hh.o,if_neg (fun h=>h0 (HB.o.trans h.1))]);have e6:(ev != 0)=true:=by simp[h0]
     clear h0;go_wp2_with fail
     go_ret2
     exact⟨gk h9.o nd,by rw[hE.o]; rfl⟩
open Go.RowKit Go.Maps
def dO (S:Nat->Prop) (w:World):List (Value×Value)->List (ByteArray×List UInt8)->Prop
 | [],[]=>True
 | (k,v)::m,(n,bs)::cs=>k= .string n/\bB S w v bs/\dO S w m cs
 | _,_=>False
theorem dO.mono {S:Nat->Prop} {w w':World} : ∀ {m:List (Value×Value)} {cs:List (ByteArray×List UInt8)},dO S w m cs->(∀v bs,bB S w v bs->bB S w' v bs)->dO S w' m cs
 | [],[],_,_=>trivial
 | [],_::_,h,_=>h
 | _::_,[],h,_=>h
 | (_,_)::_,(_,_)::_,h,hm=>⟨h.1,hm _ _ h.2.1,dO.mono h.2.2 hm⟩
def dU :List (ByteArray×List UInt8)->ByteArray->Option (List UInt8)
 | [],_=>none
 | (k,bs)::cs,n=>if k=n then some bs else dU cs n
theorem dO.hit {S:Nat->Prop} {w:World} {n:ByteArray} {bs:List UInt8} : ∀ {m:List (Value×Value)} {cs:List (ByteArray×List UInt8)},dO S w m cs->dU cs n=some bs-> ∃v,(Value.string n,v)∈m/\bB S w v bs
 | [],[],_,hf=>by simp[dU]at hf
 | [],_::_,h,_=>False.elim h
 | _::_,[],h,_=>False.elim h
 | (k,v)::m,(n',bs')::cs,h,hf=>by
  simp only[dU]at hf
  split at hf
  ·rename_i e;simp only[aV]at hf;subst hf e;exact⟨v,by rw[h.1]; simp,h.2.1⟩
  ·obtain⟨v',h1,h2⟩:=dO.hit h.2.2 hf;exact⟨v',by simp[h1],h2⟩
theorem dO.miss {S:Nat->Prop} {w:World} {n:ByteArray} : ∀ {m:List (Value×Value)} {cs:List (ByteArray×List UInt8)},dO S w m cs->dU cs n=none-> ∀p∈m,p.1≠Value.string n
 | [],[],_,_,_,hp=>by simp at hp
 | [],_::_,h,_,_,_=>False.elim h
 | _::_,[],h,_,_,_=>False.elim h
 | (k,v)::m,(n',bs')::cs,h,hf,p,hp=>by
  simp only[dU]at hf
  split at hf
  ·simp at hf
  ·rename_i e
   rcases aU.1 hp with rfl | hp
   ·intro e2;have:=h.1.symm.trans e2;simp only[eJ]at this;exact e this
   ·exact dO.miss h.2.2 hf p hp
def fI (S:Nat->Prop) (w:World) (cv:Value) (cs:List (ByteArray×List UInt8)):Prop:=
 (cv= .map none/\cs=[])\/ ∃b m,cv= .map (some b)/\S b/\jX Tryz.prog 9 w b m/\dO S w m cs
theorem fI.below {S:Nat->Prop} {w w':World} {cv:Value} {cs:List (ByteArray×List UInt8)} (h:fI S w cv cs) (hb:Below w.heap.size w w'):fI S w' cv cs:=by
 rcases h with h | ⟨b,m,h1,h0,h2,h3⟩
 ·exact .inl h
 ·exact .inr ⟨b,m,h1,h0,h2.same (hb.block b h2.lt),h3.mono (fun v bs hv=>bX.below hv (by omega) hb)⟩
theorem re :Keyed Tryz.prog 9:=string_keyed eo
theorem qZ {n:ByteArray} (h:n.size<=maxLen): ∃l,keyOf Tryz.prog 9 (.string n)=some l:=⟨.string n.data.toList,by simp[keyOf,mapKey,Tryz.underlying9,h]⟩
theorem fI.hitL {S:Nat->Prop} {w:World} {cv:Value} {cs:List (ByteArray×List UInt8)} (h:fI S w cv cs) {n:ByteArray} {bs:List UInt8} (hn:n.size<=maxLen) (hf:dU cs n=some bs):
  ∃v,(Instr.lookup 133 cv (.string n) true).run Tryz.prog w= .ok (.tuple #[v, .bool true]) w/\bB S w v bs:=by
 rcases h with⟨_,rfl⟩ | ⟨b,m,rfl,_,h2,h3⟩
 ·simp[dU]at hf
 ·obtain⟨v,hv,hb⟩:=h3.hit hf;exact⟨v,h2.hit re (t:=133) (e:=29) (by kernel_rfl) (qZ hn) hv true,hb⟩
theorem fI.missL {S:Nat->Prop} {w:World} {cv:Value} {cs:List (ByteArray×List UInt8)} (h:fI S w cv cs) {n:ByteArray} (hn:n.size<=maxLen) (hf:dU cs n=none):
  (Instr.lookup 133 cv (.string n) true).run Tryz.prog w= .ok (.tuple #[.slice none 0 0, .bool false]) w:=by
 obtain⟨l,hl⟩:=qZ hn
 rcases h with⟨rfl,_⟩ | ⟨b,m,rfl,_,h2,h3⟩
 ·exact Maps.look_nil true re (t:=133) (e:=29) (by kernel_rfl) (by kernel_rfl) hl
 ·exact h2.miss re (t:=133) (e:=29) (by kernel_rfl) (by kernel_rfl) (qZ hn) (h3.miss hf) true
def jr (cs:List (ByteArray×List UInt8)) (r:bY):Except Int (List UInt8):=match dU cs r.name with
 | none=> .error 10
 | some bs=>if(bs.length:Int)=r.size then .ok bs else .error 9
def gq (cs:List (ByteArray×List UInt8)) (r:bY):Except Int (List ci):=match jr cs r with
 | .error e=> .error e
 | .ok bs=>match js bs with
  | none=> .error 9
  | some l=> .ok l
def Ct (cs:List (ByteArray×List UInt8)) (r:bY) (S:Nat->Prop) (w:World) (e:Ending) (w':World):Prop:=Below w.heap.size w w'/\match jr cs r with
 | .error x=>e= .returned (.tuple #[.slice none 0 0, .int .i64 x])/\x≠0
 | .ok bs=> ∃v,e= .returned (.tuple #[v, .int .i64 0])/\bB S w' v bs
theorem zM (S:Nat->Prop) (cv:Value) (cs:List (ByteArray×List UInt8)) (r:bY) (w:World) (hc:fI S w cv cs) (hr:dZ r):Calls Tryz.prog 129 #[cv,eC r] w (Ct cs r S w):=by
 have ha:=hr.nm;have HC:=ag (hc.below ((ak _ _).alloc (ah _) (.cells #[.string r.name, .int .i64 r.gen, .int .i64 r.size] 26)));have HB:=ag ((ak w.heap.size w).alloc (ah _) (.cells #[.string r.name, .int .i64 r.gen, .int .i64 r.size] 26));unfold eC;clear hc hr
 cases hf:dU cs r.name with
 | none=>
  have hb:=HC.o.missL ha hf;have HF:=ag (show jr cs r= .error 10 by unfold jr; rw[hf]);clear hf ha
  go_enter Tryz.func129,Tryz.ntmps129
  go_wp2_with fail
  go_ret2
  exact⟨HB.o,by rw[HF.o]; exact⟨rfl,by decide⟩⟩
 | some bs=>
  obtain⟨v,hb,hv⟩:=HC.o.hitL ha hf;have HV:=ag hv;obtain⟨_,a,cap,rfl,hn,hm,-⟩:=hv;unfold maxLen at hm
  by_cases hl:(bs.length:Int)=r.size
  ·have HF:=ag (show jr cs r= .ok bs by unfold jr; rw[hf]; simp only[if_pos hl]);have e1:((bs.length:Int) != r.size)=false:=by simp[hl]
   clear hf ha hl
   go_enter Tryz.func129,Tryz.ntmps129
   go_wp2_with fail
   go_ret2
   exact⟨HB.o,by rw[HF.o]; exact⟨_,rfl,HV.o⟩⟩
  ·have HF:=ag (show jr cs r= .error 9 by unfold jr; rw[hf]; simp only[if_neg hl]);have e1:((bs.length:Int) != r.size)=true:=by simp[hl]
   clear hf ha hl
   go_enter Tryz.func129,Tryz.ntmps129
   go_wp2_with fail
   go_ret2
   exact⟨HB.o,by rw[HF.o]; exact⟨rfl,by decide⟩⟩
def Bz (cs:List (ByteArray×List UInt8)) (r:bY) (w:World) (e:Ending) (w':World):Prop:=Below w.heap.size w w'/\match gq cs r with
 | .error x=>e= .returned (.tuple #[.slice none 0 0, .int .i64 x])/\x≠0
 | .ok l=> ∃v,e= .returned (.tuple #[v, .int .i64 0])/\eO (w.heap.size<= ·) w' v l
theorem tW (S:Nat->Prop) (cv:Value) (cs:List (ByteArray×List UInt8)) (r:bY) (w:World) (hc:fI S w cv cs) (hr:dZ r) (henv:nJ w):Calls Tryz.prog 83 #[cv,eC r] w (Bz cs r w):=by
 have HB:=ag ((ak w.heap.size w).alloc (ah _) (.cells #[.string r.name, .int .i64 r.gen, .int .i64 r.size] 26));have HC:=ag (hc.below HB.o);have HR:=ag hr;have HE:=ag (henv.below HB.o);unfold eC;clear hc hr henv
 go_enter Tryz.func83,Tryz.ntmps83
 go_wp2_with fail;refine(zM S cv cs r _ HC.o HR.o).mono ?_;rintro e w1 ⟨hf,ha⟩;have he:=ag (aj HB.o hf);have ho:=ag (HE.o.below hf);clear hf
 cases hb:jr cs r with
 | error x=>
  rw[hb]at ha;obtain⟨rfl,hx⟩:=ha;have HN:=ag (show gq cs r= .error x by unfold gq; rw[hb]);have HX:=ag hx;have e1:(x != 0)=true:=by simp[hx]
  clear hb hx;go_wp2_with fail
  go_ret2
  exact⟨he.o,by rw[HN.o]; exact⟨rfl,HX.o⟩⟩
 | ok bs=>
  rw[hb]at ha;obtain⟨v,rfl,hv⟩:=ha;have HV:=ag hv;obtain⟨_,a,cap,rfl,hn,hm,-⟩:=hv;unfold maxLen at hm;have hh:=ag hb;clear hb;go_wp2_with fail;refine(uG S bs _ w1 HV.o ho.o).mono ?_;rintro e w2 ⟨hj,ha⟩;have hg:=ag (aj he.o hj);clear hj
  cases hd:js bs with
  | none=>
   rw[hd]at ha;simp only at ha;subst ha;have HN:=ag (show gq cs r= .error 9 by unfold gq; rw[hh.o]; simp only[hd]);clear hd;go_wp2_with fail
   go_ret2
   exact⟨hg.o,by rw[HN.o]; exact⟨rfl,by decide⟩⟩
  | some l=>
   rw[hd]at ha;simp only at ha;obtain⟨v,rfl,hv⟩:=ha;have hl:=he.o.size;have hp:=ag (show eO (w.heap.size<= ·) w2 v l from by obtain⟨cells,h1,h2⟩:=hv;exact⟨cells,h1.weak (fun k hk=>an hl hk),h2.mono (fun c x _ hx=>hx.same (fun k _ hS=>⟨an hl hS,rfl⟩))⟩)
   obtain⟨a2,c2,rfl,-,-,-⟩:=cU.shape hv lm.len;have HN:=ag (show gq cs r= .ok l by unfold gq; rw[hh.o]; simp only[hd]);clear hd hv;go_wp2_with fail
   go_ret2
   exact⟨hg.o,by rw[HN.o]; exact⟨_,rfl,hp.o⟩⟩
end
section
open Go.RowKit
def pq :List (ByteArray×List UInt8)->ByteArray->List UInt8->List (ByteArray×List UInt8)
 | [],n,x=>[(n,x)]
 | p::cs,n,x=>if p.1=n then(n,x)::cs else p::pq cs n x
def iH (bs:List cQ):List (ByteArray×List UInt8):=bs.foldl (fun cs b=>pq cs b.ref.name b.con) []
section
variable (k : dq) (gs : List (ByteArray × Int))
def qr (s:List cQ×Bool) (x:List UInt8):List cQ×Bool:=match s.1.find? (fun b=>decide (b.ref=bF k gs x))with
 | some b=>(s.1,s.2 || !decide (b.con=x))
 | none=>(s.1++[⟨bF k gs x,x⟩],s.2)
def io (cs:List (List UInt8)) (s:List cQ×Bool):List cQ×Bool:=cs.foldl (qr k gs) s
end
def Jn (bs:List cQ):Bool:= !decide ((bs.map fun b=>b.ref.name).Nodup)
section
variable {k : dq} {gs : List (ByteArray × Int)}
theorem Gf (s:List cQ×Bool) (x:List UInt8):(qr k gs s x).1=kh k gs s.1 x:=by
 unfold qr kh
 cases hf:s.1.find? (fun b=>decide (b.ref=bF k gs x))with
 | some b=>
  have h1:=jB hf;have h2:=ed hf;rw[if_pos (aQ.2 ⟨b,h2,by simpa using h1⟩)]
 | none=>
  rw[if_neg];intro hm;obtain⟨b,hb,he⟩:=aQ.1 hm;have:=fg.1 hf b hb;simp[he]at this
theorem vG : ∀(cs:List (List UInt8)) (s:List cQ×Bool),(io k gs cs s).1=dR k gs cs s.1
 | [],_=>rfl
 | x::cs,s=>by
  show(io k gs cs (qr k gs s x)).1=dR k gs cs (kh k gs s.1 x)
  rw[vG cs,Gf]
theorem NJ {s:List cQ×Bool} {x:List UInt8} (h:(qr k gs s x).2=false):s.2=false/\(∀b∈s.1,b∈(qr k gs s x).1)/\ ∃b∈(qr k gs s x).1,b.ref=bF k gs x/\b.con=x:=by
 unfold qr at h ⊢
 cases hf:s.1.find? (fun b=>decide (b.ref=bF k gs x))with
 | some b=>
  rw[hf]at h;simp only[fX,Bool.not_eq_false',aG]at h;have h1:=jB hf;exact⟨h.1,fun b hb=>hb,b,ed hf,by simpa using h1,h.2⟩
 | none=>
  rw[hf]at h;exact⟨h,fun b hb=>gd _ hb,_,jV _ (aL.2 rfl),rfl,rfl⟩
theorem uN : ∀ {cs:List (List UInt8)} {s:List cQ×Bool},(io k gs cs s).2=false->s.2=false/\(∀b∈s.1,b∈(io k gs cs s).1)/\ ∀x∈cs,∃b∈(io k gs cs s).1,b.ref=bF k gs x/\b.con=x
 | [],s,h=>⟨h,fun _ hb=>hb,fun x hx=>by cases hx⟩
 | y::cs,s,h=>by
  have h0:(io k gs cs (qr k gs s y)).2=false:=h;obtain⟨h1,h2,h3⟩:=uN h0;obtain⟨h4,h5,b,h6,h7,h8⟩:=NJ h1;refine⟨h4,fun b hb=>h2 b (h5 b hb),fun x hx=> ?_⟩
  rcases aU.1 hx with rfl | hx
  ·exact⟨b,h2 b h6,h7,h8⟩
  ·exact h3 x hx
theorem rK (n m:ByteArray) (x:List UInt8): ∀(cs:List (ByteArray×List UInt8)),dU (pq cs n x) m=if n=m then some x else dU cs m
 | []=>rfl
 | (a,b)::cs=>by
  unfold pq
  by_cases h:a=n
  ·subst h;rw[if_pos rfl,dU,dU]
   by_cases h2:a=m
   ·rw[if_pos h2,if_pos h2]
   ·rw[if_neg h2,if_neg h2,if_neg h2]
  ·rw[if_neg h,dU,rK n m x cs]
   by_cases h2:a=m
   ·subst h2;rw[if_pos rfl,if_neg (fun e=>h e.symm),dU,if_pos rfl]
   ·rw[if_neg h2,dU,if_neg h2]
theorem wW : ∀(bs:List cQ) (cs:List (ByteArray×List UInt8)) (m:ByteArray),(∀b∈bs,b.ref.name≠m)->dU (bs.foldl (fun cs b=>pq cs b.ref.name b.con) cs) m=dU cs m
 | [],_,_,_=>rfl
 | b::bs,cs,m,h=>by rw[ei,wW bs _ m fun x hx=>h x (by simp[hx]),rK,if_neg (h b (by simp))]
theorem CL {cs:List (ByteArray×List UInt8)} {x:List UInt8} (h:dU cs (bF k gs x).name=some x):jr cs (bF k gs x)= .ok x:=by
 unfold jr;rw[h]
 show(if(x.length:Int)=(x.length:Int)then _ else _)=_
 rw[if_pos rfl]
end
open Go Go.RowKit
def tn (w:World) (wb:Nat) (data:List UInt8):Prop:= ∃v,w.heap[wb]? =some (.cells #[v, .int .i64 0] 160 (0,0))/\mj w wb v data
def nh (wb:Nat) (w w':World):Prop:=Below wb w w'/\ ∀t,t≠5->t≠160->jD t w w'
theorem nh.refl (wb:Nat) (w:World):nh wb w w:=⟨ak _ _,fun _ _ _=>jD.refl _⟩
theorem nh.trans {wb:Nat} {A B C:World} (h:nh wb A B) (k:nh wb B C):nh wb A C:=⟨h.1.trans k.1,fun t h1 h2=>(h.2 t h1 h2).trans (k.2 t h1 h2)⟩
theorem nh.row {wb:Nat} {w w':World} {v:Value} {data:List UInt8} (ho:mj w wb v data) (hb:wb<=w.heap.size) (hg:w.grownBy w' v.ownBlock):nh wb w w':=
 ⟨(ak _ _).grown hg hb (fun k e=>(pp ho e).1),fun t h1 _=>jD.grown hg (fun r e cs hcs=>by obtain⟨_,cur,hc⟩:=pp ho e;rw[hc]at hcs; cases hcs; exact h1 rfl)⟩
theorem nh.set {wb k:Nat} {w:World} {cs:Array Value} (hb:w.heap[wb]? =some (.cells cs 160 (0,0))) (v:Value):nh wb w (w.setCell ⟨wb,k,none⟩ v):=
 ⟨(ak _ _).grown (cJ w wb k v) (eZ (am hb)) (fun k e=>by cases e; exact ah _),fun t _ h2=>jD.grown (cJ w wb k v) (fun r e cs' hcs=>by cases e; rw[hb]at hcs; cases hcs; exact h2 rfl)⟩
theorem tn.box {w w':World} {wb:Nat} {v:Value} {cs:Array Value} {data:List UInt8} (hb:w.heap[wb]? =some (.cells cs 160 (0,0))) (ho:mj w wb v data) (hg:w.grownBy w' v.ownBlock):w'.heap[wb]? =some (.cells cs 160 (0,0)):=
 (hg.block _ (am hb) (fun e=>by obtain⟨_,cur,hc⟩:=pp ho e.symm;rw[hc]at hb; cases hb)).trans hb
theorem tn.put {w1:World} {wb:Nat} {v v':Value} {data:List UInt8} (hb:w1.heap[wb]? =some (.cells #[v, .int .i64 0] 160 (0,0))) (ho:mj w1 wb v' data):tn (w1.setCell ⟨wb,0,none⟩ v') wb data:=
 ⟨v',by simpa using NW (k:=0) hb v',World.ownsRow.kept ho (cJ w1 wb 0 v') (by
  cases h:v'.ownBlock with
  | none=>exact .inl rfl
  | some k=>
   refine .inr (fun e=> ?_);obtain⟨_,cur,hc⟩:=pp ho h
   cases e
   rw[hc]at hb; cases hb)⟩
theorem zf (w:World):Calls Tryz.prog 48 #[] w fun e w'=>e= .returned (.pointer (some ⟨w.heap.size,0,none⟩))/\tn w' w.heap.size []/\Below w.heap.size w w':=by
 go_enter Tryz.func48,Tryz.ntmps48
 go_wp2_with fail;go_ret;exact⟨rfl,⟨.slice none 0 0,ez w _,bN _ _ _ _⟩,eT⟩
theorem lL (wb n:Nat) (data:List UInt8) (w:World) (hw:tn w wb data) (hl:data.length<1099511000000) (hn:n<18446744073709551616):
  Calls Tryz.prog 51 #[.pointer (some ⟨wb,0,none⟩), .int .u64 (n:Int)] w fun e w'=>e= .returned (.tuple #[])/\tn w' wb (data++bG n)/\nh wb w w':=by
 obtain⟨v,hb,ho⟩:=hw;obtain⟨a0,c0,rfl,hk,hp⟩:=aH ho;have HB:=ag hb;have HO:=ag ho;have hf:=am hb;obtain⟨k0,k1,_⟩:=aT hb;clear hb ho
 go_enter Tryz.func51,Tryz.ntmps51
 go_wp2_with fail;refine(sP wb _ data n w HO.o (eZ hf) hl hn).mono ?_;rintro e w1 ⟨v',rfl,hd,hc,-⟩;obtain⟨a1,c1,hg,-,-⟩:=aH hd;obtain⟨m,hm⟩:=bH ((data++bG n).length);rw[<-hm]at hg;subst hg;clear hm;have ha:=tn.box HB.o HO.o hc;have he:=ag ha;have hj:=ag hd;have hh:=ag (nh.row HO.o (eZ hf) hc);have f0:=qU (k:=0) ha
 clear k0 k1;have k0:=ar (k:=0) ha;simp only[aF,aD]at k0;clear ha hd hc;go_wp2_with fail
 go_end0
 exact⟨rfl,tn.put he.o hj.o,hh.o.trans (nh.set he.o _)⟩
theorem Bk (wb:Nat) (t:ByteArray) (data:List UInt8) (w:World) (hw:tn w wb data) (hl:data.length<1099000000000) (hn:t.size<500000000):
  Calls Tryz.prog 50 #[.pointer (some ⟨wb,0,none⟩), .string t] w fun e w'=>e= .returned (.tuple #[])/\tn w' wb (data++(bG t.size++bl t))/\nh wb w w':=by
 obtain⟨v,hb,ho⟩:=hw;obtain⟨a0,c0,rfl,hy,hA⟩:=aH ho;have HB:=ag hb;have HO:=ag ho;have hq:=am hb;obtain⟨k0,k1,_⟩:=aT hb;clear hb ho;have hB:IntKind.u64.wrap (t.size:Int)=((t.size:Nat):Int):=by rw[cX]; omega
 have hy:=iR (n:=t.size) (by omega)
 go_enter Tryz.func50,Tryz.ntmps50
 go_wp2_with fail;refine(sP wb _ data t.size w HO.o (eZ hq) (by omega) (by omega)).mono ?_;rintro e w1 ⟨v',rfl,hj,hh,-⟩;obtain⟨a1,c1,hs,-,-⟩:=aH hj;obtain⟨m,hm⟩:=bH ((data++bG t.size).length);rw[<-hm]at hs;subst hs;have HM:=ag hm;clear hm;have hk:=ag (tn.box HB.o HO.o hh);have hf:=ag hj;have hv:=ag (nh.row HO.o (eZ hq) hh)
 have hx:=ag (show(data++bG t.size).length+t.size<1099511627775 by rw[ai]; omega);have hd:=am hk.o;clear k0 k1 hj hh;go_wp2_with (at_builtin; go_must (refine lz rfl _ _ rfl wb (.slice a1 m c1) (data++bG t.size) rfl hf.o t rfl hx.o (eZ hd) ?_); intro v2 w2 hc ha; obtain⟨a2,c2,hu,-,-⟩:=aH hc; obtain⟨m2,hr⟩:=bH ((data++bG t.size).length+t.size); try (rw[<-hr]at hu); subst hu; clear hr; have hg:=ag hc; have hp:=ag ha; clear hc ha; have he:=ag (tn.box hk.o hf.o hp.o); have f0:=qU (k:=0) he.o; have k0:=ar (k:=0) he.o; simp only[aF,aD]at k0)
 go_end0
 have hz:mj w2 wb (.slice a2 m2 c2) (data++(bG t.size++bl t)):=by have:=hg.o;unfold mj;rw[<-bg,ai,aI,<-bi];exact this
 exact⟨rfl,tn.put he.o hz,(hv.o.trans (nh.row hf.o (eZ hd) hp.o)).trans (nh.set he.o _)⟩
theorem OB (wb:Nat) (t:ByteArray) (data:List UInt8) (w:World) (hw:tn w wb data) (hl:data.length<1099000000000) (hn:t.size=32):
  Calls Tryz.prog 101 #[.pointer (some ⟨wb,0,none⟩), .string t] w fun e w'=>e= .returned (.tuple #[])/\tn w' wb (data++bl t)/\nh wb w w':=by
 obtain⟨v,hb,ho⟩:=hw;obtain⟨a0,c0,rfl,hp,hq⟩:=aH ho;have HB:=ag hb;have HO:=ag ho;have hg:=am hb;obtain⟨k0,k1,_⟩:=aT hb;clear hb ho;have hr:(t.size:Int)=32:=by omega
 have hk:=ag (show data.length+t.size<1099511627775 by omega);clear hn
 go_enter Tryz.func101,Tryz.ntmps101
 go_wp2_with (at_builtin; go_must (refine lz rfl _ _ rfl wb (.slice a0 data.length c0) data rfl HO.o t rfl hk.o (eZ hg) ?_); intro v2 w2 hc ha; obtain⟨a2,c2,hj,-,-⟩:=aH hc; obtain⟨m2,hh⟩:=bH ((data.length+t.size)); try (rw[<-hh]at hj); subst hj; clear hh; have he:=ag hc; have hf:=ag ha; clear hc ha; have hd:=ag (tn.box HB.o HO.o hf.o); have f0:=qU (k:=0) hd.o; clear k0 k1; have k0:=ar (k:=0) hd.o; simp only[aF,aD]at k0)
 go_end0
 have hm:mj w2 wb (.slice a2 m2 c2) (data++bl t):=by have:=he.o;unfold mj;rw[ai,aI,<-bi];exact this
 exact⟨rfl,tn.put hd.o hm,(nh.row HO.o (eZ hg) hf.o).trans (nh.set hd.o _)⟩
theorem yJ (wb n:Nat) (data:List UInt8) (w:World) (hw:tn w wb data) (hl:data.length<1099511000000) (hn:n<9223372036854775808):
  Calls Tryz.prog 49 #[.pointer (some ⟨wb,0,none⟩), .int .i64 (n:Int)] w fun e w'=>e= .returned (.tuple #[])/\tn w' wb (data++bG n)/\nh wb w w':=by
 have HW:=ag hw;obtain⟨v,hb,ho⟩:=hw;obtain⟨a0,c0,rfl,hd,he⟩:=aH ho;have HB:=ag hb;have HO:=ag ho;have hf:=am hb;obtain⟨k0,k1,_⟩:=aT hb;clear hb ho;have hg:IntKind.u64.wrap (n:Int)=((n:Nat):Int):=by rw[cX]; omega
 go_enter Tryz.func49,Tryz.ntmps49
 go_wp2_with fail;refine(lL wb n data w HW.o hl (by omega)).mono ?_;rintro e w1 ⟨rfl,hc,ha⟩;go_wp2_with fail
 go_end0
 exact⟨rfl,hc,ha⟩
theorem nh.below {wb:Nat} {w w':World} (h:Below w.heap.size w w') (hb:wb<=w.heap.size):nh wb w w':=⟨h.mono hb,fun _ _ _=>jD.below h⟩
theorem tn.below {wb:Nat} {data:List UInt8} {w w':World} (h:tn w wb data) (hb:Below w.heap.size w w'):tn w' wb data:=by obtain⟨v,h1,h2⟩:=h;exact⟨v,eA hb h1,cY h2 hb⟩
def OM (data:List UInt8) (w:World) (e:Ending) (w':World):Prop:=
 Below w.heap.size w w'/\if data.length<=1048576 then ∃v,e= .returned (.tuple #[v, .int .i64 0])/\mj w' w.heap.size v data else e= .returned (.tuple #[.slice none 0 0, .int .i64 2])
theorem LD (wb:Nat) (data:List UInt8) (w:World) (hw:tn w wb data) (hl:data.length<1099000000000):Calls Tryz.prog 53 #[.pointer (some ⟨wb,0,none⟩)] w (OM data w):=by
 obtain⟨v,hb,ho⟩:=hw;obtain⟨a0,c0,hv,hq,hs⟩:=aH ho;obtain⟨n,hn⟩:=bH data.length;rw[<-hn]at hv hq hl;subst hv;have HN:=ag hn;have HR:=ag (show bX (fun k=>wb<=k/\(Value.slice a0 n c0).ownBlock=some k) w 1 (.slice a0 n c0) n (data.map aZ) by rw[hn]; rw[hn]at ho; exact cK ho);have hu:=am hb;obtain⟨k0,k1,_⟩:=aT hb;clear hb ho hn
 by_cases hd:n<=1048576
 ·have hf:=ag hd;have hr:(n:Int)<=1048576:=by omega
  have hm:=ag (World.ownsRow_made (base:=w.heap.size) (e:=5) (size:=1) w #[] 0 (ah _) (by unfold maxLen; omega) rfl);have he:=ag ((ak w.heap.size w).alloc (ah _) (.cells #[] 5));have hp:=ag (HR.o.below (by decide) he.o);have hk:=ag (show ∀u∈data.map aZ,u.oneCell'=true from fE data);have hh:=ag (show 0+n<1099511627775 by omega)
  have k2:=(he.o.cell (cR k0)).trans k0
  go_enter Tryz.func53,Tryz.ntmps53
  go_wp2_with (at_builtin; go_must (refine dV Tryz.appBytes rfl _ _ rfl w.heap.size _ 0 [] rfl hm.o _ n (data.map aZ) rfl hp.o hk.o hh.o he.o.size ?_); intro v6 wz hc ha; go_must (rw[bO,aJ]at hc); have hj:=ag hc; have hg:=ag ha; clear hc ha)
  go_ret2
  refine⟨he.o.grown hg.o he.o.size (fun k e=>by cases e; exact ah _), ?_⟩;rw[<-HN.o,if_pos hf.o];exact⟨v6,rfl,by unfold mj; rw[<-HN.o]; exact hj.o⟩
 ·have hf:=ag hd;have hr:(1048576:Int)<(n:Int):=by omega
  clear hd
  go_enter Tryz.func53,Tryz.ntmps53
  go_wp2_with fail
  go_ret2
  refine⟨ak _ _, ?_⟩;rw[<-HN.o,if_neg hf.o]
  rfl
theorem ul (wb:Nat) (r:bY) (data:List UInt8) (w:World) (hw:tn w wb data) (hl:data.length<1098000000000) (hr:lj r=true):
  Calls Tryz.prog 52 #[.pointer (some ⟨wb,0,none⟩),eC r] w fun e w'=>e= .returned (.tuple #[])/\tn w' wb (data++fK r)/\nh wb w w':=by
 have HW:=ag hw;obtain⟨hk,hD,hE,hI,hJ⟩:=mZ.1 hr;obtain⟨g,hg⟩:=bH r.gen.toNat
 obtain⟨z,hz⟩:=bH r.size.toNat
 have hm:r.gen=(g:Int):=by omega
 have hq:r.size=(z:Int):=by omega
 have hs:=ag (show fK r=bl r.name++(bG g++bG z) by unfold fK; rw[hg,hz]);have he:=ag hk;have hN:IntKind.u64.wrap (g:Int)=(g:Int):=by rw[cX]; omega
 have hO:IntKind.u64.wrap (z:Int)=(z:Int):=by rw[cX]; omega
 have hM:g<1099511627777:=by omega
 have hP:z<32769:=by omega
 have hG:wb<w.heap.size:=by obtain⟨_,h,_⟩:=hw; exact am h
 unfold eC;rw[hm,hq];clear hw hr hk hD hE hI hJ hg hz hm hq
 go_enter Tryz.func52,Tryz.ntmps52
 go_wp2_with fail;obtain⟨w1,ha⟩:=bH (w.alloc (.cells #[.string r.name, .int .i64 (g:Int), .int .i64 (z:Int)] 26));rw[<-ha];have hf:=ag (show Below w.heap.size w w1 by rw[ha]; exact eT);have hj:=ag (show w1.heap[w.heap.size]? =some (.cells #[.string r.name, .int .i64 (g:Int), .int .i64 (z:Int)] 26 (0,0)) by rw[ha]; exact ez w _);have hu:=ag (nh.below hf.o (eZ hG))
 have hy:=ag (HW.o.below hf.o);clear ha;refine(OB wb r.name data w1 hy.o (by omega) he.o).mono ?_;rintro e w2 ⟨rfl,ho,hc⟩;have hA:=ag ho;have hv:=ag hc;have hb:=ag ((hc.2 _ (by decide) (by decide) _ _ hj.o).trans hj.o);have hn:(data++bl r.name).length=data.length+32:=by rw[ai,<-bi,he.o]
 have hh:=ag hn;have c1:=ar (k:=1) hb.o;simp only[fV]at c1;clear ho hc hn;go_wp2_with fail;refine(lL wb g _ w2 hA.o (by rw[hh.o]; omega) (by omega)).mono ?_;rintro e w3 ⟨rfl,hp,hd⟩;have hB:=ag hp;have hx:=ag hd;have hC:=ag ((hd.2 _ (by decide) (by decide) _ _ hb.o).trans hb.o);have c2:=ar (k:=2) hC.o;simp only[fV]at c2;clear hp hd c1
 have hL:=iR (n:=g) (by omega);go_wp2_with fail;refine(lL wb z _ w3 hB.o (by rw[ai,hh.o]; omega) (by omega)).mono ?_;rintro e w4 ⟨rfl,hH,hF⟩;go_wp2_with fail
 go_end0
 refine⟨rfl, ?_,((hu.o.trans hv.o).trans hx.o).trans hF⟩;rw[hs.o,<-bg,<-bg];exact hH
def kR (l:List ci) (k:Nat):List UInt8:=bG l.length++(l.take k).flatMap gL
theorem BP {l:List ci} {k:Nat} {it:ci} (h:l[k]? =some it):kR l (k+1)=kR l k++gL it:=by unfold kR;rw[cw,h,bV,<-bg]; simp
theorem Dc (l:List ci):kR l l.length=gC l:=by unfold kR gC; rw[dw]
theorem xf (l:List ci) (k:Nat):(kR l k).length<=(gC l).length:=by
 have:(l.flatMap gL).length=((l.take k).flatMap gL).length+((l.drop k).flatMap gL).length:=by rw[<-ai,<-bV,dA]
 unfold kR gC;rw[ai,ai];omega
def wE (l:List ci) (w:World) (e:Ending) (w':World):Prop:=Below w.heap.size w w'/\
 if jL l=true then(if(gC l).length<=32768 then ∃v,e= .returned (.tuple #[v, .int .i64 0])/\mj w' w.heap.size v (gC l)else e= .returned (.tuple #[.slice none 0 0, .int .i64 2]))
 else e= .returned (.tuple #[.slice none 0 0, .int .i64 1])
theorem DP (S:Nat->Prop) (l:List ci) (v:Value) (w:World) (hv:eO S w v l) (henv:nJ w) (hsm:(gC l).length<1000000000000) (htm: ∀it∈l,it.time<9223372036854775808):Calls Tryz.prog 15 #[v] w (wE l w):=by
 obtain⟨a,cap,rfl,hc,hm,-⟩:=cU.shape hv lm.len;unfold maxLen at hm;obtain⟨n,hn⟩:=bH l.length;rw[<-hn]at hv hc ⊢;have HV:=ag hv;have HE:=ag henv;have HN:=ag hn;have h0:=ag hsm;have HQ:=ag htm;clear hv henv hn hsm htm
 by_cases hx:jL l=true
 ·have hC:=ag hx;have hG:=ag (pS hx);clear hx;have yp:n<=4096:=by rw[HN.o]; exact hG.o.1
  go_enter Tryz.func15,Tryz.ntmps15
  go_wp2_with fail;refine(nI S l _ true w HV.o HE.o hC.o).mono ?_;rintro e w1 ⟨rfl,hJ⟩;have hN:=ag hJ;clear hJ;go_wp2_with fail;refine(zf w1).mono ?_;rintro e w2 ⟨rfl,Hc,Hl⟩;obtain⟨wb,He⟩:=bH w1.heap.size;rw[<-He]at Hc ⊢;have HC:=ag (aj hN.o Hl);have HU:=ag Hc;have hs:=ag (show w.heap.size<=wb by rw[He]; exact hN.o.size);clear Hc Hl He
  go_wp2_with fail;refine(yJ wb n [] w2 HU.o (by simp) (by omega)).mono ?_;rintro e w3 ⟨rfl,Hd,Ho⟩;rw[aJ]at Hd;have HX:=ag Hd;have HD:=ag (HC.o.trans (Ho.1.mono hs.o));clear Hd Ho;go_wp2_with fail
  go_loopw [21] (fun i wr=> ∃k:Nat,k<=n/\i= .int .i64 (k:Int)/\tn wr wb (kR l k)/\Below w.heap.size w wr) (fun i _=>n-(intOf i).toNat)
  ·exact⟨0,aR _,rfl,by have:=HX.o; rw[HN.o]at this; simpa [kR]using this,HD.o⟩
  ·obtain⟨k,hk,rfl,hw,hb⟩:=hrel;have HW:=ag hw;have HB:=ag hb;clear hw hb
   by_cases H7:k<n
   ·obtain⟨it,hr⟩: ∃it,l[k]? =some it:=⟨l[k]'(by rw[<-HN.o]; exact H7),by simp⟩;obtain⟨b,o,ca,cc,rfl,Ht,Hu,HZ,-,hL⟩:=lR HV.o (ak _ _) hr;have hu: ∀j,j<10->wr.cell? ⟨b,o+k*10+j,none⟩=(fu (.slice ca it.chunks.length cc) it)[j]? :=fun j hj=>(HB.o.cell (p:=⟨b,o+k*10+j,none⟩) HZ).trans (hL j hj)
    have HR:=ag hr;have HO:=ag Ht;have hY:=ag Hu;have HS:=ag (hG.o.2 it (aM hr));have q0:=hu 0 (by omega);have q1:=hu 1 (by omega);have q2:=hu 2 (by omega);have q3:=hu 3 (by omega);have q4:=hu 4 (by omega);have q5:=hu 5 (by omega);have q6:=hu 6 (by omega);have q7:=hu 7 (by omega);have q8:=hu 8 (by omega);have q9:=hu 9 (by omega);simp only[fu,aD,cI,dh]at q0 q1 q2 q3 q4 q5 q6 q7 q8 q9
    have hF:=HS.o;unfold jA at hF;rw[aE]at hF;have hh:=qW.1 hF.1;have hU:=ag (rJ hF.2);have h4:=ag hF.2;have htm:=HQ.o it (aM hr);obtain⟨kd,Hq⟩:=bH it.kind.toNat
    obtain⟨md,Hr⟩:=bH it.mode.toNat
    obtain⟨td,Hv⟩:=bH it.time.toNat
    have H3:=hh.md0;have hE:=hh.md1;have yb:=hh.tm0;have Hs:=tH hh.val hh.nos;have h9:it.kind=(kd:Int):=by rcases hU.o with h | h | h<;> omega
    have hP:it.mode=(md:Int):=by omega
    have Hw:it.time=(td:Int):=by omega
    have H5:kd<=3:=by rcases hU.o with h | h | h<;> omega
    have H9:md<=511:=by omega
    have yc:td<9223372036854775808:=by omega
    have hz:=ag (aB Hq (aB Hr Hv));have ya:it.name.size=(bl it.name).length:=bi _;have yv:IntKind.u64.wrap (kd:Int)=(kd:Int):=by rw[cX]; omega
    have y0:IntKind.u64.wrap (md:Int)=(md:Int):=by rw[cX]; omega
    have y1:IntKind.u64.wrap (td:Int)=(td:Int):=by rw[cX]; omega
    rw[h9]at q1;rw[hP]at q2;rw[Hw]at q3;have hV:=ag (show kd=1\/kd=2\/kd=3 by rcases hU.o with h | h | h<;> omega);have hA:=ag h9;clear hr Ht Hu hu hL hF hh htm Hq Hr Hv H3 hE yb h9 hP Hw;have l1:=xf l k;have l2:=h0.o;have l3:=iR (n:=it.name.size) (by omega);have l4:=iR (n:=kd) (by omega);have l5:=iR (n:=md) (by omega)
    have l6:=iR (n:=td) (by omega);have hy:=ag (show(kR l k).length<1000000000000/\(bG it.name.size).length<=10/\(bG kd).length<=10/\(bG md).length<=10/\(bG td).length<=10/\(bl it.name).length<=64/\it.name.size<=64 from⟨by omega,l3,l4,l5,l6,Hs,by omega⟩);clear l1 l2 l3 l4 l5 l6 Hs ya;have yl:wb<wr.heap.size:=by obtain⟨_,h,_⟩:=HW.o; exact am h
    have HA:=ag ((ak wr.heap.size wr).alloc (ah _) (.cells #[.string it.name, .int .i64 (kd:Int), .int .i64 (md:Int), .int .i64 (td:Int), .int .i64 it.size, .string it.link, .slice ca it.chunks.length cc, .string it.node.name, .int .i64 it.node.gen, .int .i64 it.node.size] 28));have ha:=ag (ez wr (.cells #[.string it.name, .int .i64 (kd:Int), .int .i64 (md:Int), .int .i64 (td:Int), .int .i64 it.size, .string it.link, .slice ca it.chunks.length cc, .string it.node.name, .int .i64 it.node.gen, .int .i64 it.node.size] 28))
    have hf:=ag (HW.o.below HA.o);have he:=ag (HB.o.trans (HA.o.mono HB.o.size));go_wp2_with fail;clear q0 q1 q2 q3 q4 q5 q6 q7 q8 q9;refine(Bk wb it.name _ _ hf.o (by have:=hy.o; omega) (by have:=hy.o; omega)).mono ?_;rintro e wx ⟨rfl,hp,hd⟩;have ho:=ag ((hd.2 _ (by decide) (by decide) _ _ ha.o).trans ha.o);have hl:=ag hp;have hg:=ag (he.o.trans (hd.1.mono hs.o))
    clear hp hd ha hf he;have ha:=ho;have hf:=hl;have he:=hg;clear ho hl hg;obtain⟨c0,c1,c2,c3,_⟩:=aT ha.o;have c5:=ar (k:=5) ha.o;have c6:=ar (k:=6) ha.o;have c7:=ar (k:=7) ha.o;have c8:=ar (k:=8) ha.o;have c9:=ar (k:=9) ha.o;simp only[fV]at c5 c6 c7 c8 c9;go_wp2_with fail;clear c0 c1 c2 c3 c5 c6 c7 c8 c9;refine(lL wb kd _ _ hf.o (by have:=hy.o; simp only[ai]; omega) (by omega)).mono ?_
    rintro e wx ⟨rfl,hp,hd⟩;have ho:=ag ((hd.2 _ (by decide) (by decide) _ _ ha.o).trans ha.o);have hl:=ag hp;have hg:=ag (he.o.trans (hd.1.mono hs.o));clear hp hd ha hf he;have ha:=ho;have hf:=hl;have he:=hg;clear ho hl hg;obtain⟨c0,c1,c2,c3,_⟩:=aT ha.o;have c5:=ar (k:=5) ha.o;have c6:=ar (k:=6) ha.o;have c7:=ar (k:=7) ha.o
    have c8:=ar (k:=8) ha.o;have c9:=ar (k:=9) ha.o;simp only[fV]at c5 c6 c7 c8 c9;go_wp2_with fail;clear c0 c1 c2 c3 c5 c6 c7 c8 c9;refine(lL wb md _ _ hf.o (by have:=hy.o; simp only[ai]; omega) (by omega)).mono ?_;rintro e wx ⟨rfl,hp,hd⟩;have ho:=ag ((hd.2 _ (by decide) (by decide) _ _ ha.o).trans ha.o);have hl:=ag hp;have hg:=ag (he.o.trans (hd.1.mono hs.o))
    clear hp hd ha hf he;have ha:=ho;have hf:=hl;have he:=hg;clear ho hl hg;obtain⟨c0,c1,c2,c3,_⟩:=aT ha.o;have c5:=ar (k:=5) ha.o;have c6:=ar (k:=6) ha.o;have c7:=ar (k:=7) ha.o;have c8:=ar (k:=8) ha.o;have c9:=ar (k:=9) ha.o;simp only[fV]at c5 c6 c7 c8 c9;go_wp2_with fail;clear c0 c1 c2 c3 c5 c6 c7 c8 c9;have hX:=ag (BP HR.o)
    have HJ:=ag (show(kR l (k+1)).length<1000000000000 by have h1:=xf l (k+1); have h2:=h0.o; omega)
    rcases hV.o with h | h | h
    ·subst h;have hB:=nK (by rw[hA.o]; rfl) h4.o;have hH:=ag hB.2.2.1;obtain⟨_,_,Hn,H2,H1,-⟩:=cU.shape hY.o pA.len;simp only[df]at Hn;obtain⟨rfl,-,rfl⟩:=Hn;obtain⟨n2,hR⟩:=bH it.chunks.length;have Hh:=ag hR;unfold maxLen at H1;rw[<-hR]at ha hY H2;have Ha:n2<9223372036854775808:=by omega
     have hI:=ag (show gL it=bG it.name.size++(bl it.name++(bG 1++(bG md++(bG td++(bG n2++it.chunks.flatMap fK))))) by unfold gL lB;rw[if_pos (by rw[hA.o]; rfl),<-hz.o.1,<-hz.o.2.1,<-hz.o.2.2,<-hR])
     clear hR hB;refine(lL wb td _ _ hf.o (by have:=hy.o; simp only[ai]; omega) (by omega)).mono ?_;rintro e wx ⟨rfl,hp,hd⟩;have ho:=ag ((hd.2 _ (by decide) (by decide) _ _ ha.o).trans ha.o);have hl:=ag hp;have hg:=ag (he.o.trans (hd.1.mono hs.o));clear hp hd ha hf he;have ha:=ho;have hf:=hl;have he:=hg;clear ho hl hg;obtain⟨c0,c1,c2,c3,_⟩:=aT ha.o
     have c5:=ar (k:=5) ha.o;have c6:=ar (k:=6) ha.o;have c7:=ar (k:=7) ha.o;have c8:=ar (k:=8) ha.o;have c9:=ar (k:=9) ha.o;simp only[fV]at c5 c6 c7 c8 c9;go_wp2_with fail;clear c0 c1 c2 c3 c5 c6 c7 c8 c9;refine(yJ wb n2 _ _ hf.o (by have:=hy.o; simp only[ai]; omega) Ha).mono ?_;rintro e wx ⟨rfl,hp,hd⟩;have ho:=ag ((hd.2 _ (by decide) (by decide) _ _ ha.o).trans ha.o)
     have hl:=ag hp;have hg:=ag (he.o.trans (hd.1.mono hs.o));clear hp hd ha hf he;have ha:=ho;have hf:=hl;have he:=hg;clear ho hl hg;obtain⟨c0,c1,c2,c3,_⟩:=aT ha.o;have c5:=ar (k:=5) ha.o;have c6:=ar (k:=6) ha.o;have c7:=ar (k:=7) ha.o;have c8:=ar (k:=8) ha.o;have c9:=ar (k:=9) ha.o;simp only[fV]at c5 c6 c7 c8 c9
     go_wp2_with fail;clear c0 c1 c2 c3 c5 c6 c7 c8 c9;obtain⟨D,Hk,Hj⟩: ∃D,tn wx wb D/\D++it.chunks.flatMap fK=kR l (k+1):=⟨_,hf.o,by rw[hX.o,hI.o]; simp[List.append_assoc]⟩;have HH:=ag Hk;have Hg:=ag Hj;clear Hk Hj
     go_loopw [56] (fun j w6=> ∃m:Nat,m<=n2/\j= .int .i64 (m:Int)/\tn w6 wb (D++(it.chunks.take m).flatMap fK)/\Below w.heap.size w w6) (fun j _=>n2-(intOf j).toNat)
     ·exact⟨0,aR _,rfl,by simpa using HH.o,he.o⟩
     ·obtain⟨m,yn,rfl,Hy,Hm⟩:=hrel;have Hi:=ag Hy;have hO:=ag Hm;clear Hy Hm
      by_cases H6:m<n2
      ·obtain⟨r,hS⟩: ∃r,it.chunks[m]? =some r:=⟨it.chunks[m]'(by rw[<-Hh.o]; exact H6),by simp⟩;have HL:=ag hS;have HT:=ag ((hH.o r (aM hS)).1);obtain⟨b2,o2,rfl,-,p0,p1,p2⟩:=lY hY.o hO.o hS;have HI:=ag (show(D++(it.chunks.take m).flatMap fK).length<1098000000000 by
        have h1:=congrArg List.length Hg.o;have h2:=HJ.o;have h3:(it.chunks.flatMap fK).length=((it.chunks.take m).flatMap fK).length+((it.chunks.drop m).flatMap fK).length:=by rw[<-ai,<-bV,dA]
        rw[ai]at h1 ⊢
        omega)
       clear hS;have Hf:=ag ((ak wr.heap.size wr).alloc (ah _) (.cells #[.string r.name, .int .i64 r.gen, .int .i64 r.size] 26));have HP:=ag (show(it.chunks.take (m+1)).flatMap fK=(it.chunks.take m).flatMap fK++fK r by rw[cw,HL.o,bV]; simp)
       have HM:=ag (ul wb r _ _ (Hi.o.below Hf.o) HI.o HT.o);have HF:=ag (hO.o.trans (Hf.o.mono hO.o.size));go_wp2_with fail;refine HM.o.mono ?_;rintro e w8 ⟨rfl,Hz,Hp⟩;have HY:=ag Hz;have HG:=ag (HF.o.trans (Hp.1.mono hs.o));clear Hz Hp p0 p1 p2;go_wp2_with fail
       go_roundw
       ·refine⟨m+1,by omega,by go_num, ?_,HG.o⟩;rw[HP.o,<-bg];exact HY.o
       simp[intOf]; omega
      ·have H8:m=n2:=by omega
       subst H8;have h7:=ag (show tn _ wb (kR l (k+1)) by have:=Hi.o; rw[Hh.o,dw,Hg.o]at this; exact this);go_wp2_with fail
       go_roundw
       ·exact⟨k+1,by omega,by go_num,h7.o,hO.o⟩
       simp[intOf]; omega
    ·subst h;have hB:=tF (by rw[hA.o]; rfl) h4.o;have hH:=ag hB.2.2.2;have hI:=ag (show gL it=bG it.name.size++(bl it.name++(bG 2++(bG md++(bG td++fK it.node)))) by unfold gL lB;rw[if_neg (by rw[hA.o]; decide),if_pos (by rw[hA.o]; rfl),<-hz.o.1,<-hz.o.2.1,<-hz.o.2.2])
     clear hB;refine(lL wb td _ _ hf.o (by have:=hy.o; simp only[ai]; omega) (by omega)).mono ?_;rintro e wx ⟨rfl,hp,hd⟩;have ho:=ag ((hd.2 _ (by decide) (by decide) _ _ ha.o).trans ha.o);have hl:=ag hp;have hg:=ag (he.o.trans (hd.1.mono hs.o));clear hp hd ha hf he;have ha:=ho;have hf:=hl;have he:=hg;clear ho hl hg;obtain⟨c0,c1,c2,c3,_⟩:=aT ha.o
     have c5:=ar (k:=5) ha.o;have c6:=ar (k:=6) ha.o;have c7:=ar (k:=7) ha.o;have c8:=ar (k:=8) ha.o;have c9:=ar (k:=9) ha.o;simp only[fV]at c5 c6 c7 c8 c9;go_wp2_with fail;clear c0 c1 c2 c3 c5 c6 c7 c8 c9;refine(ul wb it.node _ _ hf.o (by have:=hy.o; simp only[ai]; omega) hH.o).mono ?_;rintro e wx ⟨rfl,hp,hd⟩;have ho:=ag ((hd.2 _ (by decide) (by decide) _ _ ha.o).trans ha.o)
     have hl:=ag hp;have hg:=ag (he.o.trans (hd.1.mono hs.o));clear hp hd ha hf he;have ha:=ho;have hf:=hl;have he:=hg;clear ho hl hg;obtain⟨c0,c1,c2,c3,_⟩:=aT ha.o;have c5:=ar (k:=5) ha.o;have c6:=ar (k:=6) ha.o;have c7:=ar (k:=7) ha.o;have c8:=ar (k:=8) ha.o;have c9:=ar (k:=9) ha.o;simp only[fV]at c5 c6 c7 c8 c9
     go_wp2_with fail;clear c0 c1 c2 c3 c5 c6 c7 c8 c9
     go_roundw
     ·refine⟨k+1,by omega,by go_num, ?_,he.o⟩;rw[hX.o,hI.o]
      simpa [List.append_assoc]using hf.o
     simp[intOf]; omega
    ·subst h;have hB:=ur (by rw[hA.o]; rfl) h4.o;have hH:=ag hB.2.2.2.2.1;have hI:=ag (show gL it=bG it.name.size++(bl it.name++(bG 3++(bG md++(bG td++(bG it.link.size++bl it.link))))) by unfold gL lB;rw[if_neg (by rw[hA.o]; decide),if_neg (by rw[hA.o]; decide),<-hz.o.1,<-hz.o.2.1,<-hz.o.2.2])
     clear hB;refine(lL wb td _ _ hf.o (by have:=hy.o; simp only[ai]; omega) (by omega)).mono ?_;rintro e wx ⟨rfl,hp,hd⟩;have ho:=ag ((hd.2 _ (by decide) (by decide) _ _ ha.o).trans ha.o);have hl:=ag hp;have hg:=ag (he.o.trans (hd.1.mono hs.o));clear hp hd ha hf he;have ha:=ho;have hf:=hl;have he:=hg;clear ho hl hg;obtain⟨c0,c1,c2,c3,_⟩:=aT ha.o
     have c5:=ar (k:=5) ha.o;have c6:=ar (k:=6) ha.o;have c7:=ar (k:=7) ha.o;have c8:=ar (k:=8) ha.o;have c9:=ar (k:=9) ha.o;simp only[fV]at c5 c6 c7 c8 c9;go_wp2_with fail;clear c0 c1 c2 c3 c5 c6 c7 c8 c9;refine(Bk wb it.link _ _ hf.o (by have:=hy.o; simp only[ai]; omega) (by have:=hH.o; omega)).mono ?_;rintro e wx ⟨rfl,hp,hd⟩
     have ho:=ag ((hd.2 _ (by decide) (by decide) _ _ ha.o).trans ha.o);have hl:=ag hp;have hg:=ag (he.o.trans (hd.1.mono hs.o));clear hp hd ha hf he;have ha:=ho;have hf:=hl;have he:=hg;clear ho hl hg;obtain⟨c0,c1,c2,c3,_⟩:=aT ha.o;have c5:=ar (k:=5) ha.o;have c6:=ar (k:=6) ha.o;have c7:=ar (k:=7) ha.o;have c8:=ar (k:=8) ha.o
     have c9:=ar (k:=9) ha.o;simp only[fV]at c5 c6 c7 c8 c9;go_wp2_with fail;clear c0 c1 c2 c3 c5 c6 c7 c8 c9
     go_roundw
     ·refine⟨k+1,by omega,by go_num, ?_,he.o⟩;rw[hX.o,hI.o]
      simpa [List.append_assoc]using hf.o
     simp[intOf]; omega
   ·have H4:k=n:=by omega
    subst H4;have h7:=ag (show tn wr wb (gC l) by have:=HW.o; rw[HN.o,Dc]at this; exact this);go_wp2_with fail;refine(LD wb (gC l) wr h7.o (by have:=h0.o; omega)).mono ?_;rintro e w9 ⟨h8,hM⟩;obtain⟨m,hE⟩:=bH ((gC l).length);rw[<-hE]at hM;have hW:=ag hE;have hT:=ag (HB.o.trans (h8.mono HB.o.size));have H0:=HB.o.size
    by_cases hD:m<=1048576
    ·rw[if_pos hD]at hM;obtain⟨v9,rfl,Hb⟩:=hM;obtain⟨a9,c9,Hx,-,-⟩:=aH Hb;rw[<-hE]at Hx;subst Hx;have HK:=ag (gP Hb H0);clear hE Hb h8
     by_cases hq:m<=32768
     ·have hP:(m:Int)<=32768:=by omega
      go_wp2_with fail
      go_ret2
      refine⟨hT.o, ?_⟩;rw[if_pos hC.o,<-hW.o,if_pos hq];exact⟨_,rfl,HK.o⟩
     ·have hP:(32768:Int)<(m:Int):=by omega
      have hZ:=ag hq;clear hq;go_wp2_with fail
      go_ret2
      refine⟨hT.o, ?_⟩;rw[if_pos hC.o,<-hW.o,if_neg hZ.o]
      rfl
    ·rw[if_neg hD]at hM;subst hM;have hZ:=ag (show ¬m<=32768 by omega);clear hE h8 hD;go_wp2_with fail
     go_ret2
     refine⟨hT.o, ?_⟩;rw[if_pos hC.o,<-hW.o,if_neg hZ.o]
     rfl
 ·have hC:=ag (show jL l=false by simpa using hx);clear hx
  go_enter Tryz.func15,Tryz.ntmps15
  go_wp2_with fail;refine(nI S l _ false w HV.o HE.o hC.o).mono ?_;rintro e w1 ⟨rfl,hJ⟩;have hN:=ag hJ;clear hJ;go_wp2_with fail
  go_ret2
  refine⟨hN.o, ?_⟩;rw[hC.o]
  rfl
def oL (cs:List (ByteArray×List UInt8)):List bY->List UInt8->Except Int (List UInt8)
 | [],acc=> .ok acc
 | r::rs,acc=>match jr cs r with
  | .error x=> .error x
  | .ok bs=>oL cs rs (acc++bs)
def Bw (cs:List (ByteArray×List UInt8)) (rs:List bY) (w:World) (e:Ending) (w':World):Prop:=Below w.heap.size w w'/\match oL cs rs []with
 | .error x=>e= .returned (.tuple #[.slice none 0 0, .int .i64 x])/\x≠0
 | .ok bs=> ∃v,e= .returned (.tuple #[v, .int .i64 0])/\mj w' w.heap.size v bs
theorem Ou (S:Nat->Prop) (v:Value) (rs:List bY) (n:Nat) (w:World) (hv:dJ S w v rs) (h:nt rs=(n:Int)):Calls Tryz.prog 63 #[v] w fun e w'=>e= .returned (.int .i64 (n:Int))/\Below w.heap.size w w':=by rw[<-h]; exact uU S v rs w hv
theorem vB (S:Nat->Prop) (cv rv:Value) (cs:List (ByteArray×List UInt8)) (rs:List bY) (w:World) (hc:fI S w cv cs) (hv:dJ S w rv rs) (ht0:0<=nt rs) (ht1:nt rs<=1048576) (hn6:rs.length<=1048576) (hrs: ∀r∈rs,lj r=true):
  Calls Tryz.prog 97 #[cv,rv] w (Bw cs rs w):=by
 obtain⟨a,cap,rfl,hz,h2,-⟩:=cU.shape hv pA.len;obtain⟨t,ht⟩:=bH ((nt rs).toNat);have hM:nt rs=(t:Int):=by omega
 have h7:t<=1048576:=by omega
 obtain⟨n,hn⟩:=bH rs.length;rw[<-hn]at hv hz hn6 ⊢;unfold maxLen at h2;have HC:=ag hc;have HV:=ag hv;have HN:=ag hn;have hZ:=ag hM;have hX:=ag hrs;clear hrs;obtain⟨h8,⟨i9,z9,hD,hE,hF,hG,h0⟩,-,-⟩:=Tryz.appBytes;have hp:i9.bytes*t<=281474976710656:=by rw[hG]; omega
 have H9:=ag (aB hD (aB hE (aB hF hp)));clear hc hv hn ht0 ht1 ht hM hD hE hF hG h0 hp
 go_enter Tryz.func97,Tryz.ntmps97
 have hY:=ag (show t<=maxLen by unfold maxLen; omega);go_wp2_with fail;refine(Ou S _ rs t w HV.o hZ.o).mono ?_;rintro e w1 ⟨rfl,hH⟩;have hs:=ag hH;clear hH;go_wp2_with (first | ((refine wpList_make_own _ rfl _ _ 29 rfl w.heap.size 5 i9 z9 1 cV H9.o.1 H9.o.2.1 H9.o.2.2.1 .i64 .i64 (t:Int) t rfl rfl rfl H9.o.2.2.2 hY.o hs.o.size ?_); intro w4 he hI; have hT:=ag he; have hP:=ag hI; clear he hI))
 have hN:=ag ((jE hP.o).mono hs.o.size |> hs.o.trans)
 go_loopw [16,6] (fun i x wr=> ∃(k:Nat) (acc:List UInt8),k<=n/\i= .int .i64 (k:Int)/\oL cs rs []=oL cs (rs.drop k) acc/\acc.length<=k*32768/\mj wr w.heap.size x acc/\Below w.heap.size w wr) (fun i _ _=>n-(intOf i).toNat)
 ·exact⟨0,[],aR _,rfl,rfl,by simp,hT.o,hN.o⟩
 ·obtain⟨k,acc,hk,rfl,hf,h4,ho,hb⟩:=hrel;obtain⟨ax,cx,rfl,h9,Ha⟩:=aH ho;have HF:=ag hf;have HO:=ag ho;have HB:=ag hb;clear hf ho hb
  by_cases hJ:k<n
  ·obtain⟨r,hr⟩: ∃r,rs[k]? =some r:=⟨rs[k]'(by rw[<-HN.o]; exact hJ),by simp⟩;obtain⟨b,o,rfl,hA,p0,p1,p2⟩:=lY HV.o HB.o hr;have HA:=ag ((ak wr.heap.size wr).alloc (ah _) (.cells #[.string r.name, .int .i64 r.gen, .int .i64 r.size] 26));have hh:=zM S cv cs r _ ((HC.o.below HB.o).below HA.o) hA;have hL:=(mZ.1 (hX.o r (aM hr))).2.2.2
   have hq:=ag (HB.o.trans (HA.o.mono HB.o.size));have hV:=ag (cY HO.o HA.o);have hB:=ag (show rs.drop k=r::rs.drop (k+1) by
    rw[cD (by rw[<-HN.o]; exact hJ)]
    congr 1
    exact(aA.1 hr).2)
   unfold Ct at hh
   cases ha:jr cs r with
   | error x=>
    rw[ha]at hh;have hu:=ag hh;have hw:=ag (show oL cs rs []= .error x by rw[HF.o,hB.o,oL,ha]);clear ha hh hr hA hL;go_wp2_with fail;refine hu.o.mono ?_;rintro e w5 ⟨hj,rfl,hx⟩;have hl:=ag (hq.o.trans (hj.mono hq.o.size));clear hj;go_wp2_with fail
    go_ret2
    refine⟨hl.o, ?_⟩;rw[hw.o];exact⟨rfl,hx⟩
   | ok bs=>
    rw[ha]at hh;have hu:=ag hh;have hw:=ag (show oL cs rs []=oL cs (rs.drop (k+1)) (acc++bs) by rw[HF.o,hB.o,oL,ha]);have h1:bs.length<=32768:=by
     unfold jr at ha
     cases hf:dU cs r.name with
     | none=>rw[hf]at ha; cases ha
     | some y=>
      rw[hf]at ha;simp only at ha
      split at ha
      ·cases ha; omega
      ·cases ha
    clear ha hh hr hA hL;go_wp2_with fail;refine hu.o.mono ?_;rintro e w5 ⟨hj,v5,rfl,hy⟩;obtain⟨_,a5,c5,rfl,-,-,-⟩:=id hy
    obtain⟨m,hm⟩:=bH bs.length;have HM:=ag hm;have hl:=ag (hq.o.trans (hj.mono hq.o.size));have hC:=ag (cY hV.o hj);have hO:=ag (show bX S w5 1 (.slice a5 m c5) m (bs.map aZ) by rw[hm]; exact hy);rw[<-hm]at h1 ⊢;have hW:=ag (show ∀u∈bs.map aZ,u.oneCell'=true from fE bs);have hS:=ag (show acc.length+m<1099511627775 by omega);clear hj hy hm p0 p1 p2
    go_wp2_with (at_builtin; go_must (refine dV Tryz.appBytes rfl _ _ rfl w.heap.size (.slice ax acc.length cx) acc.length (acc.map aZ) rfl hC.o _ m (bs.map aZ) rfl hO.o hW.o hS.o hl.o.size ?_); intro v6 wz hg hd; have hU:=ag hg; have hR:=ag hd; clear hg hd)
    go_roundw
    ·refine⟨k+1,acc++bs,by omega,by go_num,hw.o, ?_, ?_,hl.o.grown hR.o hl.o.size (fun k e=>(pp hC.o e).1)⟩
     ·rw[ai,<-HM.o]; omega
     ·unfold mj;rw[ai,aI,<-HM.o];exact hU.o
    simp[intOf]; omega
  ·have h3:k=n:=by omega
   subst h3;go_wp2_with fail
   go_ret2
   refine⟨HB.o, ?_⟩;rw[HF.o,HN.o,jh];exact⟨_,rfl,HO.o⟩
theorem yC {l:List bY} (hl:l.length<=1048576) (h: ∀r∈l,lj r=true): ∀k,k<=l.length->0<=nt (l.take k)/\nt (l.take k)<=(k:Int)*32768
 | 0,_=>by simp[nt]
 | k+1,hk=>by
  have ih:=yC hl h k (by omega);have hr:l[k]? =some (l[k]'(by omega)):=by simp
  have hz:=(mZ.1 (h _ (List.getElem_mem (by omega:k<l.length)))).2.2.2;rw[dC hr,Bi];unfold wrap64;omega
end
section
open Go.RowKit
def lW (dir name:ByteArray):ByteArray:=if dir.size=0 then name else dir++⟨#[47]⟩++name
def sB (cs:List (ByteArray×List UInt8)) (it:ci):List UInt8×Int:=
 if it.kind=1 then(match oL cs it.chunks []with | .error x=>([],x) | .ok bs=>(bs,0))else([],0)
def kW (cs:List (ByteArray×List UInt8)) (rec:ByteArray->bY->List dk->Int×List dk) (dir:ByteArray):List ci->List dk->Int×List dk
 | [],acc=>(0,acc)
 | it::r,acc=>
  if dH (bl (lW dir it.name))=true/\acc.length<4096 then
   let acc1:=acc++[⟨lW dir it.name,it.kind,it.mode,it.time,(sB cs it).1,it.link⟩]
   let p:=if it.kind=2 then rec (lW dir it.name) it.node acc1 else((sB cs it).2,acc1)
   if p.1=0 then kW cs rec dir r p.2 else p
  else(2,acc)
def jz (cs:List (ByteArray×List UInt8)):Nat->ByteArray->bY->List dk->Int×List dk
 | 0,_,_,acc=>(0,acc)
 | f+1,dir,ref,acc=>match gq cs ref with
  | .error x=>(x,acc)
  | .ok l=>kW cs (jz cs f) dir l acc
def vD (cs:List (ByteArray×List UInt8)) (root:bY):Except Int (List dk):=
 if lj root=true then(if(jz cs 514 ⟨#[]⟩ root []).1=0 then .ok (jz cs 514 ⟨#[]⟩ root []).2 else .error (jz cs 514 ⟨#[]⟩ root []).1)else .error 1
section
variable {k : dq} {gs : List (ByteArray × Int)} {c : fQ} {tree : List dk} {M : List (ByteArray × List UInt8)}
def qC (k:dq) (gs:List (ByteArray×Int)) (M:List (ByteArray×List UInt8)) (cs:List (List UInt8)):Prop:= ∀x∈cs,dU M (bF k gs x).name=some x
structure sj (k : dq) (gs : List (ByteArray × Int)) (c : fQ) (tree : List dk) : Prop where
 ok:un tree
 cut:jT c=true
 gens:kC gs
 time: ∀e∈tree,e.time<9223372036854775808
theorem MV (h:sj k gs c tree) {f:Nat} {d:ByteArray} : ∀it∈nj k gs c tree f d,it.time<9223372036854775808:=by intro it ha;obtain⟨e,he,rfl⟩:=aQ.1 ha;exact h.time e (dY.1 he).1
theorem tO (h:sj k gs c tree) {f:Nat} {d:ByteArray} (hf:512<f+1+(bl d).length) {e:dk} (he:e∈dB tree d):(bl e.path).length<=512/\512<f+(bl e.path).length/\1<=f:=by obtain⟨ha,hb⟩:=dY.1 he;have h3:=dm (h.ok.val e ha);have h4:=fL h3;have h5:=mM h3;rw[hb]at h4;omega
theorem MU (h:sj k gs c tree) {f:Nat} {d:ByteArray} (hf:512<f+1+(bl d).length) (hb:nA k gs c tree (f+1) d=false):jL (nj k gs c tree f d)=true:=
 sU h.ok h.cut h.gens d _ fun e he hk=>by refine om h.gens ?_;have h6:=tO h hf he;obtain⟨g,rfl⟩: ∃g,f=g+1:=⟨f-1,by omega⟩;exact(oG ((oG hb).1 e he hk)).2
theorem IU (f:Nat) (d:ByteArray):(dS k gs c tree (f+1) d).1∈(dS k gs c tree (f+1) d).2:=by rw[fi]; simp
theorem xP (h:sj k gs c tree) {f:Nat} {d:ByteArray} (hf:512<f+1+(bl d).length) (hb:nA k gs c tree (f+1) d=false) (hM:qC k gs M (dS k gs c tree (f+1) d).2):
  gq M (bF k gs (dS k gs c tree (f+1) d).1)= .ok (nj k gs c tree f d):=by
 unfold gq;rw[CL (hM _ (IU f d))];simp only;have h1:=(oG hb).2;rw[fi]at h1 ⊢;simp only at h1 ⊢;rw[Np (MU h hf hb) (MV h) h1]
end
end
end Go.Proofs.YtpffpjbkbaleiaaGreatDoor
