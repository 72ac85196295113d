/- Texts of this proof, one after the other: FileA, FileB, LoadP, PartB, LookP, WalkA, WalkB, WalkC, Needs, NeedP, LoadA, LookA, FtC, FtD, FtE, FtP, FtQ, BldA, LoadB. -/
import Derived.Test.YtpffpjbkbaleiaaGreatDoorCBuildsD
set_option maxRecDepth 100000
set_option maxHeartbeats 8000000
namespace Go.Proofs.YtpffpjbkbaleiaaGreatDoor
open Go Go.RowKit
def jc (cs:List (ByteArray×List UInt8)):List aV->List UInt8->Except Int (List UInt8)
 | [],acc=> .ok acc
 | r::rs,acc=>match eF cs r with
  | .error x=> .error x
  | .ok bs=>jc cs rs (acc++bs)
def uN (cs:List (ByteArray×List UInt8)) (rs:List aV) (w:World) (e:Ending) (w':World):Prop:=Below w.heap.size w w'/\match jc cs rs []with
 | .error x=>e= .returned (.tuple #[.slice none 0 0, .int .i64 x])/\x≠0
 | .ok bs=> ∃v,e= .returned (.tuple #[v, .int .i64 0])/\fZ w' w.heap.size v bs
theorem FZ (S:Nat->Prop) (v:Value) (rs:List aV) (n:Nat) (w:World) (hv:bw S w v rs) (h:gQ rs=(n:Int)):Calls Tryz.prog 63 #[v] w fun e w'=>e= .returned (.int .i64 (n:Int))/\Below w.heap.size w w':=by
 rw[<-h]; exact oL S v rs w hv
theorem pm (S:Nat->Prop) (cv rv:Value) (cs:List (ByteArray×List UInt8)) (rs:List aV) (w:World) (hc:cM S w cv cs) (hv:bw S w rv rs) (ht0:0<=gQ rs) (ht1:gQ rs<=1048576) (hn6:rs.length<=1048576) (hrs: ∀r∈rs,gL r=true):
  Calls Tryz.prog 97 #[cv,rv] w (uN cs rs w):=by
 obtain⟨a,cap,rfl,hcap,hcm,-⟩:=aU.shape hv lZ.len;obtain⟨t,ht⟩: ∃t,t=(gQ rs).toNat:=⟨_,rfl⟩;have hti:gQ rs=(t:Int):=by omega
 have ht6:t<=1048576:=by omega
 obtain⟨n,hn⟩: ∃n,n=rs.length:=⟨_,rfl⟩;rw[<-hn]at hv hcap hn6 ⊢;unfold maxLen at hcm;have HC:=aa hc;have HV:=aa hv;have HN:=aa hn;have HTI:=aa hti;have HRS:=aa hrs;clear hrs;obtain⟨ht9,⟨i9,z9,h91,h92,h93,h94,h95⟩,-,-⟩:=Tryz.appBytes;have hb32:i9.bytes*t<=281474976710656:=by rw[h94]; omega
 have H9:=aa (And.intro h91 (And.intro h92 (And.intro h93 hb32)));clear hc hv hn ht0 ht1 ht hti h91 h92 h93 h94 h95 hb32
 go_enter Tryz.func97,Tryz.ntmps97
 have HT6:=aa (show t<=maxLen by unfold maxLen; omega);go_wp2_with fail;refine(FZ S _ rs t w HV.o HTI.o).mono ?_;rintro e w1 ⟨rfl,hb1⟩;have HB1:=aa hb1;clear hb1;go_wp2_with (first | ((refine wpList_make_own _ rfl _ _ 29 rfl w.heap.size 5 i9 z9 1 Tryz.underlying29 H9.o.1 H9.o.2.1 H9.o.2.2.1 .i64 .i64 (t:Int) t rfl rfl rfl H9.o.2.2.2 HT6.o HB1.o.size ?_); intro w4 hown4 hg4; have HO4:=aa hown4; have HG4:=aa hg4; clear hown4 hg4))
 have HB4:=aa ((dQ HG4.o).mono HB1.o.size |> HB1.o.trans)
 go_loopw [16,6] (fun i x wr=> ∃(k:Nat) (acc:List UInt8),k<=n/\i= .int .i64 (k:Int)/\jc cs rs []=jc cs (rs.drop k) acc/\acc.length<=k*32768/\fZ wr w.heap.size x acc/\Below w.heap.size w wr) (fun i _ _=>n-(intOf i).toNat)
 case atStart=>exact⟨0,[],Nat.zero_le _,rfl,rfl,by simp,HO4.o,HB4.o⟩
 case round=>
  obtain⟨k,acc,hk,rfl,hf,hal,ho,hb⟩:=hrel;obtain⟨ax,cx,rfl,hx1,hx2⟩:=ai ho;have HF:=aa hf;have HO:=aa ho;have HB:=aa hb;clear hf ho hb
  by_cases hlt:k<n
  ·obtain⟨r,hr⟩: ∃r,rs[k]? =some r:=⟨rs[k]'(by rw[<-HN.o]; exact hlt),by simp⟩;obtain⟨b,o,rfl,hok,p0,p1,p2⟩:=jn HV.o HB.o hr;have HA:=aa ((Below.refl wr.heap.size wr).alloc (Nat.le_refl _) (.cells #[.string r.name, .int .i64 r.gen, .int .i64 r.size] 26));have hch:=th S cv cs r _ ((HC.o.below HB.o).below HA.o) hok;have hsz:=(jT.1 (HRS.o r (List.mem_of_getElem? hr))).2.2.2
   have HBA:=aa (HB.o.trans (HA.o.mono HB.o.size));have HOA:=aa (aQ HO.o HA.o);have HDR:=aa (show rs.drop k=r::rs.drop (k+1) by
    rw[List.drop_eq_getElem_cons (by rw[<-HN.o]; exact hlt)]
    congr 1
    exact(List.getElem?_eq_some_iff.1 hr).2)
   unfold vP at hch
   cases hcp:eF cs r with
   | error x=>
    rw[hcp]at hch;have HCH:=aa hch;have HFE:=aa (show jc cs rs []= .error x by rw[HF.o,HDR.o,jc,hcp]);clear hcp hch hr hok hsz;go_wp2_with fail;refine HCH.o.mono ?_;rintro e w5 ⟨hb5,rfl,hx⟩;have HB5:=aa (HBA.o.trans (hb5.mono HBA.o.size));clear hb5;go_wp2_with fail
    go_ret2
    refine⟨HB5.o, ?_⟩;rw[HFE.o];exact⟨rfl,hx⟩
   | ok bs=>
    rw[hcp]at hch;have HCH:=aa hch;have HFE:=aa (show jc cs rs []=jc cs (rs.drop (k+1)) (acc++bs) by rw[HF.o,HDR.o,jc,hcp]);have hbl:bs.length<=32768:=by
     unfold eF at hcp
     cases hf:ef cs r.name with
     | none=>rw[hf]at hcp; cases hcp
     | some y=>
      rw[hf]at hcp;simp only at hcp
      split at hcp
      ·cases hcp; omega
      ·cases hcp
    clear hcp hch hr hok hsz;go_wp2_with fail;refine HCH.o.mono ?_;rintro e w5 ⟨hb5,v5,rfl,hby⟩;obtain⟨_,a5,c5,rfl,-,-,-⟩:=id hby
    obtain⟨m,hm⟩: ∃m,m=bs.length:=⟨_,rfl⟩;have HM:=aa hm;have HB5:=aa (HBA.o.trans (hb5.mono HBA.o.size));have HO5:=aa (aQ HOA.o hb5);have HBY:=aa (show aL S w5 1 (.slice a5 m c5) m (bs.map ak) by rw[hm]; exact hby);rw[<-hm]at hbl ⊢;have HON:=aa (show ∀u∈bs.map ak,u.oneCell'=true from ci bs);have HLE:=aa (show acc.length+m<1099511627775 by omega)
    clear hb5 hby hm p0 p1 p2;go_wp2_with (at_builtin; go_must (refine bD Tryz.appBytes rfl _ _ rfl w.heap.size (.slice ax acc.length cx) acc.length (acc.map ak) rfl HO5.o _ m (bs.map ak) rfl HBY.o HON.o HLE.o HB5.o.size ?_); intro v6 wz hown6 hgrow6; have HO6:=aa hown6; have HG6:=aa hgrow6; clear hown6 hgrow6)
    go_roundw
    case rel=>
     refine⟨k+1,acc++bs,by omega,by go_num,HFE.o, ?_, ?_,HB5.o.grown HG6.o HB5.o.size (fun k e=>(jx HO5.o e).1)⟩
     ·rw[List.length_append,<-HM.o]; omega
     ·unfold fZ;rw[List.length_append,List.map_append,<-HM.o];exact HO6.o
    case measure=>simp[intOf]; omega
  ·have hk2:k=n:=by omega
   subst hk2;go_wp2_with fail
   go_ret2
   refine⟨HB.o, ?_⟩;rw[HF.o,HN.o,List.drop_length];exact⟨_,rfl,HO.o⟩
theorem rS {l:List aV} (hl:l.length<=1048576) (h: ∀r∈l,gL r=true): ∀k,k<=l.length->0<=gQ (l.take k)/\gQ (l.take k)<=(k:Int)*32768
 | 0,_=>by simp[gQ]
 | k+1,hk=>by
  have ih:=rS hl h k (by omega);have hr:l[k]? =some (l[k]'(by omega)):=by simp
  have hz:=(jT.1 (h _ (List.getElem_mem (by omega:k<l.length)))).2.2.2;rw[bS hr,uB];unfold wrap64;omega
end Go.Proofs.YtpffpjbkbaleiaaGreatDoor
namespace Go.Proofs.YtpffpjbkbaleiaaGreatDoor
open Go.RowKit
def fT (dir name:ByteArray):ByteArray:=if dir.size=0 then name else dir++⟨#[47]⟩++name
def mp (cs:List (ByteArray×List UInt8)) (it:aI):List UInt8×Int:=
 if it.kind=1 then(match jc cs it.chunks []with | .error x=>([],x) | .ok bs=>(bs,0))else([],0)
def ff (cs:List (ByteArray×List UInt8)) (rec:ByteArray->aV->List bo->Int×List bo) (dir:ByteArray):List aI->List bo->Int×List bo
 | [],acc=>(0,acc)
 | it::r,acc=>
  if bq (bl (fT dir it.name))=true/\acc.length<4096 then
   let acc1:=acc++[⟨fT dir it.name,it.kind,it.mode,it.time,(mp cs it).1,it.link⟩]
   let p:=if it.kind=2 then rec (fT dir it.name) it.node acc1 else((mp cs it).2,acc1)
   if p.1=0 then ff cs rec dir r p.2 else p
  else(2,acc)
def dM (cs:List (ByteArray×List UInt8)):Nat->ByteArray->aV->List bo->Int×List bo
 | 0,_,_,acc=>(0,acc)
 | f+1,dir,ref,acc=>match ey cs ref with
  | .error x=>(x,acc)
  | .ok l=>ff cs (dM cs f) dir l acc
def pp (cs:List (ByteArray×List UInt8)) (root:aV):Except Int (List bo):=
 if gL root=true then(if(dM cs 514 ⟨#[]⟩ root []).1=0 then .ok (dM cs 514 ⟨#[]⟩ root []).2 else .error (dM cs 514 ⟨#[]⟩ root []).1)else .error 1
def Ek (xs:List ByteArray) (w:World) (e:Ending) (w':World):Prop:=
 ∃a cap,e= .returned (.tuple #[.slice a xs.length cap, .int .i64 0])/\xs.length<=cap/\cap<=maxLen/\fQ (w.heap.size<= ·) w' (.slice a xs.length cap) xs/\Below w.heap.size w w'
theorem mA : ∀ {xs ys:List ByteArray},xs.map bl=ys.map bl->xs=ys
 | [],[],_=>rfl
 | [],_::_,h=>by simp at h
 | _::_,[],h=>by simp at h
 | x::xs,y::ys,h=>by
  simp only[List.map_cons,List.cons.injEq]at h;rw[fE h.1,mA h.2]
def ei (l:List UInt8):List ByteArray:=(aW 47 l).map fun p=>⟨p.toArray⟩
theorem uf (l:List UInt8):(ei l).map bl=aW 47 l:=by
 unfold ei;rw[List.map_map];have:(bl ∘ fun p:List UInt8=>(⟨p.toArray⟩:ByteArray))=id:=by funext p; exact ed p
 rw[this,List.map_id]
theorem yo (s:ByteArray) (w:World) (he:iV w) (hv:bq (bl s)=true):Calls Tryz.prog 82 #[.string s] w (Ek (ei (bl s)) w):=by
 refine(lB s w he).mono ?_;rintro e w' (⟨_,v,xs,rfl,hx,hs,hb⟩ | ⟨hf,_⟩)
 ·have:xs=ei (bl s):=mA (hx.trans (uf _).symm);subst this;obtain⟨a,cap,rfl,h1,h2,_⟩:=hs.shape;exact⟨a,cap,rfl,h1,h2,hs,hb⟩
 ·rw[hv]at hf; cases hf
theorem DN (s:ByteArray) (w:World) (he:iV w) (hv:bq (bl s)=false):Calls Tryz.prog 82 #[.string s] w fun e w'=>e= .returned (.tuple #[.slice none 0 0, .int .i64 1])/\Below w.heap.size w w':=by
 refine(lB s w he).mono ?_;rintro e w' (⟨ht,_⟩ | ⟨_,rfl,hb⟩)
 ·rw[hv]at ht; cases ht
 ·exact⟨rfl,hb⟩
def jK (cs:List (ByteArray×List UInt8)):List ByteArray->aI->Except Int aI
 | [],it=> .ok it
 | c::r,it=>if it.kind=2 then(match ey cs it.node with
  | .error x=> .error x
  | .ok l=>match l.find? (fun y=>decide (y.name=c))with
   | none=> .error 4
   | some y=>jK cs r y)else .error 4
def ig (root:aV):aI:=⟨⟨#[]⟩,2,0,0,0,⟨#[]⟩,[],root⟩
def fq (cs:List (ByteArray×List UInt8)) (root:aV) (path:ByteArray):Except Int aI:=
 if bq (bl path)=true/\gL root=true then jK cs (ei (bl path)) (ig root)else .error 1
structure gW (w : World) (base wb eb sb : Nat) (fv v : Value) (ex rs : List aV) : Prop where
 box:w.heap[wb]? =some (.cells #[fv, .map (some eb), .map (some sb),v] 191 (0,0))
 exs:eo w eb ex
 see:eo w sb rs
 row:w.ownsRow base 26 3 v rs.length (rs.flatMap dC)
 ne:eb≠sb
def jD (wb eb sb:Nat) (v:Value) (k:Nat):Prop:=k=wb\/k=eb\/k=sb\/v.ownBlock=some k
section
variable {w w' : World} {base wb eb sb : Nat} {fv v : Value} {ex rs : List aV}
theorem eo.cells {b:Nat} {l:List aV} (h:eo w b l) {cs:Array Value} {t:TypeId} {z:Nat×Nat} :w.heap[b]? ≠some (.cells cs t z):=fun e=>by
 obtain⟨es,clock,hb,_⟩:=h.map;rw[hb]at e; cases e
theorem gW.wne (h:gW w base wb eb sb fv v ex rs):wb≠eb/\wb≠sb:=⟨fun e=>h.exs.cells (e▸h.box),fun e=>h.see.cells (e▸h.box)⟩
theorem au {e:TypeId} {sz:Nat} {n:Nat} {xs:List Value} {k:Nat} (h:w.ownsRow base e sz v n xs) (hk:v.ownBlock=some k): ∃cs,w.heap[k]? =some (.cells cs e (0,0)):=by
 obtain⟨_,h2⟩:=h
 rcases h2 with⟨rfl,rfl⟩ | ⟨g,cap,cur,rfl,_,hh,_⟩
 ·cases hk
 ·have:g=k:=by simpa [Value.ownBlock]using hk
  subst this;exact⟨cur,hh⟩
theorem gW.own (h:gW w base wb eb sb fv v ex rs) {k:Nat} (hk:v.ownBlock=some k):k≠wb/\k≠eb/\k≠sb:=by
 obtain⟨cs,hc⟩:=au h.row hk;refine⟨fun e=> ?_,fun e=> ?_,fun e=> ?_⟩
 ·subst e;have:=hc.symm.trans h.box;simp at this
 ·subst e; exact h.exs.cells hc
 ·subst e; exact h.see.cells hc
theorem gW.keep (h:gW w base wb eb sb fv v ex rs) (hs: ∀k,k<w.heap.size->jD wb eb sb v k->w'.heap[k]? =w.heap[k]?):gW w' base wb eb sb fv v ex rs:=by
 refine⟨(hs wb (lt_of_block h.box) (.inl rfl)).trans h.box,h.exs.same (hs eb h.exs.map.lt (.inr (.inl rfl))),h.see.same (hs sb h.see.map.lt (.inr (.inr (.inl rfl)))), ?_,h.ne⟩;obtain⟨hl,h2⟩:=h.row;refine⟨hl, ?_⟩
 rcases h2 with h2 | ⟨g,cap,cur,rfl,hg,hh,h3⟩
 ·exact .inl h2
 ·exact .inr ⟨g,cap,cur,rfl,hg,(hs g (lt_of_block hh) (.inr (.inr (.inr rfl)))).trans hh,h3⟩
theorem gW.below (h:gW w base wb eb sb fv v ex rs) (hb:Below w.heap.size w w'):gW w' base wb eb sb fv v ex rs:=h.keep (fun k hk _=>hb.block k hk)
theorem gW.ok (h:gW w base wb eb sb fv v ex rs): ∀r∈rs,bK r:=h.see.ok
theorem gW.shape (h:gW w base wb eb sb fv v ex rs): ∃a cap,v= .slice a rs.length cap:=by
 obtain⟨a,cap,h1,_⟩:=ai h.row;exact⟨a,cap,h1⟩
end
def bB (r:aV) (rs:List aV):List aV:=if r∈rs then rs else rs++[r]
def Er (base wb eb sb:Nat) (fv v:Value) (ex rs:List aV) (w w':World):Prop:=
 ∃v',gW w' base wb eb sb fv v' ex rs/\cW (jD wb eb sb v) w w'/\ ∀k,v'.ownBlock=some k->v.ownBlock=some k\/w.heap.size<=k
theorem pq (base wb eb sb:Nat) (fv v:Value) (ex rs:List aV) (r:aV) (w:World) (h:gW w base wb eb sb fv v ex rs) (hr:bK r) (hl:rs.length<1099511627775) (hbase:base<=w.heap.size):
  Calls Tryz.prog 161 #[.pointer (some ⟨wb,0,none⟩),bU r] w fun e w'=>e= .returned (.tuple #[])/\Er base wb eb sb fv v ex (bB r rs) w w':=by
 obtain⟨av,cv,rfl⟩:=h.shape;obtain⟨W,hW⟩: ∃W:World,W=(w.alloc (.cells #[.string r.name, .int .i64 r.gen, .int .i64 r.size] 26)).drew:=⟨_,rfl⟩;have hbW:Below w.heap.size w W:=by rw[hW]; exact(bH).drew
 have HBW:=aa hbW;have HK:=aa (h.below hbW);have bx:W.heap[w.heap.size]? =some (.cells #[.string r.name, .int .i64 r.gen, .int .i64 r.size] 26 (0,0)):=by rw[hW]; exact heap_alloc_new w _
 have HBX:=aa bx;have HR:=aa hr;have HW:=aa hW;have q0:=aB (k:=0) bx;have q1:=aB (k:=1) bx;have q2:=aB (k:=2) bx;have c2:=aB (k:=2) HK.o.box;have hlk:=HK.o.see.look hr;simp only[cr]at q0 q1 q2 c2;have hwb:wb<w.heap.size:=lt_of_block h.box;have H0:=aa h;unfold bU at hlk ⊢;clear h hr bx hbW
 by_cases hm:r∈rs
 ·have e1:decide (r∈rs)=true:=by simp[hm]
  have HM:=aa (show bB r rs=rs by unfold bB; rw[if_pos hm]);rw[e1]at hlk;clear e1 hm
  go_enter Tryz.func161,Tryz.ntmps161
  go_wp2_with fail;refine az [some 7] (by kernel_rfl) (by kernel_rfl) (by kernel_rfl) ?_;simp only[bC,List.take_succ_cons,List.take_zero];rw[<-HW.o];clear hW
  repeat (first | (refine aK rfl ?_; simp only[Act.put,aZ,bg,bh]) | (refine aS rfl (fun K hK=> ?_); go_simp; refine hK _ ?_; clear hK K))
  refine aR ?_;go_wp2_with fail
  go_end0
  exact⟨rfl, .slice av rs.length cv,by rw[HM.o]; exact HK.o,cW.of_below HBW.o,fun k hk=> .inl hk⟩
 ·have e1:decide (r∈rs)=false:=by simp[hm]
  have HM:=aa (show bB r rs=rs++[r] by unfold bB; rw[if_neg hm]);have HNM:=aa hm;rw[e1]at hlk;clear e1 hm
  go_enter Tryz.func161,Tryz.ntmps161
  go_wp2_with fail;refine az [some 7] (by kernel_rfl) (by kernel_rfl) (by kernel_rfl) ?_;simp only[bC,List.take_succ_cons,List.take_zero];rw[<-HW.o];clear hW
  repeat (first | (refine aK rfl ?_; simp only[Act.put,aZ,bg,bh]) | (refine aS rfl (fun K hK=> ?_); go_simp; refine hK _ ?_; clear hK K))
  refine aR ?_;go_wp2_with fail;refine az [some 5,none] (by kernel_rfl) (by kernel_rfl) (by kernel_rfl) ?_;simp only[bC,List.take_succ_cons,List.take_zero,List.drop_succ_cons,List.drop_zero];have HK1:=aa (HK.o.below ((Below.refl _ W).drew))
  repeat (first | (refine aK rfl ?_; simp only[Act.put,aZ,bg,bh]) | (refine aS rfl (fun K hK=> ?_); go_simp; refine hK _ ?_; clear hK K))
  refine aR ?_;refine bJ rfl (fun K hK=> ?_);go_wp2_with (at_mapUpdate; go_must (refine gD rfl _ _ _ rfl sb rs HK1.o.see rfl r HR.o rfl rfl HNM.o ?_); intro w2 hset hg2);have hsb:sb<w.heap.size:=H0.o.see.map.lt;have heb:eb<w.heap.size:=H0.o.exs.map.lt;have hbs:=HBW.o.size;obtain⟨W3,hW3⟩: ∃W3:World,W3=w2.drew:=⟨_,rfl⟩;have hg3:W.grownBy W3 (some sb):=by rw[hW3]; exact aG (b:=W.drew) ⟨rfl,rfl,rfl,Nat.le_refl _,fun _ _ _=>rfl⟩ (aG hg2 ⟨rfl,rfl,rfl,Nat.le_refl _,fun _ _ _=>rfl⟩)
  have hz3:=hg3.size;have HSET:=aa (show eo W3 sb (rs++[r]) by rw[hW3]; exact hset.same rfl);have HEX:=aa (HK.o.exs.same (w':=W3) (hg3.block eb HK.o.exs.map.lt (by simp; exact HK.o.ne)));have HROW:=aa (HK.o.row.kept hg3 (.inr (fun e=>(HK.o.own e).2.2 rfl)));have HWB:=aa (gU hg3 HK.o.box HK.o.wne.2);have HRB:=aa (gU hg3 HBX.o (by omega));have HG3:=aa hg3;have c3:=aB (k:=3) HWB.o
  have f3:=ah (k:=3) HWB.o;obtain⟨r0,r1,r2,_⟩:=aj HRB.o;simp only[Nat.zero_add,Nat.reduceAdd]at r1 r2;simp only[cr]at c3;clear q0 q1 q2 c2 hlk hset hg2 hg3;refine bN (fun w'=>w'.cell? ⟨wb,3,none⟩=some (.slice av rs.length cv)/\w'.cell? ⟨w.heap.size,0,none⟩=some (.string r.name)/\w'.cell? ⟨w.heap.size,1,none⟩=some (.int .i64 r.gen)/\w'.cell? ⟨w.heap.size,2,none⟩=some (.int .i64 r.size)) (by kernel_rfl) (by kernel_rfl) ?_
  simp only[List.dropLast_cons_cons,List.dropLast_singleton,List.length_cons,List.length_nil,Nat.reduceAdd,Nat.reduceSub];rw[<-hW3];clear hW3
  iterate 6 (refine aJ rfl (by kernel_rfl) (fun _ _ _ h=>h) rfl (by go_simp) (by rintro w' ⟨hw1,hw2,hw3,hw4⟩; go_simp; rfl) ?_; simp only[Act.put,aZ,bg,bh])
  have hltw:wb<W3.heap.size:=lt_of_block HWB.o;have hltr:w.heap.size<W3.heap.size:=lt_of_block HRB.o;have HAL:=aa ((Below.refl W3.heap.size W3).alloc (Nat.le_refl _) (.cells #[.string r.name, .int .i64 r.gen, .int .i64 r.size] 26));have hS2:=And.intro ((HAL.o.cell (p:=⟨wb,3,none⟩) hltw).trans c3) (And.intro ((HAL.o.cell (p:=⟨w.heap.size,0,none⟩) hltr).trans r0) (And.intro ((HAL.o.cell (p:=⟨w.heap.size,1,none⟩) hltr).trans r1) ((HAL.o.cell (p:=⟨w.heap.size,2,none⟩) hltr).trans r2)))
  have HS2:=aa hS2;clear hS2;refine an 6 rfl (by kernel_rfl) rfl (fun K hK=> ?_);go_wp2_with fail
  (first | (refine⟨HS2.o, ?_⟩) | skip)
  refine an 7 rfl (by kernel_rfl) rfl (fun K hK=> ?_);go_wp2_with (at_builtin; go_must (refine aA Tryz.appRefs rfl _ _ rfl base (.slice av rs.length cv) rs.length (rs.flatMap dC) rfl W3 [.string r.name, .int .i64 r.gen, .int .i64 r.size] _ rfl rfl (lr (r:=r)) HROW.o (by omega) (by omega) ?_); intro v' wc hown' hgrow' _ hpl; obtain⟨ae,ce,rfl,-,-⟩:=ai hown');have hne: ∀k,(Value.slice av rs.length cv).ownBlock=some k->k≠wb/\k≠eb/\k≠sb:=fun k hk=>H0.o.own hk
  have hner:(Value.slice av rs.length cv).ownBlock≠some w.heap.size:=fun e=>by have:=(H0.o.row.lt _ e).2; omega
  have HWB2:=aa ((hgrow'.block wb hltw (fun e=>(hne wb e.symm).1 rfl)).trans HWB.o);have HRB2:=aa ((hgrow'.block w.heap.size hltr (fun e=>hner e.symm)).trans HRB.o);have HEX2:=aa (HEX.o.same (hgrow'.block eb HEX.o.map.lt (fun e=>(hne eb e.symm).2.1 rfl)));have HSET2:=aa (HSET.o.same (hgrow'.block sb HSET.o.map.lt (fun e=>(hne sb e.symm).2.2 rfl)));have HGR:=aa hgrow';have HPL:=aa hpl
  have HOW:=aa (show wc.ownsRow base 26 3 (.slice ae (rs.length+1) ce) (rs++[r]).length ((rs++[r]).flatMap dC) by rw[List.length_append,List.flatMap_append]; simpa [dC]using hown');have c4:=aB (k:=3) HWB2.o;have f4:=ah (k:=3) HWB2.o;obtain⟨s0,s1,s2,_⟩:=aj HRB2.o;simp only[Nat.zero_add,Nat.reduceAdd]at s1 s2;simp only[cr]at c4;clear hown' hgrow' hpl c3 f3 r0 r1 r2 hne hner
  refine⟨⟨c4,s0,s1,s2⟩, ?_⟩
  iterate 2 (refine aJ rfl (by kernel_rfl) (fun _ _ _ h=>h) rfl (by go_simp) (by rintro w' ⟨hw1,hw2,hw3,hw4⟩; go_simp; rfl) ?_; simp only[Act.put,aZ,bg,bh])
  refine aM (by kernel_rfl) ?_;refine bX rfl rfl (fun K hK=> ?_);go_wp2_with fail
  go_end0
  refine⟨rfl, .slice ae (rs.length+1) ce, ?_, ?_, ?_⟩
  ·rw[HM.o];have hws:=H0.o.wne;have hx:=dD (k:=3) HWB2.o (.slice ae (rs.length+1) ce);simp only[List.setIfInBounds_toArray,List.set_cons_succ,List.set_cons_zero]at hx;refine⟨hx,HEX2.o.same (Below.heap_setCell _ _ _ _ (Ne.symm hws.1)),HSET2.o.same (Below.heap_setCell _ _ _ _ (Ne.symm hws.2)),HOW.o.kept (aN _ _ _ _) (.inr (fun e=> ?_)),H0.o.ne⟩
   rcases HPL.o wb e with h1 | h1
   ·exact(H0.o.own h1).1 rfl
   ·omega
  ·refine cW.trans (cW.of_below HBW.o) (cW.trans (S:=jD wb eb sb (.slice av rs.length cv)) (cW.of_grown HG3.o (fun k hk=>by cases hk; exact .inr (.inr (.inl rfl)))) (cW.trans (S:=jD wb eb sb (.slice av rs.length cv)) (cW.of_grown HGR.o (fun k hk=> .inr (.inr (.inr hk)))) (cW.of_grown (S:=jD wb eb sb (.slice av rs.length cv)) (aN wc wb 3 _) (fun k hk=>by cases hk; exact .inl rfl)) (fun i _ h=>h)) (fun i _ h=>h)) (fun i _ h=>h)
  ·intro k hk
   rcases HPL.o k hk with h1 | h1
   ·exact .inl h1
   ·exact .inr (by omega)
def dj (cs rs:List aV):List aV:=cs.foldl (fun rs r=>bB r rs) rs
def gI (f:aV->List aV×List aV->Option (Int×(List aV×List aV))):List aI->List aV×List aV->Option (Int×(List aV×List aV))
 | [],st=>some (0,st)
 | it::l,st=>if it.kind≠2 then gI f l (st.1,dj it.chunks st.2)else
  (f it.node (st.1,dj it.chunks st.2)).bind fun p=>if p.1≠0 then some p else gI f l p.2
def fh (visit:aV->Except Int (List aI)):Nat->aV->List aV×List aV->Option (Int×(List aV×List aV))
 | 0,_,_=>none
 | n+1,r,st=>if r∈st.1 then some (0,(st.1,bB r st.2))else match visit r with
  | .error x=>some (x,(st.1++[r],bB r st.2))
  | .ok l=>gI (fh visit n) l (st.1++[r],bB r st.2)
theorem li (r:aV) (rs:List aV):rs.length<=(bB r rs).length:=by
 unfold bB
 split
 ·exact Nat.le_refl _
 ·simp
theorem lO : ∀(cs rs:List aV),rs.length<=(dj cs rs).length
 | [],_=>Nat.le_refl _
 | c::cs,rs=>Nat.le_trans (li c rs) (lO cs (bB c rs))
theorem xB (cs:List aV) (c:aV) (rs:List aV):dj (cs++[c]) rs=bB c (dj cs rs):=by
 unfold dj; rw[List.foldl_append]; rfl
theorem rg (cs rs:List aV) (j:Nat):(dj (cs.take j) rs).length<=(dj cs rs).length:=by
 have:dj cs rs=dj (cs.drop j) (dj (cs.take j) rs):=by
  unfold dj;rw[<-List.foldl_append,List.take_append_drop]
 rw[this];exact lO _ _
theorem iN {f:aV->List aV×List aV->Option (Int×(List aV×List aV))} (hf: ∀r st x st',f r st=some (x,st')->st.2.length<=st'.2.length):
  ∀(l:List aI) (st:List aV×List aV) (x:Int) (st':List aV×List aV),gI f l st=some (x,st')->st.2.length<=st'.2.length
 | [],st,x,st',h=>by
  simp only[gI,Option.some.injEq,Prod.mk.injEq]at h;obtain⟨_,rfl⟩:=h;exact Nat.le_refl _
 | it::l,st,x,st',h=>by
  rw[gI]at h
  split at h
  ·exact Nat.le_trans (lO it.chunks st.2) (iN hf l _ x st' h)
  ·rw[Option.bind_eq_some_iff]at h;obtain⟨⟨y,st2⟩,h1,h2⟩:=h;have h3:=hf _ _ _ _ h1;have h4:=lO it.chunks st.2;simp only at h2 h3
   split at h2
   ·simp only[Option.some.injEq,Prod.mk.injEq]at h2;obtain⟨_,rfl⟩:=h2;exact Nat.le_trans h4 h3
   ·exact Nat.le_trans (Nat.le_trans h4 h3) (iN hf l _ x st' h2)
theorem jU (visit:aV->Except Int (List aI)): ∀(n:Nat) (r:aV) (st:List aV×List aV) (x:Int) (st':List aV×List aV),fh visit n r st=some (x,st')->st.2.length<=st'.2.length
 | 0,_,_,_,_,h=>by simp[fh]at h
 | n+1,r,st,x,st',h=>by
  have hm:=li r st.2;rw[fh]at h
  split at h
  ·simp only[Option.some.injEq,Prod.mk.injEq]at h;obtain⟨_,rfl⟩:=h;exact hm
  ·split at h
   ·simp only[Option.some.injEq,Prod.mk.injEq]at h;obtain⟨_,rfl⟩:=h;exact hm
   ·exact Nat.le_trans hm (iN (jU visit n) _ _ x st' h)
def IR (res:Except Int (List aI)) (w:World) (e:Ending) (w':World):Prop:=Below w.heap.size w w'/\match res with
 | .error x=>e= .returned (.tuple #[.slice none 0 0, .int .i64 x])/\x≠0
 | .ok l=> ∃v,e= .returned (.tuple #[v, .int .i64 0])/\bI (w.heap.size<= ·) w' v l
theorem gW.notown {w:World} {base wb eb sb:Nat} {fv v:Value} {ex rs:List aV} (h:gW w base wb eb sb fv v ex rs) {k:Nat} {cs:Array Value} {t:TypeId} {z:Nat×Nat} (hb:w.heap[k]? =some (.cells cs t z)) (h1:t≠191) (h2:t≠26): ¬jD wb eb sb v k:=by
 rintro(e | e | e | e)
 ·subst e;have:=hb.symm.trans h.box;simp at this;exact h1 this.2.1
 ·subst e; exact h.exs.cells hb
 ·subst e; exact h.see.cells hb
 ·obtain⟨cs',hc⟩:=au h.row e;have:=hb.symm.trans hc;simp at this;exact h2 this.2.1
structure qd (w : World) (B h5 h6 base wb eb sb : Nat) (fv v itv : Value) (l : List aI) (wr : World) (v2 : Value) (ex rs : List aV) : Prop where
 at':gW wr base wb eb sb fv v2 ex rs
 gr:cW (jD wb eb sb v) w wr
 own: ∀k,v2.ownBlock=some k->v.ownBlock=some k\/w.heap.size<=k
 apart: ∀k,v2.ownBlock=some k->k<h5\/h6<=k
 lo:wb<h5/\eb<h5/\sb<h5
 ord:w.heap.size<=h5/\h5<=h6/\h6<=wr.heap.size
 its:bI (fun k=>h5<=k/\k<h6) wr itv l
theorem bI.same {S:Nat->Prop} {w w':World} {v:Value} {l:List aI} (h:bI S w v l) (hs: ∀k,k<w.heap.size->S k->w'.heap[k]? =w.heap[k]?):bI S w' v l:=by
 obtain⟨cells,hr,hin⟩:=h;have h2:=hr.mono (T:=fun k=>k<w.heap.size/\S k) (fun k hk hS=>⟨hk,hS⟩) (by omega);have h3:=h2.same (w':=w') (fun k hk=>hs k hk.1 hk.2);exact⟨cells,h3.weak (fun k hk=>hk.2),hin.mono (fun c x _ hx=>hx.same (fun k hk hS=>⟨hS,hs k hk hS⟩))⟩
section
variable {w wr w' : World} {B h5 h6 base wb eb sb : Nat} {fv v itv v2 v3 : Value} {l : List aI} {ex rs ex3 rs3 : List aV}
theorem qd.below (h:qd w B h5 h6 base wb eb sb fv v itv l wr v2 ex rs) (hb:Below wr.heap.size wr w'):qd w B h5 h6 base wb eb sb fv v itv l w' v2 ex rs:=
 ⟨h.at'.below hb,h.gr.trans (cW.of_below hb (S:=fun _=>False)) (fun _ _ h=>False.elim h),h.own,h.apart,h.lo,⟨h.ord.1,h.ord.2.1,Nat.le_trans h.ord.2.2 hb.size⟩,h.its.below hb⟩
theorem qd.notown (h:qd w B h5 h6 base wb eb sb fv v itv l wr v2 ex rs) {k:Nat} (hk:h5<=k/\k<h6): ¬jD wb eb sb v2 k:=by
 have:=h.lo;rintro(e | e | e | e)
 ·omega
 ·omega
 ·omega
 ·have:=h.apart k e; omega
theorem qd.step (h:qd w B h5 h6 base wb eb sb fv v itv l wr v2 ex rs) (hr:Er base wb eb sb fv v2 ex3 rs3 wr w'): ∃v3,qd w B h5 h6 base wb eb sb fv v itv l w' v3 ex3 rs3/\cW (jD wb eb sb v2) wr w':=by
 obtain⟨v3,h1,h2,h3⟩:=hr;have hz:=h.gr.size;refine⟨v3,⟨h1,h.gr.trans h2 (fun i hi ho=> ?_),fun k hk=> ?_,fun k hk=> ?_,h.lo,⟨h.ord.1,h.ord.2.1,Nat.le_trans h.ord.2.2 h2.size⟩,h.its.same (fun k hk hS=>h2.block k hk (h.notown hS))⟩,h2⟩
 ·rcases ho with e | e | e | e
  ·exact .inl e
  ·exact .inr (.inl e)
  ·exact .inr (.inr (.inl e))
  ·rcases h.own i e with e | e
   ·exact .inr (.inr (.inr e))
   ·omega
 ·rcases h3 k hk with e | e
  ·exact h.own k e
  ·exact .inr (by omega)
 ·rcases h3 k hk with e | e
  ·exact h.apart k e
  ·have:=h.ord; exact .inr (by omega)
end
def Ep (visit:aV->Except Int (List aI)) (F:Nat) (cv:Value) (I:World->Prop) (B n:Nat):Prop:= ∀(r:aV) (st:List aV×List aV) (x:Int) (st':List aV×List aV) (base wb eb sb:Nat) (v:Value) (w:World),fh visit n r st=some (x,st')->st'.2.length<1099511627775->
 gW w base wb eb sb (.func (.func F) #[cv] #[]) v st.1 st.2->bK r->I w->(B<=base/\B<=wb/\B<=eb/\B<=sb)->base<=w.heap.size->
 Calls Tryz.prog 133 #[.pointer (some ⟨wb,0,none⟩),bU r] w fun e w'=>e= .returned (.int .i64 x)/\Er base wb eb sb (.func (.func F) #[cv] #[]) v st'.1 st'.2 w w'
def Eo (visit:aV->Except Int (List aI)) (F:Nat) (cv:Value) (I:World->Prop):Prop:= ∀(W:World) (r:aV),I W->bK r->Calls Tryz.prog F #[cv,bU r] W (IR (visit r) W)
def AL (I:World->Prop) (B:Nat):Prop:= ∀w w':World,I w->cW (B<= ·) w w'->I w'
theorem zQ {B base wb eb sb:Nat} {w:World} {fv v:Value} {ex rs:List aV} (h:gW w base wb eb sb fv v ex rs) (hB:B<=base/\B<=wb/\B<=eb/\B<=sb) {k:Nat} (hk:jD wb eb sb v k):B<=k:=by
 rcases hk with e | e | e | e
 ·omega
 ·omega
 ·omega
 ·have:=(h.row.lt k e).1; omega
theorem qL {S T:Nat->Prop} {w w':World} (h:cW S w w') (hs: ∀k,S k->T k):cW T w w':=⟨h.os,h.tape,h.output,h.size,fun k hk hn=>h.block k hk (fun hS=>hn (hs k hS))⟩
theorem bI.lt {S:Nat->Prop} {w:World} {v:Value} {l:List aI} (h:bI S w v l):bI (fun k=>S k/\k<w.heap.size) w v l:=by
 obtain⟨cells,hr,hin⟩:=h;exact⟨cells,hr.mono (fun k hk hS=>⟨hS,hk⟩) (by omega),hin.mono (fun c x _ hx=>hx.same (fun k hk hS=>⟨⟨hS,hk⟩,rfl⟩))⟩
theorem rq {f:aV->List aV×List aV->Option (Int×(List aV×List aV))} {it:aI} {l:List aI} {ex rs:List aV} {q:Int×(List aV×List aV)} (h:gI f (it::l) (ex,rs)=some q):
  (it.kind≠2/\gI f l (ex,dj it.chunks rs)=some q)\/(it.kind=2/\ ∃y st2,f it.node (ex,dj it.chunks rs)=some (y,st2)/\((y≠0/\q=(y,st2))\/(y=0/\gI f l st2=some q))):=by
 rw[gI]at h
 split at h
 ·rename_i hk;exact .inl ⟨hk,h⟩
 ·rename_i hk;rw[Option.bind_eq_some_iff]at h;obtain⟨⟨y,st2⟩,h1,h2⟩:=h;refine .inr ⟨Decidable.not_not.1 hk,y,st2,h1, ?_⟩;simp only at h2
  split at h2
  ·rename_i hy;exact .inl ⟨hy,(Option.some.inj h2).symm⟩
  ·rename_i hy;exact .inr ⟨Decidable.not_not.1 hy,h2⟩
theorem CZ {visit:aV->Except Int (List aI)} {n:Nat} {it:aI} {l:List aI} {ex rs:List aV} {x:Int} {st':List aV×List aV} (h:gI (fh visit n) (it::l) (ex,rs)=some (x,st')):(dj it.chunks rs).length<=st'.2.length:=by
 rcases rq h with⟨_,h2⟩ | ⟨_,y,st2,h1,h2⟩
 ·exact iN (jU visit n) l _ x st' h2
 ·have h3:=jU visit n _ _ _ _ h1
  rcases h2 with⟨_,h2⟩ | ⟨_,h2⟩
  ·obtain⟨_,rfl⟩:=Prod.mk.inj h2;exact h3
  ·exact Nat.le_trans h3 (iN (jU visit n) l _ x st' h2)
def nE (visit:aV->Except Int (List aI)) (n:Nat) (root:aV):Option (Except Int (List aV)):=
 if gL root=true then(fh visit n root ([],[])).map fun p=>if p.1=0 then .ok p.2.2 else .error p.1 else some (.error 1)
def uP (res:Except Int (List aV)) (w:World) (e:Ending) (w':World):Prop:=Below w.heap.size w w'/\match res with
 | .error x=>e= .returned (.tuple #[.slice none 0 0, .int .i64 x])/\x≠0
 | .ok rs=> ∃v,e= .returned (.tuple #[v, .int .i64 0])/\bw (w.heap.size<= ·) w' v rs
theorem Gg {w:World} {B:Nat} {fv:Value} :gW (((w.alloc (.map #[] 0)).alloc (.map #[] 0)).alloc (.cells #[fv, .map (some w.heap.size), .map (some (w.heap.size+1)), .slice none 0 0] 191)) B (w.heap.size+1+1) w.heap.size (w.heap.size+1) fv (.slice none 0 0) [] []:=by
 have e1:(w.alloc (.map #[] 0)).heap.size=w.heap.size+1:=by simp
 have e2:((w.alloc (.map #[] 0)).alloc (.map #[] 0)).heap.size=w.heap.size+1+1:=by simp
 have h1:=eo.made w;have h2:=eo.made (w.alloc (.map #[] 0));rw[e1]at h2;have h3:=heap_alloc_new ((w.alloc (.map #[] 0)).alloc (.map #[] 0)) (.cells #[fv, .map (some w.heap.size), .map (some (w.heap.size+1)), .slice none 0 0] 191);rw[e2]at h3;refine⟨h3, ?_,h2.same (Below.heap_alloc _ _ _ (by rw[e2]; omega)),World.ownsRow_nil _ _ _ _,by omega⟩;exact h1.same ((Below.heap_alloc _ _ _ (by rw[e2]; omega)).trans (Below.heap_alloc _ _ _ (by rw[e1]; omega)))
structure fP (B : Nat) (cv : Value) (cs : List (ByteArray × List UInt8)) (w : World) : Prop where
 cont:cM (· <B) w cv cs
 env:iV w
 lt:1<B/\3<B/\4<B
 size:B<=w.heap.size
theorem aL.lt' {S:Nat->Prop} {w:World} {sz:Nat} {v:Value} {n:Nat} {cells:List Value} (h:aL S w sz v n cells) (hs:0<sz):aL (· <w.heap.size) w sz v n cells:=h.mono (fun _ hk _=>hk) hs
theorem cM.lt {S:Nat->Prop} {w:World} {cv:Value} {cs:List (ByteArray×List UInt8)} (h:cM S w cv cs):cM (· <w.heap.size) w cv cs:=by
 rcases h with h | ⟨b,m,h1,h0,h2,h3⟩
 ·exact .inl h
 ·refine .inr ⟨b,m,h1,h2.lt,h2, ?_⟩;clear h1 h2 h0
  induction m generalizing cs with
  | nil=>cases cs with
   | nil=>trivial
   | cons=>exact h3
  | cons p m ih=>cases cs with
   | nil=>exact h3
   | cons q cs=>exact⟨h3.1,aL.lt' h3.2.1 (by omega),ih h3.2.2⟩
theorem fP.keep {B:Nat} {cv:Value} {cs:List (ByteArray×List UInt8)} :AL (fP B cv cs) B:=by
 intro w w' h hg;have hb:Below B w w':=hg.below h.size (fun k hk=>hk);refine⟨?_,h.env.belowB hb h.lt.1 h.lt.2.1 h.lt.2.2,h.lt,Nat.le_trans h.size hg.size⟩
 rcases h.cont with h1 | ⟨b,m,h1,h0,h2,h3⟩
 ·exact .inl h1
 ·exact .inr ⟨b,m,h1,h0,h2.same (hb.block b h0),h3.mono (fun v bs hv=>aL.same hv (fun k hk=>hb.block k hk))⟩
theorem fP.visit {B:Nat} {cv:Value} {cs:List (ByteArray×List UInt8)} :Eo (ey cs) 83 cv (fP B cv cs):=fun W r hI hr=>(nG (· <B) cv cs r W hI.cont hr hI.env).mono fun _ _ h=>h
theorem fP.start {S:Nat->Prop} {w:World} {cv:Value} {cs:List (ByteArray×List UInt8)} (h:cM S w cv cs) (he:iV w):fP w.heap.size cv cs w:=⟨h.lt,he,he.lt,Nat.le_refl _⟩
theorem nI : ∀ {l U:List aV},l.Nodup->(∀x∈l,x∈U)->l.length<=U.length
 | [],_,_,_=>Nat.zero_le _
 | a::l,U,hn,hs=>by
  obtain⟨h1,h2⟩:=List.nodup_cons.1 hn;have ha:a∈U:=hs a (by simp);have h3:=nI (l:=l) (U:=U.erase a) h2 (fun x hx=>(List.mem_erase_of_ne (fun e=>by subst e; exact h1 hx)).2 (hs x (by simp[hx])));have h4:=List.length_erase_of_mem ha;have h5:0<U.length:=List.length_pos_of_mem ha;simp only[List.length_cons];omega
def ld (it:aI):List aV:=it.chunks++[it.node]
def Jl (l:List aI):List aV:=l.flatMap ld
def mD (cs:List (ByteArray×List UInt8)):List aV:=cs.flatMap fun p=>match dT p.2 with
 | some l=>Jl l
 | none=>[]
theorem Cu {cs:List (ByteArray×List UInt8)} {n:ByteArray} {bs:List UInt8} (h:ef cs n=some bs): ∃k,(k,bs)∈cs:=by
 induction cs with
 | nil=>simp[ef]at h
 | cons p cs ih=>
  obtain⟨k,b⟩:=p;simp only[ef]at h
  split at h
  ·simp only[Option.some.injEq]at h; subst h; exact⟨k,by simp⟩
  ·obtain⟨k',hk⟩:=ih h;exact⟨k',by simp[hk]⟩
theorem tY {cs:List (ByteArray×List UInt8)} {r:aV} {l:List aI} (h:ey cs r= .ok l): ∃k bs,(k,bs)∈cs/\dT bs=some l:=by
 unfold ey at h
 cases hc:eF cs r with
 | error x=>rw[hc]at h; simp at h
 | ok bs=>
  rw[hc]at h;simp only at h
  cases hi:dT bs with
  | none=>rw[hi]at h; simp at h
  | some l'=>
   rw[hi]at h;simp only[Except.ok.injEq]at h;subst h;unfold eF at hc
   cases hf:ef cs r.name with
   | none=>rw[hf]at hc; simp at hc
   | some b=>
    rw[hf]at hc;simp only at hc
    split at hc
    ·simp only[Except.ok.injEq]at hc; subst hc;obtain⟨k,hk⟩:=Cu hf;exact⟨k,b,hk,hi⟩
    ·simp at hc
theorem zN {cs:List (ByteArray×List UInt8)} {r:aV} {l:List aI} (h:ey cs r= .ok l) {it:aI} (hit:it∈l): ∀c∈ld it,c∈mD cs:=fun c hc=>by
 obtain⟨k,bs,h1,h2⟩:=tY h;refine List.mem_flatMap.2 ⟨(k,bs),h1, ?_⟩;simp only[h2];exact List.mem_flatMap.2 ⟨it,hit,hc⟩
structure su (U : List aV) (st : List aV × List aV) : Prop where
 e1:st.1.Nodup
 e2: ∀x∈st.1,x∈U
 l1:st.2.Nodup
 l2: ∀x∈st.2,x∈U
theorem lj {r:aV} {rs:List aV} (h:rs.Nodup):(bB r rs).Nodup:=by
 unfold bB
 split
 ·exact h
 ·rename_i hm;exact List.nodup_append.2 ⟨h,by simp,fun a ha b hb e=>by simp only[List.mem_singleton]at hb; subst hb e; exact hm ha⟩
theorem nC {r x:aV} {rs:List aV} :x∈bB r rs<->x∈rs\/x=r:=by
 unfold bB
 split
 ·rename_i hm;exact⟨.inl,fun h=>by rcases h with h | rfl; exact h; exact hm⟩
 ·simp
theorem nB : ∀(cs:List aV) {rs:List aV},rs.Nodup->(dj cs rs).Nodup
 | [],_,h=>h
 | _c::cs,_,h=>nB cs (lj h)
theorem re : ∀(cs:List aV) {rs:List aV} {x:aV},x∈dj cs rs<->x∈rs\/x∈cs
 | [],rs,x=>by simp[dj]
 | c::cs,rs,x=>by
  show x∈dj cs (bB c rs)<->_
  rw[re cs,nC,List.mem_cons,or_assoc]
theorem su.men {U:List aV} {st:List aV×List aV} (h:su U st) {cs:List aV} (hc: ∀c∈cs,c∈U):su U (st.1,dj cs st.2):=
 ⟨h.e1,h.e2,nB cs h.l1,fun x hx=>by
  rcases(re cs).1 hx with hx | hx
  ·exact h.l2 x hx
  ·exact hc x hx⟩
def IC (U:List aV) (f:aV->List aV×List aV->Option (Int×(List aV×List aV))) (n:Nat):Prop:= ∀r st,r∈U->su U st->U.length<n+st.1.length-> ∃x st',f r st=some (x,st')/\su U st'/\st.1.length<=st'.1.length
theorem mM {U:List aV} {f:aV->List aV×List aV->Option (Int×(List aV×List aV))} {n:Nat} (hf:IC U f n):
  ∀(l:List aI) (st:List aV×List aV),(∀it∈l,∀c∈ld it,c∈U)->su U st->U.length<n+st.1.length-> ∃x st',gI f l st=some (x,st')/\su U st'/\st.1.length<=st'.1.length
 | [],st,_,hi,_=>⟨0,st,rfl,hi,Nat.le_refl _⟩
 | it::l,st,hl,hi,hn=>by
  have hi2:=hi.men (cs:=it.chunks) (fun c hc=>hl it (by simp) _ (by simp[ld,hc]));rw[gI]
  split
  ·exact mM hf l _ (fun x hx=>hl x (by simp[hx])) hi2 hn
  ·obtain⟨x,st2,h1,h2,h3⟩:=hf it.node _ (hl it (by simp) _ (by simp[ld])) hi2 hn;rw[h1,Option.bind_some];simp only at h3
   split
   ·exact⟨x,st2,rfl,h2,h3⟩
   ·obtain⟨y,st3,k1,k2,k3⟩:=mM hf l st2 (fun x hx=>hl x (by simp[hx])) h2 (by omega);exact⟨y,st3,k1,k2,Nat.le_trans h3 k3⟩
def ph (cs:List (ByteArray×List UInt8)):Nat:=(mD cs).length+2
theorem Ck {data:List UInt8} {s s1:RS} {it:aI} (h:je data s=some (it,s1)):it.chunks.length<=963:=by
 unfold je lf at h
 split at h
 ·simp only[Option.some.injEq,Prod.mk.injEq]at h;obtain⟨rfl,_⟩:=h;simp only[qo];exact vd _ _ _
 ·split at h
  ·simp only[Option.some.injEq,Prod.mk.injEq]at h;obtain⟨rfl,_⟩:=h;simp
  ·split at h
   ·simp only[Option.some.injEq,Prod.mk.injEq]at h;obtain⟨rfl,_⟩:=h;simp
   ·simp at h
theorem tI {data:List UInt8} {s0:RS} : ∀ {k:Nat} {l:List aI} {s:RS},fl data s0 k=some (l,s)->l.length=k/\ ∀it∈l,it.chunks.length<=963
 | 0,l,s,h=>by
  simp only[fl,Option.some.injEq,Prod.mk.injEq]at h;obtain⟨rfl,_⟩:=h;exact⟨rfl,by simp⟩
 | k+1,l,s,h=>by
  rw[jf,Option.bind_eq_some_iff]at h;obtain⟨⟨l0,s1⟩,h1,h2⟩:=h;rw[Option.map_eq_some_iff]at h2;obtain⟨⟨it,s2⟩,h3,h4⟩:=h2;simp only[Prod.mk.injEq]at h4;obtain⟨rfl,_⟩:=h4;obtain⟨k1,k2⟩:=tI h1;refine⟨by simp[k1],fun x hx=> ?_⟩
  rcases List.mem_append.1 hx with hx | hx
  ·exact k2 x hx
  ·simp only[List.mem_singleton]at hx; subst hx; exact Ck h3
theorem tK {data:List UInt8} {l:List aI} (h:dT data=some l):l.length<=4096/\ ∀it∈l,it.chunks.length<=963:=by
 unfold dT at h
 split at h
 ·simp at h
 ·rw[Option.bind_eq_some_iff]at h;obtain⟨⟨l0,s1⟩,h1,h2⟩:=h
  split at h2
  ·simp only[Option.some.injEq]at h2;subst h2;obtain⟨k1,k2⟩:=tI h1;exact⟨by rw[k1]; exact vd _ _ _,k2⟩
  ·simp at h2
theorem gE {α β:Type} (f:α->List β) (m:Nat): ∀(l:List α),(∀x∈l,(f x).length<=m)->(l.flatMap f).length<=l.length*m
 | [],_=>by simp
 | a::l,h=>by
  have h1:=gE f m l (fun x hx=>h x (by simp[hx]));have h2:=h a (by simp);rw[List.flatMap_cons,List.length_append,List.length_cons,Nat.succ_mul];omega
theorem Co {cs:List (ByteArray×List UInt8)} :(mD cs).length<=cs.length*3948544:=gE _ _ cs (fun p _=>by
 cases h:dT p.2 with
 | none=>simp
 | some l=>
  obtain⟨h1,h2⟩:=tK h;simp only;have h3:=gE ld 964 l (fun it hit=>by have:=h2 it hit; simp[ld]; omega);exact Nat.le_trans h3 (Nat.le_trans (Nat.mul_le_mul_right 964 h1) (by decide)))
theorem rk {cs:List (ByteArray×List UInt8)} {r:aV} {l:List aI} (h:ey cs r= .ok l):l.length<=4096/\eq l=true/\ ∀it∈l,it.chunks.length<=963:=by
 obtain⟨k,bs,_,h2⟩:=tY h;have h3:=tK h2;refine⟨h3.1, ?_,h3.2⟩;unfold dT at h2
 split at h2
 ·simp at h2
 ·rw[Option.bind_eq_some_iff]at h2;obtain⟨⟨l0,s1⟩,_,h4⟩:=h2
  split at h4
  ·rename_i h5;simp only[Option.some.injEq]at h4;subst h4;exact h5.2
  ·simp at h4
open Go Go.RowKit
def fB (w:World) (base eb:Nat) (v:Value) (acc:List bo):Prop:=
 w.heap[eb]? =some (.cells #[v] 46 (0,0))/\ ∃ys:List jX,ys.map Prod.snd=acc/\w.ownsRow base 79 6 v ys.length (dJ ys)/\ ∀y∈ys,w.ownsRow base 5 1 y.1 y.2.data.length (y.2.data.map ak)
structure mz (base eb : Nat) (v v' : Value) (w w' : World) : Prop where
 below:Below base w w'
 same: ∀k,k<w.heap.size->k≠eb->v.ownBlock≠some k->w'.heap[k]? =w.heap[k]?
 place: ∀k,v'.ownBlock=some k->v.ownBlock=some k\/w.heap.size<=k
theorem mz.refl (base eb:Nat) (v:Value) (w:World):mz base eb v v w w:=⟨Below.refl _ _,fun _ _ _ _=>rfl,fun _ h=> .inl h⟩
theorem mz.trans {base eb:Nat} {v v1 v2:Value} {A B C:World} (h:mz base eb v v1 A B) (k:mz base eb v1 v2 B C) (hs:A.heap.size<=B.heap.size):mz base eb v v2 A C:=
 ⟨h.below.trans k.below,fun i h1 h2 h3=>(k.same i (by omega) h2 (fun e=>by
  rcases h.place i e with e2 | e2
  ·exact h3 e2
  ·omega)).trans (h.same i h1 h2 h3),fun i e=>by
  rcases k.place i e with e2 | e2
  ·exact h.place i e2
  ·exact .inr (by omega)⟩
theorem mz.ofBelow {base eb:Nat} {v:Value} {w w':World} (h:Below w.heap.size w w') (hb:base<=w.heap.size):mz base eb v v w w':=⟨h.mono hb,fun k h1 _ _=>h.block k h1,fun _ e=> .inl e⟩
theorem fB.below {w w':World} {base eb:Nat} {v:Value} {acc:List bo} (h:fB w base eb v acc) (hb:Below w.heap.size w w'):fB w' base eb v acc:=by
 obtain⟨h1,ys,h2,h3,h4⟩:=h;exact⟨br hb h1,ys,h2,aQ h3 hb,fun y hy=>aQ (h4 y hy) hb⟩
theorem aC {w:World} {k:Nat} {cs cs':Array Value} {t t':TypeId} {z z':Nat×Nat} (h:w.heap[k]? =some (.cells cs t z)) (h':w.heap[k]? =some (.cells cs' t' z')):t=t':=by
 have:=h.symm.trans h';simp at this;exact this.2.1
theorem bZ {w w':World} {base sz n:Nat} {e:TypeId} {v:Value} {xs:List Value} (h:w.ownsRow base e sz v n xs) (hs: ∀k,k<w.heap.size->v.ownBlock=some k->w'.heap[k]? =w.heap[k]?):w'.ownsRow base e sz v n xs:=by
 obtain⟨hl,h2⟩:=h;refine⟨hl, ?_⟩
 rcases h2 with h2 | ⟨g,cap,cur,rfl,hg,hh,h3⟩
 ·exact .inl h2
 ·exact .inr ⟨g,cap,cur,rfl,hg,(hs g (lt_of_block hh) rfl).trans hh,h3⟩
theorem fB.push {w w2:World} {base eb:Nat} {v v' dv:Value} {ys:List jX} {e:bo} (hx:w.heap[eb]? =some (.cells #[v] 46 (0,0))) (hr:w.ownsRow base 79 6 v ys.length (dJ ys)) (hd: ∀y∈ys,w.ownsRow base 5 1 y.1 y.2.data.length (y.2.data.map ak)) (hn:w.ownsRow base 5 1 dv e.data.length (e.data.map ak))
  (hown:w2.ownsRow base 79 6 v' (ys.length+1) (dJ ys++qF dv e)) (hg:w.grownBy w2 v.ownBlock) (hpl: ∀k,v'.ownBlock=some k->v.ownBlock=some k\/w.heap.size<=k) (hbe:base<=eb) (hbz:base<=w.heap.size):
  fB (w2.setCell ⟨eb,0,none⟩ v') base eb v' (ys.map Prod.snd++[e])/\mz base eb v v' w (w2.setCell ⟨eb,0,none⟩ v'):=by
 have hlt:=lt_of_block hx;have hne:v.ownBlock≠some eb:=fun h=>by
  obtain⟨cs,hc⟩:=au hr h;exact absurd (aC hx hc) (by decide)
 have hne':v'.ownBlock≠some eb:=fun h=>by
  rcases hpl eb h with h | h
  ·exact hne h
  ·omega
 have hb2:=(hg.block eb hlt (fun h=>hne h.symm)).trans hx;have hdat: ∀(u:Value) (bs:List UInt8),w.ownsRow base 5 1 u bs.length (bs.map ak)->(w2.setCell ⟨eb,0,none⟩ v').ownsRow base 5 1 u bs.length (bs.map ak):=by
  intro u bs h;refine bZ h (fun k hk hu=> ?_);obtain⟨cs,hc⟩:=au h hu;rw[Below.heap_setCell _ _ _ _ (show k≠eb from fun e=>absurd (aC (e▸hc) hx) (by decide))];refine hg.block k hk (fun e=> ?_);obtain⟨cs2,hc2⟩:=au hr e.symm;exact absurd (aC hc hc2) (by decide)
 refine⟨⟨?_,ys++[(dv,e)],by simp, ?_,fun y hy=> ?_⟩,⟨?_,fun k hk h1 h2=> ?_,hpl⟩⟩
 ·have:=dD (k:=0) hb2 v'
  simpa using this
 ·rw[List.length_append,List.length_singleton,qH];exact hown.kept (aN _ _ _ _) (.inr (fun h=>hne' h))
 ·rcases List.mem_append.1 hy with hy | hy
  ·exact hdat _ _ (hd y hy)
  ·rw[List.mem_singleton]at hy;subst hy;exact hdat _ _ hn
 ·exact((Below.refl base w).grown hg hbz (fun k hk=>(hr.lt k hk).1)).grown (aN w2 eb 0 v') (Nat.le_trans hbz hg.size) (fun k hk=>by cases hk; exact hbe)
 ·rw[Below.heap_setCell _ _ _ _ (show k≠eb from h1)];exact hg.block k hk (fun e=>h2 e.symm)
structure pE (w : World) (h5 h6 base eb : Nat) (v itv : Value) (l : List aI) (wr : World) (v2 : Value) (acc : List bo) : Prop where
 box:fB wr base eb v2 acc
 kp:mz base eb v v2 w wr
 apart: ∀k,v2.ownBlock=some k->k<h5\/h6<=k
 lo:eb<h5
 ord:w.heap.size<=h5/\h5<=h6/\h6<=wr.heap.size
 its:bI (fun k=>h5<=k/\k<h6) wr itv l
theorem pE.step {w wr w':World} {h5 h6 base eb:Nat} {v itv v2 v3:Value} {l:List aI} {acc acc3:List bo} (h:pE w h5 h6 base eb v itv l wr v2 acc) (h1:fB w' base eb v3 acc3) (h2:mz base eb v2 v3 wr w'):pE w h5 h6 base eb v itv l w' v3 acc3:=by
 have ho:=h.ord;have hl:=h.lo;have hz:=h2.below.size;refine⟨h1,h.kp.trans h2 (by omega),fun k hk=> ?_,hl,⟨ho.1,ho.2.1,by omega⟩,h.its.same (fun k hk hS=>h2.same k hk (by omega) (fun e=> ?_))⟩
 ·rcases h2.place k hk with e | e
  ·exact h.apart k e
  ·exact .inr (by omega)
 ·have:=h.apart k e;omega
theorem pE.below {w wr w':World} {h5 h6 base eb:Nat} {v itv v2:Value} {l:List aI} {acc:List bo} (h:pE w h5 h6 base eb v itv l wr v2 acc) (hb:Below wr.heap.size wr w') (hbz:base<=wr.heap.size):pE w h5 h6 base eb v itv l w' v2 acc:=
 h.step (h.box.below hb) (mz.ofBelow hb hbz)
theorem pA {w:World} {b:Nat} {a0 a1 a2 x0 x1 x2:Value} {t:TypeId} (h:w.heap[b]? =some (.cells #[a0,a1,a2] t (0,0))):
  (((w.setCell ⟨b,0,none⟩ x0).setCell ⟨b,1,none⟩ x1).setCell ⟨b,2,none⟩ x2).heap[b]? =some (.cells #[x0,x1,x2] t (0,0)):=by
 have:=dD (k:=2) (dD (k:=1) (dD (k:=0) h x0) x1) x2
 simpa using this
theorem BO {w:World} {b:Nat} {a0 a1 a2 a3 a4 a5 a6 a7 a8 a9 x0 x1 x2 x3 x4 x5 x6 x7 x8 x9:Value} {t:TypeId} (h:w.heap[b]? =some (.cells #[a0,a1,a2,a3,a4,a5,a6,a7,a8,a9] t (0,0))):
  ((((((((((w.setCell ⟨b,0,none⟩ x0).setCell ⟨b,1,none⟩ x1).setCell ⟨b,2,none⟩ x2).setCell ⟨b,3,none⟩ x3).setCell ⟨b,4,none⟩ x4).setCell ⟨b,5,none⟩ x5).setCell ⟨b,6,none⟩ x6).setCell ⟨b,7,none⟩ x7).setCell ⟨b,8,none⟩ x8).setCell ⟨b,9,none⟩ x9).heap[b]? =some (.cells #[x0,x1,x2,x3,x4,x5,x6,x7,x8,x9] t (0,0)):=by
 have:=dD (k:=9) (dD (k:=8) (dD (k:=7) (dD (k:=6) (dD (k:=5) (dD (k:=4) (dD (k:=3) (dD (k:=2) (dD (k:=1) (dD (k:=0) (h) x0) x1) x2) x3) x4) x5) x6) x7) x8) x9
 simpa using this
theorem bL {B b:Nat} {a w:World} {x0 x1 x2:Value} (h:Below B a w) (hb:B<=b):Below B a (((w.setCell ⟨b,0,none⟩ x0).setCell ⟨b,1,none⟩ x1).setCell ⟨b,2,none⟩ x2):=(Below.setCell (Below.setCell (Below.setCell h hb x0) hb x1) hb x2)
theorem dG {B b:Nat} {a w:World} {x0 x1 x2 x3 x4 x5 x6 x7 x8 x9:Value} (h:Below B a w) (hb:B<=b):Below B a ((((((((((w.setCell ⟨b,0,none⟩ x0).setCell ⟨b,1,none⟩ x1).setCell ⟨b,2,none⟩ x2).setCell ⟨b,3,none⟩ x3).setCell ⟨b,4,none⟩ x4).setCell ⟨b,5,none⟩ x5).setCell ⟨b,6,none⟩ x6).setCell ⟨b,7,none⟩ x7).setCell ⟨b,8,none⟩ x8).setCell ⟨b,9,none⟩ x9):=(Below.setCell (Below.setCell (Below.setCell (Below.setCell (Below.setCell (Below.setCell (Below.setCell (Below.setCell (Below.setCell (Below.setCell h hb x0) hb x1) hb x2) hb x3) hb x4) hb x5) hb x6) hb x7) hb x8) hb x9)
theorem aY {b k:Nat} {w:World} {x0 x1 x2:Value} (hk:k≠b):(((w.setCell ⟨b,0,none⟩ x0).setCell ⟨b,1,none⟩ x1).setCell ⟨b,2,none⟩ x2).heap[k]? =w.heap[k]? :=(Below.heap_setCell _ _ _ _ hk).trans ((Below.heap_setCell _ _ _ _ hk).trans (Below.heap_setCell _ _ _ _ hk))
theorem ke {b k:Nat} {w:World} {x0 x1 x2 x3 x4 x5 x6 x7 x8 x9:Value} (hk:k≠b):((((((((((w.setCell ⟨b,0,none⟩ x0).setCell ⟨b,1,none⟩ x1).setCell ⟨b,2,none⟩ x2).setCell ⟨b,3,none⟩ x3).setCell ⟨b,4,none⟩ x4).setCell ⟨b,5,none⟩ x5).setCell ⟨b,6,none⟩ x6).setCell ⟨b,7,none⟩ x7).setCell ⟨b,8,none⟩ x8).setCell ⟨b,9,none⟩ x9).heap[k]? =w.heap[k]? :=(Below.heap_setCell _ _ _ _ hk).trans ((Below.heap_setCell _ _ _ _ hk).trans ((Below.heap_setCell _ _ _ _ hk).trans ((Below.heap_setCell _ _ _ _ hk).trans ((Below.heap_setCell _ _ _ _ hk).trans ((Below.heap_setCell _ _ _ _ hk).trans ((Below.heap_setCell _ _ _ _ hk).trans ((Below.heap_setCell _ _ _ _ hk).trans ((Below.heap_setCell _ _ _ _ hk).trans (Below.heap_setCell _ _ _ _ hk)))))))))
def qQ (c:ByteArray):List aI->Nat->Int
 | [],_=> -1
 | x::t,k=>if x.name=c then(k:Int)else qQ c t (k+1)
theorem tF {c:ByteArray} {l:List aI} {k:Nat} {x:aI} (h:l[k]? =some x):qQ c (l.drop k) k=if x.name=c then(k:Int)else qQ c (l.drop (k+1)) (k+1):=by
 obtain⟨hk,rfl⟩:=List.getElem?_eq_some_iff.1 h;rw[List.drop_eq_getElem_cons hk,qQ]
theorem tG (c:ByteArray): ∀(l:List aI) (k:Nat),(l.find? (fun y=>decide (y.name=c))=none/\qQ c l k= -1)\/ ∃(j:Nat) (y:aI),l[j]? =some y/\l.find? (fun y=>decide (y.name=c))=some y/\qQ c l k=((k+j:Nat):Int)
 | [],_=> .inl ⟨rfl,rfl⟩
 | x::t,k=>by
  by_cases h:x.name=c
  ·exact .inr ⟨0,x,rfl,by rw[List.find?_cons_of_pos (by simp[h])],by rw[qQ,if_pos h]; rfl⟩
  ·rw[List.find?_cons_of_neg (by simp[h]),qQ,if_neg h]
   rcases tG c t (k+1)with⟨h1,h2⟩ | ⟨j,y,h1,h2,h3⟩
   ·exact .inl ⟨h1,h2⟩
   ·exact .inr ⟨j+1,y,by simpa using h1,h2,by rw[h3]; congr 1; omega⟩
theorem tQ (it:aI) (cv:Value) (c:ByteArray) (pb:Nat) (w:World) (hc:w.cell? ⟨pb,0,none⟩=some (.string c)):
  Calls Tryz.prog 85 #[mq cv it, .pointer (some ⟨pb,0,none⟩)] w fun e w'=>e= .returned (.bool (decide (it.name=c)))/\Below w.heap.size w w':=by
 have hlt:=aP hc;simp only at hlt;have hne: ¬pb=w.heap.size:=by omega
 unfold mq
 go_enter Tryz.func85,Tryz.ntmps85
 go_wp2_with fail;go_ret;refine⟨aD ?_,bH⟩;rw[Bool.eq_iff_iff];simp only[cA,beq_iff_eq,decide_eq_true_eq];exact⟨fun h=>fE h,fun h=>by rw[h]⟩
theorem sC (S:Nat->Prop) (l:List aI) (c:ByteArray) (pb:Nat) (v:Value) (w:World) (hv:bI S w v l) (hc:w.cell? ⟨pb,0,none⟩=some (.string c)):
  Calls Tryz.prog 84 #[v, .func (.func 85) #[] #[.pointer (some ⟨pb,0,none⟩)]] w fun e w'=>e= .returned (.int .i64 (qQ c l 0))/\Below w.heap.size w w':=by
 obtain⟨a,cap,rfl,hcp,hm,-⟩:=aU.shape hv fH.len;unfold maxLen at hm;have HV:=aa hv;have HC:=aa hc;clear hv hc
 go_enter Tryz.func84,Tryz.ntmps84
 go_wp2_with fail
 go_loopw [8] (fun i wr=> ∃k:Nat,k<=l.length/\i= .int .i64 k/\Below w.heap.size w wr/\qQ c l 0=qQ c (l.drop k) k) (fun i _=>l.length-(intOf i).toNat)
 case atStart=>exact⟨0,Nat.zero_le _,rfl,Below.refl _ _,rfl⟩
 case round=>
  obtain⟨k,hk,rfl,hb,hd⟩:=hrel;have HB:=aa hb;have HD:=aa hd;clear hb hd
  by_cases hlt:k<l.length
  ·obtain⟨it,hr⟩: ∃it,l[k]? =some it:=⟨l[k],by simp[hlt]⟩;obtain⟨b,o,ca,cc,rfl,-,-,hbl,-,hcl⟩:=gG HV.o HB.o hr;have q0:=hcl 0 (by omega);have q1:=hcl 1 (by omega);have q2:=hcl 2 (by omega);have q3:=hcl 3 (by omega);have q4:=hcl 4 (by omega);have q5:=hcl 5 (by omega);have q6:=hcl 6 (by omega);have q7:=hcl 7 (by omega);have q8:=hcl 8 (by omega);have q9:=hcl 9 (by omega)
   simp only[cg,vN,Nat.add_zero]at q0 q1 q2 q3 q4 q5 q6 q7 q8 q9;have HC2:=aa ((HB.o.cell (p:=⟨pb,0,none⟩) (aP HC.o)).trans HC.o);have HR:=aa hr;clear hcl hr
   by_cases hin:it.name=c
   ·have HIN:=aa hin;clear hin;go_wp2_with (go_at_call 85; refine(tQ it (.slice ca it.chunks.length cc) c pb _ HC2.o).mono ?_; rintro e w1 ⟨rfl,hb1⟩; rw[decide_eq_true HIN.o]; have HB1:=aa hb1; clear hb1);go_ret;exact⟨bt (by rw[HD.o,tF HR.o,if_pos HIN.o]),ab HB.o HB1.o⟩
   ·have HIN:=aa hin;clear hin;go_wp2_with (go_at_call 85; refine(tQ it (.slice ca it.chunks.length cc) c pb _ HC2.o).mono ?_; rintro e w1 ⟨rfl,hb1⟩; rw[decide_eq_false HIN.o]; have HB1:=aa hb1; clear hb1)
    go_roundw
    case rel=>exact⟨k+1,by omega,by go_num,ab HB.o HB1.o,by rw[HD.o,tF HR.o,if_neg HIN.o]⟩
    case measure=>simp[intOf]; omega
  ·go_wp2_with fail;go_ret;exact⟨bt (by rw[HD.o,List.drop_eq_nil_of_le (by omega)]; rfl),HB.o⟩
end Go.Proofs.YtpffpjbkbaleiaaGreatDoor
namespace Go.Proofs.YtpffpjbkbaleiaaGreatDoor
open Go.RowKit
theorem wH (a:Option Addr) (c:Nat) (w:World):(convert 29 9 (.slice a 0 c)).run Tryz.prog w= .ok (.string ⟨#[]⟩) w:=by cases a<;> kernel_rfl
theorem Cm {S:Nat->Prop} {w:World} {v:Value} {bs:List UInt8} (hd:bO S w v bs):(convert 29 9 v).run Tryz.prog w= .ok (.string (strOfNums (bs.map fun b=>(b.toNat:Int)))) w:=by
 obtain⟨_,a,cap,rfl,hn,hm,h0⟩:=hd
 rcases h0 with h0 | ⟨b,o,rfl,_,hc⟩
 ·obtain rfl:=List.eq_nil_of_length_eq_zero h0;exact wH a cap w
 ·exact run_convert_bytes_arg (P:=Tryz.prog) w 29 5 Tryz.underlying29 Tryz.underlying5 b o bs.length cap (bs.map fun b=>(b.toNat:Int)) (by simp) (fun i hi=>by
   rw[hc i (u8V bs[i]) (by simp[hi])];simp[u8V,List.getD,hi]) 9 Tryz.underlying9
open Go.RowKit Go.Maps
theorem ft (p q:ByteArray) (w:World) (he:iV w) (hv:bq (bl p)=true) (hq:q=⟨(aH (bl p)).toArray⟩):
  Calls Tryz.prog 72 #[.string p] w fun e w'=>e= .returned (.tuple #[.string q, .bool true])/\Below w.heap.size w w':=by
 rw[hq]; exact zR p w he hv
theorem ja (q:ByteArray):q.toList.isEmpty=decide (bl q=[]):=by rw[cA,Bool.eq_iff_iff]; simp
theorem lY (S:Nat->Prop) (en:bo) (v:Value) (b:Bool) (w:World) (hd:bO S w v en.data) (hok:gR en) (henv:iV w) (h:dd en=b):Calls Tryz.prog 117 #[Cs v en] w fun e w'=>e= .returned (.bool b)/\Below w.heap.size w w':=by
 rw[<-h]; exact AB S en v w hd hok henv
theorem te : ∀ {m pre:List bo} (r:List bo),Tr (pre++m)->jv pre (m++r)=jv (pre++m) r
 | [],pre,r,_=>by simp
 | e::m,pre,r,h=>by
  have h1:Tr (pre++[e]):=Tr.pre (M:=m) (by simpa using h);have h2:=(kR h1.pre e).2 h1;have h3:=te (m:=m) (pre:=pre++[e]) r (by simpa using h);rw[List.cons_append,jv,if_pos h2,h3];simp
theorem wu {L:List bo} (hl:L.length<=4096) {k:Nat} (h:Tr (L.take k)):cB L=jv (L.take k) (L.drop k):=by
 have h1:=te (m:=L.take k) (pre:=[]) (L.drop k) (by simpa using h);rw[List.take_append_drop,List.nil_append]at h1;unfold cB;rw[if_neg (by omega),h1]
theorem tq {α:Type} {L:List α} {k:Nat} {e:α} (h:L[k]? =some e):L.drop k=e::L.drop (k+1):=by
 obtain⟨h1,h2⟩:=List.getElem?_eq_some_iff.1 h;rw[List.drop_eq_getElem_cons h1,h2]
theorem dS {L:List bo} (hl:L.length<=4096) {k:Nat} (h:Tr (L.take k)) {e:bo} (he:L[k]? =some e) {x:Int} (hx:cy (L.take k) e=x) (h0:x≠0):cB L=x:=by
 rw[wu hl h,tq he,jv,hx,if_neg h0]
theorem gq {L:List bo} {k:Nat} (h:Tr (L.take k)) {e:bo} (he:L[k]? =some e) (hx:cy (L.take k) e=0):Tr (L.take (k+1)):=by
 rw[List.take_add_one,he];exact(kR h e).1 hx
theorem qm {L:List bo} (hl:L.length<=4096) (h:Tr (L.take L.length)):cB L=0:=by
 rw[wu hl h,List.drop_length]; rfl
theorem tf {L:List bo} (hl:4096<L.length):cB L=2:=by unfold cB; rw[if_pos hl]
def qW (e:bo):Value×Value:=(.string e.path, .int .i64 e.kind)
theorem eP :Tryz.prog.underlying 47=some (.map 9 3):=Tryz.underlying47
theorem zI (w:World) (n:Nat) (hn:n<=4096):(Instr.makeMap 47 (some (.int .i64 (n:Int)))).run Tryz.prog w= .ok (.map (some w.heap.size)) (w.alloc (.map #[] 0)):=by
 have h1:IntKind.i64.wrap (n:Int)=n:=by rw[IntKind.wrap_i64]; omega
 simp[Instr.makeMap,asInt,asIntOf]
theorem lL {w:World} {mb:Nat} {M:List bo} (h:dw Tryz.prog 9 w mb (M.map qW)) {p:ByteArray} (hp:p.size<=maxLen) {f:bo} (hf:fc M p=some f):
  (Instr.lookup 47 (.map (some mb)) (.string p) true).run Tryz.prog w= .ok (.tuple #[.int .i64 f.kind, .bool true]) w:=by
 obtain⟨h1,h2⟩:=mG hf;have h3:(Value.string p,Value.int .i64 f.kind)∈M.map qW:=List.mem_map.2 ⟨f,h1,by rw[<-h2]; rfl⟩;have:=h.is.hit cD eP (dh hp) h3 true
 simpa only[if_true]using this
theorem qX {w:World} {mb:Nat} {M:List bo} (h:dw Tryz.prog 9 w mb (M.map qW)) {p:ByteArray} (hp:p.size<=maxLen) (hf:fc M p=none):
  (Instr.lookup 47 (.map (some mb)) (.string p) true).run Tryz.prog w= .ok (.tuple #[.int .i64 0, .bool false]) w:=by
 have hz:(zeroValue 3).run Tryz.prog w= .ok (.int .i64 0) w:=by kernel_rfl
 have:=h.is.miss cD eP hz (dh hp) (fun q hq e=>by
  obtain⟨x,hx,rfl⟩:=List.mem_map.1 hq;simp only[qW,Value.string.injEq]at e;exact qK hf x hx e) true
 simpa only[if_true]using this
theorem lM {M:List bo} {e:bo} (h:Tr (M++[e])): ∀q∈M.map qW,q.1≠Value.string e.path:=by
 intro q hq hc;obtain⟨x,hx,rfl⟩:=List.mem_map.1 hq;simp only[qW,Value.string.injEq]at hc;have hn:=h.ord.nodup;rw[List.map_append,List.nodup_append]at hn;exact hn.2.2 x.path (List.mem_map.2 ⟨x,hx,rfl⟩) e.path (by simp) hc
theorem tj (a b:ByteArray) (o:Int) (w:World) (ha:a.size<=maxLen) (h:cb (bl a) (bl b)=o):Calls Tryz.prog 118 #[.string a, .string b] w fun e w'=>e= .returned (.int .i64 o)/\Below w.heap.size w w':=by
 rw[<-h]; exact wF a b w (by unfold maxLen at ha; omega)
theorem vV {L:List bo} {k:Nat} {f e:bo} (hf:L[k]? =some f):iz (L.take (k+1)) e=decide (cb (bl f.path) (bl e.path)<0):=by
 have:(L.take (k+1)).getLast? =some f:=by rw[List.take_add_one,hf]; simp
 unfold iz;rw[this]; rfl
def IP (L:List bo) (mb:Nat) (w:World) (k:Nat) (wr:World):Prop:=Tr (L.take k)/\dw Tryz.prog 9 wr mb ((L.take k).map qW)/\Below w.heap.size w wr
theorem Cj (S:Nat->Prop) (L:List bo) (v:Value) (w:World) (hv:bV S w v L) (henv:iV w):Calls Tryz.prog 71 #[v] w fun e w'=>e= .returned (.int .i64 (cB L))/\Below w.heap.size w w':=by
 have HV:=aa hv;have HE:=aa henv;obtain⟨a,cap,rfl,hc,hm,-⟩:=aU.shape hv jr.len;unfold maxLen at hm;obtain⟨n,hn⟩: ∃n,n=L.length:=⟨_,rfl⟩;have HN:=aa hn;rw[<-hn]at hc HV ⊢;clear hv henv
 by_cases hbig:4096<n
 ·have hbi:(4096:Int)<(n:Int):=by omega
  have HC:=aa (tf (by rw[<-hn]; exact hbig));clear hbig hn
  go_enter Tryz.func71,Tryz.ntmps71
  go_wp2_with fail;go_ret;exact⟨bt (by rw[HC.o]),Below.refl _ _⟩
 ·have hbi:(n:Int)<=(4096:Int):=by omega
  have hmk:=zI w n (by omega);have HL4:=aa (show L.length<=4096 by omega);clear hbig hn
  go_enter Tryz.func71,Tryz.ntmps71
  go_wp2_with fail;obtain⟨W0,hW0⟩: ∃W0,W0=w.alloc (.map #[] 0):=⟨_,rfl⟩;rw[<-hW0];have HM0:=aa (show dw Tryz.prog 9 W0 w.heap.size [] by rw[hW0]; exact dw.made w);have HB0:=aa (show Below w.heap.size w W0 by rw[hW0]; exact bH);clear hW0;clear hmk
  go_loopw [18] (fun i wr=> ∃k:Nat,k<=n/\i= .int .i64 k/\IP L w.heap.size w k wr) (fun i _=>n-(intOf i).toNat)
  case atStart=>exact⟨0,Nat.zero_le _,rfl,⟨List.Pairwise.nil,by simp,by simp⟩,HM0.o,HB0.o⟩
  case round=>
   obtain⟨k,hk,rfl,htr,hkm,hbr⟩:=hrel;have HTR:=aa htr;have HKM:=aa hkm;have HBR:=aa hbr;clear htr hkm hbr
   by_cases hlt:k<n
   ·obtain⟨e,he⟩: ∃e,L[k]? =some e:=⟨L[k]'(by rw[<-HN.o]; exact hlt),by simp⟩;obtain⟨b,o,dv,rfl,-,hb,hd,hok,-,q0,q1,q2,q3,q4,q5⟩:=eY (HV.o.below HBR.o) he;have HAT:=aa he;have HD:=aa hd;have HOK:=aa hok;obtain⟨a1,cap1,rfl,hd1,hd2⟩:=hd.slice;unfold maxLen at hd2;clear he hd hok
    cases hve:dd e
    ·have HVE:=aa hve;have HCA:=aa (show cy (L.take k) e=1 by unfold cy; rw[hve]; rfl);clear hve;go_wp2_with fail;obtain⟨W,hW⟩: ∃W,W=wr.alloc (.cells #[.string e.path, .int .i64 e.kind, .int .i64 e.mode, .int .i64 e.time, .slice a1 e.data.length cap1, .string e.link] 79):=⟨_,rfl⟩;rw[<-hW];have HX:=aa (show W.heap[wr.heap.size]? =some (.cells #[.string e.path, .int .i64 e.kind, .int .i64 e.mode, .int .i64 e.time, .slice a1 e.data.length cap1, .string e.link] 79 (0,0)) by rw[hW]; exact bz wr _)
     have HWL:=aa (show Below wr.heap.size wr W by rw[hW]; exact bH);have HBW:=aa (ab HBR.o HWL.o);clear hW;refine(lY S e _ false _ (HD.o.below HWL.o) HOK.o (HE.o.below HBW.o) HVE.o).mono ?_;rintro e7 w7 ⟨rfl,hb7⟩;have HB9:=aa (ab HBW.o hb7);clear hb7;go_wp2_with fail;go_ret;exact⟨bt (by rw[dS HL4.o HTR.o HAT.o (x:=1) HCA.o (by decide)]),HB9.o⟩
    ·have HVE:=aa hve;obtain⟨q,hq⟩: ∃q:ByteArray,q=⟨(aH (bl e.path)).toArray⟩:=⟨_,rfl⟩;have HBQ:=aa (show bl q=aH (bl e.path) by rw[hq]; exact ed _);have HQ:=aa hq;have HQS:=aa (show q.size<=maxLen by
      have h1:=cE (bi hve);have h2:=iS (bi hve);rw[am,HBQ.o]; unfold maxLen; omega)
     clear hve hq
     rcases Nat.eq_zero_or_pos k with hk0 | hk0
     ·have e9:decide (0<k)=false:=by simp; omega
      have e8:(k:Int)<=0:=by omega
      have HCV:=aa (show(dd e && iz (L.take k) e)=true by rw[hk0,HVE.o]; rfl);clear hk0;go_wp2_with fail;obtain⟨W,hW⟩: ∃W,W=wr.alloc (.cells #[.string e.path, .int .i64 e.kind, .int .i64 e.mode, .int .i64 e.time, .slice a1 e.data.length cap1, .string e.link] 79):=⟨_,rfl⟩;rw[<-hW];have HX:=aa (show W.heap[wr.heap.size]? =some (.cells #[.string e.path, .int .i64 e.kind, .int .i64 e.mode, .int .i64 e.time, .slice a1 e.data.length cap1, .string e.link] 79 (0,0)) by rw[hW]; exact bz wr _)
      have HWL:=aa (show Below wr.heap.size wr W by rw[hW]; exact bH);have HBW:=aa (ab HBR.o HWL.o);clear hW;refine(lY S e _ true _ (HD.o.below HWL.o) HOK.o (HE.o.below HBW.o) HVE.o).mono ?_;rintro e7 w7 ⟨rfl,hb7⟩;have HX7:=aa ((hb7.block wr.heap.size (gd HX.o)).trans HX.o);have HL7:=aa (HWL.o.trans (hb7.mono HWL.o.size));obtain⟨c0,c1,c2,c3,c4,c5,_⟩:=aj HX7.o
      simp only[Nat.zero_add,Nat.reduceAdd]at c1 c2 c3 c4 c5;clear hb7;go_wp2_with fail;refine az [some 11,none,some 2] (by kernel_rfl) (by kernel_rfl) (by kernel_rfl) ?_;simp only[bC,List.take_succ_cons,List.take_zero,List.drop_succ_cons,List.drop_zero];obtain⟨wd,hwd⟩: ∃wd:World,wd=w7.drew:=⟨_,rfl⟩;rw[<-hwd];have HLD:=aa (show Below wr.heap.size wr wd by rw[hwd]; exact HL7.o.trans ((Below.refl w7.heap.size w7).drew.mono HL7.o.size))
      have HXD:=aa (show wd.heap[wr.heap.size]? =some (.cells #[.string e.path, .int .i64 e.kind, .int .i64 e.mode, .int .i64 e.time, .slice a1 e.data.length cap1, .string e.link] 79 (0,0)) by rw[hwd]; exact HX7.o);clear hwd c0 c1 c2 c3 c4 c5;obtain⟨c0,c1,c2,c3,c4,c5,_⟩:=aj HXD.o;simp only[Nat.zero_add,Nat.reduceAdd]at c1 c2 c3 c4 c5
      repeat (first | (refine aK rfl ?_; simp only[Act.put,aZ,bg,bh]) | (refine aS rfl (fun K hK=> ?_); go_simp; refine hK _ ?_; clear hK K))
      refine aR ?_;refine qg rfl ?_;simp only[Act.put,aZ,bg,bh]
      repeat (first | (refine aK rfl ?_; simp only[Act.put,aZ,bg,bh]) | (refine aS rfl (fun K hK=> ?_); go_simp; refine hK _ ?_; clear hK K))
      refine aR ?_;clear c0 c1 c2 c3 c4 c5;have HL8:=aa HLD.o;have HX8:=aa HXD.o;have HB8:=aa (ab HBR.o HLD.o);obtain⟨c0,c1,c2,c3,c4,c5,_⟩:=aj HX8.o;simp only[Nat.zero_add,Nat.reduceAdd]at c1 c2 c3 c4 c5;go_wp2_with fail
      by_cases h0:aH (bl e.path)=[]
      ·have e1:q.toList.isEmpty=true:=by rw[ja,HBQ.o,decide_eq_true h0]
       have HTN:=aa (gq HTR.o HAT.o (show cy (L.take k) e=0 by unfold cy; rw[if_pos HCV.o]; unfold ie; rw[if_pos h0]));clear h0;refine(ft e.path q _ (HE.o.below HB8.o) (bi HVE.o) HQ.o).mono ?_;rintro e9 w9 ⟨rfl,hb9⟩;have HL9:=aa (HL8.o.trans (hb9.mono HL8.o.size));have HB9:=aa (ab HB8.o hb9);have HX9:=aa ((hb9.block wr.heap.size (gd HX8.o)).trans HX8.o)
       have HK9:=aa (HKM.o.same (HL9.o.block w.heap.size HKM.o.lt));clear hb9;obtain⟨c0,c1,c2,c3,c4,c5,_⟩:=aj HX9.o;simp only[Nat.zero_add,Nat.reduceAdd]at c1 c2 c3 c4 c5;go_wp2_with (at_mapUpdate; go_must (refine eU cD rfl _ _ _ _ rfl eP w.heap.size _ HK9.o rfl (.string e.path) (.int .i64 e.kind) rfl rfl (dh HOK.o.pth) (lM (by have h1:=HTN.o; rw[List.take_add_one,HAT.o]at h1; exact h1)) ?_); intro w10 hm10 hg10)
       have HM10:=aa hm10;have HG10:=aa hg10;clear hm10 hg10 c0 c1 c2 c3 c4 c5;go_wp2_with fail
       go_roundw
       case rel=>
        refine⟨k+1,by omega,by go_num,HTN.o, ?_, ?_⟩
        ·rw[List.take_add_one,HAT.o,List.map_append]; exact HM10.o
        ·exact HB9.o.grown HG10.o HB9.o.size (fun k e=>by cases e; exact Nat.le_refl _)
       case measure=>simp[intOf]; omega
      ·have e1:q.toList.isEmpty=false:=by rw[ja,HBQ.o,decide_eq_false h0]
       have HDI:=aa (show ∀x,(match fc (L.take k) q with | none=>(4:Int) | some f=>if f.kind=2 then 0 else 13)=x->cy (L.take k) e=x from fun x hx=>by unfold cy; rw[if_pos HCV.o]; unfold ie; rw[if_neg h0,<-HQ.o]; exact hx);clear h0
       cases hf:fc (L.take k) q with
       | none=>
        have HF:=aa hf;have HCA:=aa (HDI.o 4 (by rw[hf]));clear hf;refine(ft e.path q _ (HE.o.below HB8.o) (bi HVE.o) HQ.o).mono ?_;rintro e9 w9 ⟨rfl,hb9⟩;have HL9:=aa (HL8.o.trans (hb9.mono HL8.o.size));have HB9:=aa (ab HB8.o hb9);have HX9:=aa ((hb9.block wr.heap.size (gd HX8.o)).trans HX8.o);have HK9:=aa (HKM.o.same (HL9.o.block w.heap.size HKM.o.lt));clear hb9
        obtain⟨c0,c1,c2,c3,c4,c5,_⟩:=aj HX9.o;simp only[Nat.zero_add,Nat.reduceAdd]at c1 c2 c3 c4 c5;have hlk:=qX HK9.o HQS.o HF.o;go_wp2_with fail;go_ret;exact⟨bt (by rw[dS HL4.o HTR.o HAT.o (x:=4) HCA.o (by decide)]),HB9.o⟩
       | some f=>
        have HF:=aa hf
        by_cases hk2:f.kind=2
        ·have e3:(f.kind != 2)=false:=by simp[hk2]
         have HTN:=aa (gq HTR.o HAT.o (HDI.o 0 (by rw[hf]; simp only[if_pos hk2])));clear hf hk2;refine(ft e.path q _ (HE.o.below HB8.o) (bi HVE.o) HQ.o).mono ?_;rintro e9 w9 ⟨rfl,hb9⟩;have HL9:=aa (HL8.o.trans (hb9.mono HL8.o.size));have HB9:=aa (ab HB8.o hb9);have HX9:=aa ((hb9.block wr.heap.size (gd HX8.o)).trans HX8.o);have HK9:=aa (HKM.o.same (HL9.o.block w.heap.size HKM.o.lt))
         clear hb9;obtain⟨c0,c1,c2,c3,c4,c5,_⟩:=aj HX9.o;simp only[Nat.zero_add,Nat.reduceAdd]at c1 c2 c3 c4 c5;have hlk:=lL HK9.o HQS.o HF.o;go_wp2_with (at_mapUpdate; go_must (refine eU cD rfl _ _ _ _ rfl eP w.heap.size _ HK9.o rfl (.string e.path) (.int .i64 e.kind) rfl rfl (dh HOK.o.pth) (lM (by have h1:=HTN.o; rw[List.take_add_one,HAT.o]at h1; exact h1)) ?_); intro w10 hm10 hg10)
         have HM10:=aa hm10;have HG10:=aa hg10;clear hm10 hg10 c0 c1 c2 c3 c4 c5;go_wp2_with fail
         go_roundw
         case rel=>
          refine⟨k+1,by omega,by go_num,HTN.o, ?_, ?_⟩
          ·rw[List.take_add_one,HAT.o,List.map_append]; exact HM10.o
          ·exact HB9.o.grown HG10.o HB9.o.size (fun k e=>by cases e; exact Nat.le_refl _)
         case measure=>simp[intOf]; omega
        ·have e3:(f.kind != 2)=true:=by simp[hk2]
         have HCA:=aa (HDI.o 13 (by rw[hf]; simp only[if_neg hk2]));clear hf hk2;refine(ft e.path q _ (HE.o.below HB8.o) (bi HVE.o) HQ.o).mono ?_;rintro e9 w9 ⟨rfl,hb9⟩;have HL9:=aa (HL8.o.trans (hb9.mono HL8.o.size));have HB9:=aa (ab HB8.o hb9);have HX9:=aa ((hb9.block wr.heap.size (gd HX8.o)).trans HX8.o);have HK9:=aa (HKM.o.same (HL9.o.block w.heap.size HKM.o.lt))
         clear hb9;obtain⟨c0,c1,c2,c3,c4,c5,_⟩:=aj HX9.o;simp only[Nat.zero_add,Nat.reduceAdd]at c1 c2 c3 c4 c5;have hlk:=lL HK9.o HQS.o HF.o;go_wp2_with fail;go_ret;exact⟨bt (by rw[dS HL4.o HTR.o HAT.o (x:=13) HCA.o (by decide)]),HB9.o⟩
     ·obtain⟨j,rfl⟩: ∃j,k=j+1:=⟨k-1,by omega⟩;obtain⟨f,hf⟩: ∃f,L[j]? =some f:=⟨L[j]'(by rw[<-HN.o]; omega),by simp⟩;obtain⟨b',o',dv',he',-,-,-,hokf,-,p0,-⟩:=eY (HV.o.below HBR.o) hf;simp only[Option.some.injEq,Addr.mk.injEq,and_true]at he';obtain⟨rfl,rfl⟩:=he';have HPF:=aa hokf.pth;obtain⟨c,hc⟩: ∃c,cb (bl f.path) (bl e.path)=c:=⟨_,rfl⟩
      have HC:=aa hc;have e9:decide (0<j+1)=true:=by simp
      have hjn:j<n:=by omega
      have hjn2:(j:Int)<(n:Int):=by omega
      have hjn3:decide (j<n)=true:=by simp; omega
      have hwj:IntKind.i64.wrap (j:Int)=j:=by rw[IntKind.wrap_i64]; omega
      have HAF:=aa (show iz (L.take (j+1)) e=decide (c<0) by rw[vV hf,hc]);clear hf hokf hc hk0
      by_cases hneg:c<0
      ·have HCV:=aa (show(dd e && iz (L.take (j+1)) e)=true by rw[HVE.o,HAF.o,decide_eq_true hneg]; rfl);have e8:decide (0<=c)=false:=by simp; omega
       go_wp2_with fail;obtain⟨W,hW⟩: ∃W,W=wr.alloc (.cells #[.string e.path, .int .i64 e.kind, .int .i64 e.mode, .int .i64 e.time, .slice a1 e.data.length cap1, .string e.link] 79):=⟨_,rfl⟩;rw[<-hW];have HX:=aa (show W.heap[wr.heap.size]? =some (.cells #[.string e.path, .int .i64 e.kind, .int .i64 e.mode, .int .i64 e.time, .slice a1 e.data.length cap1, .string e.link] 79 (0,0)) by rw[hW]; exact bz wr _)
       have HWL:=aa (show Below wr.heap.size wr W by rw[hW]; exact bH);have HBW:=aa (ab HBR.o HWL.o);clear hW;refine(lY S e _ true _ (HD.o.below HWL.o) HOK.o (HE.o.below HBW.o) HVE.o).mono ?_;rintro e7 w7 ⟨rfl,hb7⟩;have HX7:=aa ((hb7.block wr.heap.size (gd HX.o)).trans HX.o);have HL7:=aa (HWL.o.trans (hb7.mono HWL.o.size));obtain⟨c0,c1,c2,c3,c4,c5,_⟩:=aj HX7.o
       simp only[Nat.zero_add,Nat.reduceAdd]at c1 c2 c3 c4 c5;clear hb7;go_wp2_with fail;refine az [some 11,none,some 2] (by kernel_rfl) (by kernel_rfl) (by kernel_rfl) ?_;simp only[bC,List.take_succ_cons,List.take_zero,List.drop_succ_cons,List.drop_zero];obtain⟨wd,hwd⟩: ∃wd:World,wd=w7.drew:=⟨_,rfl⟩;rw[<-hwd];have HLD:=aa (show Below wr.heap.size wr wd by rw[hwd]; exact HL7.o.trans ((Below.refl w7.heap.size w7).drew.mono HL7.o.size))
       have HXD:=aa (show wd.heap[wr.heap.size]? =some (.cells #[.string e.path, .int .i64 e.kind, .int .i64 e.mode, .int .i64 e.time, .slice a1 e.data.length cap1, .string e.link] 79 (0,0)) by rw[hwd]; exact HX7.o);clear hwd c0 c1 c2 c3 c4 c5;obtain⟨c0,c1,c2,c3,c4,c5,_⟩:=aj HXD.o;simp only[Nat.zero_add,Nat.reduceAdd]at c1 c2 c3 c4 c5;have y0:=(HLD.o.cell (aP p0)).trans p0
       repeat (first | (refine aK rfl ?_; simp only[Act.put,aZ,bg,bh]) | (refine aS rfl (fun K hK=> ?_); go_simp; refine hK _ ?_; clear hK K))
       refine aR ?_;refine bJ rfl (fun K hK=> ?_);go_wp2_with (go_at_call 118; refine(tj f.path e.path c _ HPF.o HC.o).mono ?_; rintro e8' w8 ⟨rfl,hb8⟩; have HL8:=aa (HLD.o.trans (hb8.mono HLD.o.size)); have HX8:=aa ((hb8.block wr.heap.size (gd HXD.o)).trans HXD.o); clear hb8 c0 c1 c2 c3 c4 c5 y0)
       repeat (first | (refine aK rfl ?_; simp only[Act.put,aZ,bg,bh]) | (refine aS rfl (fun K hK=> ?_); go_simp; refine hK _ ?_; clear hK K))
       refine aR ?_;have HB8:=aa (ab HBR.o HL8.o);obtain⟨c0,c1,c2,c3,c4,c5,_⟩:=aj HX8.o;simp only[Nat.zero_add,Nat.reduceAdd]at c1 c2 c3 c4 c5;go_wp2_with fail
       by_cases h0:aH (bl e.path)=[]
       ·have e1:q.toList.isEmpty=true:=by rw[ja,HBQ.o,decide_eq_true h0]
        have HTN:=aa (gq HTR.o HAT.o (show cy (L.take (j+1)) e=0 by unfold cy; rw[if_pos HCV.o]; unfold ie; rw[if_pos h0]));clear h0;refine(ft e.path q _ (HE.o.below HB8.o) (bi HVE.o) HQ.o).mono ?_;rintro e9 w9 ⟨rfl,hb9⟩;have HL9:=aa (HL8.o.trans (hb9.mono HL8.o.size));have HB9:=aa (ab HB8.o hb9);have HX9:=aa ((hb9.block wr.heap.size (gd HX8.o)).trans HX8.o)
        have HK9:=aa (HKM.o.same (HL9.o.block w.heap.size HKM.o.lt));clear hb9;obtain⟨c0,c1,c2,c3,c4,c5,_⟩:=aj HX9.o;simp only[Nat.zero_add,Nat.reduceAdd]at c1 c2 c3 c4 c5;go_wp2_with (at_mapUpdate; go_must (refine eU cD rfl _ _ _ _ rfl eP w.heap.size _ HK9.o rfl (.string e.path) (.int .i64 e.kind) rfl rfl (dh HOK.o.pth) (lM (by have h1:=HTN.o; rw[List.take_add_one,HAT.o]at h1; exact h1)) ?_); intro w10 hm10 hg10)
        have HM10:=aa hm10;have HG10:=aa hg10;clear hm10 hg10 c0 c1 c2 c3 c4 c5;go_wp2_with fail
        go_roundw
        case rel=>
         refine⟨j+1+1,by omega,by go_num,HTN.o, ?_, ?_⟩
         ·rw[List.take_add_one,HAT.o,List.map_append]; exact HM10.o
         ·exact HB9.o.grown HG10.o HB9.o.size (fun k e=>by cases e; exact Nat.le_refl _)
        case measure=>simp[intOf]; omega
       ·have e1:q.toList.isEmpty=false:=by rw[ja,HBQ.o,decide_eq_false h0]
        have HDI:=aa (show ∀x,(match fc (L.take (j+1)) q with | none=>(4:Int) | some g=>if g.kind=2 then 0 else 13)=x->cy (L.take (j+1)) e=x from fun x hx=>by unfold cy; rw[if_pos HCV.o]; unfold ie; rw[if_neg h0,<-HQ.o]; exact hx);clear h0
        cases hf:fc (L.take (j+1)) q with
        | none=>
         have HF:=aa hf;have HCA:=aa (HDI.o 4 (by rw[hf]));clear hf;refine(ft e.path q _ (HE.o.below HB8.o) (bi HVE.o) HQ.o).mono ?_;rintro e9 w9 ⟨rfl,hb9⟩;have HL9:=aa (HL8.o.trans (hb9.mono HL8.o.size));have HB9:=aa (ab HB8.o hb9);have HX9:=aa ((hb9.block wr.heap.size (gd HX8.o)).trans HX8.o);have HK9:=aa (HKM.o.same (HL9.o.block w.heap.size HKM.o.lt))
         clear hb9;obtain⟨c0,c1,c2,c3,c4,c5,_⟩:=aj HX9.o;simp only[Nat.zero_add,Nat.reduceAdd]at c1 c2 c3 c4 c5;have hlk:=qX HK9.o HQS.o HF.o;go_wp2_with fail;go_ret;exact⟨bt (by rw[dS HL4.o HTR.o HAT.o (x:=4) HCA.o (by decide)]),HB9.o⟩
        | some g=>
         have HF:=aa hf
         by_cases hk2:g.kind=2
         ·have e3:(g.kind != 2)=false:=by simp[hk2]
          have HTN:=aa (gq HTR.o HAT.o (HDI.o 0 (by rw[hf]; simp only[if_pos hk2])));clear hf hk2;refine(ft e.path q _ (HE.o.below HB8.o) (bi HVE.o) HQ.o).mono ?_;rintro e9 w9 ⟨rfl,hb9⟩;have HL9:=aa (HL8.o.trans (hb9.mono HL8.o.size));have HB9:=aa (ab HB8.o hb9);have HX9:=aa ((hb9.block wr.heap.size (gd HX8.o)).trans HX8.o);have HK9:=aa (HKM.o.same (HL9.o.block w.heap.size HKM.o.lt))
          clear hb9;obtain⟨c0,c1,c2,c3,c4,c5,_⟩:=aj HX9.o;simp only[Nat.zero_add,Nat.reduceAdd]at c1 c2 c3 c4 c5;have hlk:=lL HK9.o HQS.o HF.o;go_wp2_with (at_mapUpdate; go_must (refine eU cD rfl _ _ _ _ rfl eP w.heap.size _ HK9.o rfl (.string e.path) (.int .i64 e.kind) rfl rfl (dh HOK.o.pth) (lM (by have h1:=HTN.o; rw[List.take_add_one,HAT.o]at h1; exact h1)) ?_); intro w10 hm10 hg10)
          have HM10:=aa hm10;have HG10:=aa hg10;clear hm10 hg10 c0 c1 c2 c3 c4 c5;go_wp2_with fail
          go_roundw
          case rel=>
           refine⟨j+1+1,by omega,by go_num,HTN.o, ?_, ?_⟩
           ·rw[List.take_add_one,HAT.o,List.map_append]; exact HM10.o
           ·exact HB9.o.grown HG10.o HB9.o.size (fun k e=>by cases e; exact Nat.le_refl _)
          case measure=>simp[intOf]; omega
         ·have e3:(g.kind != 2)=true:=by simp[hk2]
          have HCA:=aa (HDI.o 13 (by rw[hf]; simp only[if_neg hk2]));clear hf hk2;refine(ft e.path q _ (HE.o.below HB8.o) (bi HVE.o) HQ.o).mono ?_;rintro e9 w9 ⟨rfl,hb9⟩;have HL9:=aa (HL8.o.trans (hb9.mono HL8.o.size));have HB9:=aa (ab HB8.o hb9);have HX9:=aa ((hb9.block wr.heap.size (gd HX8.o)).trans HX8.o);have HK9:=aa (HKM.o.same (HL9.o.block w.heap.size HKM.o.lt))
          clear hb9;obtain⟨c0,c1,c2,c3,c4,c5,_⟩:=aj HX9.o;simp only[Nat.zero_add,Nat.reduceAdd]at c1 c2 c3 c4 c5;have hlk:=lL HK9.o HQS.o HF.o;go_wp2_with fail;go_ret;exact⟨bt (by rw[dS HL4.o HTR.o HAT.o (x:=13) HCA.o (by decide)]),HB9.o⟩
      ·have HCA:=aa (show cy (L.take (j+1)) e=1 by unfold cy; rw[HAF.o,decide_eq_false hneg]; simp);have e8:decide (0<=c)=true:=by simp; omega
       have e7:0<=c:=by omega
       go_wp2_with fail;obtain⟨W,hW⟩: ∃W,W=wr.alloc (.cells #[.string e.path, .int .i64 e.kind, .int .i64 e.mode, .int .i64 e.time, .slice a1 e.data.length cap1, .string e.link] 79):=⟨_,rfl⟩;rw[<-hW];have HX:=aa (show W.heap[wr.heap.size]? =some (.cells #[.string e.path, .int .i64 e.kind, .int .i64 e.mode, .int .i64 e.time, .slice a1 e.data.length cap1, .string e.link] 79 (0,0)) by rw[hW]; exact bz wr _)
       have HWL:=aa (show Below wr.heap.size wr W by rw[hW]; exact bH);have HBW:=aa (ab HBR.o HWL.o);clear hW;refine(lY S e _ true _ (HD.o.below HWL.o) HOK.o (HE.o.below HBW.o) HVE.o).mono ?_;rintro e7 w7 ⟨rfl,hb7⟩;have HX7:=aa ((hb7.block wr.heap.size (gd HX.o)).trans HX.o);have HL7:=aa (HWL.o.trans (hb7.mono HWL.o.size));obtain⟨c0,c1,c2,c3,c4,c5,_⟩:=aj HX7.o
       simp only[Nat.zero_add,Nat.reduceAdd]at c1 c2 c3 c4 c5;clear hb7;go_wp2_with fail;refine az [some 11,none,some 2] (by kernel_rfl) (by kernel_rfl) (by kernel_rfl) ?_;simp only[bC,List.take_succ_cons,List.take_zero,List.drop_succ_cons,List.drop_zero];obtain⟨wd,hwd⟩: ∃wd:World,wd=w7.drew:=⟨_,rfl⟩;rw[<-hwd];have HLD:=aa (show Below wr.heap.size wr wd by rw[hwd]; exact HL7.o.trans ((Below.refl w7.heap.size w7).drew.mono HL7.o.size))
       have HXD:=aa (show wd.heap[wr.heap.size]? =some (.cells #[.string e.path, .int .i64 e.kind, .int .i64 e.mode, .int .i64 e.time, .slice a1 e.data.length cap1, .string e.link] 79 (0,0)) by rw[hwd]; exact HX7.o);clear hwd c0 c1 c2 c3 c4 c5;obtain⟨c0,c1,c2,c3,c4,c5,_⟩:=aj HXD.o;simp only[Nat.zero_add,Nat.reduceAdd]at c1 c2 c3 c4 c5;have y0:=(HLD.o.cell (aP p0)).trans p0
       repeat (first | (refine aK rfl ?_; simp only[Act.put,aZ,bg,bh]) | (refine aS rfl (fun K hK=> ?_); go_simp; refine hK _ ?_; clear hK K))
       refine aR ?_;refine bJ rfl (fun K hK=> ?_);go_wp2_with (go_at_call 118; refine(tj f.path e.path c _ HPF.o HC.o).mono ?_; rintro e8' w8 ⟨rfl,hb8⟩; have HL8:=aa (HLD.o.trans (hb8.mono HLD.o.size)); clear hb8 c0 c1 c2 c3 c4 c5 y0)
       repeat (first | (refine aK rfl ?_; simp only[Act.put,aZ,bg,bh]) | (refine aS rfl (fun K hK=> ?_); go_simp; refine hK _ ?_; clear hK K))
       refine aR ?_;have HB9:=aa (ab HBR.o HL8.o);go_wp2_with fail;go_ret;exact⟨bt (by rw[dS HL4.o HTR.o HAT.o (x:=1) HCA.o (by decide)]),HB9.o⟩
   ·have hk2:k=n:=by omega
    subst hk2;go_wp2_with fail;go_ret;exact⟨bt (by rw[qm HL4.o (by rw[<-HN.o]; exact HTR.o)]),HBR.o⟩
open Go Go.RowKit Go.Maps
def mH (p:ByteArray×Int):Value×Value:=(.string p.1, .int .i64 p.2)
def dO (S:Nat->Prop) (w:World) (gv:Value) (gs:List (ByteArray×Int)):Prop:=
 (gv= .map none/\gs=[])\/ ∃b,gv= .map (some b)/\S b/\dw Tryz.prog 9 w b (gs.map mH)
theorem dO.keep {S:Nat->Prop} {w w':World} {gv:Value} {gs:List (ByteArray×Int)} (h:dO S w gv gs) (hs: ∀k,S k->k<w.heap.size->w'.heap[k]? =w.heap[k]?):dO S w' gv gs:=by
 rcases h with h | ⟨b,h1,h0,h2⟩
 ·exact .inl h
 ·exact .inr ⟨b,h1,h0,h2.same (hs b h0 h2.lt)⟩
theorem wS {S:Nat->Prop} {w:World} {gv:Value} {gs:List (ByteArray×Int)} (h:dO S w gv gs) {n:ByteArray} (hn:n.size<=maxLen):
  (Instr.lookup 47 gv (.string n) false).run Tryz.prog w= .ok (.int .i64 (gF gs n)) w:=by
 have hz:(zeroValue 3).run Tryz.prog w= .ok (.int .i64 0) w:=by kernel_rfl
 obtain⟨l,hl⟩:=dh hn
 rcases h with⟨rfl,rfl⟩ | ⟨b,rfl,_,h2⟩
 ·have:=Maps.look_nil false cD (t:=47) (e:=3) eP hz hl
  simpa [gF]using this
 ·unfold gF
  cases hf:gs.find? (fun p=>decide (p.1=n))with
  | none=>
   have:=h2.is.miss cD eP hz ⟨l,hl⟩ (fun q hq e=>by
    obtain⟨x,hx,rfl⟩:=List.mem_map.1 hq;simp only[mH,Value.string.injEq]at e;have:=List.find?_eq_none.1 hf x hx;simp[e]at this) false
   simpa using this
  | some p=>
   have h3:=List.mem_of_find?_eq_some hf;have h4:=List.find?_some hf;simp only[decide_eq_true_eq]at h4;have:=h2.is.hit cD eP ⟨l,hl⟩ (val:= .int .i64 p.2) (List.mem_map.2 ⟨p,h3,by rw[<-h4]; rfl⟩) false
   simpa using this
def iD (v:Value) (b:bu):List Value:=[.string b.ref.name, .int .i64 b.ref.gen, .int .i64 b.ref.size,v]
abbrev gS :=Value×bu
def eE (zs:List gS):List Value:=zs.flatMap fun z=>iD z.1 z.2
theorem oT (zs:List gS) (z:gS):eE (zs++[z])=eE zs++iD z.1 z.2:=by simp[eE]
theorem ob {a:Option Addr} {n c:Nat} {b:bu} : ∀u∈iD (.slice a n c) b,u.oneCell'=true:=by
 intro u hu;simp only[iD,List.mem_cons,List.not_mem_nil,or_false]at hu
 rcases hu with rfl | rfl | rfl | rfl<;> rfl
theorem Tryz.appBlobs :eH Tryz.prog 49 53 4 56:=eH.mk' (z:= .agg #[.string ⟨#[]⟩, .int .i64 0, .int .i64 0, .slice none 0 0]) Tryz.underlying49 (by kernel_rfl) rfl (by decide) (by decide)
structure dt (w : World) (base : Nat) (v : Value) (zs : List gS) : Prop where
 row:w.ownsRow base 53 4 v zs.length (eE zs)
 dat: ∀z∈zs,w.ownsRow base 5 1 z.1 z.2.con.length (z.2.con.map ak)
def gY (k:bn) (c:cF) (gv:Value) (im kb:Nat) (v:Value):List Value:=bT k++cG c++[gv, .map (some im),v, .map (some kb)]
structure eV (w : World) (base bb : Nat) (k : bn) (c : cF) (gv : Value) (im kb : Nat) (v : Value) (bs : List bu) : Prop where
 box:w.heap[bb]? =some (.cells (gY k c gv im kb v).toArray 122 (0,0))
 own: ∃zs:List gS,zs.map Prod.snd=bs/\dt w base v zs
 known:eo w kb (bs.map bu.ref)
structure dE (base bb kb : Nat) (v v' : Value) (w w' : World) : Prop where
 below:Below base w w'
 same: ∀k,k<w.heap.size->k≠bb->k≠kb->v.ownBlock≠some k->w'.heap[k]? =w.heap[k]?
 place: ∀k,v'.ownBlock=some k->v.ownBlock=some k\/w.heap.size<=k
theorem dE.refl (base bb kb:Nat) (v:Value) (w:World):dE base bb kb v v w w:=⟨Below.refl _ _,fun _ _ _ _ _=>rfl,fun _ h=> .inl h⟩
theorem dE.trans {base bb kb:Nat} {v v1 v2:Value} {A B C:World} (h:dE base bb kb v v1 A B) (k:dE base bb kb v1 v2 B C):dE base bb kb v v2 A C:=by
 have hs:=h.below.size;refine⟨h.below.trans k.below,fun i h1 h2 h2' h3=>(k.same i (by omega) h2 h2' (fun e=> ?_)).trans (h.same i h1 h2 h2' h3),fun i e=> ?_⟩
 ·rcases h.place i e with e2 | e2
  ·exact h3 e2
  ·omega
 ·rcases k.place i e with e2 | e2
  ·exact h.place i e2
  ·exact .inr (by omega)
theorem dE.ofBelow {base bb kb:Nat} {v:Value} {w w':World} (h:Below w.heap.size w w') (hb:base<=w.heap.size):dE base bb kb v v w w':=⟨h.mono hb,fun k h1 _ _ _=>h.block k h1,fun _ e=> .inl e⟩
theorem dt.below {w w':World} {base:Nat} {v:Value} {zs:List gS} (h:dt w base v zs) (hb:Below w.heap.size w w'):dt w' base v zs:=⟨aQ h.row hb,fun z hz=>aQ (h.dat z hz) hb⟩
theorem eV.below {w w':World} {base bb im kb:Nat} {k:bn} {c:cF} {gv v:Value} {bs:List bu} (h:eV w base bb k c gv im kb v bs) (hb:Below w.heap.size w w'):eV w' base bb k c gv im kb v bs:=by
 obtain⟨zs,h1,h2⟩:=h.own;exact⟨(hb.block _ (lt_of_block h.box)).trans h.box,⟨zs,h1,h2.below hb⟩,h.known.same (hb.block _ h.known.map.lt)⟩
theorem eV.push {w w1 w2:World} {base bb im kb:Nat} {k:bn} {c:cF} {gv v v' dv:Value} {bs:List bu} {zs:List gS} {b:bu} (hz:zs.map Prod.snd=bs) (h:dt w base v zs) (hx:w.heap[bb]? =some (.cells (gY k c gv im kb v).toArray 122 (0,0))) (hs:eo w kb ((bs++[b]).map bu.ref))
  (hb:Below w.heap.size w w1) (hn:w1.ownsRow base 5 1 dv b.con.length (b.con.map ak)) (hown:w2.ownsRow base 53 4 v' (zs.length+1) (eE zs++iD dv b)) (hg:w1.grownBy w2 v.ownBlock) (hpl: ∀k,v'.ownBlock=some k->v.ownBlock=some k\/w1.heap.size<=k) (hbe:base<=bb) (hbz:base<=w.heap.size):
  eV (w2.setCell ⟨bb,12,none⟩ v') base bb k c gv im kb v' (bs++[b])/\dE base bb kb v v' w (w2.setCell ⟨bb,12,none⟩ v'):=by
 have h1:=h.below hb;have hx1:=br hb hx;have hlt:=lt_of_block hx1;have hz1:=hb.size;have hne:v.ownBlock≠some bb:=fun e=>by
  obtain⟨cs,hc⟩:=au h1.row e;exact absurd (aC hx1 hc) (by decide)
 have hne':v'.ownBlock≠some bb:=fun e=>by
  rcases hpl bb e with e | e
  ·exact hne e
  ·omega
 have hb2:=(hg.block bb hlt (fun e=>hne e.symm)).trans hx1;have hdat: ∀(u:Value) (ds:List UInt8),w1.ownsRow base 5 1 u ds.length (ds.map ak)->(w2.setCell ⟨bb,12,none⟩ v').ownsRow base 5 1 u ds.length (ds.map ak):=by
  intro u ds hd;refine bZ hd (fun i hi hu=> ?_);obtain⟨cs,hc⟩:=au hd hu;rw[Below.heap_setCell _ _ _ _ (show i≠bb from fun e=>absurd (aC (e▸hc) hx1) (by decide))];refine hg.block i hi (fun e=> ?_);obtain⟨cs2,hc2⟩:=au h1.row e.symm;exact absurd (aC hc hc2) (by decide)
 have hkb:kb<w1.heap.size:=Nat.lt_of_lt_of_le hs.map.lt hz1;have hks:(w2.setCell ⟨bb,12,none⟩ v').heap[kb]? =w.heap[kb]? :=by
  rw[Below.heap_setCell _ _ _ _ (show kb≠bb from fun e=>hs.cells (by rw[e]; exact hx))];refine(hg.block kb hkb (fun e=> ?_)).trans (hb.block kb hs.map.lt);obtain⟨cs,hc⟩:=au h.row e.symm;exact hs.cells hc
 refine⟨⟨?_,⟨zs++[(dv,b)],by simp[hz], ?_,fun z hz=> ?_⟩,hs.same hks⟩,⟨?_,fun i hi e1 e2 e3=> ?_,fun i e=> ?_⟩⟩
 ·have:=dD (k:=12) hb2 v'
  simpa [gY,bT,cG]using this
 ·rw[List.length_append,List.length_singleton,oT];exact hown.kept (aN _ _ _ _) (.inr (fun e=>hne' e))
 ·rcases List.mem_append.1 hz with hz | hz
  ·exact hdat _ _ (h1.dat z hz)
  ·rw[List.mem_singleton]at hz;subst hz;exact hdat _ _ hn
 ·exact((hb.mono hbz).grown hg (Nat.le_trans hbz hz1) (fun i hi=>(h.row.lt i hi).1)).grown (aN w2 bb 12 v') (Nat.le_trans hbz (Nat.le_trans hz1 hg.size)) (fun i hi=>by cases hi; exact hbe)
 ·rw[Below.heap_setCell _ _ _ _ (show i≠bb from e1)];exact(hg.block i (by omega) (fun e=>e3 e.symm)).trans (hb.block i hi)
 ·rcases hpl i e with e | e
  ·exact .inl e
  ·exact .inr (by omega)
end Go.Proofs.YtpffpjbkbaleiaaGreatDoor
namespace Go.Proofs.YtpffpjbkbaleiaaGreatDoor
open Go Go.RowKit
theorem iy {l:List UInt8} (h:bq l=true):l.length<=512:=by
 unfold bq at h;simp only[Bool.and_eq_true,decide_eq_true_eq]at h;exact h.1.1
theorem kB {l:List UInt8} (h:bq l=true):1<=l.length:=by
 cases l with
 | nil=>exact absurd h (by decide)
 | cons a l=>simp
theorem pu (d n:ByteArray) (hn:1<=n.size):d.size+1<=(fT d n).size:=by
 unfold fT
 split
 ·omega
 ·simp only[ByteArray.size_append]
  show d.size+1<=d.size+1+n.size
  omega
theorem oJ {cs:List (ByteArray×List UInt8)} {rec:ByteArray->aV->List bo->Int×List bo} {dir p:ByteArray} {it:aI} {r:List aI} {acc:List bo} (hp:fT dir it.name=p) (hv:bq (bl p)=true) (hl:acc.length<4096) (hk:it.kind=2):
  ff cs rec dir (it::r) acc=if(rec p it.node (acc++[⟨p,it.kind,it.mode,it.time,[],it.link⟩])).1=0 then ff cs rec dir r (rec p it.node (acc++[⟨p,it.kind,it.mode,it.time,[],it.link⟩])).2 else rec p it.node (acc++[⟨p,it.kind,it.mode,it.time,[],it.link⟩]):=by
 have hf:mp cs it=([],0):=by unfold mp; rw[if_neg (by omega)]
 rw[ff,hp,if_pos ⟨hv,hl⟩,hf];simp only[if_pos hk]
theorem rO {cs:List (ByteArray×List UInt8)} {rec:ByteArray->aV->List bo->Int×List bo} {dir p:ByteArray} {it:aI} {r:List aI} {acc:List bo} (hp:fT dir it.name=p) (hv:bq (bl p)=true) (hl:acc.length<4096) (hk:it.kind≠2) (hk1:it.kind≠1):
  ff cs rec dir (it::r) acc=ff cs rec dir r (acc++[⟨p,it.kind,it.mode,it.time,[],it.link⟩]):=by
 have hf:mp cs it=([],0):=by unfold mp; rw[if_neg hk1]
 rw[ff,hp,if_pos ⟨hv,hl⟩,hf];simp only[if_neg hk,if_true]
theorem mU {cs:List (ByteArray×List UInt8)} {rec:ByteArray->aV->List bo->Int×List bo} {dir p:ByteArray} {it:aI} {r:List aI} {acc:List bo} {bs:List UInt8} (hp:fT dir it.name=p) (hv:bq (bl p)=true) (hl:acc.length<4096) (hk1:it.kind=1) (hb:jc cs it.chunks []= .ok bs):
  ff cs rec dir (it::r) acc=ff cs rec dir r (acc++[⟨p,it.kind,it.mode,it.time,bs,it.link⟩]):=by
 have hf:mp cs it=(bs,0):=by unfold mp; rw[if_pos hk1,hb]
 have hk: ¬it.kind=2:=by omega
 rw[ff,hp,if_pos ⟨hv,hl⟩,hf];simp only[if_neg hk,if_true]
theorem uz {cs:List (ByteArray×List UInt8)} {rec:ByteArray->aV->List bo->Int×List bo} {dir p:ByteArray} {it:aI} {r:List aI} {acc:List bo} {x:Int} (hp:fT dir it.name=p) (hv:bq (bl p)=true) (hl:acc.length<4096) (hk1:it.kind=1) (hb:jc cs it.chunks []= .error x) (hx:x≠0):
  ff cs rec dir (it::r) acc=(x,acc++[⟨p,it.kind,it.mode,it.time,[],it.link⟩]):=by
 have hf:mp cs it=([],x):=by unfold mp; rw[if_pos hk1,hb]
 have hk: ¬it.kind=2:=by omega
 rw[ff,hp,if_pos ⟨hv,hl⟩,hf];simp only[if_neg hk,if_neg hx]
def AM (cs:List (ByteArray×List UInt8)) (cv:Value) (B n:Nat):Prop:= ∀(dir:ByteArray) (ref:aV) (acc:List bo) (base eb:Nat) (v:Value) (w:World),
 514<=dir.size+n->(dir.size=0\/bq (bl dir)=true)->fB w base eb v acc->bK ref->fP B cv cs w->B<=base->base<=eb->base<=w.heap.size->
 Calls Tryz.prog 78 #[cv, .string dir,bU ref, .pointer (some ⟨eb,0,none⟩)] w fun e w'=>e= .returned (.int .i64 (dM cs n dir ref acc).1)/\ ∃v',fB w' base eb v' (dM cs n dir ref acc).2/\mz base eb v v' w w'
theorem CJ (cs:List (ByteArray×List UInt8)) (cv:Value) (B:Nat):AM cs cv B 0:=by
 intro dir ref acc base eb v w hn hd
 exfalso
 rcases hd with h | h
 ·omega
 ·have:=iy h;rw[<-am]at this;omega
theorem bW.wide {S:Nat->Prop} {w:World} : ∀ {m:List (Value×Value)} {cs:List (ByteArray×List UInt8)},bW S w m cs->bW (fun _=>True) w m cs
 | [],[],_=>trivial
 | [],_::_,h=>h
 | _::_,[],h=>h
 | (_,_)::_,(_,_)::_,h=>⟨h.1,aL.weak h.2.1 (fun _ _=>trivial),bW.wide h.2.2⟩
theorem cM.wide {S:Nat->Prop} {w:World} {cv:Value} {cs:List (ByteArray×List UInt8)} (h:cM S w cv cs):cM (fun _=>True) w cv cs:=by
 rcases h with h | ⟨b,m,h1,_,h2,h3⟩
 ·exact .inl h
 ·exact .inr ⟨b,m,h1,trivial,h2,h3.wide⟩
theorem fP.keepL {B base:Nat} {cv:Value} {cs:List (ByteArray×List UInt8)} {w w':World} (h:fP B cv cs w) (hb:Below base w w') (hB:B<=base):fP B cv cs w':=
 fP.keep w w' h ⟨hb.os,hb.tape,hb.output,hb.size,fun k _ hn=>hb.block k (by omega)⟩
theorem CI (cs:List (ByteArray×List UInt8)) (cv:Value) (B n:Nat) (IH:AM cs cv B n):AM cs cv B (n+1):=by
 intro dir ref acc base eb v w hn hd hbx hr hi hB hbe hbase;have HIH:=aa IH;have HD:=aa hd;have HBX:=aa hbx;have HI:=aa hi;have HA:=aa ((Below.refl w.heap.size w).alloc (Nat.le_refl _) (.cells #[.string ref.name, .int .i64 ref.gen, .int .i64 ref.size] 26));have hnd:=nG (· <B) cv cs ref _ (hi.cont.below HA.o) hr (hi.env.below HA.o);have heb:eb<w.heap.size:=lt_of_block hbx.1
 unfold bU at *;unfold uQ at hnd;have HLP:=aa (show dM cs (n+1) dir ref acc=match ey cs ref with
  | .error x=>(x,acc)
  | .ok l=>ff cs (dM cs n) dir l acc from rfl)
 cases hnp:ey cs ref with
 | error x=>
  rw[hnp]at hnd;have HND:=aa hnd;have HE:=aa (show dM cs (n+1) dir ref acc=(x,acc) by rw[HLP.o,hnp]);clear hnp hnd IH hd hbx hr hi
  go_enter Tryz.func78,Tryz.ntmps78
  go_wp2_with fail;refine HND.o.mono ?_;rintro e w1 ⟨hb1,rfl,hx⟩;have HB1:=aa (ab HA.o hb1);have e1:(x != 0)=true:=by simp[hx]
  clear hb1 hx;go_wp2_with fail;go_ret;rw[HE.o];exact⟨rfl,v,HBX.o.below HB1.o,mz.ofBelow HB1.o hbase⟩
 | ok l=>
  rw[hnp]at hnd;have HND:=aa hnd;have HE:=aa (show dM cs (n+1) dir ref acc=ff cs (dM cs n) dir l acc by rw[HLP.o,hnp]);have HLV:=aa (rk hnp);clear hnp hnd IH hd hbx hr hi
  go_enter Tryz.func78,Tryz.ntmps78
  go_wp2_with fail;refine HND.o.mono ?_;rintro e w1 ⟨hb1,v1,rfl,hv1⟩;have HB1:=aa (ab HA.o hb1);obtain⟨a1,cap1,rfl,hc1,hm1,-⟩:=aU.shape hv1 fH.len;unfold maxLen at hm1;have HIN0:=aa (show pE w (w.heap.size+1) w1.heap.size base eb v (.slice a1 l.length cap1) l w1 v acc from
   ⟨HBX.o.below HB1.o,mz.ofBelow HB1.o hbase,fun k hk=> .inl (by obtain⟨_,ys,_,hr,_⟩:=HBX.o; have:=(hr.lt k hk).2; omega),by omega,⟨by omega,by have:=hb1.size; simpa using this,Nat.le_refl _⟩,
    by have h:=bI.lt hv1; simpa using h⟩)
  obtain⟨m,hm⟩: ∃m,m=l.length:=⟨_,rfl⟩;rw[<-hm]at HIN0 hc1 ⊢;have HM:=aa hm;have hm4:m<=4096:=by rw[hm]; exact HLV.o.1
  clear hb1 hv1 hm;go_wp2_with fail
  go_loopw [26] (fun i wr=> ∃(k:Nat) (v2:Value) (acc2:List bo),k<=m/\i= .int .i64 (k:Int)/\ff cs (dM cs n) dir (l.drop k) acc2=dM cs (n+1) dir ref acc/\pE w (w.heap.size+1) w1.heap.size base eb v (.slice a1 m cap1) l wr v2 acc2) (fun i _=>m-(intOf i).toNat)
  case atStart=>exact⟨0,v,acc,Nat.zero_le _,rfl,HE.o.symm,HIN0.o⟩
  case round=>
   obtain⟨k,v2,acc2,hk,rfl,hst,hin⟩:=hrel;have HST:=aa hst;have HIN:=aa hin;clear hst hin
   by_cases hlt:k<m
   ·obtain⟨it,hr⟩: ∃it,l[k]? =some it:=⟨l[k]'(by rw[<-HM.o]; exact hlt),by simp⟩;obtain⟨b,o,ca,cc,rfl,hok,hrf,hbl,-,hcl⟩:=gG HIN.o.its (Below.refl _ _) hr;have q0:=hcl 0 (by omega);have q1:=hcl 1 (by omega);have q2:=hcl 2 (by omega);have q3:=hcl 3 (by omega);have q4:=hcl 4 (by omega);have q5:=hcl 5 (by omega);have q6:=hcl 6 (by omega);have q7:=hcl 7 (by omega)
    have q8:=hcl 8 (by omega);have q9:=hcl 9 (by omega);simp only[cg,vN,Nat.add_zero]at q0 q1 q2 q3 q4 q5 q6 q7 q8 q9;have HO:=aa hok;have HRF:=aa hrf;have HDR:=aa (show l.drop k=it::l.drop (k+1) by
     rw[List.drop_eq_getElem_cons (by rw[<-HM.o]; exact hlt)]
     congr 1
     exact(List.getElem?_eq_some_iff.1 hr).2)
    have hvi:=(lX HLV.o.2.1).2 it (List.mem_of_getElem? hr);have HVI:=aa hvi;have hds:dir.size<=512:=by
     rcases HD.o with h | h
     ·omega
     ·have:=iy h; rw[<-am]at this; exact this
    have hhd:=nt.1 (by unfold ep at hvi; rw[Bool.and_eq_true]at hvi; exact hvi.1);have hnm:it.name.size<=64:=by rw[am]; exact qs hhd.val hhd.nos
    have hnp:1<=it.name.size:=by rw[am]; exact kB hhd.val
    have HCL:=aa (HLV.o.2.2 it (List.mem_of_getElem? hr));clear hr hok hrf hcl hvi hhd;have HBZ:=aa (show base<=wr.heap.size by have:=HIN.o.ord; omega)
    by_cases hde:dir.size=0
    ·have e2:dir.toList=[]:=by rw[cA]; exact List.eq_nil_of_length_eq_zero (by rw[<-am]; exact hde)
     have e3:dir.toList.isEmpty=true:=by rw[e2]; rfl
     have HPI:=aa (show fT dir it.name=it.name by unfold fT; rw[if_pos hde]);go_wp2_with fail;obtain⟨W,hW⟩: ∃W,W=(wr.alloc (.cells #[.string it.name, .int .i64 it.kind, .int .i64 it.mode, .int .i64 it.time, .int .i64 it.size, .string it.link, .slice ca it.chunks.length cc, .string it.node.name, .int .i64 it.node.gen, .int .i64 it.node.size] 28)).alloc (.cells #[.string (it.name), .int .i64 it.kind, .int .i64 it.mode, .int .i64 it.time, .slice none 0 0, .string it.link] 79):=⟨_,rfl⟩
     rw[<-hW];have HWB:=aa (show Below wr.heap.size wr W by rw[hW]; exact(bH).alloc (by simp) _);have HX0:=aa (show W.heap[wr.heap.size]? =some (.cells #[.string it.name, .int .i64 it.kind, .int .i64 it.mode, .int .i64 it.time, .int .i64 it.size, .string it.link, .slice ca it.chunks.length cc, .string it.node.name, .int .i64 it.node.gen, .int .i64 it.node.size] 28 (0,0)) by rw[hW]; exact fD (bz wr _) _)
     have HY0:=aa (show W.heap[wr.heap.size+1]? =some (.cells #[.string (it.name), .int .i64 it.kind, .int .i64 it.mode, .int .i64 it.time, .slice none 0 0, .string it.link] 79 (0,0)) by rw[hW]; exact jw wr _ _);have HIN3:=aa (HIN.o.below HWB.o HBZ.o);have HEW:=aa (show iV W from(HI.o.keepL (HIN3.o.kp.below) hB).env);clear hW q0 q1 q2 q3 q4 q5 q6 q7 q8 q9
     cases hval:bq (bl (it.name))with
     | false=>
      have HVL:=aa hval;clear hval;refine(gM (it.name) false W HEW.o HVL.o).mono ?_;rintro e w2 ⟨rfl,hb2⟩;have HIN4:=aa (HIN3.o.below hb2 (Nat.le_trans HBZ.o HWB.o.size));clear hb2;go_wp2_with fail;go_ret;have h1:=HST.o;rw[HDR.o,ff,if_neg (fun h=>by rw[HPI.o,HVL.o]at h; cases h.1)]at h1;rw[<-h1];exact⟨rfl,v2,HIN4.o.box,HIN4.o.kp⟩
     | true=>
      have HVL:=aa hval;clear hval;refine(gM (it.name) true W HEW.o HVL.o).mono ?_;rintro e w2 ⟨rfl,hb2⟩;have HIN4:=aa (HIN3.o.below hb2 (Nat.le_trans HBZ.o HWB.o.size));have HX:=aa (br hb2 HX0.o);have HY:=aa (br hb2 HY0.o);have HBZ4:=aa (Nat.le_trans (Nat.le_trans HBZ.o HWB.o.size) hb2.size);have HRF4:=aa (show bw (fun k=>w.heap.size+1<=k/\k<w1.heap.size) w2 (.slice ca it.chunks.length cc) it.chunks from aU.below (aU.below HRF.o (by omega) HWB.o (fun _ _ _ h=>h)) (by omega) hb2 (fun _ _ _ h=>h))
      have HB2:=aa (HWB.o.trans (hb2.mono HWB.o.size));clear hb2 HX0 HY0;obtain⟨ys0,hys0,hrow0,-⟩:=HIN4.o.box.2;obtain⟨av0,cv0,hv0,hvn0,hvm0⟩:=ai hrow0;have hlen:ys0.length=acc2.length:=by rw[<-hys0,List.length_map]
      rw[hlen]at hv0 hvn0;have e0:=ag (k:=0) HIN4.o.box.1;simp only[List.getElem?_toArray,List.getElem?_cons_zero]at e0;rw[hv0]at e0;have c0:=ag (k:=0) HX.o;have c1:=ag (k:=1) HX.o;have c6:=ag (k:=6) HX.o;have c7:=ag (k:=7) HX.o;have c8:=ag (k:=8) HX.o;have c9:=ag (k:=9) HX.o;obtain⟨d0,d1,d2,d3,d4,d5,_⟩:=aj HY.o;simp only[Nat.zero_add,Nat.reduceAdd]at d1 d2 d3 d4 d5
      simp only[cr]at c0 c1 c6 c7 c8 c9;clear hys0 hrow0 hv0 hlen
      by_cases hfull:acc2.length<4096
      ·have hfi:(acc2.length:Int)<4096:=by omega
       have HFL:=aa hfull;clear hfull
       by_cases hk1:it.kind=1
       ·have e1:(it.kind == 1)=true:=by simp[hk1]
        have HK1:=aa hk1;have e2:(it.kind == 2)=false:=by simp[hk1]
        have hbf:=jE hk1 (by have h:=HVI.o; unfold ep at h; rw[Bool.and_eq_true]at h; exact h.2);have htw:=rS (l:=it.chunks) (by have:=HCL.o; omega) (fun r hr=>(hbf.2.2.1 r hr).1) _ (Nat.le_refl _);rw[List.take_length]at htw;have hfl:=pm (fun _=>True) cv (.slice ca it.chunks.length cc) cs it.chunks w2 (cM.wide (HI.o.keepL HIN4.o.kp.below hB).cont) (bw.same HRF4.o (fun k _ _=>⟨trivial,rfl⟩)) htw.1 (by rw[<-hbf.2.2.2.1]; exact hbf.2.2.2.2) (by have:=HCL.o; omega) (fun r hr=>(hbf.2.2.1 r hr).1)
        unfold uN at hfl;clear hk1 hbf htw
        cases hfp:jc cs it.chunks []with
        | error x=>
         rw[hfp]at hfl;have HFL2:=aa hfl;have HFP:=aa hfp;clear hfl hfp;go_wp2_with fail;refine HFL2.o.mono ?_;rintro e w5 ⟨hb5,rfl,hx⟩;have hx5:=br hb5 HX.o;have hy5:=br hb5 HY.o;have HY0:=aa hy5;have d4':=ag (k:=4) hy5;have f4':=ah (k:=4) hy5;simp only[cr]at d4';clear e0 c0 c1 c6 c7 c8 c9 d0 d1 d2 d3 d4 d5;go_wp2_with fail;obtain⟨W5,hW5⟩: ∃W5:World,W5=w5.setCell ⟨wr.heap.size+1,4,none⟩ (.slice none 0 0):=⟨_,rfl⟩
         rw[<-hW5];have HW5:=aa hW5;have HX5:=aa ((show W5.heap[wr.heap.size]? =w5.heap[wr.heap.size]? from by rw[hW5,Below.heap_setCell _ _ _ _ (by show wr.heap.size≠wr.heap.size+1; omega)]).trans hx5);have hy6:=dD (k:=4) hy5 (.slice none 0 0);simp only[List.setIfInBounds_toArray,List.set_cons_succ,List.set_cons_zero]at hy6;rw[<-hW5]at hy6;have HY5:=aa hy6;have HIN5:=aa (show pE w (w.heap.size+1) w1.heap.size base eb v (.slice (some ⟨b,o,none⟩) m cap1) l W5 v2 acc2 from HIN.o.below (by rw[hW5]; exact Below.setCell (HB2.o.trans (hb5.mono HB2.o.size)) (by show wr.heap.size<=wr.heap.size+1; omega) _) HBZ.o)
         have HBZ5:=aa (show base<=W5.heap.size from Nat.le_trans HBZ4.o (by rw[hW5]; have:=hb5.size; simpa [World.setCell]using this));clear hW5 hx5 hy5 hy6 d4' f4' HX HY hb5;have HX:=HX5;have HY:=HY5;clear HX5 HY5;have HDN:=aa (World.ownsRow_nil W5 base 5 1);have e4:(x != 0)=true:=by simp[hx]
         have HSP:=aa (uz (cs:=cs) (rec:=dM cs n) (r:=l.drop (k+1)) HPI.o HVL.o HFL.o HK1.o HFP.o hx);clear hx;obtain⟨ys,hys,hrow,hdat⟩:=HIN5.o.box.2;obtain⟨av,cv2,hv2,hvn,hvm⟩:=ai hrow;have HBX5:=aa HIN5.o.box.1;have HROW5:=aa hrow;have HDAT5:=aa hdat
         have HYS:=aa hys;subst hv2;clear hys hrow hdat
         obtain⟨W6,hW6⟩: ∃W6:World,W6=(W5).drew:=⟨_,rfl⟩;have hb6:Below (W5).heap.size (W5) W6:=by rw[hW6]; exact(Below.refl _ _).drew
         have HB6:=aa hb6;have HX6:=aa (br hb6 HX.o);have HY6:=aa (br hb6 HY.o);have HBX6:=aa (br hb6 HBX5.o);have HROW6:=aa (aQ HROW5.o hb6);have HDAT6:=aa (fun y hy=>aQ (HDAT5.o y hy) hb6);have HDV6:=aa (aQ (HDN).out hb6);have HIN6:=aa (HIN5.o.below hb6 HBZ5.o);have hbz6:=Nat.le_trans HBZ5.o hb6.size;have HBZ6:=aa hbz6;clear hb6 HX HY HIN5 HBX5 HROW5 HDAT5
         have hS1:=ag (k:=0) HBX6.o;obtain⟨d0,d1,d2,d3,d4,d5,_⟩:=aj HY6.o;simp only[Nat.zero_add,Nat.reduceAdd]at d1 d2 d3 d4 d5;have f1:=ah (k:=0) HBX6.o;simp only[cr]at hS1;refine bN (fun w'=>w'.cell? ⟨eb,0,none⟩=some (.slice av ys.length cv2)/\w'.cell? ⟨wr.heap.size+1,0,none⟩=some (.string (it.name))/\w'.cell? ⟨wr.heap.size+1,1,none⟩=some (.int .i64 it.kind)/\w'.cell? ⟨wr.heap.size+1,2,none⟩=some (.int .i64 it.mode)/\w'.cell? ⟨wr.heap.size+1,3,none⟩=some (.int .i64 it.time)/\w'.cell? ⟨wr.heap.size+1,4,none⟩=some (.slice none 0 0)/\w'.cell? ⟨wr.heap.size+1,5,none⟩=some (.string it.link)) (by kernel_rfl) (by kernel_rfl) ?_
         simp only[List.dropLast_cons_cons,List.dropLast_singleton,List.length_cons,List.length_nil,Nat.reduceAdd,Nat.reduceSub];rw[<-hW6];clear hW6
         iterate 5 (refine aJ rfl (by kernel_rfl) (fun _ _ _ h=>h) rfl ⟨hS1,d0,d1,d2,d3,d4,d5⟩ (by rintro w' ⟨hw1,hw2,hw3,hw4,hw5,hw6,hw7⟩; go_simp; rfl) ?_; simp only[Act.put,aZ,bg,bh])
         have hltb:eb<W6.heap.size:=lt_of_block HBX6.o;have hlty:wr.heap.size+1<W6.heap.size:=lt_of_block HY6.o;have HAL:=aa ((Below.refl W6.heap.size W6).alloc (Nat.le_refl _) (.cells #[.string (it.name), .int .i64 it.kind, .int .i64 it.mode, .int .i64 it.time, .slice none 0 0, .string it.link] 79));have hS2:=And.intro ((HAL.o.cell (p:=⟨eb,0,none⟩) hltb).trans hS1) (And.intro ((HAL.o.cell (p:=⟨wr.heap.size+1,0,none⟩) hlty).trans d0) (And.intro ((HAL.o.cell (p:=⟨wr.heap.size+1,1,none⟩) hlty).trans d1) (And.intro ((HAL.o.cell (p:=⟨wr.heap.size+1,2,none⟩) hlty).trans d2) (And.intro ((HAL.o.cell (p:=⟨wr.heap.size+1,3,none⟩) hlty).trans d3) (And.intro ((HAL.o.cell (p:=⟨wr.heap.size+1,4,none⟩) hlty).trans d4) ((HAL.o.cell (p:=⟨wr.heap.size+1,5,none⟩) hlty).trans d5))))))
         have HS2:=aa hS2;clear hS2;refine an 5 rfl (by kernel_rfl) rfl (fun K hK=> ?_);go_wp2_with fail
         (first | (refine⟨HS2.o, ?_⟩) | skip)
         refine an 6 rfl (by kernel_rfl) rfl (fun K hK=> ?_);have hyl:ys.length<4096:=by have h1:=HFL.o; rw[<-HYS.o,List.length_map]at h1; exact h1
         go_wp2_with (at_builtin; go_must (refine aA Tryz.appEnts rfl _ _ rfl base (.slice av ys.length cv2) ys.length (dJ ys) rfl W6 [.string (it.name), .int .i64 it.kind, .int .i64 it.mode, .int .i64 it.time, .slice none 0 0, .string it.link] _ rfl rfl (fo (e:=⟨it.name,it.kind,it.mode,it.time,[],it.link⟩)) HROW6.o (by omega) (by omega) ?_); intro v' wc hown' hgrow' _ hpl; obtain⟨ae,ce,rfl,-,-⟩:=ai hown')
         have hneb:(Value.slice av ys.length cv2).ownBlock≠some eb:=fun e=>by
          obtain⟨cs,hc⟩:=au HROW6.o e;exact absurd (aC HBX6.o hc) (by decide)
         have hlow: ∀i,(Value.slice av ys.length cv2).ownBlock=some i->i<wr.heap.size:=fun i e=>by
          obtain⟨_,ys',_,hr',_⟩:=HIN.o.box;exact(hr'.lt _ e).2
         have hney:(Value.slice av ys.length cv2).ownBlock≠some (wr.heap.size+1):=fun e=>by have:=hlow _ e; omega
         have hnex:(Value.slice av ys.length cv2).ownBlock≠some wr.heap.size:=fun e=>by have:=hlow _ e; omega
         have hbx7:=(hgrow'.block eb hltb (fun e=>hneb e.symm)).trans HBX6.o;have hy7:=(hgrow'.block (wr.heap.size+1) hlty (fun e=>hney e.symm)).trans HY6.o;have hx7:=(hgrow'.block wr.heap.size (lt_of_block HX6.o) (fun e=>hnex e.symm)).trans HX6.o;have hpush:=fB.push (e:=⟨it.name,it.kind,it.mode,it.time,[],it.link⟩) HBX6.o HROW6.o HDAT6.o HDV6.o hown' hgrow' hpl hbe HBZ6.o
         rw[HYS.o]at hpush;have HIN8:=aa (HIN6.o.step hpush.1 hpush.2);have HX8:=aa ((Below.heap_setCell wc ⟨eb,0,none⟩ (.slice ae (ys.length+1) ce) wr.heap.size (by show wr.heap.size≠eb; have:=HIN.o.lo; have:=HIN.o.ord; omega)).trans hx7);have HY8:=aa ((Below.heap_setCell wc ⟨eb,0,none⟩ (.slice ae (ys.length+1) ce) (wr.heap.size+1) (by show wr.heap.size+1≠eb; have:=HIN.o.lo; have:=HIN.o.ord; omega)).trans hy7)
         have c0':=ag (k:=0) hbx7;have f0':=ah (k:=0) hbx7;obtain⟨y0,y1,y2,y3,y4,y5,_⟩:=aj hy7;simp only[Nat.zero_add,Nat.reduceAdd]at y1 y2 y3 y4 y5;simp only[cr]at c0';clear hown' hgrow' hpl hpush hneb hney hnex hlow hS1 d0 d1 d2 d3 d4 d5 f1 hbx7 hy7 hx7;refine⟨⟨c0',y0,y1,y2,y3,y4,y5⟩, ?_⟩;refine aJ rfl (by kernel_rfl) (fun _ _ _ h=>h) rfl ⟨c0',y0,y1,y2,y3,y4,y5⟩ (by rintro w' ⟨hw1,hw2,hw3,hw4,hw5,hw6,hw7⟩; go_simp; rfl) ?_
         simp only[Act.put,aZ,bg,bh];refine aM (by kernel_rfl) ?_;refine bX rfl rfl (fun K hK=> ?_)
         go_upto_region 16 with(fail)
         obtain⟨W8,hW8⟩: ∃W8:World,W8=wc.setCell ⟨eb,0,none⟩ (.slice ae (ys.length+1) ce):=⟨_,rfl⟩;rw[<-hW8]at HIN8 HX8 HY8 ⊢;clear hW8 c0' f0' y0 y1 y2 y3 y4 y5;have HX:=HX8;have HY:=HY8;clear HX8 HY8;have c0:=ag (k:=0) HX.o;have c1:=ag (k:=1) HX.o;have c6:=ag (k:=6) HX.o;have c7:=ag (k:=7) HX.o;have c8:=ag (k:=8) HX.o;have c9:=ag (k:=9) HX.o
         obtain⟨d0,d1,d2,d3,d4,d5,_⟩:=aj HY.o;simp only[Nat.zero_add,Nat.reduceAdd]at d1 d2 d3 d4 d5;simp only[cr]at c0 c1 c6 c7 c8 c9;go_wp2_with fail;go_ret;rw[<-HST.o,HDR.o,HSP.o];exact⟨rfl,_,HIN8.o.box,HIN8.o.kp⟩
        | ok bs=>
         rw[hfp]at hfl;have HFL2:=aa hfl;have HFP:=aa hfp;clear hfl hfp;go_wp2_with fail;refine HFL2.o.mono ?_;rintro e w5 ⟨hb5,v5,rfl,ho5⟩;obtain⟨a5,c5,rfl,-,-⟩:=ai ho5;have HO5:=aa ho5;clear ho5;have hx5:=br hb5 HX.o;have hy5:=br hb5 HY.o;have HY0:=aa hy5;have d4':=ag (k:=4) hy5;have f4':=ah (k:=4) hy5;simp only[cr]at d4';clear e0 c0 c1 c6 c7 c8 c9 d0 d1 d2 d3 d4 d5
         go_wp2_with fail;obtain⟨W5,hW5⟩: ∃W5:World,W5=w5.setCell ⟨wr.heap.size+1,4,none⟩ (.slice a5 bs.length c5):=⟨_,rfl⟩;rw[<-hW5];have HW5:=aa hW5;have HX5:=aa ((show W5.heap[wr.heap.size]? =w5.heap[wr.heap.size]? from by rw[hW5,Below.heap_setCell _ _ _ _ (by show wr.heap.size≠wr.heap.size+1; omega)]).trans hx5);have hy6:=dD (k:=4) hy5 (.slice a5 bs.length c5)
         simp only[List.setIfInBounds_toArray,List.set_cons_succ,List.set_cons_zero]at hy6;rw[<-hW5]at hy6;have HY5:=aa hy6;have HIN5:=aa (show pE w (w.heap.size+1) w1.heap.size base eb v (.slice (some ⟨b,o,none⟩) m cap1) l W5 v2 acc2 from HIN.o.below (by rw[hW5]; exact Below.setCell (HB2.o.trans (hb5.mono HB2.o.size)) (by show wr.heap.size<=wr.heap.size+1; omega) _) HBZ.o);have HBZ5:=aa (show base<=W5.heap.size from Nat.le_trans HBZ4.o (by rw[hW5]; have:=hb5.size; simpa [World.setCell]using this))
         clear hW5 hx5 hy5 hy6 d4' f4' HX HY hb5;have HX:=HX5;have HY:=HY5;clear HX5 HY5;have HDN:=aa (show W5.ownsRow base 5 1 (.slice a5 bs.length c5) bs.length (bs.map ak)from by
          rw[HW5.o];refine(cK HO5.o HBZ4.o).kept (aN w5 _ _ _) (.inr (fun e=> ?_));obtain⟨cs2,hc2⟩:=au HO5.o e;exact absurd (aC HY0.o hc2) (by decide))
         have HSP:=aa (mU (cs:=cs) (rec:=dM cs n) (r:=l.drop (k+1)) HPI.o HVL.o HFL.o HK1.o HFP.o);obtain⟨ys,hys,hrow,hdat⟩:=HIN5.o.box.2;obtain⟨av,cv2,hv2,hvn,hvm⟩:=ai hrow;have HBX5:=aa HIN5.o.box.1;have HROW5:=aa hrow;have HDAT5:=aa hdat
         have HYS:=aa hys;subst hv2;clear hys hrow hdat
         obtain⟨W6,hW6⟩: ∃W6:World,W6=(W5).drew:=⟨_,rfl⟩;have hb6:Below (W5).heap.size (W5) W6:=by rw[hW6]; exact(Below.refl _ _).drew
         have HB6:=aa hb6;have HX6:=aa (br hb6 HX.o);have HY6:=aa (br hb6 HY.o);have HBX6:=aa (br hb6 HBX5.o);have HROW6:=aa (aQ HROW5.o hb6);have HDAT6:=aa (fun y hy=>aQ (HDAT5.o y hy) hb6);have HDV6:=aa (aQ (HDN).out hb6);have HIN6:=aa (HIN5.o.below hb6 HBZ5.o);have hbz6:=Nat.le_trans HBZ5.o hb6.size;have HBZ6:=aa hbz6;clear hb6 HX HY HIN5 HBX5 HROW5 HDAT5
         have hS1:=ag (k:=0) HBX6.o;obtain⟨d0,d1,d2,d3,d4,d5,_⟩:=aj HY6.o;simp only[Nat.zero_add,Nat.reduceAdd]at d1 d2 d3 d4 d5;have f1:=ah (k:=0) HBX6.o;simp only[cr]at hS1;refine bN (fun w'=>w'.cell? ⟨eb,0,none⟩=some (.slice av ys.length cv2)/\w'.cell? ⟨wr.heap.size+1,0,none⟩=some (.string (it.name))/\w'.cell? ⟨wr.heap.size+1,1,none⟩=some (.int .i64 it.kind)/\w'.cell? ⟨wr.heap.size+1,2,none⟩=some (.int .i64 it.mode)/\w'.cell? ⟨wr.heap.size+1,3,none⟩=some (.int .i64 it.time)/\w'.cell? ⟨wr.heap.size+1,4,none⟩=some (.slice a5 bs.length c5)/\w'.cell? ⟨wr.heap.size+1,5,none⟩=some (.string it.link)) (by kernel_rfl) (by kernel_rfl) ?_
         simp only[List.dropLast_cons_cons,List.dropLast_singleton,List.length_cons,List.length_nil,Nat.reduceAdd,Nat.reduceSub];rw[<-hW6];clear hW6
         iterate 5 (refine aJ rfl (by kernel_rfl) (fun _ _ _ h=>h) rfl ⟨hS1,d0,d1,d2,d3,d4,d5⟩ (by rintro w' ⟨hw1,hw2,hw3,hw4,hw5,hw6,hw7⟩; go_simp; rfl) ?_; simp only[Act.put,aZ,bg,bh])
         have hltb:eb<W6.heap.size:=lt_of_block HBX6.o;have hlty:wr.heap.size+1<W6.heap.size:=lt_of_block HY6.o;have HAL:=aa ((Below.refl W6.heap.size W6).alloc (Nat.le_refl _) (.cells #[.string (it.name), .int .i64 it.kind, .int .i64 it.mode, .int .i64 it.time, .slice a5 bs.length c5, .string it.link] 79));have hS2:=And.intro ((HAL.o.cell (p:=⟨eb,0,none⟩) hltb).trans hS1) (And.intro ((HAL.o.cell (p:=⟨wr.heap.size+1,0,none⟩) hlty).trans d0) (And.intro ((HAL.o.cell (p:=⟨wr.heap.size+1,1,none⟩) hlty).trans d1) (And.intro ((HAL.o.cell (p:=⟨wr.heap.size+1,2,none⟩) hlty).trans d2) (And.intro ((HAL.o.cell (p:=⟨wr.heap.size+1,3,none⟩) hlty).trans d3) (And.intro ((HAL.o.cell (p:=⟨wr.heap.size+1,4,none⟩) hlty).trans d4) ((HAL.o.cell (p:=⟨wr.heap.size+1,5,none⟩) hlty).trans d5))))))
         have HS2:=aa hS2;clear hS2;refine an 5 rfl (by kernel_rfl) rfl (fun K hK=> ?_);go_wp2_with fail
         (first | (refine⟨HS2.o, ?_⟩) | skip)
         refine an 6 rfl (by kernel_rfl) rfl (fun K hK=> ?_);have hyl:ys.length<4096:=by have h1:=HFL.o; rw[<-HYS.o,List.length_map]at h1; exact h1
         go_wp2_with (at_builtin; go_must (refine aA Tryz.appEnts rfl _ _ rfl base (.slice av ys.length cv2) ys.length (dJ ys) rfl W6 [.string (it.name), .int .i64 it.kind, .int .i64 it.mode, .int .i64 it.time, .slice a5 bs.length c5, .string it.link] _ rfl rfl (fo (e:=⟨it.name,it.kind,it.mode,it.time,bs,it.link⟩)) HROW6.o (by omega) (by omega) ?_); intro v' wc hown' hgrow' _ hpl; obtain⟨ae,ce,rfl,-,-⟩:=ai hown')
         have hneb:(Value.slice av ys.length cv2).ownBlock≠some eb:=fun e=>by
          obtain⟨cs,hc⟩:=au HROW6.o e;exact absurd (aC HBX6.o hc) (by decide)
         have hlow: ∀i,(Value.slice av ys.length cv2).ownBlock=some i->i<wr.heap.size:=fun i e=>by
          obtain⟨_,ys',_,hr',_⟩:=HIN.o.box;exact(hr'.lt _ e).2
         have hney:(Value.slice av ys.length cv2).ownBlock≠some (wr.heap.size+1):=fun e=>by have:=hlow _ e; omega
         have hnex:(Value.slice av ys.length cv2).ownBlock≠some wr.heap.size:=fun e=>by have:=hlow _ e; omega
         have hbx7:=(hgrow'.block eb hltb (fun e=>hneb e.symm)).trans HBX6.o;have hy7:=(hgrow'.block (wr.heap.size+1) hlty (fun e=>hney e.symm)).trans HY6.o;have hx7:=(hgrow'.block wr.heap.size (lt_of_block HX6.o) (fun e=>hnex e.symm)).trans HX6.o;have hpush:=fB.push (e:=⟨it.name,it.kind,it.mode,it.time,bs,it.link⟩) HBX6.o HROW6.o HDAT6.o HDV6.o hown' hgrow' hpl hbe HBZ6.o
         rw[HYS.o]at hpush;have HIN8:=aa (HIN6.o.step hpush.1 hpush.2);have HX8:=aa ((Below.heap_setCell wc ⟨eb,0,none⟩ (.slice ae (ys.length+1) ce) wr.heap.size (by show wr.heap.size≠eb; have:=HIN.o.lo; have:=HIN.o.ord; omega)).trans hx7);have HY8:=aa ((Below.heap_setCell wc ⟨eb,0,none⟩ (.slice ae (ys.length+1) ce) (wr.heap.size+1) (by show wr.heap.size+1≠eb; have:=HIN.o.lo; have:=HIN.o.ord; omega)).trans hy7)
         have c0':=ag (k:=0) hbx7;have f0':=ah (k:=0) hbx7;obtain⟨y0,y1,y2,y3,y4,y5,_⟩:=aj hy7;simp only[Nat.zero_add,Nat.reduceAdd]at y1 y2 y3 y4 y5;simp only[cr]at c0';clear hown' hgrow' hpl hpush hneb hney hnex hlow hS1 d0 d1 d2 d3 d4 d5 f1 hbx7 hy7 hx7;refine⟨⟨c0',y0,y1,y2,y3,y4,y5⟩, ?_⟩;refine aJ rfl (by kernel_rfl) (fun _ _ _ h=>h) rfl ⟨c0',y0,y1,y2,y3,y4,y5⟩ (by rintro w' ⟨hw1,hw2,hw3,hw4,hw5,hw6,hw7⟩; go_simp; rfl) ?_
         simp only[Act.put,aZ,bg,bh];refine aM (by kernel_rfl) ?_;refine bX rfl rfl (fun K hK=> ?_)
         go_upto_region 16 with(fail)
         obtain⟨W8,hW8⟩: ∃W8:World,W8=wc.setCell ⟨eb,0,none⟩ (.slice ae (ys.length+1) ce):=⟨_,rfl⟩;rw[<-hW8]at HIN8 HX8 HY8 ⊢;clear hW8 c0' f0' y0 y1 y2 y3 y4 y5;have HX:=HX8;have HY:=HY8;clear HX8 HY8;have c0:=ag (k:=0) HX.o;have c1:=ag (k:=1) HX.o;have c6:=ag (k:=6) HX.o;have c7:=ag (k:=7) HX.o;have c8:=ag (k:=8) HX.o;have c9:=ag (k:=9) HX.o
         obtain⟨d0,d1,d2,d3,d4,d5,_⟩:=aj HY.o;simp only[Nat.zero_add,Nat.reduceAdd]at d1 d2 d3 d4 d5;simp only[cr]at c0 c1 c6 c7 c8 c9;go_wp2_with fail;clear c0 c1 c6 c7 c8 c9 d0 d1 d2 d3 d4 d5
         go_roundw
         case rel=>exact⟨k+1,_,_,by omega,by go_num,by rw[<-HST.o,HDR.o,HSP.o],HIN8.o⟩
         case measure=>simp[intOf]; omega
       ·have e1:(it.kind == 1)=false:=by simp[hk1]
        have HK1:=aa hk1;clear hk1;have HIN5:=HIN4;have HBZ5:=HBZ4;have HDN:=aa (World.ownsRow_nil w2 base 5 1);go_wp2_with fail;clear e0 c0 c1 c6 c7 c8 c9 d0 d1 d2 d3 d4 d5;obtain⟨ys,hys,hrow,hdat⟩:=HIN5.o.box.2;obtain⟨av,cv2,hv2,hvn,hvm⟩:=ai hrow;have HBX5:=aa HIN5.o.box.1;have HROW5:=aa hrow;have HDAT5:=aa hdat
        have HYS:=aa hys;subst hv2;clear hys hrow hdat
        obtain⟨W6,hW6⟩: ∃W6:World,W6=(w2).drew:=⟨_,rfl⟩;have hb6:Below (w2).heap.size (w2) W6:=by rw[hW6]; exact(Below.refl _ _).drew
        have HB6:=aa hb6;have HX6:=aa (br hb6 HX.o);have HY6:=aa (br hb6 HY.o);have HBX6:=aa (br hb6 HBX5.o);have HROW6:=aa (aQ HROW5.o hb6);have HDAT6:=aa (fun y hy=>aQ (HDAT5.o y hy) hb6);have HDV6:=aa (aQ (HDN).out hb6);have HIN6:=aa (HIN5.o.below hb6 HBZ5.o);have hbz6:=Nat.le_trans HBZ5.o hb6.size;have HBZ6:=aa hbz6;clear hb6 HX HY HIN5 HBX5 HROW5 HDAT5
        have hS1:=ag (k:=0) HBX6.o;obtain⟨d0,d1,d2,d3,d4,d5,_⟩:=aj HY6.o;simp only[Nat.zero_add,Nat.reduceAdd]at d1 d2 d3 d4 d5;have f1:=ah (k:=0) HBX6.o;simp only[cr]at hS1;refine bN (fun w'=>w'.cell? ⟨eb,0,none⟩=some (.slice av ys.length cv2)/\w'.cell? ⟨wr.heap.size+1,0,none⟩=some (.string (it.name))/\w'.cell? ⟨wr.heap.size+1,1,none⟩=some (.int .i64 it.kind)/\w'.cell? ⟨wr.heap.size+1,2,none⟩=some (.int .i64 it.mode)/\w'.cell? ⟨wr.heap.size+1,3,none⟩=some (.int .i64 it.time)/\w'.cell? ⟨wr.heap.size+1,4,none⟩=some (.slice none 0 0)/\w'.cell? ⟨wr.heap.size+1,5,none⟩=some (.string it.link)) (by kernel_rfl) (by kernel_rfl) ?_
        simp only[List.dropLast_cons_cons,List.dropLast_singleton,List.length_cons,List.length_nil,Nat.reduceAdd,Nat.reduceSub];rw[<-hW6];clear hW6
        iterate 5 (refine aJ rfl (by kernel_rfl) (fun _ _ _ h=>h) rfl ⟨hS1,d0,d1,d2,d3,d4,d5⟩ (by rintro w' ⟨hw1,hw2,hw3,hw4,hw5,hw6,hw7⟩; go_simp; rfl) ?_; simp only[Act.put,aZ,bg,bh])
        have hltb:eb<W6.heap.size:=lt_of_block HBX6.o;have hlty:wr.heap.size+1<W6.heap.size:=lt_of_block HY6.o;have HAL:=aa ((Below.refl W6.heap.size W6).alloc (Nat.le_refl _) (.cells #[.string (it.name), .int .i64 it.kind, .int .i64 it.mode, .int .i64 it.time, .slice none 0 0, .string it.link] 79));have hS2:=And.intro ((HAL.o.cell (p:=⟨eb,0,none⟩) hltb).trans hS1) (And.intro ((HAL.o.cell (p:=⟨wr.heap.size+1,0,none⟩) hlty).trans d0) (And.intro ((HAL.o.cell (p:=⟨wr.heap.size+1,1,none⟩) hlty).trans d1) (And.intro ((HAL.o.cell (p:=⟨wr.heap.size+1,2,none⟩) hlty).trans d2) (And.intro ((HAL.o.cell (p:=⟨wr.heap.size+1,3,none⟩) hlty).trans d3) (And.intro ((HAL.o.cell (p:=⟨wr.heap.size+1,4,none⟩) hlty).trans d4) ((HAL.o.cell (p:=⟨wr.heap.size+1,5,none⟩) hlty).trans d5))))))
        have HS2:=aa hS2;clear hS2;refine an 5 rfl (by kernel_rfl) rfl (fun K hK=> ?_);go_wp2_with fail
        (first | (refine⟨HS2.o, ?_⟩) | skip)
        refine an 6 rfl (by kernel_rfl) rfl (fun K hK=> ?_);have hyl:ys.length<4096:=by have h1:=HFL.o; rw[<-HYS.o,List.length_map]at h1; exact h1
        go_wp2_with (at_builtin; go_must (refine aA Tryz.appEnts rfl _ _ rfl base (.slice av ys.length cv2) ys.length (dJ ys) rfl W6 [.string (it.name), .int .i64 it.kind, .int .i64 it.mode, .int .i64 it.time, .slice none 0 0, .string it.link] _ rfl rfl (fo (e:=⟨it.name,it.kind,it.mode,it.time,[],it.link⟩)) HROW6.o (by omega) (by omega) ?_); intro v' wc hown' hgrow' _ hpl; obtain⟨ae,ce,rfl,-,-⟩:=ai hown')
        have hneb:(Value.slice av ys.length cv2).ownBlock≠some eb:=fun e=>by
         obtain⟨cs,hc⟩:=au HROW6.o e;exact absurd (aC HBX6.o hc) (by decide)
        have hlow: ∀i,(Value.slice av ys.length cv2).ownBlock=some i->i<wr.heap.size:=fun i e=>by
         obtain⟨_,ys',_,hr',_⟩:=HIN.o.box;exact(hr'.lt _ e).2
        have hney:(Value.slice av ys.length cv2).ownBlock≠some (wr.heap.size+1):=fun e=>by have:=hlow _ e; omega
        have hnex:(Value.slice av ys.length cv2).ownBlock≠some wr.heap.size:=fun e=>by have:=hlow _ e; omega
        have hbx7:=(hgrow'.block eb hltb (fun e=>hneb e.symm)).trans HBX6.o;have hy7:=(hgrow'.block (wr.heap.size+1) hlty (fun e=>hney e.symm)).trans HY6.o;have hx7:=(hgrow'.block wr.heap.size (lt_of_block HX6.o) (fun e=>hnex e.symm)).trans HX6.o;have hpush:=fB.push (e:=⟨it.name,it.kind,it.mode,it.time,[],it.link⟩) HBX6.o HROW6.o HDAT6.o HDV6.o hown' hgrow' hpl hbe HBZ6.o
        rw[HYS.o]at hpush;have HIN8:=aa (HIN6.o.step hpush.1 hpush.2);have HX8:=aa ((Below.heap_setCell wc ⟨eb,0,none⟩ (.slice ae (ys.length+1) ce) wr.heap.size (by show wr.heap.size≠eb; have:=HIN.o.lo; have:=HIN.o.ord; omega)).trans hx7);have HY8:=aa ((Below.heap_setCell wc ⟨eb,0,none⟩ (.slice ae (ys.length+1) ce) (wr.heap.size+1) (by show wr.heap.size+1≠eb; have:=HIN.o.lo; have:=HIN.o.ord; omega)).trans hy7)
        have c0':=ag (k:=0) hbx7;have f0':=ah (k:=0) hbx7;obtain⟨y0,y1,y2,y3,y4,y5,_⟩:=aj hy7;simp only[Nat.zero_add,Nat.reduceAdd]at y1 y2 y3 y4 y5;simp only[cr]at c0';clear hown' hgrow' hpl hpush hneb hney hnex hlow hS1 d0 d1 d2 d3 d4 d5 f1 hbx7 hy7 hx7;refine⟨⟨c0',y0,y1,y2,y3,y4,y5⟩, ?_⟩;refine aJ rfl (by kernel_rfl) (fun _ _ _ h=>h) rfl ⟨c0',y0,y1,y2,y3,y4,y5⟩ (by rintro w' ⟨hw1,hw2,hw3,hw4,hw5,hw6,hw7⟩; go_simp; rfl) ?_
        simp only[Act.put,aZ,bg,bh];refine aM (by kernel_rfl) ?_;refine bX rfl rfl (fun K hK=> ?_)
        go_upto_region 16 with(fail)
        obtain⟨W8,hW8⟩: ∃W8:World,W8=wc.setCell ⟨eb,0,none⟩ (.slice ae (ys.length+1) ce):=⟨_,rfl⟩;rw[<-hW8]at HIN8 HX8 HY8 ⊢;clear hW8 c0' f0' y0 y1 y2 y3 y4 y5;have HX:=HX8;have HY:=HY8;clear HX8 HY8;have c0:=ag (k:=0) HX.o;have c1:=ag (k:=1) HX.o;have c6:=ag (k:=6) HX.o;have c7:=ag (k:=7) HX.o;have c8:=ag (k:=8) HX.o;have c9:=ag (k:=9) HX.o
        obtain⟨d0,d1,d2,d3,d4,d5,_⟩:=aj HY.o;simp only[Nat.zero_add,Nat.reduceAdd]at d1 d2 d3 d4 d5;simp only[cr]at c0 c1 c6 c7 c8 c9
        by_cases hk2:it.kind=2
        ·have e2:(it.kind == 2)=true:=by simp[hk2]
         have hrec:=HIH.o (it.name) it.node (acc2++[⟨it.name,it.kind,it.mode,it.time,[],it.link⟩]) base eb _ W8 (by have h1:=pu dir it.name hnp; rw[HPI.o]at h1; omega) (.inr HVL.o) HIN8.o.box HO.o.nd (HI.o.keepL HIN8.o.kp.below hB) hB hbe (Nat.le_trans hbase HIN8.o.kp.below.size);have HSP:=aa (oJ (cs:=cs) (rec:=dM cs n) (r:=l.drop (k+1)) HPI.o HVL.o HFL.o hk2)
         obtain⟨q,hq⟩: ∃q,q=dM cs n (it.name) it.node (acc2++[⟨it.name,it.kind,it.mode,it.time,[],it.link⟩]):=⟨_,rfl⟩;rw[<-hq]at hrec HSP;have HREC:=aa hrec;clear hrec hq hk2;go_wp2_with fail;refine HREC.o.mono ?_;rintro e w9 ⟨rfl,v9,hbx9,hkp9⟩;have HIN9:=aa (HIN8.o.step hbx9 hkp9);clear hbx9 hkp9 c0 c1 c6 c7 c8 c9 d0 d1 d2 d3 d4 d5
         by_cases hx:q.1=0
         ·have e3:(q.1 != 0)=false:=by simp[hx]
          have HQX:=aa hx;clear hx;go_wp2_with fail
          go_roundw
          case rel=>exact⟨k+1,v9,q.2,by omega,by go_num,by rw[<-HST.o,HDR.o,HSP.o,if_pos HQX.o],HIN9.o⟩
          case measure=>simp[intOf]; omega
         ·have e3:(q.1 != 0)=true:=by simp[hx]
          have HQX:=aa hx;clear hx;go_wp2_with fail;go_ret;rw[<-HST.o,HDR.o,HSP.o,if_neg HQX.o];exact⟨rfl,v9,HIN9.o.box,HIN9.o.kp⟩
        ·have e2:(it.kind == 2)=false:=by simp[hk2]
         have HSP:=aa (rO (cs:=cs) (rec:=dM cs n) (r:=l.drop (k+1)) HPI.o HVL.o HFL.o hk2 HK1.o);clear hk2;go_wp2_with fail;clear c0 c1 c6 c7 c8 c9 d0 d1 d2 d3 d4 d5
         go_roundw
         case rel=>exact⟨k+1,_,_,by omega,by go_num,by rw[<-HST.o,HDR.o,HSP.o],HIN8.o⟩
         case measure=>simp[intOf]; omega
      ·have hfi: ¬(acc2.length:Int)<4096:=by omega
       have HFL:=aa hfull;clear hfull;go_wp2_with fail;go_ret;have h1:=HST.o;rw[HDR.o,ff,if_neg (fun h=>HFL.o h.2)]at h1;rw[<-h1];exact⟨rfl,v2,HIN4.o.box,HIN4.o.kp⟩
    ·have e2:dir.toList≠[]:=by rw[cA]; intro h; apply hde; rw[am,h]; rfl
     have e3:dir.toList.isEmpty=false:=by simpa using e2
     have hpi:fT dir it.name=dir++⟨#[47]⟩++it.name:=by unfold fT; rw[if_neg hde]
     go_wp2_with fail;rw[<-hpi];obtain⟨pt,hpt⟩: ∃pt,fT dir it.name=pt:=⟨_,rfl⟩;have HPI:=aa hpt;rw[hpt];clear hpt hpi;obtain⟨W,hW⟩: ∃W,W=(wr.alloc (.cells #[.string it.name, .int .i64 it.kind, .int .i64 it.mode, .int .i64 it.time, .int .i64 it.size, .string it.link, .slice ca it.chunks.length cc, .string it.node.name, .int .i64 it.node.gen, .int .i64 it.node.size] 28)).alloc (.cells #[.string (pt), .int .i64 it.kind, .int .i64 it.mode, .int .i64 it.time, .slice none 0 0, .string it.link] 79):=⟨_,rfl⟩
     rw[<-hW];have HWB:=aa (show Below wr.heap.size wr W by rw[hW]; exact(bH).alloc (by simp) _);have HX0:=aa (show W.heap[wr.heap.size]? =some (.cells #[.string it.name, .int .i64 it.kind, .int .i64 it.mode, .int .i64 it.time, .int .i64 it.size, .string it.link, .slice ca it.chunks.length cc, .string it.node.name, .int .i64 it.node.gen, .int .i64 it.node.size] 28 (0,0)) by rw[hW]; exact fD (bz wr _) _)
     have HY0:=aa (show W.heap[wr.heap.size+1]? =some (.cells #[.string (pt), .int .i64 it.kind, .int .i64 it.mode, .int .i64 it.time, .slice none 0 0, .string it.link] 79 (0,0)) by rw[hW]; exact jw wr _ _);have HIN3:=aa (HIN.o.below HWB.o HBZ.o);have HEW:=aa (show iV W from(HI.o.keepL (HIN3.o.kp.below) hB).env);clear hW q0 q1 q2 q3 q4 q5 q6 q7 q8 q9
     cases hval:bq (bl (pt))with
     | false=>
      have HVL:=aa hval;clear hval;refine(gM (pt) false W HEW.o HVL.o).mono ?_;rintro e w2 ⟨rfl,hb2⟩;have HIN4:=aa (HIN3.o.below hb2 (Nat.le_trans HBZ.o HWB.o.size));clear hb2;go_wp2_with fail;go_ret;have h1:=HST.o;rw[HDR.o,ff,if_neg (fun h=>by rw[HPI.o,HVL.o]at h; cases h.1)]at h1;rw[<-h1];exact⟨rfl,v2,HIN4.o.box,HIN4.o.kp⟩
     | true=>
      have HVL:=aa hval;clear hval;refine(gM (pt) true W HEW.o HVL.o).mono ?_;rintro e w2 ⟨rfl,hb2⟩;have HIN4:=aa (HIN3.o.below hb2 (Nat.le_trans HBZ.o HWB.o.size));have HX:=aa (br hb2 HX0.o);have HY:=aa (br hb2 HY0.o);have HBZ4:=aa (Nat.le_trans (Nat.le_trans HBZ.o HWB.o.size) hb2.size);have HRF4:=aa (show bw (fun k=>w.heap.size+1<=k/\k<w1.heap.size) w2 (.slice ca it.chunks.length cc) it.chunks from aU.below (aU.below HRF.o (by omega) HWB.o (fun _ _ _ h=>h)) (by omega) hb2 (fun _ _ _ h=>h))
      have HB2:=aa (HWB.o.trans (hb2.mono HWB.o.size));clear hb2 HX0 HY0;obtain⟨ys0,hys0,hrow0,-⟩:=HIN4.o.box.2;obtain⟨av0,cv0,hv0,hvn0,hvm0⟩:=ai hrow0;have hlen:ys0.length=acc2.length:=by rw[<-hys0,List.length_map]
      rw[hlen]at hv0 hvn0;have e0:=ag (k:=0) HIN4.o.box.1;simp only[List.getElem?_toArray,List.getElem?_cons_zero]at e0;rw[hv0]at e0;have c0:=ag (k:=0) HX.o;have c1:=ag (k:=1) HX.o;have c6:=ag (k:=6) HX.o;have c7:=ag (k:=7) HX.o;have c8:=ag (k:=8) HX.o;have c9:=ag (k:=9) HX.o;obtain⟨d0,d1,d2,d3,d4,d5,_⟩:=aj HY.o;simp only[Nat.zero_add,Nat.reduceAdd]at d1 d2 d3 d4 d5
      simp only[cr]at c0 c1 c6 c7 c8 c9;clear hys0 hrow0 hv0 hlen
      by_cases hfull:acc2.length<4096
      ·have hfi:(acc2.length:Int)<4096:=by omega
       have HFL:=aa hfull;clear hfull
       by_cases hk1:it.kind=1
       ·have e1:(it.kind == 1)=true:=by simp[hk1]
        have HK1:=aa hk1;have e2:(it.kind == 2)=false:=by simp[hk1]
        have hbf:=jE hk1 (by have h:=HVI.o; unfold ep at h; rw[Bool.and_eq_true]at h; exact h.2);have htw:=rS (l:=it.chunks) (by have:=HCL.o; omega) (fun r hr=>(hbf.2.2.1 r hr).1) _ (Nat.le_refl _);rw[List.take_length]at htw;have hfl:=pm (fun _=>True) cv (.slice ca it.chunks.length cc) cs it.chunks w2 (cM.wide (HI.o.keepL HIN4.o.kp.below hB).cont) (bw.same HRF4.o (fun k _ _=>⟨trivial,rfl⟩)) htw.1 (by rw[<-hbf.2.2.2.1]; exact hbf.2.2.2.2) (by have:=HCL.o; omega) (fun r hr=>(hbf.2.2.1 r hr).1)
        unfold uN at hfl;clear hk1 hbf htw
        cases hfp:jc cs it.chunks []with
        | error x=>
         rw[hfp]at hfl;have HFL2:=aa hfl;have HFP:=aa hfp;clear hfl hfp;go_wp2_with fail;refine HFL2.o.mono ?_;rintro e w5 ⟨hb5,rfl,hx⟩;have hx5:=br hb5 HX.o;have hy5:=br hb5 HY.o;have HY0:=aa hy5;have d4':=ag (k:=4) hy5;have f4':=ah (k:=4) hy5;simp only[cr]at d4';clear e0 c0 c1 c6 c7 c8 c9 d0 d1 d2 d3 d4 d5;go_wp2_with fail;obtain⟨W5,hW5⟩: ∃W5:World,W5=w5.setCell ⟨wr.heap.size+1,4,none⟩ (.slice none 0 0):=⟨_,rfl⟩
         rw[<-hW5];have HW5:=aa hW5;have HX5:=aa ((show W5.heap[wr.heap.size]? =w5.heap[wr.heap.size]? from by rw[hW5,Below.heap_setCell _ _ _ _ (by show wr.heap.size≠wr.heap.size+1; omega)]).trans hx5);have hy6:=dD (k:=4) hy5 (.slice none 0 0);simp only[List.setIfInBounds_toArray,List.set_cons_succ,List.set_cons_zero]at hy6;rw[<-hW5]at hy6;have HY5:=aa hy6;have HIN5:=aa (show pE w (w.heap.size+1) w1.heap.size base eb v (.slice (some ⟨b,o,none⟩) m cap1) l W5 v2 acc2 from HIN.o.below (by rw[hW5]; exact Below.setCell (HB2.o.trans (hb5.mono HB2.o.size)) (by show wr.heap.size<=wr.heap.size+1; omega) _) HBZ.o)
         have HBZ5:=aa (show base<=W5.heap.size from Nat.le_trans HBZ4.o (by rw[hW5]; have:=hb5.size; simpa [World.setCell]using this));clear hW5 hx5 hy5 hy6 d4' f4' HX HY hb5;have HX:=HX5;have HY:=HY5;clear HX5 HY5;have HDN:=aa (World.ownsRow_nil W5 base 5 1);have e4:(x != 0)=true:=by simp[hx]
         have HSP:=aa (uz (cs:=cs) (rec:=dM cs n) (r:=l.drop (k+1)) HPI.o HVL.o HFL.o HK1.o HFP.o hx);clear hx;obtain⟨ys,hys,hrow,hdat⟩:=HIN5.o.box.2;obtain⟨av,cv2,hv2,hvn,hvm⟩:=ai hrow;have HBX5:=aa HIN5.o.box.1;have HROW5:=aa hrow;have HDAT5:=aa hdat
         have HYS:=aa hys;subst hv2;clear hys hrow hdat
         obtain⟨W6,hW6⟩: ∃W6:World,W6=(W5).drew:=⟨_,rfl⟩;have hb6:Below (W5).heap.size (W5) W6:=by rw[hW6]; exact(Below.refl _ _).drew
         have HB6:=aa hb6;have HX6:=aa (br hb6 HX.o);have HY6:=aa (br hb6 HY.o);have HBX6:=aa (br hb6 HBX5.o);have HROW6:=aa (aQ HROW5.o hb6);have HDAT6:=aa (fun y hy=>aQ (HDAT5.o y hy) hb6);have HDV6:=aa (aQ (HDN).out hb6);have HIN6:=aa (HIN5.o.below hb6 HBZ5.o);have hbz6:=Nat.le_trans HBZ5.o hb6.size;have HBZ6:=aa hbz6;clear hb6 HX HY HIN5 HBX5 HROW5 HDAT5
         have hS1:=ag (k:=0) HBX6.o;obtain⟨d0,d1,d2,d3,d4,d5,_⟩:=aj HY6.o;simp only[Nat.zero_add,Nat.reduceAdd]at d1 d2 d3 d4 d5;have f1:=ah (k:=0) HBX6.o;simp only[cr]at hS1;refine bN (fun w'=>w'.cell? ⟨eb,0,none⟩=some (.slice av ys.length cv2)/\w'.cell? ⟨wr.heap.size+1,0,none⟩=some (.string (pt))/\w'.cell? ⟨wr.heap.size+1,1,none⟩=some (.int .i64 it.kind)/\w'.cell? ⟨wr.heap.size+1,2,none⟩=some (.int .i64 it.mode)/\w'.cell? ⟨wr.heap.size+1,3,none⟩=some (.int .i64 it.time)/\w'.cell? ⟨wr.heap.size+1,4,none⟩=some (.slice none 0 0)/\w'.cell? ⟨wr.heap.size+1,5,none⟩=some (.string it.link)) (by kernel_rfl) (by kernel_rfl) ?_
         simp only[List.dropLast_cons_cons,List.dropLast_singleton,List.length_cons,List.length_nil,Nat.reduceAdd,Nat.reduceSub];rw[<-hW6];clear hW6
         iterate 5 (refine aJ rfl (by kernel_rfl) (fun _ _ _ h=>h) rfl ⟨hS1,d0,d1,d2,d3,d4,d5⟩ (by rintro w' ⟨hw1,hw2,hw3,hw4,hw5,hw6,hw7⟩; go_simp; rfl) ?_; simp only[Act.put,aZ,bg,bh])
         have hltb:eb<W6.heap.size:=lt_of_block HBX6.o;have hlty:wr.heap.size+1<W6.heap.size:=lt_of_block HY6.o;have HAL:=aa ((Below.refl W6.heap.size W6).alloc (Nat.le_refl _) (.cells #[.string (pt), .int .i64 it.kind, .int .i64 it.mode, .int .i64 it.time, .slice none 0 0, .string it.link] 79));have hS2:=And.intro ((HAL.o.cell (p:=⟨eb,0,none⟩) hltb).trans hS1) (And.intro ((HAL.o.cell (p:=⟨wr.heap.size+1,0,none⟩) hlty).trans d0) (And.intro ((HAL.o.cell (p:=⟨wr.heap.size+1,1,none⟩) hlty).trans d1) (And.intro ((HAL.o.cell (p:=⟨wr.heap.size+1,2,none⟩) hlty).trans d2) (And.intro ((HAL.o.cell (p:=⟨wr.heap.size+1,3,none⟩) hlty).trans d3) (And.intro ((HAL.o.cell (p:=⟨wr.heap.size+1,4,none⟩) hlty).trans d4) ((HAL.o.cell (p:=⟨wr.heap.size+1,5,none⟩) hlty).trans d5))))))
         have HS2:=aa hS2;clear hS2;refine an 5 rfl (by kernel_rfl) rfl (fun K hK=> ?_);go_wp2_with fail
         (first | (refine⟨HS2.o, ?_⟩) | skip)
         refine an 6 rfl (by kernel_rfl) rfl (fun K hK=> ?_);have hyl:ys.length<4096:=by have h1:=HFL.o; rw[<-HYS.o,List.length_map]at h1; exact h1
         go_wp2_with (at_builtin; go_must (refine aA Tryz.appEnts rfl _ _ rfl base (.slice av ys.length cv2) ys.length (dJ ys) rfl W6 [.string (pt), .int .i64 it.kind, .int .i64 it.mode, .int .i64 it.time, .slice none 0 0, .string it.link] _ rfl rfl (fo (e:=⟨pt,it.kind,it.mode,it.time,[],it.link⟩)) HROW6.o (by omega) (by omega) ?_); intro v' wc hown' hgrow' _ hpl; obtain⟨ae,ce,rfl,-,-⟩:=ai hown')
         have hneb:(Value.slice av ys.length cv2).ownBlock≠some eb:=fun e=>by
          obtain⟨cs,hc⟩:=au HROW6.o e;exact absurd (aC HBX6.o hc) (by decide)
         have hlow: ∀i,(Value.slice av ys.length cv2).ownBlock=some i->i<wr.heap.size:=fun i e=>by
          obtain⟨_,ys',_,hr',_⟩:=HIN.o.box;exact(hr'.lt _ e).2
         have hney:(Value.slice av ys.length cv2).ownBlock≠some (wr.heap.size+1):=fun e=>by have:=hlow _ e; omega
         have hnex:(Value.slice av ys.length cv2).ownBlock≠some wr.heap.size:=fun e=>by have:=hlow _ e; omega
         have hbx7:=(hgrow'.block eb hltb (fun e=>hneb e.symm)).trans HBX6.o;have hy7:=(hgrow'.block (wr.heap.size+1) hlty (fun e=>hney e.symm)).trans HY6.o;have hx7:=(hgrow'.block wr.heap.size (lt_of_block HX6.o) (fun e=>hnex e.symm)).trans HX6.o;have hpush:=fB.push (e:=⟨pt,it.kind,it.mode,it.time,[],it.link⟩) HBX6.o HROW6.o HDAT6.o HDV6.o hown' hgrow' hpl hbe HBZ6.o;rw[HYS.o]at hpush
         have HIN8:=aa (HIN6.o.step hpush.1 hpush.2);have HX8:=aa ((Below.heap_setCell wc ⟨eb,0,none⟩ (.slice ae (ys.length+1) ce) wr.heap.size (by show wr.heap.size≠eb; have:=HIN.o.lo; have:=HIN.o.ord; omega)).trans hx7);have HY8:=aa ((Below.heap_setCell wc ⟨eb,0,none⟩ (.slice ae (ys.length+1) ce) (wr.heap.size+1) (by show wr.heap.size+1≠eb; have:=HIN.o.lo; have:=HIN.o.ord; omega)).trans hy7)
         have c0':=ag (k:=0) hbx7;have f0':=ah (k:=0) hbx7;obtain⟨y0,y1,y2,y3,y4,y5,_⟩:=aj hy7;simp only[Nat.zero_add,Nat.reduceAdd]at y1 y2 y3 y4 y5;simp only[cr]at c0';clear hown' hgrow' hpl hpush hneb hney hnex hlow hS1 d0 d1 d2 d3 d4 d5 f1 hbx7 hy7 hx7;refine⟨⟨c0',y0,y1,y2,y3,y4,y5⟩, ?_⟩;refine aJ rfl (by kernel_rfl) (fun _ _ _ h=>h) rfl ⟨c0',y0,y1,y2,y3,y4,y5⟩ (by rintro w' ⟨hw1,hw2,hw3,hw4,hw5,hw6,hw7⟩; go_simp; rfl) ?_
         simp only[Act.put,aZ,bg,bh];refine aM (by kernel_rfl) ?_;refine bX rfl rfl (fun K hK=> ?_)
         go_upto_region 16 with(fail)
         obtain⟨W8,hW8⟩: ∃W8:World,W8=wc.setCell ⟨eb,0,none⟩ (.slice ae (ys.length+1) ce):=⟨_,rfl⟩;rw[<-hW8]at HIN8 HX8 HY8 ⊢;clear hW8 c0' f0' y0 y1 y2 y3 y4 y5;have HX:=HX8;have HY:=HY8;clear HX8 HY8;have c0:=ag (k:=0) HX.o;have c1:=ag (k:=1) HX.o;have c6:=ag (k:=6) HX.o;have c7:=ag (k:=7) HX.o;have c8:=ag (k:=8) HX.o;have c9:=ag (k:=9) HX.o
         obtain⟨d0,d1,d2,d3,d4,d5,_⟩:=aj HY.o;simp only[Nat.zero_add,Nat.reduceAdd]at d1 d2 d3 d4 d5;simp only[cr]at c0 c1 c6 c7 c8 c9;go_wp2_with fail;go_ret;rw[<-HST.o,HDR.o,HSP.o];exact⟨rfl,_,HIN8.o.box,HIN8.o.kp⟩
        | ok bs=>
         rw[hfp]at hfl;have HFL2:=aa hfl;have HFP:=aa hfp;clear hfl hfp;go_wp2_with fail;refine HFL2.o.mono ?_;rintro e w5 ⟨hb5,v5,rfl,ho5⟩;obtain⟨a5,c5,rfl,-,-⟩:=ai ho5;have HO5:=aa ho5;clear ho5;have hx5:=br hb5 HX.o;have hy5:=br hb5 HY.o;have HY0:=aa hy5;have d4':=ag (k:=4) hy5;have f4':=ah (k:=4) hy5;simp only[cr]at d4';clear e0 c0 c1 c6 c7 c8 c9 d0 d1 d2 d3 d4 d5
         go_wp2_with fail;obtain⟨W5,hW5⟩: ∃W5:World,W5=w5.setCell ⟨wr.heap.size+1,4,none⟩ (.slice a5 bs.length c5):=⟨_,rfl⟩;rw[<-hW5];have HW5:=aa hW5;have HX5:=aa ((show W5.heap[wr.heap.size]? =w5.heap[wr.heap.size]? from by rw[hW5,Below.heap_setCell _ _ _ _ (by show wr.heap.size≠wr.heap.size+1; omega)]).trans hx5);have hy6:=dD (k:=4) hy5 (.slice a5 bs.length c5)
         simp only[List.setIfInBounds_toArray,List.set_cons_succ,List.set_cons_zero]at hy6;rw[<-hW5]at hy6;have HY5:=aa hy6;have HIN5:=aa (show pE w (w.heap.size+1) w1.heap.size base eb v (.slice (some ⟨b,o,none⟩) m cap1) l W5 v2 acc2 from HIN.o.below (by rw[hW5]; exact Below.setCell (HB2.o.trans (hb5.mono HB2.o.size)) (by show wr.heap.size<=wr.heap.size+1; omega) _) HBZ.o);have HBZ5:=aa (show base<=W5.heap.size from Nat.le_trans HBZ4.o (by rw[hW5]; have:=hb5.size; simpa [World.setCell]using this))
         clear hW5 hx5 hy5 hy6 d4' f4' HX HY hb5;have HX:=HX5;have HY:=HY5;clear HX5 HY5;have HDN:=aa (show W5.ownsRow base 5 1 (.slice a5 bs.length c5) bs.length (bs.map ak)from by
          rw[HW5.o];refine(cK HO5.o HBZ4.o).kept (aN w5 _ _ _) (.inr (fun e=> ?_));obtain⟨cs2,hc2⟩:=au HO5.o e;exact absurd (aC HY0.o hc2) (by decide))
         have HSP:=aa (mU (cs:=cs) (rec:=dM cs n) (r:=l.drop (k+1)) HPI.o HVL.o HFL.o HK1.o HFP.o);obtain⟨ys,hys,hrow,hdat⟩:=HIN5.o.box.2;obtain⟨av,cv2,hv2,hvn,hvm⟩:=ai hrow;have HBX5:=aa HIN5.o.box.1;have HROW5:=aa hrow;have HDAT5:=aa hdat
         have HYS:=aa hys;subst hv2;clear hys hrow hdat
         obtain⟨W6,hW6⟩: ∃W6:World,W6=(W5).drew:=⟨_,rfl⟩;have hb6:Below (W5).heap.size (W5) W6:=by rw[hW6]; exact(Below.refl _ _).drew
         have HB6:=aa hb6;have HX6:=aa (br hb6 HX.o);have HY6:=aa (br hb6 HY.o);have HBX6:=aa (br hb6 HBX5.o);have HROW6:=aa (aQ HROW5.o hb6);have HDAT6:=aa (fun y hy=>aQ (HDAT5.o y hy) hb6);have HDV6:=aa (aQ (HDN).out hb6);have HIN6:=aa (HIN5.o.below hb6 HBZ5.o);have hbz6:=Nat.le_trans HBZ5.o hb6.size;have HBZ6:=aa hbz6;clear hb6 HX HY HIN5 HBX5 HROW5 HDAT5
         have hS1:=ag (k:=0) HBX6.o;obtain⟨d0,d1,d2,d3,d4,d5,_⟩:=aj HY6.o;simp only[Nat.zero_add,Nat.reduceAdd]at d1 d2 d3 d4 d5;have f1:=ah (k:=0) HBX6.o;simp only[cr]at hS1;refine bN (fun w'=>w'.cell? ⟨eb,0,none⟩=some (.slice av ys.length cv2)/\w'.cell? ⟨wr.heap.size+1,0,none⟩=some (.string (pt))/\w'.cell? ⟨wr.heap.size+1,1,none⟩=some (.int .i64 it.kind)/\w'.cell? ⟨wr.heap.size+1,2,none⟩=some (.int .i64 it.mode)/\w'.cell? ⟨wr.heap.size+1,3,none⟩=some (.int .i64 it.time)/\w'.cell? ⟨wr.heap.size+1,4,none⟩=some (.slice a5 bs.length c5)/\w'.cell? ⟨wr.heap.size+1,5,none⟩=some (.string it.link)) (by kernel_rfl) (by kernel_rfl) ?_
         simp only[List.dropLast_cons_cons,List.dropLast_singleton,List.length_cons,List.length_nil,Nat.reduceAdd,Nat.reduceSub];rw[<-hW6];clear hW6
         iterate 5 (refine aJ rfl (by kernel_rfl) (fun _ _ _ h=>h) rfl ⟨hS1,d0,d1,d2,d3,d4,d5⟩ (by rintro w' ⟨hw1,hw2,hw3,hw4,hw5,hw6,hw7⟩; go_simp; rfl) ?_; simp only[Act.put,aZ,bg,bh])
         have hltb:eb<W6.heap.size:=lt_of_block HBX6.o;have hlty:wr.heap.size+1<W6.heap.size:=lt_of_block HY6.o;have HAL:=aa ((Below.refl W6.heap.size W6).alloc (Nat.le_refl _) (.cells #[.string (pt), .int .i64 it.kind, .int .i64 it.mode, .int .i64 it.time, .slice a5 bs.length c5, .string it.link] 79));have hS2:=And.intro ((HAL.o.cell (p:=⟨eb,0,none⟩) hltb).trans hS1) (And.intro ((HAL.o.cell (p:=⟨wr.heap.size+1,0,none⟩) hlty).trans d0) (And.intro ((HAL.o.cell (p:=⟨wr.heap.size+1,1,none⟩) hlty).trans d1) (And.intro ((HAL.o.cell (p:=⟨wr.heap.size+1,2,none⟩) hlty).trans d2) (And.intro ((HAL.o.cell (p:=⟨wr.heap.size+1,3,none⟩) hlty).trans d3) (And.intro ((HAL.o.cell (p:=⟨wr.heap.size+1,4,none⟩) hlty).trans d4) ((HAL.o.cell (p:=⟨wr.heap.size+1,5,none⟩) hlty).trans d5))))))
         have HS2:=aa hS2;clear hS2;refine an 5 rfl (by kernel_rfl) rfl (fun K hK=> ?_);go_wp2_with fail
         (first | (refine⟨HS2.o, ?_⟩) | skip)
         refine an 6 rfl (by kernel_rfl) rfl (fun K hK=> ?_);have hyl:ys.length<4096:=by have h1:=HFL.o; rw[<-HYS.o,List.length_map]at h1; exact h1
         go_wp2_with (at_builtin; go_must (refine aA Tryz.appEnts rfl _ _ rfl base (.slice av ys.length cv2) ys.length (dJ ys) rfl W6 [.string (pt), .int .i64 it.kind, .int .i64 it.mode, .int .i64 it.time, .slice a5 bs.length c5, .string it.link] _ rfl rfl (fo (e:=⟨pt,it.kind,it.mode,it.time,bs,it.link⟩)) HROW6.o (by omega) (by omega) ?_); intro v' wc hown' hgrow' _ hpl; obtain⟨ae,ce,rfl,-,-⟩:=ai hown')
         have hneb:(Value.slice av ys.length cv2).ownBlock≠some eb:=fun e=>by
          obtain⟨cs,hc⟩:=au HROW6.o e;exact absurd (aC HBX6.o hc) (by decide)
         have hlow: ∀i,(Value.slice av ys.length cv2).ownBlock=some i->i<wr.heap.size:=fun i e=>by
          obtain⟨_,ys',_,hr',_⟩:=HIN.o.box;exact(hr'.lt _ e).2
         have hney:(Value.slice av ys.length cv2).ownBlock≠some (wr.heap.size+1):=fun e=>by have:=hlow _ e; omega
         have hnex:(Value.slice av ys.length cv2).ownBlock≠some wr.heap.size:=fun e=>by have:=hlow _ e; omega
         have hbx7:=(hgrow'.block eb hltb (fun e=>hneb e.symm)).trans HBX6.o;have hy7:=(hgrow'.block (wr.heap.size+1) hlty (fun e=>hney e.symm)).trans HY6.o;have hx7:=(hgrow'.block wr.heap.size (lt_of_block HX6.o) (fun e=>hnex e.symm)).trans HX6.o;have hpush:=fB.push (e:=⟨pt,it.kind,it.mode,it.time,bs,it.link⟩) HBX6.o HROW6.o HDAT6.o HDV6.o hown' hgrow' hpl hbe HBZ6.o;rw[HYS.o]at hpush
         have HIN8:=aa (HIN6.o.step hpush.1 hpush.2);have HX8:=aa ((Below.heap_setCell wc ⟨eb,0,none⟩ (.slice ae (ys.length+1) ce) wr.heap.size (by show wr.heap.size≠eb; have:=HIN.o.lo; have:=HIN.o.ord; omega)).trans hx7);have HY8:=aa ((Below.heap_setCell wc ⟨eb,0,none⟩ (.slice ae (ys.length+1) ce) (wr.heap.size+1) (by show wr.heap.size+1≠eb; have:=HIN.o.lo; have:=HIN.o.ord; omega)).trans hy7)
         have c0':=ag (k:=0) hbx7;have f0':=ah (k:=0) hbx7;obtain⟨y0,y1,y2,y3,y4,y5,_⟩:=aj hy7;simp only[Nat.zero_add,Nat.reduceAdd]at y1 y2 y3 y4 y5;simp only[cr]at c0';clear hown' hgrow' hpl hpush hneb hney hnex hlow hS1 d0 d1 d2 d3 d4 d5 f1 hbx7 hy7 hx7;refine⟨⟨c0',y0,y1,y2,y3,y4,y5⟩, ?_⟩;refine aJ rfl (by kernel_rfl) (fun _ _ _ h=>h) rfl ⟨c0',y0,y1,y2,y3,y4,y5⟩ (by rintro w' ⟨hw1,hw2,hw3,hw4,hw5,hw6,hw7⟩; go_simp; rfl) ?_
         simp only[Act.put,aZ,bg,bh];refine aM (by kernel_rfl) ?_;refine bX rfl rfl (fun K hK=> ?_)
         go_upto_region 16 with(fail)
         obtain⟨W8,hW8⟩: ∃W8:World,W8=wc.setCell ⟨eb,0,none⟩ (.slice ae (ys.length+1) ce):=⟨_,rfl⟩;rw[<-hW8]at HIN8 HX8 HY8 ⊢;clear hW8 c0' f0' y0 y1 y2 y3 y4 y5;have HX:=HX8;have HY:=HY8;clear HX8 HY8;have c0:=ag (k:=0) HX.o;have c1:=ag (k:=1) HX.o;have c6:=ag (k:=6) HX.o;have c7:=ag (k:=7) HX.o;have c8:=ag (k:=8) HX.o;have c9:=ag (k:=9) HX.o
         obtain⟨d0,d1,d2,d3,d4,d5,_⟩:=aj HY.o;simp only[Nat.zero_add,Nat.reduceAdd]at d1 d2 d3 d4 d5;simp only[cr]at c0 c1 c6 c7 c8 c9;go_wp2_with fail;clear c0 c1 c6 c7 c8 c9 d0 d1 d2 d3 d4 d5
         go_roundw
         case rel=>exact⟨k+1,_,_,by omega,by go_num,by rw[<-HST.o,HDR.o,HSP.o],HIN8.o⟩
         case measure=>simp[intOf]; omega
       ·have e1:(it.kind == 1)=false:=by simp[hk1]
        have HK1:=aa hk1;clear hk1;have HIN5:=HIN4;have HBZ5:=HBZ4;have HDN:=aa (World.ownsRow_nil w2 base 5 1);go_wp2_with fail;clear e0 c0 c1 c6 c7 c8 c9 d0 d1 d2 d3 d4 d5;obtain⟨ys,hys,hrow,hdat⟩:=HIN5.o.box.2;obtain⟨av,cv2,hv2,hvn,hvm⟩:=ai hrow;have HBX5:=aa HIN5.o.box.1;have HROW5:=aa hrow;have HDAT5:=aa hdat
        have HYS:=aa hys;subst hv2;clear hys hrow hdat
        obtain⟨W6,hW6⟩: ∃W6:World,W6=(w2).drew:=⟨_,rfl⟩;have hb6:Below (w2).heap.size (w2) W6:=by rw[hW6]; exact(Below.refl _ _).drew
        have HB6:=aa hb6;have HX6:=aa (br hb6 HX.o);have HY6:=aa (br hb6 HY.o);have HBX6:=aa (br hb6 HBX5.o);have HROW6:=aa (aQ HROW5.o hb6);have HDAT6:=aa (fun y hy=>aQ (HDAT5.o y hy) hb6);have HDV6:=aa (aQ (HDN).out hb6);have HIN6:=aa (HIN5.o.below hb6 HBZ5.o);have hbz6:=Nat.le_trans HBZ5.o hb6.size;have HBZ6:=aa hbz6;clear hb6 HX HY HIN5 HBX5 HROW5 HDAT5
        have hS1:=ag (k:=0) HBX6.o;obtain⟨d0,d1,d2,d3,d4,d5,_⟩:=aj HY6.o;simp only[Nat.zero_add,Nat.reduceAdd]at d1 d2 d3 d4 d5;have f1:=ah (k:=0) HBX6.o;simp only[cr]at hS1;refine bN (fun w'=>w'.cell? ⟨eb,0,none⟩=some (.slice av ys.length cv2)/\w'.cell? ⟨wr.heap.size+1,0,none⟩=some (.string (pt))/\w'.cell? ⟨wr.heap.size+1,1,none⟩=some (.int .i64 it.kind)/\w'.cell? ⟨wr.heap.size+1,2,none⟩=some (.int .i64 it.mode)/\w'.cell? ⟨wr.heap.size+1,3,none⟩=some (.int .i64 it.time)/\w'.cell? ⟨wr.heap.size+1,4,none⟩=some (.slice none 0 0)/\w'.cell? ⟨wr.heap.size+1,5,none⟩=some (.string it.link)) (by kernel_rfl) (by kernel_rfl) ?_
        simp only[List.dropLast_cons_cons,List.dropLast_singleton,List.length_cons,List.length_nil,Nat.reduceAdd,Nat.reduceSub];rw[<-hW6];clear hW6
        iterate 5 (refine aJ rfl (by kernel_rfl) (fun _ _ _ h=>h) rfl ⟨hS1,d0,d1,d2,d3,d4,d5⟩ (by rintro w' ⟨hw1,hw2,hw3,hw4,hw5,hw6,hw7⟩; go_simp; rfl) ?_; simp only[Act.put,aZ,bg,bh])
        have hltb:eb<W6.heap.size:=lt_of_block HBX6.o;have hlty:wr.heap.size+1<W6.heap.size:=lt_of_block HY6.o;have HAL:=aa ((Below.refl W6.heap.size W6).alloc (Nat.le_refl _) (.cells #[.string (pt), .int .i64 it.kind, .int .i64 it.mode, .int .i64 it.time, .slice none 0 0, .string it.link] 79));have hS2:=And.intro ((HAL.o.cell (p:=⟨eb,0,none⟩) hltb).trans hS1) (And.intro ((HAL.o.cell (p:=⟨wr.heap.size+1,0,none⟩) hlty).trans d0) (And.intro ((HAL.o.cell (p:=⟨wr.heap.size+1,1,none⟩) hlty).trans d1) (And.intro ((HAL.o.cell (p:=⟨wr.heap.size+1,2,none⟩) hlty).trans d2) (And.intro ((HAL.o.cell (p:=⟨wr.heap.size+1,3,none⟩) hlty).trans d3) (And.intro ((HAL.o.cell (p:=⟨wr.heap.size+1,4,none⟩) hlty).trans d4) ((HAL.o.cell (p:=⟨wr.heap.size+1,5,none⟩) hlty).trans d5))))))
        have HS2:=aa hS2;clear hS2;refine an 5 rfl (by kernel_rfl) rfl (fun K hK=> ?_);go_wp2_with fail
        (first | (refine⟨HS2.o, ?_⟩) | skip)
        refine an 6 rfl (by kernel_rfl) rfl (fun K hK=> ?_);have hyl:ys.length<4096:=by have h1:=HFL.o; rw[<-HYS.o,List.length_map]at h1; exact h1
        go_wp2_with (at_builtin; go_must (refine aA Tryz.appEnts rfl _ _ rfl base (.slice av ys.length cv2) ys.length (dJ ys) rfl W6 [.string (pt), .int .i64 it.kind, .int .i64 it.mode, .int .i64 it.time, .slice none 0 0, .string it.link] _ rfl rfl (fo (e:=⟨pt,it.kind,it.mode,it.time,[],it.link⟩)) HROW6.o (by omega) (by omega) ?_); intro v' wc hown' hgrow' _ hpl; obtain⟨ae,ce,rfl,-,-⟩:=ai hown')
        have hneb:(Value.slice av ys.length cv2).ownBlock≠some eb:=fun e=>by
         obtain⟨cs,hc⟩:=au HROW6.o e;exact absurd (aC HBX6.o hc) (by decide)
        have hlow: ∀i,(Value.slice av ys.length cv2).ownBlock=some i->i<wr.heap.size:=fun i e=>by
         obtain⟨_,ys',_,hr',_⟩:=HIN.o.box;exact(hr'.lt _ e).2
        have hney:(Value.slice av ys.length cv2).ownBlock≠some (wr.heap.size+1):=fun e=>by have:=hlow _ e; omega
        have hnex:(Value.slice av ys.length cv2).ownBlock≠some wr.heap.size:=fun e=>by have:=hlow _ e; omega
        have hbx7:=(hgrow'.block eb hltb (fun e=>hneb e.symm)).trans HBX6.o;have hy7:=(hgrow'.block (wr.heap.size+1) hlty (fun e=>hney e.symm)).trans HY6.o;have hx7:=(hgrow'.block wr.heap.size (lt_of_block HX6.o) (fun e=>hnex e.symm)).trans HX6.o;have hpush:=fB.push (e:=⟨pt,it.kind,it.mode,it.time,[],it.link⟩) HBX6.o HROW6.o HDAT6.o HDV6.o hown' hgrow' hpl hbe HBZ6.o;rw[HYS.o]at hpush
        have HIN8:=aa (HIN6.o.step hpush.1 hpush.2);have HX8:=aa ((Below.heap_setCell wc ⟨eb,0,none⟩ (.slice ae (ys.length+1) ce) wr.heap.size (by show wr.heap.size≠eb; have:=HIN.o.lo; have:=HIN.o.ord; omega)).trans hx7);have HY8:=aa ((Below.heap_setCell wc ⟨eb,0,none⟩ (.slice ae (ys.length+1) ce) (wr.heap.size+1) (by show wr.heap.size+1≠eb; have:=HIN.o.lo; have:=HIN.o.ord; omega)).trans hy7)
        have c0':=ag (k:=0) hbx7;have f0':=ah (k:=0) hbx7;obtain⟨y0,y1,y2,y3,y4,y5,_⟩:=aj hy7;simp only[Nat.zero_add,Nat.reduceAdd]at y1 y2 y3 y4 y5;simp only[cr]at c0';clear hown' hgrow' hpl hpush hneb hney hnex hlow hS1 d0 d1 d2 d3 d4 d5 f1 hbx7 hy7 hx7;refine⟨⟨c0',y0,y1,y2,y3,y4,y5⟩, ?_⟩;refine aJ rfl (by kernel_rfl) (fun _ _ _ h=>h) rfl ⟨c0',y0,y1,y2,y3,y4,y5⟩ (by rintro w' ⟨hw1,hw2,hw3,hw4,hw5,hw6,hw7⟩; go_simp; rfl) ?_
        simp only[Act.put,aZ,bg,bh];refine aM (by kernel_rfl) ?_;refine bX rfl rfl (fun K hK=> ?_)
        go_upto_region 16 with(fail)
        obtain⟨W8,hW8⟩: ∃W8:World,W8=wc.setCell ⟨eb,0,none⟩ (.slice ae (ys.length+1) ce):=⟨_,rfl⟩;rw[<-hW8]at HIN8 HX8 HY8 ⊢;clear hW8 c0' f0' y0 y1 y2 y3 y4 y5;have HX:=HX8;have HY:=HY8;clear HX8 HY8;have c0:=ag (k:=0) HX.o;have c1:=ag (k:=1) HX.o;have c6:=ag (k:=6) HX.o;have c7:=ag (k:=7) HX.o;have c8:=ag (k:=8) HX.o;have c9:=ag (k:=9) HX.o
        obtain⟨d0,d1,d2,d3,d4,d5,_⟩:=aj HY.o;simp only[Nat.zero_add,Nat.reduceAdd]at d1 d2 d3 d4 d5;simp only[cr]at c0 c1 c6 c7 c8 c9
        by_cases hk2:it.kind=2
        ·have e2:(it.kind == 2)=true:=by simp[hk2]
         have hrec:=HIH.o (pt) it.node (acc2++[⟨pt,it.kind,it.mode,it.time,[],it.link⟩]) base eb _ W8 (by have h1:=pu dir it.name hnp; rw[HPI.o]at h1; omega) (.inr HVL.o) HIN8.o.box HO.o.nd (HI.o.keepL HIN8.o.kp.below hB) hB hbe (Nat.le_trans hbase HIN8.o.kp.below.size);have HSP:=aa (oJ (cs:=cs) (rec:=dM cs n) (r:=l.drop (k+1)) HPI.o HVL.o HFL.o hk2);obtain⟨q,hq⟩: ∃q,q=dM cs n (pt) it.node (acc2++[⟨pt,it.kind,it.mode,it.time,[],it.link⟩]):=⟨_,rfl⟩
         rw[<-hq]at hrec HSP;have HREC:=aa hrec;clear hrec hq hk2;go_wp2_with fail;refine HREC.o.mono ?_;rintro e w9 ⟨rfl,v9,hbx9,hkp9⟩;have HIN9:=aa (HIN8.o.step hbx9 hkp9);clear hbx9 hkp9 c0 c1 c6 c7 c8 c9 d0 d1 d2 d3 d4 d5
         by_cases hx:q.1=0
         ·have e3:(q.1 != 0)=false:=by simp[hx]
          have HQX:=aa hx;clear hx;go_wp2_with fail
          go_roundw
          case rel=>exact⟨k+1,v9,q.2,by omega,by go_num,by rw[<-HST.o,HDR.o,HSP.o,if_pos HQX.o],HIN9.o⟩
          case measure=>simp[intOf]; omega
         ·have e3:(q.1 != 0)=true:=by simp[hx]
          have HQX:=aa hx;clear hx;go_wp2_with fail;go_ret;rw[<-HST.o,HDR.o,HSP.o,if_neg HQX.o];exact⟨rfl,v9,HIN9.o.box,HIN9.o.kp⟩
        ·have e2:(it.kind == 2)=false:=by simp[hk2]
         have HSP:=aa (rO (cs:=cs) (rec:=dM cs n) (r:=l.drop (k+1)) HPI.o HVL.o HFL.o hk2 HK1.o);clear hk2;go_wp2_with fail;clear c0 c1 c6 c7 c8 c9 d0 d1 d2 d3 d4 d5
         go_roundw
         case rel=>exact⟨k+1,_,_,by omega,by go_num,by rw[<-HST.o,HDR.o,HSP.o],HIN8.o⟩
         case measure=>simp[intOf]; omega
      ·have hfi: ¬(acc2.length:Int)<4096:=by omega
       have HFL:=aa hfull;clear hfull;go_wp2_with fail;go_ret;have h1:=HST.o;rw[HDR.o,ff,if_neg (fun h=>HFL.o h.2)]at h1;rw[<-h1];exact⟨rfl,v2,HIN4.o.box,HIN4.o.kp⟩
   ·have hk2:k=m:=by omega
    subst hk2;go_wp2_with fail;go_ret;have h1:=HST.o;rw[HM.o,List.drop_length,ff]at h1;rw[<-h1];exact⟨rfl,v2,HIN.o.box,HIN.o.kp⟩
theorem xu (cs:List (ByteArray×List UInt8)) (cv:Value) (B:Nat): ∀n,AM cs cv B n
 | 0=>CJ cs cv B
 | n+1=>CI cs cv B n (xu cs cv B n)
def AJ (B:Nat) (w:World) (v:Value) (acc:List bo):Prop:= ∃ys:List jX,ys.map Prod.snd=acc/\w.ownsRow B 79 6 v ys.length (dJ ys)/\ ∀y∈ys,w.ownsRow B 5 1 y.1 y.2.data.length (y.2.data.map ak)
def Gw (cs:List (ByteArray×List UInt8)) (root:aV) (w:World) (e:Ending) (w':World):Prop:=Below w.heap.size w w'/\match pp cs root with
 | .error x=>e= .returned (.tuple #[.slice none 0 0, .int .i64 x])/\x≠0
 | .ok l=> ∃v,e= .returned (.tuple #[v, .int .i64 0])/\AJ w.heap.size w' v l
theorem xz (S:Nat->Prop) (cv:Value) (cs:List (ByteArray×List UInt8)) (root:aV) (w:World) (hc:cM S w cv cs) (henv:iV w) (hr:bK root):Calls Tryz.prog 25 #[bU root,cv] w (Gw cs root w):=by
 have HB0:=aa ((Below.refl w.heap.size w).alloc (Nat.le_refl _) (.cells #[.string root.name, .int .i64 root.gen, .int .i64 root.size] 26));have HX0:=aa (bz w (.cells #[.string root.name, .int .i64 root.gen, .int .i64 root.size] 26));have HI:=aa (fP.start (hc.below HB0.o) (henv.below HB0.o));have HR:=aa hr;unfold bU;clear hc henv hr
 cases hv:gL root
 ·have HVR:=aa hv;have HM:=aa (show pp cs root= .error 1 by unfold pp; rw[if_neg (by rw[hv]; simp)]);clear hv
  go_enter Tryz.func25,Tryz.ntmps25
  go_wp2_with fail;refine(dN root false _ HR.o HVR.o).mono ?_;rintro e w1 ⟨rfl,hb1⟩;have HB1:=aa (ab HB0.o hb1);clear hb1;go_wp2_with fail
  go_ret2
  exact⟨HB1.o,by rw[HM.o]; exact⟨rfl,by decide⟩⟩
 ·have HVR:=aa hv;obtain⟨q,hq⟩: ∃q,q=dM cs 514 ⟨#[]⟩ root []:=⟨_,rfl⟩;have HM:=aa (show pp cs root=if q.1=0 then .ok q.2 else .error q.1 by unfold pp; rw[if_pos hv,hq]);have HQ:=aa hq;clear hv hq
  go_enter Tryz.func25,Tryz.ntmps25
  go_wp2_with fail;refine(dN root true _ HR.o HVR.o).mono ?_;rintro e w1 ⟨rfl,hb1⟩;have HB1:=aa (ab HB0.o hb1);have hx1:=br hb1 HX0.o;have HX1:=aa hx1;have hz1:=lt_of_block hx1;have hi1:=fP.keepL (base:=w1.heap.size) (HI.o.keepL hb1 (Nat.le_refl _)) ((Below.refl w1.heap.size w1).alloc (Nat.le_refl _) (.cells #[.slice none 0 0] 46)) hb1.size;have hld:=xu cs cv _ 514 ⟨#[]⟩ root [] w1.heap.size w1.heap.size (.slice none 0 0) (w1.alloc (.cells #[.slice none 0 0] 46)) (by simp) (.inl rfl)
   ⟨bz w1 _,[],rfl,World.ownsRow_nil _ _ _ _,by simp⟩ HR.o hi1 hb1.size (Nat.le_refl _) (by simp)
  rw[<-HQ.o]at hld;have HLD:=aa hld;unfold bU at HLD;obtain⟨c0,c1,c2,_⟩:=aj hx1;simp only[Nat.zero_add,Nat.reduceAdd]at c1 c2;clear hb1 hx1 hld hi1;go_wp2_with fail;refine HLD.o.mono ?_;rintro e w2 ⟨rfl,v2,hbx2,hkp2⟩;obtain⟨ys,hys,hrow,hdat⟩:=hbx2.2;obtain⟨a2,c2',rfl,-,-⟩:=ai hrow;have e0:=ag (k:=0) hbx2.1;simp only[List.getElem?_toArray,List.getElem?_cons_zero]at e0
  have HB2:=aa (show Below w.heap.size w w2 from(HB1.o.alloc HB1.o.size (.cells #[.slice none 0 0] 46)).trans (hkp2.below.mono HB1.o.size));have HEN:=aa (show AJ w.heap.size w2 (.slice a2 ys.length c2') q.2 from⟨ys,hys,cK hrow HB1.o.size,fun y hy=>cK (hdat y hy) HB1.o.size⟩);clear hbx2 hkp2 hys hrow hdat c0 c1 c2
  by_cases hx:q.1=0
  ·have e1:(q.1 != 0)=false:=by simp[hx]
   have HQX:=aa hx;clear hx;go_wp2_with fail
   go_ret2
   exact⟨HB2.o,by rw[HM.o,if_pos HQX.o]; exact⟨_,rfl,HEN.o⟩⟩
  ·have e1:(q.1 != 0)=true:=by simp[hx]
   have HQX:=aa hx;clear hx;go_wp2_with fail
   go_ret2
   exact⟨HB2.o,by rw[HM.o,if_neg HQX.o]; exact⟨rfl,HQX.o⟩⟩
end Go.Proofs.YtpffpjbkbaleiaaGreatDoor
