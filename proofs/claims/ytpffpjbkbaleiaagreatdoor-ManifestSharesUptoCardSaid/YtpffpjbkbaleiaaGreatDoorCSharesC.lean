/- Texts of this proof, one after the other: RNum, EncB, EncC, RdrC, EncD, Codec, CompP, CodecB, SealA, SealB, RollP, ChkP, RollA, RollB, MarkA, MarkB, MarkC, Rng, RngP, EndA. -/
import Derived.Test.YtpffpjbkbaleiaaGreatDoorCSharesB
set_option maxRecDepth 100000
set_option maxHeartbeats 8000000
namespace Go.Proofs.YtpffpjbkbaleiaaGreatDoor
section
open Go.RowKit
theorem Mo {S:Nat->Prop} {w w':World} {a:Option Addr} {n cap:Nat} {l:List UInt8} (hv:bB S w (.slice a n cap) l) (hb:Below w.heap.size w w') {k:Nat} {x:UInt8} (hx:l[k]? =some x): ∃b o,a=some ⟨b,o,none⟩/\w'.cell? ⟨b,o+k,none⟩=some (.int .u8 (x.toNat:Int)):=by
 obtain⟨hl,a',cap',ha,_,_,h0⟩:=hv
 cases ha
 rcases h0 with h0 | ⟨b,o,rfl,_,hc⟩
 ·simp[List.eq_nil_of_length_eq_zero h0]at hx
 ·have h1:=hc k (aZ x) (by simp[hx]);exact⟨b,o,rfl,(hb.cell (cR h1)).trans h1⟩
theorem PD {data:List UInt8} {off f k:Nat} {b:UInt8} (h:data[off+k]? =some b) (h1: ¬128<=b.toNat) (h2:bG (uX ((data.drop off).take (k+1)))=(data.drop off).take (k+1)):zh data off (f+1) k= .ok (uX ((data.drop off).take (k+1)),off+(k+1)):=by rw[zh,h]; simp only[if_neg h1,if_pos h2]; rfl
theorem KG {data:List UInt8} {off f k:Nat} {b:UInt8} (h:data[off+k]? =some b) (h1:128<=b.toNat):zh data off (f+1) k=zh data off f (k+1):=by rw[zh,h]; simp only[if_pos h1]
structure jP where
 kind:Int
 u:Nat
 n:Int
 b:Bool
 s:ByteArray
 most:Int
def te (x:jP):List Value:=[.int .i64 x.kind, .int .u64 (x.u:Int), .int .i64 x.n, .bool x.b, .string x.s, .int .i64 x.most]
structure yR (x : jP) : Prop where
 u:x.u<18446744073709551616
 n: -9223372036854775808<=x.n/\x.n<=9223372036854775807
 s:x.s.size<=65536
 k:x.kind≠2
def OU (c:List Value) (x:jP):Prop:=c=te x/\yR x
theorem OU.len (c:List Value) (x:jP) (h:OU c x):c.length=6:=by rw[h.1]; rfl
def zA (S:Nat->Prop) (w:World) (v:Value) (l:List jP):Prop:=cU S w 6 OU v l
theorem QM {S:Nat->Prop} {w w':World} {a:Option Addr} {n cap:Nat} {l:List jP} (hv:zA S w (.slice a n cap) l) (hb:Below w.heap.size w w') {k:Nat} {x:jP} (hr:l[k]? =some x):
  ∃b o,a=some ⟨b,o,none⟩/\yR x/\ ∀j,j<6->w'.cell? ⟨b,o+k*6+j,none⟩=(te x)[j]? :=by
 obtain⟨a',cap',he,_,_,hx⟩:=cU.shape hv OU.len
 cases he
 obtain⟨b,o,c,rfl,hS,⟨rfl,hd⟩,_,ha⟩:=hx k x hr;have q0:=ha 0 (by omega);have hc:b<w.heap.size:=cR (a:=⟨b,o+(k*6+0),none⟩) (v:= .int .i64 x.kind) q0;refine⟨b,o,rfl,hd,fun j hj=> ?_⟩;rw[dp];exact(hb.cell (p:=⟨b,o+(k*6+j),none⟩) hc).trans (ha j hj)
def lM (x:jP):Except Int (List UInt8):=
 if x.kind=1 then .ok (bG x.u)
 else if x.kind=3 then .ok [if x.b then 1 else 0]
 else if x.kind=4\/x.kind=5 then .ok (bG x.s.size++bl x.s)
 else if x.kind=6 then(if x.s.size=32 then .ok (bl x.s)else .error 1)
 else if x.kind=7 then(if x.n<0 then .error 1 else .ok (bG x.n.toNat))
 else .ok []
def fJ :List jP->Except Int (List UInt8)
 | []=> .ok []
 | x::l=>match lM x with
  | .error e=> .error e
  | .ok a=>match fJ l with
   | .error e=> .error e
   | .ok b=> .ok (a++b)
theorem sM {x:jP} {e:Int} : ∀ {l:List jP} {k:Nat} {a:List UInt8},fJ (l.take k)= .ok a->l[k]? =some x->lM x= .error e->fJ l= .error e
 | [],k,a,_,h2,_=>by simp at h2
 | y::l,0,a,_,h2,h3=>by simp at h2; subst h2;simp only[fJ,h3]
 | y::l,k+1,a,h1,h2,h3=>by
  rw[aS,fJ]at h1
  cases hy:lM y with
  | error e=>rw[hy]at h1; simp at h1
  | ok b=>
   rw[hy]at h1;simp only at h1
   cases hk:fJ (l.take k)with
   | error e=>rw[hk]at h1; simp at h1
   | ok c=>
    have:=sM hk (by simpa using h2) h3;simp only[fJ,hy,this]
theorem jw {x:jP} {b:List UInt8} : ∀ {l:List jP} {a:List UInt8},fJ l= .ok a->lM x= .ok b->fJ (l++[x])= .ok (a++b)
 | [],a,h1,h2=>by simp only[fJ,dj]at h1;subst h1;simp[fJ,h2]
 | y::l,a,h1,h2=>by
  rw[fJ]at h1
  cases hy:lM y with
  | error e=>rw[hy]at h1; simp at h1
  | ok c=>
   rw[hy]at h1;simp only at h1
   cases hk:fJ l with
   | error e=>rw[hk]at h1; simp at h1
   | ok d=>
    rw[hk]at h1;simp only[dj]at h1;subst h1;simp only[aK,fJ,hy,jw hk h2,bg]
def yU (l:List jP):Except Int (List UInt8):=match fJ l with
 | .error e=> .error e
 | .ok out=>if 1048576<out.length then .error 2 else .ok out
def Qn (res:Except Int (List UInt8)) (w:World) (e:Ending) (w':World):Prop:=Below w.heap.size w w'/\match res with
 | .error x=>e= .returned (.tuple #[.slice none 0 0, .int .i64 x])/\x≠0
 | .ok bs=> ∃v,e= .returned (.tuple #[v, .int .i64 0])/\bB (w.heap.size<= ·) w' v bs
def EY (res:Except Int (List UInt8)) (w:World) (e:Ending) (w':World):Prop:=Below w.heap.size w w'/\match res with
 | .error x=>e= .returned (.tuple #[.slice none 0 0, .int .i64 x])/\x≠0
 | .ok bs=> ∃v,e= .returned (.tuple #[v, .int .i64 0])/\w'.ownsRow w.heap.size 5 1 v bs.length (bs.map aZ)
theorem EY.res {res:Except Int (List UInt8)} {w w':World} {e:Ending} (h:EY res w e w'):Qn res w e w':=by
 refine⟨h.1, ?_⟩;have h2:=h.2
 cases res with
 | error x=>exact h2
 | ok bs=>
  obtain⟨v,h3,h4⟩:=h2;exact⟨v,h3,(cK h4).weak (fun k hk=>hk.1)⟩
theorem EH (s:ByteArray):Lib.strCells s=(bl s).map aZ:=rfl
theorem lz {ops:Array Oper} {rest:List Oper} {o:Oper} {a:Act} {Q:Exit->Act->World->Prop} {w:World} (hgd:o.guard=none) (sl x:Operand)
  (ho:o.op= .call {callee:= .builtin .append,args:= #[sl,x],argTypes:= #[29,9]}) (base:Nat) (v:Value) (acc:List UInt8) (hs:a.eval sl=v) (hown:w.ownsRow base 5 1 v acc.length (acc.map aZ)) (s:ByteArray) (hx:a.eval x= .string s)
  (hn:acc.length+s.size<1099511627775) (hbase:base<=w.heap.size)
  (h: ∀v' w',w'.ownsRow base 5 1 v' (acc.length+s.size) (acc.map aZ++(bl s).map aZ)->w.grownBy w' v.ownBlock->wpList Tryz.prog ops Q rest (a.put o.dst v') w'):wpList Tryz.prog ops Q (o::rest) a w:=by
 obtain⟨ht,⟨i,z,ha,he,hb,hc,hf⟩,hd,hg⟩:=Tryz.appBytes;have hz:i.zero=some (.int .u8 0):=by
  have:(Tryz.prog.info? 5).map (fun i=>i.zero)=some (some (.int .u8 0)):=by kernel_rfl
  rw[ha]at this;exact bt this
 refine Lib.wpList_append_own_string w hgd sl x 29 9 ho base 5 i ht eo ha hz hb hc v acc.length _ hs hown s hx (by unfold maxLen; omega) (by omega) hbase fun v' w' h1 h2 _=>h v' w' ?_ h2
 rw[<-EH];exact h1
theorem sY {w:World} {base:Nat} {e:TypeId} {sz:Nat} {v:Value} {n:Nat} {xs:List Value} {k:Nat} (h:w.ownsRow base e sz v n xs) (hk:v.ownBlock=some k): ∃cs,w.heap[k]? =some (.cells cs e (0,0)):=by
 obtain⟨_,h2⟩:=h
 rcases h2 with⟨rfl,rfl⟩ | ⟨g,cap,cur,rfl,_,hh,_⟩
 ·cases hk
 ·have:g=k:=by simpa [Value.ownBlock]using hk
  subst this;exact⟨cur,hh⟩
theorem Fv (S:Nat->Prop) (v:Value) (l:List jP) (w:World) (hv:zA S w v l) (hlen:l.length<=1000000):Calls Tryz.prog 57 #[v] w (EY (yU l) w):=by
 obtain⟨a,cap,rfl,hc,hm,-⟩:=cU.shape hv OU.len;unfold maxLen at hm;have HV:=ag hv;have Hc:=ag (cW (e:=5) (size:=1) (base:=w.heap.size) w #[] 0 (ah _) (aR _) (by simp));have Ha:=ag ((ak w.heap.size w).alloc (ah _) (.cells #[] 5));clear hv
 go_enter Tryz.func57,Tryz.ntmps57
 go_wp2_with fail
 go_loopw [4,5] (fun o i wr=> ∃(k:Nat) (acc:List UInt8),k<=l.length/\i= .int .i64 k/\fJ (l.take k)= .ok acc/\wr.ownsRow w.heap.size 5 1 o acc.length (acc.map aZ)/\acc.length<=k*65556/\Below w.heap.size w wr) (fun _ i _=>l.length-(intOf i).toNat)
 ·exact⟨0,[],aR _,rfl,rfl,Hc.o,by simp,Ha.o⟩
 ·obtain⟨k,acc,hk,rfl,hT,hN,Hh,hb⟩:=hrel;have HE:=ag hT;have HO:=ag hN;have HB:=ag hb;obtain⟨ao,co,rfl,Hm,Hn⟩:=aH hN;clear hT hN hb Hc Ha
  by_cases Hi:k<l.length
  ·obtain⟨x,hx⟩: ∃x,l[k]? =some x:=⟨l[k],by simp[Hi]⟩;obtain⟨b0,o,rfl,hV,hJ⟩:=QM HV.o HB.o hx;have HG:=ag hx;have hE:=ag (dC hx);have Hl:=hV.u;have Hk:=hV.s;have hY:=hV.k;obtain⟨h8,h9⟩:=hV.n;have q0:=hJ 0 (by omega);have q1:=hJ 1 (by omega);have q2:=hJ 2 (by omega);have q3:=hJ 3 (by omega);have q4:=hJ 4 (by omega);have q5:=hJ 5 (by omega)
   simp only[te,aD,cI,dh]at q0 q1 q2 q3 q4 q5;obtain⟨kd,u,n,b,s,mo⟩:=x;simp only at Hl Hk hY h8 h9 q0 q1 q2 q3 q4 q5;clear hx hJ hV;have hP:=ag ((ak wr.heap.size wr).alloc (ah _) (.cells #[.int .i64 kd, .int .u64 (u:Int), .int .i64 n, .bool b, .string s, .int .i64 mo] 96));have hr:=ag (jI HO.o hP.o)
   have hn:=ag (aj HB.o hP.o)
   by_cases h1:kd=1
   ·subst h1;have HX:=ag (show lM ⟨1,u,n,b,s,mo⟩= .ok (bG u)from rfl);have hl:=ag (show acc.length+(bG u).length<=(k+1)*65556 by have:=dG u; omega);have Hf:=dG u;go_wp2_with fail;refine(mP u _ (by omega)).mono ?_;rintro e w1 ⟨nv,rfl,hB,hh⟩;have hH:=ag hB;have hs:=ag (aj hn.o hh);have hy:=ag (jI hr.o hh)
    have he:=hs.o.size;obtain⟨_,na,nc,rfl,hL,hM,-⟩:=hB;clear hh q0 q1 q2 q3 q4 q5;go_wp2_with (at_builtin; go_must (refine dV Tryz.appBytes rfl _ _ rfl w.heap.size (.slice ao acc.length co) acc.length (acc.map aZ) rfl hy.o _ (bG u).length ((bG u).map aZ) rfl hH.o (fE _) (by omega) he ?_); intro v' wc hd ha; have hg:=ag hd; have ho:=ag (bZ hs.o hy.o ha (ah _) he); obtain⟨ae,ce,rfl,-,-⟩:=aH hd; clear hd ha)
    go_roundw
    ·exact⟨k+1,acc++(bG u),by omega,by go_num,by rw[hE.o]; exact jw HE.o HX.o,by rw[ai,aI]; exact hg.o,by rw[ai]; exact hl.o,ho.o⟩
    simp[intOf]; omega
   ·by_cases h3:kd=3
    ·subst h3;have he:=hn.o.size
     cases b
     ·have HX:=ag (show lM ⟨3,u,n,false,s,mo⟩= .ok [0]from rfl);have hl:=ag (show acc.length+([0]:List UInt8).length<=(k+1)*65556 by simp; omega);obtain⟨W,hW⟩:=bH (wr.alloc (.cells #[.int .i64 3, .int .u64 (u:Int), .int .i64 n, .bool false, .string s, .int .i64 mo] 96));rw[<-hW]at hr hn he;clear hP
      go_upto_region 14 with(fail)
      rw[<-hW];clear hW q0 q1 q2 q3 q4 q5;go_wp2_with (at_builtin; go_must (refine iX Tryz.appBytes rfl _ _ rfl w.heap.size (.slice ao acc.length co) acc.length (acc.map aZ) rfl W [.int .u8 0] _ rfl rfl (pF 0) hr.o (by omega) he ?_); intro v' wc hd ha _; have hg:=ag (show wc.ownsRow w.heap.size 5 1 v' (acc.length+([0]:List UInt8).length) (acc.map aZ++([0]:List UInt8).map aZ)from hd); have ho:=ag (bZ hn.o hr.o ha (ah _) he); obtain⟨ae,ce,rfl,-,-⟩:=aH hd; clear hd ha)
      go_roundw
      ·exact⟨k+1,acc++([0]:List UInt8),by omega,by go_num,by rw[hE.o]; exact jw HE.o HX.o,by rw[ai,aI]; exact hg.o,by rw[ai]; exact hl.o,ho.o⟩
      simp[intOf]; omega
     ·have HX:=ag (show lM ⟨3,u,n,true,s,mo⟩= .ok [1]from rfl);have hl:=ag (show acc.length+([1]:List UInt8).length<=(k+1)*65556 by simp; omega);obtain⟨W,hW⟩:=bH (wr.alloc (.cells #[.int .i64 3, .int .u64 (u:Int), .int .i64 n, .bool true, .string s, .int .i64 mo] 96));rw[<-hW]at hr hn he;clear hP
      go_upto_region 13 with(fail)
      rw[<-hW];clear hW q0 q1 q2 q3 q4 q5;go_wp2_with (at_builtin; go_must (refine iX Tryz.appBytes rfl _ _ rfl w.heap.size (.slice ao acc.length co) acc.length (acc.map aZ) rfl W [.int .u8 1] _ rfl rfl (pF 1) hr.o (by omega) he ?_); intro v' wc hd ha _; have hg:=ag (show wc.ownsRow w.heap.size 5 1 v' (acc.length+([1]:List UInt8).length) (acc.map aZ++([1]:List UInt8).map aZ)from hd); have ho:=ag (bZ hn.o hr.o ha (ah _) he); obtain⟨ae,ce,rfl,-,-⟩:=aH hd; clear hd ha)
      go_roundw
      ·exact⟨k+1,acc++([1]:List UInt8),by omega,by go_num,by rw[hE.o]; exact jw HE.o HX.o,by rw[ai,aI]; exact hg.o,by rw[ai]; exact hl.o,ho.o⟩
      simp[intOf]; omega
    ·by_cases h4:kd=4\/kd=5
     ·have HX:=ag (show lM ⟨kd,u,n,b,s,mo⟩= .ok (bG s.size++bl s) by simp only[lM,if_neg h1,if_neg h3,if_pos h4]);have hl:=ag (show acc.length+(bG s.size++bl s).length<=(k+1)*65556 by have:=dG s.size; rw[ai,<-bi]; omega);have hR:=ag (aC wr (.cells #[.int .i64 kd, .int .u64 (u:Int), .int .i64 n, .bool b, .string s, .int .i64 mo] 96))
      have Hf:=dG s.size;obtain⟨W,hW⟩:=bH (wr.alloc (.cells #[.int .i64 kd, .int .u64 (u:Int), .int .i64 n, .bool b, .string s, .int .i64 mo] 96));rw[<-hW]at hr hn hR;clear h1 h3 hY hP
      rcases h4 with rfl | rfl
      ·go_upto_region 17 with(fail)
       rw[<-hW];clear hW q0 q1 q2 q3 q4 q5;refine eV (fun w'=>w'.cell? ⟨wr.heap.size,4,none⟩=some (.string s)) (by kernel_rfl) ?_;obtain⟨W2,hI⟩:=bH W.drew;rw[<-hI];have hC:Below W.heap.size W W2:=by rw[hI]; exact(ak _ _).drew
       have hZ:=ag (aj hn.o hC);have h0:=ag (jI hr.o hC);have hw:=ag (eA hC hR.o);clear hI hC hR;have c0:=bD (k:=4) hw.o;simp only[fV]at c0
       iterate 5 (refine cF rfl (by go_simp) (by intro w' hO; go_simp; rfl) ?_; simp only[bM])
       refine dx 7 rfl (by go_simp) (by intro w' hO; go_simp; rfl) ?_;simp only[bM];refine dx 8 rfl (by go_simp) (by intro w' hO; go_simp; rfl) ?_;simp only[bM];refine cA 5 rfl (fun K hK=> ?_);go_wp2_with (go_at_call 103; refine(mP s.size _ (by omega)).mono ?_; rintro e w1 ⟨nv,rfl,hB,hh⟩);have hH:=ag hB;have hs:=ag (aj hZ.o hh);have hy:=ag (jI h0.o hh)
       have hp:=ag (eA hh hw.o);have he:=hs.o.size;obtain⟨_,na,nc,rfl,hL,hM,-⟩:=hB;have c1:=bD (k:=4) hp.o;simp only[fV]at c1;clear hh c0;refine⟨c1, ?_⟩;refine cA 6 rfl (fun K hK=> ?_);go_wp2_with (at_builtin; go_must (refine dV Tryz.appBytes rfl _ _ rfl w.heap.size (.slice ao acc.length co) acc.length (acc.map aZ) rfl hy.o _ (bG s.size).length ((bG s.size).map aZ) rfl hH.o (fE _) (by omega) he ?_); intro v' wc hd ha)
       have hf:=ag ((ha.block wr.heap.size (am hp.o) (fun e=>by have:=(HO.o.lt _ e.symm).2; omega)).trans hp.o);have hu:=ag (bZ hs.o hy.o ha (ah _) he);have hq:=ag (show wc.ownsRow w.heap.size 5 1 v' (acc++bG s.size).length ((acc++bG s.size).map aZ) by rw[ai,aI]; exact hd);have hz:=hu.o.size
       obtain⟨ae,ce,rfl,-,-⟩:=aH hd;have c2:=bD (k:=4) hf.o;simp only[fV]at c2;have hj:(acc++bG s.size).length=acc.length+(bG s.size).length:=ai;clear hd ha c1;refine⟨c2, ?_⟩;refine cA 9 rfl (fun K hK=> ?_);have hA:(acc++bG s.size).length+s.size<1099511627775:=by omega
       have hX:Value.slice ae (acc.length+(bG s.size).length) ce= .slice ae (acc++bG s.size).length ce:=by rw[hj]
       have Hg:=ag hX;have hG:=ag hA;clear hj hA hX;go_wp2_with (at_builtin; go_must (refine lz rfl _ _ rfl w.heap.size (.slice ae (acc.length+(bG s.size).length) ce) (acc++bG s.size) rfl hq.o s rfl hG.o hz ?_); intro v' wd hd ha);have hF:=ag ((ha.block wr.heap.size (am hf.o) (fun e=>by have h1:=hq.o;have h2:=(sY h1 e.symm);obtain⟨cs,h2⟩:=h2;have:=hf.o.symm.trans h2;simp at this)).trans hf.o)
       have ho:=ag (bZ hu.o hq.o ha (ah _) hz);have hg:=ag (show wd.ownsRow w.heap.size 5 1 v' (acc.length+(bG s.size++bl s).length) (acc.map aZ++(bG s.size++bl s).map aZ) by have h1:=hd;rw[ai,bi,dp,<-ai,aI,bg,<-aI]at h1;exact h1)
       obtain⟨nb,hU⟩:=bH (bG s.size++bl s);rw[<-hU]at hg HX hl;clear hU;obtain⟨af,cf,rfl,-,-⟩:=aH hg.o;have c3:=bD (k:=4) hF.o;simp only[fV]at c3;clear hd ha c2;refine⟨c3, ?_⟩;refine cF rfl (by go_simp) (by intro w' hO; go_simp; rfl) ?_;simp only[bM];refine cH (by kernel_rfl) ?_;go_wp2_with fail
       go_roundw
       ·exact⟨k+1,acc++nb,by omega,by go_num,by rw[hE.o]; exact jw HE.o HX.o,by rw[ai,aI]; exact hg.o,by rw[ai]; exact hl.o,ho.o⟩
       simp[intOf]; omega
      ·go_upto_region 17 with(fail)
       rw[<-hW];clear hW q0 q1 q2 q3 q4 q5;refine eV (fun w'=>w'.cell? ⟨wr.heap.size,4,none⟩=some (.string s)) (by kernel_rfl) ?_;obtain⟨W2,hI⟩:=bH W.drew;rw[<-hI];have hC:Below W.heap.size W W2:=by rw[hI]; exact(ak _ _).drew
       have hZ:=ag (aj hn.o hC);have h0:=ag (jI hr.o hC);have hw:=ag (eA hC hR.o);clear hI hC hR;have c0:=bD (k:=4) hw.o;simp only[fV]at c0
       iterate 5 (refine cF rfl (by go_simp) (by intro w' hO; go_simp; rfl) ?_; simp only[bM])
       refine dx 7 rfl (by go_simp) (by intro w' hO; go_simp; rfl) ?_;simp only[bM];refine dx 8 rfl (by go_simp) (by intro w' hO; go_simp; rfl) ?_;simp only[bM];refine cA 5 rfl (fun K hK=> ?_);go_wp2_with (go_at_call 103; refine(mP s.size _ (by omega)).mono ?_; rintro e w1 ⟨nv,rfl,hB,hh⟩);have hH:=ag hB;have hs:=ag (aj hZ.o hh);have hy:=ag (jI h0.o hh)
       have hp:=ag (eA hh hw.o);have he:=hs.o.size;obtain⟨_,na,nc,rfl,hL,hM,-⟩:=hB;have c1:=bD (k:=4) hp.o;simp only[fV]at c1;clear hh c0;refine⟨c1, ?_⟩;refine cA 6 rfl (fun K hK=> ?_);go_wp2_with (at_builtin; go_must (refine dV Tryz.appBytes rfl _ _ rfl w.heap.size (.slice ao acc.length co) acc.length (acc.map aZ) rfl hy.o _ (bG s.size).length ((bG s.size).map aZ) rfl hH.o (fE _) (by omega) he ?_); intro v' wc hd ha)
       have hf:=ag ((ha.block wr.heap.size (am hp.o) (fun e=>by have:=(HO.o.lt _ e.symm).2; omega)).trans hp.o);have hu:=ag (bZ hs.o hy.o ha (ah _) he);have hq:=ag (show wc.ownsRow w.heap.size 5 1 v' (acc++bG s.size).length ((acc++bG s.size).map aZ) by rw[ai,aI]; exact hd);have hz:=hu.o.size
       obtain⟨ae,ce,rfl,-,-⟩:=aH hd;have c2:=bD (k:=4) hf.o;simp only[fV]at c2;have hj:(acc++bG s.size).length=acc.length+(bG s.size).length:=ai;clear hd ha c1;refine⟨c2, ?_⟩;refine cA 9 rfl (fun K hK=> ?_);have hA:(acc++bG s.size).length+s.size<1099511627775:=by omega
       have hX:Value.slice ae (acc.length+(bG s.size).length) ce= .slice ae (acc++bG s.size).length ce:=by rw[hj]
       have Hg:=ag hX;have hG:=ag hA;clear hj hA hX;go_wp2_with (at_builtin; go_must (refine lz rfl _ _ rfl w.heap.size (.slice ae (acc.length+(bG s.size).length) ce) (acc++bG s.size) rfl hq.o s rfl hG.o hz ?_); intro v' wd hd ha);have hF:=ag ((ha.block wr.heap.size (am hf.o) (fun e=>by have h1:=hq.o;have h2:=(sY h1 e.symm);obtain⟨cs,h2⟩:=h2;have:=hf.o.symm.trans h2;simp at this)).trans hf.o)
       have ho:=ag (bZ hu.o hq.o ha (ah _) hz);have hg:=ag (show wd.ownsRow w.heap.size 5 1 v' (acc.length+(bG s.size++bl s).length) (acc.map aZ++(bG s.size++bl s).map aZ) by have h1:=hd;rw[ai,bi,dp,<-ai,aI,bg,<-aI]at h1;exact h1)
       obtain⟨nb,hU⟩:=bH (bG s.size++bl s);rw[<-hU]at hg HX hl;clear hU;obtain⟨af,cf,rfl,-,-⟩:=aH hg.o;have c3:=bD (k:=4) hF.o;simp only[fV]at c3;clear hd ha c2;refine⟨c3, ?_⟩;refine cF rfl (by go_simp) (by intro w' hO; go_simp; rfl) ?_;simp only[bM];refine cH (by kernel_rfl) ?_;go_wp2_with fail
       go_roundw
       ·exact⟨k+1,acc++nb,by omega,by go_num,by rw[hE.o]; exact jw HE.o HX.o,by rw[ai,aI]; exact hg.o,by rw[ai]; exact hl.o,ho.o⟩
       simp[intOf]; omega
     ·by_cases h6:kd=6
      ·subst h6
       by_cases hD:s.size=32
       ·have HX:=ag (show lM ⟨6,u,n,b,s,mo⟩= .ok (bl s) by simp[lM,hD]);have hl:=ag (show acc.length+(bl s).length<=(k+1)*65556 by rw[<-bi]; omega);have e1:((s.size:Int) != 32)=false:=by simp; omega
        have he:=hn.o.size;clear hD;go_wp2_with (at_builtin; go_must (refine lz rfl _ _ rfl w.heap.size (.slice ao acc.length co) acc rfl hr.o s rfl (by omega) he ?_); intro v' wc hd ha; have hg:=ag (show wc.ownsRow w.heap.size 5 1 v' (acc.length+(bl s).length) (acc.map aZ++(bl s).map aZ) by rw[<-bi]; exact hd); have ho:=ag (bZ hn.o hr.o ha (ah _) he); obtain⟨ae,ce,rfl,-,-⟩:=aH hd; clear hd ha)
        go_roundw
        ·exact⟨k+1,acc++(bl s),by omega,by go_num,by rw[hE.o]; exact jw HE.o HX.o,by rw[ai,aI]; exact hg.o,by rw[ai]; exact hl.o,ho.o⟩
        simp[intOf]; omega
       ·have HX:=ag (sM HE.o HG.o (show lM ⟨6,u,n,b,s,mo⟩= .error 1 by simp[lM,hD]));have e1:((s.size:Int) != 32)=true:=by simp; omega
        clear hD;go_wp2_with fail
        go_ret2
        exact⟨hn.o,by unfold yU; rw[HX.o]; exact⟨rfl,by decide⟩⟩
      ·by_cases h7:kd=7
       ·subst h7
        by_cases Hj:n<0
        ·have HX:=ag (sM HE.o HG.o (show lM ⟨7,u,n,b,s,mo⟩= .error 1 by simp[lM,Hj]));go_wp2_with fail
         go_ret2
         exact⟨hn.o,by unfold yU; rw[HX.o]; exact⟨rfl,by decide⟩⟩
        ·obtain⟨m,rfl⟩: ∃m:Nat,n=(m:Int):=⟨n.toNat,by omega⟩;have HX:=ag (show lM ⟨7,u,(m:Int),b,s,mo⟩= .ok (bG m) by simp[lM]);have hl:=ag (show acc.length+(bG m).length<=(k+1)*65556 by have:=dG m; omega);have Hf:=dG m;go_wp2_with fail;refine(mP m _ (by omega)).mono ?_;rintro e w1 ⟨nv,rfl,hB,hh⟩;have hH:=ag hB
         have hs:=ag (aj hn.o hh);have hy:=ag (jI hr.o hh);have he:=hs.o.size;obtain⟨_,na,nc,rfl,hL,hM,-⟩:=hB;clear hh q0 q1 q2 q3 q4 q5;go_wp2_with (at_builtin; go_must (refine dV Tryz.appBytes rfl _ _ rfl w.heap.size (.slice ao acc.length co) acc.length (acc.map aZ) rfl hy.o _ (bG m).length ((bG m).map aZ) rfl hH.o (fE _) (by omega) he ?_); intro v' wc hd ha; have hg:=ag hd; have ho:=ag (bZ hs.o hy.o ha (ah _) he); obtain⟨ae,ce,rfl,-,-⟩:=aH hd; clear hd ha)
         go_roundw
         ·exact⟨k+1,acc++(bG m),by omega,by go_num,by rw[hE.o]; exact jw HE.o HX.o,by rw[ai,aI]; exact hg.o,by rw[ai]; exact hl.o,ho.o⟩
         simp[intOf]; omega
       ·have HX:=ag (show lM ⟨kd,u,n,b,s,mo⟩= .ok [] by simp only[lM,if_neg h1,if_neg h3,if_neg h4,if_neg h6,if_neg h7]);have hl:=ag (show acc.length+([]:List UInt8).length<=(k+1)*65556 from an Hh (dl _ (Nat.le_succ k)));have Hd: ¬kd=4:=fun e=>h4 (.inl e)
        have He: ¬kd=5:=fun e=>h4 (.inr e)
        have e1:(kd == 1)=false:=by simpa using h1
        have e2:(kd == 2)=false:=by simpa using hY
        have e3:(kd == 3)=false:=by simpa using h3
        have e4:(kd == 4)=false:=by simpa using Hd
        have e5:(kd == 5)=false:=by simpa using He
        have e6:(kd == 6)=false:=by simpa using h6
        have e7:(kd == 7)=false:=by simpa using h7
        have hg:=ag (show World.ownsRow (wr.alloc (.cells #[.int .i64 kd, .int .u64 (u:Int), .int .i64 n, .bool b, .string s, .int .i64 mo] 96)) w.heap.size 5 1 (.slice ao acc.length co) (acc.length+([]:List UInt8).length) (acc.map aZ++([]:List UInt8).map aZ) by simpa using hr.o);have ho:=hn;clear h1 h3 h4 h6 h7 hY Hd He;go_wp2_with fail
        go_roundw
        ·exact⟨k+1,acc++([]:List UInt8),by omega,by go_num,by rw[hE.o]; exact jw HE.o HX.o,by rw[ai,aI]; exact hg.o,by rw[ai]; exact hl.o,ho.o⟩
        simp[intOf]; omega
  ·obtain rfl:k=l.length:=by omega
   have Hb:=ag (show fJ l= .ok acc by have:=HE.o; rwa [bo (ah _)]at this)
   by_cases hS:1048576<acc.length
   ·have HX:=ag (show yU l= .error 2 by unfold yU; rw[Hb.o]; simp only[if_pos hS]);go_wp2_with fail
    go_ret2
    exact⟨HB.o,by rw[HX.o]; exact⟨rfl,by decide⟩⟩
   ·have HX:=ag (show yU l= .ok acc by unfold yU; rw[Hb.o]; simp only[if_neg hS]);go_wp2_with fail
    go_ret2
    exact⟨HB.o,by rw[HX.o]; exact⟨_,rfl,HO.o⟩⟩
def rvV (x:jP):Value:= .agg #[.int .i64 x.kind, .int .u64 (x.u:Int), .int .i64 x.n, .bool x.b, .string x.s, .int .i64 x.most]
def jd (n:Int):jP:=⟨1,(n%18446744073709551616).toNat,0,false,⟨#[]⟩,0⟩
def GH (s:ByteArray):jP:=⟨6,0,0,false,s,0⟩
def ox (s:ByteArray):jP:=⟨5,0,0,false,s,0⟩
def jZ (n:Nat):jP:=⟨7,0,(n:Int),false,⟨#[]⟩,0⟩
def eQ (r:bY):List jP:=[GH r.name,jd r.gen,jd r.size]
theorem oW (n:Int):yR (jd n):=⟨by simp only[jd]; omega,by simp[jd],by simp only[jd]; decide,by simp[jd]⟩
theorem Qa {s:ByteArray} (h:s.size<=65536):yR (GH s):=⟨by simp[GH],by simp[GH],h,by simp[GH]⟩
theorem uh {s:ByteArray} (h:s.size<=65536):yR (ox s):=⟨by simp[ox],by simp[ox],h,by simp[ox]⟩
theorem zP {n:Nat} (h:n<=1000000):yR (jZ n):=⟨by simp[jZ],by simp only[jZ]; omega,by simp only[jZ]; decide,by simp[jZ]⟩
theorem qt {r:bY} (h:r.name.size<=65536): ∀x∈eQ r,yR x:=by
 intro x hx;simp only[eQ,aU,du,or_false]at hx
 rcases hx with rfl | rfl | rfl
 ·exact Qa h
 ·exact oW _
 ·exact oW _
theorem Ch : ∀ {l:List jP},(∀x∈l,yR x)->em OU (l.flatMap te) l
 | [],_=>rfl
 | x::l,h=>⟨te x,l.flatMap te,rfl,⟨rfl,h x (by simp)⟩,Ch (fun y hy=>h y (by simp[hy]))⟩
theorem wrap_u64 (n:Int):IntKind.u64.wrap n=((n%18446744073709551616).toNat:Int):=by rw[cX]; omega
theorem lU (n:Int) (w:World):Calls Tryz.prog 55 #[.int .i64 n] w fun e w'=>e= .returned (rvV (jd n))/\Below w.heap.size w w':=by
 have hw:=wrap_u64 n;obtain⟨m,hm⟩:=bH ((n%18446744073709551616).toNat:Nat);have ha:jd n=⟨1,m,0,false,⟨#[]⟩,0⟩:=by rw[hm]; rfl
 rw[<-hm]at hw;have HN:=ag ha;clear hm ha
 go_enter Tryz.func55,Tryz.ntmps55
 go_wp2_with fail;exact cS (v:= .agg #[.int .i64 1, .int .u64 (m:Int), .int .i64 0, .bool false, .string ⟨#[]⟩, .int .i64 0]) (by simp[results,Tryz.results55,go_sem]) rfl ⟨by rw[HN.o]; rfl,eT⟩
def Qr (l:List jP) (w:World) (e:Ending) (w':World):Prop:= ∃v,e= .returned v/\zA (w.heap.size<= ·) w' v l/\Below w.heap.size w w'
theorem qJ (r:bY) (w:World) (hs:r.name.size<=65536):Calls Tryz.prog 56 #[eC r] w (Qr (eQ r) w):=by
 have HB:=ag ((ak w.heap.size w).alloc (ah _) (.cells #[.string r.name, .int .i64 r.gen, .int .i64 r.size] 26));have ho:=ag (aC w (.cells #[.string r.name, .int .i64 r.gen, .int .i64 r.size] 26));have hr:=ag (qt hs);unfold eC;clear hs
 go_enter Tryz.func56,Tryz.ntmps56
 go_wp2_with fail;refine eV (fun w'=>w'.cell? ⟨w.heap.size,0,none⟩=some (.string r.name)/\w'.cell? ⟨w.heap.size,1,none⟩=some (.int .i64 r.gen)/\w'.cell? ⟨w.heap.size,2,none⟩=some (.int .i64 r.size)) (by kernel_rfl) ?_;obtain⟨W,hW⟩:=bH ((w.alloc (.cells #[.string r.name, .int .i64 r.gen, .int .i64 r.size] 26)).drew);rw[<-hW];have hp:=ag (show Below w.heap.size w W by rw[hW]; exact HB.o.drew)
 have he:=ag (show W.heap[w.heap.size]? =some (.cells #[.string r.name, .int .i64 r.gen, .int .i64 r.size] 26 (0,0)) by rw[hW]; exact ho.o);clear hW HB ho;obtain⟨c0,c1,c2,_⟩:=aT he.o
 iterate 5 (refine cF rfl (by go_simp) (by rintro w' ⟨hl,hm,hb⟩; go_simp; rfl) ?_; simp only[bM])
 refine dx 6 rfl (by go_simp) (by rintro w' ⟨hl,hm,hb⟩; go_simp; rfl) ?_;simp only[bM];refine dx 7 rfl (by go_simp) (by rintro w' ⟨hl,hm,hb⟩; go_simp; rfl) ?_;simp only[bM];refine cA 5 rfl (fun K hK=> ?_);go_wp2_with (go_at_call 55; refine(lU r.gen _).mono ?_; rintro e w1 ⟨rfl,hh⟩);have hq:=ag (aj hp.o hh);have hf:=ag (eA hh he.o);clear hh c0 c1 c2
 obtain⟨c0,c1,c2,_⟩:=aT hf.o;refine⟨⟨c0,c1,c2⟩, ?_⟩;refine cA 8 rfl (fun K hK=> ?_);go_wp2_with (go_at_call 55; refine(lU r.size _).mono ?_; rintro e w2 ⟨rfl,hj⟩);have hn:=ag (aj hq.o hj);have hg:=ag (eA hj hf.o);clear hj c0 c1 c2;obtain⟨c0,c1,c2,_⟩:=aT hg.o;refine⟨⟨c0,c1,c2⟩, ?_⟩;refine cA 9 rfl (fun K hK=> ?_);unfold rvV;go_wp2_with fail
 have hd:=am hg.o;have ha:(#[Value.int .i64 6, .int .u64 0, .int .i64 0, .bool false, .string r.name, .int .i64 0, .int .i64 (jd r.gen).kind, .int .u64 (jd r.gen).u, .int .i64 (jd r.gen).n, .bool (jd r.gen).b, .string (jd r.gen).s, .int .i64 (jd r.gen).most, .int .i64 (jd r.size).kind, .int .u64 (jd r.size).u, .int .i64 (jd r.size).n, .bool (jd r.size).b, .string (jd r.size).s, .int .i64 (jd r.size).most]:Array Value)=((eQ r).flatMap te).toArray:=rfl
 rw[ha];obtain⟨w3,hb⟩:=bH (w2.alloc (.cells ((eQ r).flatMap te).toArray 96));have hc:=ag (show Below w2.heap.size w2 w3 by rw[hb]; exact eT);have HR:=ag (show zA (w.heap.size<= ·) w3 (.slice (some ⟨w2.heap.size,0,none⟩) 3 3) (eQ r) by have h1:=cK (cW (base:=w2.heap.size) (e:=96) (size:=6) w2 ((eQ r).flatMap te).toArray 3 (ah _) (by unfold maxLen; omega) rfl);rw[hb];exact⟨_,h1.weak (fun k hk=>an hn.o.size hk.1),Ch hr.o⟩)
 rw[<-hb];clear hb ha;refine⟨⟨(hc.o.cell hd).trans c0,(hc.o.cell hd).trans c1,(hc.o.cell hd).trans c2⟩, ?_⟩;refine cF rfl ⟨(hc.o.cell hd).trans c0,(hc.o.cell hd).trans c1,(hc.o.cell hd).trans c2⟩ (by rintro w' ⟨hl,hm,hb⟩; go_simp; rfl) ?_;simp only[bM];refine cH (by kernel_rfl) ?_;go_wp2_with fail;go_ret;exact⟨_,rfl,HR.o,aj hn.o hc.o⟩
theorem set3 {w:World} {b:Nat} {a0 a1 a2 x0 x1 x2:Value} {t:TypeId} (h:w.heap[b]? =some (.cells #[a0,a1,a2] t (0,0))):
  (((w.setCell ⟨b,0,none⟩ x0).setCell ⟨b,1,none⟩ x1).setCell ⟨b,2,none⟩ x2).heap[b]? =some (.cells #[x0,x1,x2] t (0,0)):=jb (jb (jb h x0) x1) x2
def gA (it:ci):List jP:=
 [ox it.name,jd it.kind,jd it.mode,jd it.time]++
  (if it.kind=1 then jZ it.chunks.length::it.chunks.flatMap eQ else if it.kind=2 then eQ it.node else [ox it.link])
def mg (l:List ci) (k:Nat):List jP:=jZ l.length::(l.take k).flatMap gA
def iM (l:List ci):List jP:=jZ l.length::l.flatMap gA
theorem vN {l:List ci} {k:Nat} {it:ci} (h:l[k]? =some it):mg l (k+1)=mg l k++gA it:=by unfold mg;obtain⟨hk,rfl⟩:=aA.1 h;rw[List.take_succ_eq_append_getElem hk,bV]; simp
theorem GO (l:List ci):mg l l.length=iM l:=by unfold mg iM; rw[bo (ah _)]
theorem LC (l:List ci) (k:Nat):(mg l k).length<=(iM l).length:=by
 unfold mg iM;have h:l.flatMap gA=(l.take k).flatMap gA++(l.drop k).flatMap gA:=by rw[<-bV,dA]
 rw[h];simp
structure vZ (it : ci) : Prop where
 nm:it.name.size<=65536
 lk:it.link.size<=65536
 nd:it.node.name.size<=65536
 ch: ∀c∈it.chunks,c.name.size<=65536
def tV (l:List ci):List UInt8:=match yU (iM l)with
 | .error _=>[]
 | .ok b=>b
structure Bx (w : World) (xb : Nat) (cs : Array Value) (wq : World) (lv : Value) (vals : List jP) : Prop where
 row:wq.ownsRow w.heap.size 96 6 lv vals.length (vals.flatMap te)
 box:wq.heap[xb]? =some (.cells cs 28 (0,0))
 below:Below w.heap.size w wq
section
variable {w wq w' : World} {xb : Nat} {cs : Array Value} {lv v' : Value} {vals news : List jP}
theorem Bx.next (h:Bx w xb cs wq lv vals) (hb:Below wq.heap.size wq w'):Bx w xb cs w' lv vals:=
 ⟨jI h.row hb,(hb.block xb (am h.box)).trans h.box,aj h.below hb⟩
theorem Bx.app (h:Bx w xb cs wq lv vals) (ho:w'.ownsRow w.heap.size 96 6 v' (vals.length+news.length) (vals.flatMap te++news.flatMap te)) (hg:wq.grownBy w' lv.ownBlock):Bx w xb cs w' v' (vals++news):=by refine⟨by rw[ai,bV]; exact ho,(hg.block xb (am h.box) (fun e=> ?_)).trans h.box,bZ h.below h.row hg (ah _) h.below.size⟩;obtain⟨c,hc⟩:=sY h.row e.symm;have:=h.box.symm.trans hc;simp at this
end
theorem Tryz.appVals :kz Tryz.prog 97 96 6 56:=kz.mk' (z:= .agg #[.int .i64 0, .int .u64 0, .int .i64 0, .bool false, .string ⟨#[]⟩, .int .i64 0]) Tryz.underlying97 (by kernel_rfl) rfl (by decide) (by decide)
theorem uc {l:List jP} : ∀u∈l.flatMap te,u.oneCell'=true:=by
 intro u hu;obtain⟨x,_,hx⟩:=dt.1 hu;simp only[te,aU,du,or_false]at hx
 rcases hx with rfl | rfl | rfl | rfl | rfl | rfl<;> rfl
theorem eO.lts {S:Nat->Prop} {w:World} {v:Value} {l:List ci} (h:eO S w v l):eO (· <w.heap.size) w v l:=by obtain⟨cells,hr,ha⟩:=h;exact⟨cells,hr.mono (fun k hk hS=>hk) (by omega),ha.mono (fun c x _ ⟨cv,h1,⟨cells,h2,h3⟩,h4⟩=>⟨cv,h1,⟨cells,h2.mono (fun k hk _=>hk) (by omega),h3⟩,h4⟩)⟩
theorem oZ : ∀(l:List bY),(l.flatMap eQ).length=3*l.length
 | []=>rfl
 | x::l=>by rw[bC,ai,oZ l,ay]; simp[eQ]; omega
def IC (it:ci):List jP:=[ox it.name,jd it.kind,jd it.mode,jd it.time]
theorem vz {it:ci} (h:it.kind=1):gA it=IC it++(jZ it.chunks.length::it.chunks.flatMap eQ):=by unfold gA IC; rw[if_pos h]
theorem FG {it:ci} (h:it.kind=2):gA it=IC it++eQ it.node:=by unfold gA IC; rw[if_neg (by omega),if_pos h]
theorem Du {it:ci} (h1: ¬it.kind=1) (h2: ¬it.kind=2):gA it=IC it++[ox it.link]:=by unfold gA IC; rw[if_neg h1,if_neg h2]
theorem Ps (it:ci):(IC it).length=4:=rfl
theorem Kf {it:ci} (h:vZ it) (hc:it.chunks.length<=1000000): ∀x∈gA it,yR x:=by
 intro x hx;unfold gA at hx
 rcases aP.1 hx with hx | hx
 ·simp only[aU,du,or_false]at hx
  rcases hx with rfl | rfl | rfl | rfl
  ·exact uh h.nm
  ·exact oW _
  ·exact oW _
  ·exact oW _
 ·split at hx
  ·rcases aU.1 hx with rfl | hx
   ·exact zP hc
   ·obtain⟨c,ha,hb⟩:=dt.1 hx;exact qt (h.ch c ha) x hb
  ·split at hx
   ·exact qt h.nd x hx
   ·simp only[aL]at hx; subst hx; exact uh h.lk
theorem DZ {l:List ci} (hs: ∀it∈l,vZ it) (hl:l.length<=1000000) (hn:(iM l).length<=1000000): ∀x∈iM l,yR x:=by
 intro x hx;unfold iM at hx
 rcases aU.1 hx with rfl | hx
 ·exact zP hl
 ·obtain⟨it,h1,h2⟩:=dt.1 hx
  by_cases hk:it.kind=1
  ·refine Kf (hs it h1) ?_ x h2;have h3:(gA it).length<=(l.flatMap gA).length:=by obtain⟨a,b,rfl⟩:=iE h1;rw[bV,bC,ai,ai]; omega
   have h4:it.chunks.length<=(gA it).length:=by rw[vz hk,ai,ay,oZ]; omega
   unfold iM at hn;rw[ay]at hn;omega
  ·unfold gA at h2;rw[if_neg hk]at h2
   rcases aP.1 h2 with hx | hx
   ·simp only[aU,du,or_false]at hx
    rcases hx with rfl | rfl | rfl | rfl
    ·exact uh (hs it h1).nm
    ·exact oW _
    ·exact oW _
    ·exact oW _
   ·split at hx
    ·exact qt (hs it h1).nd x hx
    ·simp only[aL]at hx; subst hx; exact uh (hs it h1).lk
theorem Jh {S:Nat->Prop} {w:World} {v:Value} {l:List jP} (h:zA S w v l):bX S w 6 v l.length (l.flatMap te):=by
 obtain⟨cells,h1,h2⟩:=h;have: ∀(l:List jP) (cells:List Value),em OU cells l->cells=l.flatMap te:=by
  intro l
  induction l with
  | nil=>intro cells h; exact h
  | cons x l ih=>
   rintro cells ⟨c,rest,rfl,⟨rfl,_⟩,hr⟩;rw[ih rest hr]; rfl
 rw[<-this l cells h2]; exact h1
def lQ (v4:List jP) (cs:List bY) (j:Nat):List jP:=v4++(jZ cs.length::(cs.take j).flatMap eQ)
theorem Df {v4:List jP} {cs:List bY} {j:Nat} {c:bY} (h:cs[j]? =some c):lQ v4 cs (j+1)=lQ v4 cs j++eQ c:=by unfold lQ;rw[dC h,bV]; simp
theorem Fw (v4:List jP) (cs:List bY):lQ v4 cs cs.length=v4++(jZ cs.length::cs.flatMap eQ):=by unfold lQ; rw[bo (ah _)]
theorem JX (v4:List jP) (cs:List bY) (j:Nat):(lQ v4 cs j).length<=(v4++(jZ cs.length::cs.flatMap eQ)).length:=by unfold lQ;rw[ai,ai,ay,ay,oZ,oZ,aW];omega
def GZ (l:List ci) (w:World) (e:Ending) (w':World):Prop:= ∃v,e= .returned v/\w'.ownsRow w.heap.size 5 1 v (tV l).length ((tV l).map aZ)/\Below w.heap.size w w'
theorem KI {w:World} {base base' size n:Nat} {e:TypeId} {v:Value} {xs:List Value} (h:w.ownsRow base e size v n xs) (hb:base'<=base):w.ownsRow base' e size v n xs:=
 ⟨h.1,h.2.imp id (fun⟨g,cap,cur,e1,h1,h2⟩=>⟨g,cap,cur,e1,an hb h1,h2⟩)⟩
theorem FX (S:Nat->Prop) (v:Value) (l:List ci) (w:World) (hv:eO S w v l) (hs: ∀it∈l,vZ it) (hl:(iM l).length<=1000000) (hll:l.length<=1000000):Calls Tryz.prog 17 #[v] w (GZ l w):=by
 obtain⟨a,cap,rfl,hc,hm,-⟩:=cU.shape hv lm.len;unfold maxLen at hm;have HV:=ag hv.lts;have HS:=ag hs;have HL:=ag hl;have Hh:=ag (cW (e:=96) (size:=6) (base:=w.heap.size) w #[.int .i64 7, .int .u64 0, .int .i64 (l.length:Int), .bool false, .string ⟨#[]⟩, .int .i64 0] 1 (ah _) (by unfold maxLen; omega) rfl);have Hd:=ag ((ak w.heap.size w).alloc (ah _) (.cells #[.int .i64 7, .int .u64 0, .int .i64 (l.length:Int), .bool false, .string ⟨#[]⟩, .int .i64 0] 96))
 clear hv hs hl
 go_enter Tryz.func17,Tryz.ntmps17
 go_wp2_with fail
 go_loopw [3,4] (fun lv i wr=> ∃(k:Nat),k<=l.length/\i= .int .i64 k/\wr.ownsRow w.heap.size 96 6 lv (mg l k).length ((mg l k).flatMap te)/\Below w.heap.size w wr) (fun _ i _=>l.length-(intOf i).toNat)
 ·exact⟨0,aR _,rfl,Hh.o,Hd.o⟩
 ·obtain⟨k,hk,rfl,hu,hb⟩:=hrel;have HO:=ag hu;have HB:=ag hb;obtain⟨ao,co,rfl,HC,HH⟩:=aH hu;clear hu hb Hh Hd
  by_cases HA:k<l.length
  ·obtain⟨it,hI⟩: ∃it,l[k]? =some it:=⟨l[k],by simp[HA]⟩;obtain⟨b,o,ca,cc,rfl,Hl,Hm,-,-,hg⟩:=lR HV.o HB.o hI;have Hf:=ag (HS.o it (aM hI));have hR:=ag (vN hI);have hT:=ag (show(mg l k++gA it).length<=1000000 by rw[<-vN hI]; exact an (LC _ _) HL.o);have q0:=hg 0 (by omega);have q1:=hg 1 (by omega)
   have q2:=hg 2 (by omega);have q3:=hg 3 (by omega);have q4:=hg 4 (by omega);have q5:=hg 5 (by omega);have q6:=hg 6 (by omega);have q7:=hg 7 (by omega);have q8:=hg 8 (by omega);have q9:=hg 9 (by omega);simp only[fu,aD,cI,dh]at q0 q1 q2 q3 q4 q5 q6 q7 q8 q9;obtain⟨W,hW⟩:=bH (wr.alloc (.cells #[.string it.name, .int .i64 it.kind, .int .i64 it.mode, .int .i64 it.time, .int .i64 it.size, .string it.link, .slice ca it.chunks.length cc, .string it.node.name, .int .i64 it.node.gen, .int .i64 it.node.size] 28))
   have Hc:=ag (show Below wr.heap.size wr W by rw[hW]; exact eT);have hU:=ag (show Bx w wr.heap.size #[.string it.name, .int .i64 it.kind, .int .i64 it.mode, .int .i64 it.time, .int .i64 it.size, .string it.link, .slice ca it.chunks.length cc, .string it.node.name, .int .i64 it.node.gen, .int .i64 it.node.size] W (.slice ao (mg l k).length co) (mg l k)from⟨jI HO.o Hc.o,by rw[hW]; exact aC wr _,aj HB.o Hc.o⟩)
   have Hi:=ag Hm;have HD:=Hl;clear hI hg Hl HD Hm;obtain⟨vk,Hn⟩:=bH (mg l k);rw[<-Hn]at hR hT hU HC ⊢;clear Hn
   go_upto_region 6 with(fail)
   rw[<-hW];clear hW q0 q1 q2 q3 q4 q5 q6 q7 q8 q9 HO;refine eV (fun w'=>w'.cell? ⟨wr.heap.size,0,none⟩=some (.string it.name)/\w'.cell? ⟨wr.heap.size,1,none⟩=some (.int .i64 it.kind)/\w'.cell? ⟨wr.heap.size,2,none⟩=some (.int .i64 it.mode)/\w'.cell? ⟨wr.heap.size,3,none⟩=some (.int .i64 it.time)) (by kernel_rfl) ?_;obtain⟨W2,h4⟩:=bH W.drew;rw[<-h4];have hV:=ag (hU.o.next (show Below W.heap.size W W2 by rw[h4]; exact(ak _ _).drew))
   clear h4 hU;obtain⟨c0,c1,c2,c3,_⟩:=aT hV.o.box
   iterate 6 (refine cF rfl (by go_simp) (by rintro w' ⟨hL,hM,hN,hn⟩; go_simp; rfl) ?_; simp only[bM])
   refine dx 7 rfl (by go_simp) (by rintro w' ⟨hL,hM,hN,hn⟩; go_simp; rfl) ?_;simp only[bM];refine dx 8 rfl (by go_simp) (by rintro w' ⟨hL,hM,hN,hn⟩; go_simp; rfl) ?_;simp only[bM];refine dx 10 rfl (by go_simp) (by rintro w' ⟨hL,hM,hN,hn⟩; go_simp; rfl) ?_;simp only[bM];refine dx 11 rfl (by go_simp) (by rintro w' ⟨hL,hM,hN,hn⟩; go_simp; rfl) ?_;simp only[bM]
   refine cA 6 rfl (fun K hK=> ?_);go_wp2_with (go_at_call 55; refine(lU it.kind _).mono ?_; rintro e w1 ⟨rfl,hF⟩);have hX:=ag (hV.o.next hF);clear hF c0 c1 c2 c3;obtain⟨c0,c1,c2,c3,_⟩:=aT hX.o.box;refine⟨⟨c0,c1,c2,c3⟩, ?_⟩;refine cA 9 rfl (fun K hK=> ?_);go_wp2_with (go_at_call 55; refine(lU it.mode _).mono ?_; rintro e w2 ⟨rfl,Hj⟩);have hY:=ag (hX.o.next Hj)
   clear Hj c0 c1 c2 c3;obtain⟨c0,c1,c2,c3,_⟩:=aT hY.o.box;refine⟨⟨c0,c1,c2,c3⟩, ?_⟩;refine cA 12 rfl (fun K hK=> ?_);go_wp2_with (go_at_call 55; refine(lU it.time _).mono ?_; rintro e w3 ⟨rfl,Hk⟩);have hO:=ag (hY.o.next Hk);clear Hk c0 c1 c2 c3;obtain⟨c0,c1,c2,c3,_⟩:=aT hO.o.box;refine⟨⟨c0,c1,c2,c3⟩, ?_⟩;refine cA 13 rfl (fun K hK=> ?_)
   unfold rvV;go_wp2_with fail;have hf:(#[Value.int .i64 5, .int .u64 0, .int .i64 0, .bool false, .string it.name, .int .i64 0, .int .i64 (jd it.kind).kind, .int .u64 (jd it.kind).u, .int .i64 (jd it.kind).n, .bool (jd it.kind).b, .string (jd it.kind).s, .int .i64 (jd it.kind).most, .int .i64 (jd it.mode).kind, .int .u64 (jd it.mode).u, .int .i64 (jd it.mode).n, .bool (jd it.mode).b, .string (jd it.mode).s, .int .i64 (jd it.mode).most, .int .i64 (jd it.time).kind, .int .u64 (jd it.time).u, .int .i64 (jd it.time).n, .bool (jd it.time).b, .string (jd it.time).s, .int .i64 (jd it.time).most]:Array Value)=((IC it).flatMap te).toArray:=rfl
   rw[hf];obtain⟨w4,hn⟩:=bH (w3.alloc (.cells ((IC it).flatMap te).toArray 96));have hE:=ag (hO.o.next (show Below w3.heap.size w3 w4 by rw[hn]; exact eT));have Hg:=ag (show bX (w.heap.size<= ·) w4 6 (.slice (some ⟨w3.heap.size,0,none⟩) 4 4) 4 ((IC it).flatMap te) by have h1:=cK (cW (base:=w3.heap.size) (e:=96) (size:=6) w3 ((IC it).flatMap te).toArray 4 (ah _) (by unfold maxLen; omega) rfl);rw[hn];exact h1.weak (fun k hk=>an hO.o.below.size hk.1))
   rw[<-hn];clear hn hf hV hX hY hO c0 c1 c2 c3;obtain⟨c0,c1,c2,c3,_⟩:=aT hE.o.box;have Hz:vk.length+4<=1000000:=by
    have h1:=hT.o;rw[ai]at h1;have h2:4<=(gA it).length:=by unfold gA; simp
    omega
   have hH:=hE.o.below.size;refine⟨⟨c0,c1,c2,c3⟩, ?_⟩;refine cA 14 rfl (fun K hK=> ?_);go_wp2_with (at_builtin; go_must (refine dV Tryz.appVals rfl _ _ rfl w.heap.size (.slice ao vk.length co) vk.length (vk.flatMap te) rfl hE.o.row _ 4 ((IC it).flatMap te) rfl Hg.o uc (by omega) hH ?_); intro v' wc hd ha);have h7:=hE.o.app (news:=IC it) hd ha;obtain⟨v4,hp⟩:=bH (vk++IC it)
   rw[<-hp]at h7;have he:=ag h7;have h0:=ag hp;have HK:v4.length<=1000000:=by rw[hp,ai,Ps]; omega
   clear h7 hp;obtain⟨a7,c7',rfl,-,-⟩:=aH he.o.row;clear hd ha c0 c1 c2 c3 Hg hE hH;obtain⟨c0,c1,c2,c3,_⟩:=aT he.o.box;refine⟨⟨c0,c1,c2,c3⟩, ?_⟩;refine cF rfl (by go_simp) (by rintro w' ⟨hL,hM,hN,hn⟩; go_simp; rfl) ?_;simp only[bM];refine cH (by kernel_rfl) ?_;clear c0 c1 c2 c3;have hH:=he.o.below.size
   by_cases hq:it.kind=1
   ·have hA:=ag (show vk++gA it=v4++(jZ it.chunks.length::it.chunks.flatMap eQ) by rw[vz hq,h0.o,bg]);have Hq:=ag (show ∀j,(lQ v4 it.chunks j).length<=1000000 from fun j=>an (JX v4 it.chunks j) (by rw[<-hA.o]; exact hT.o));obtain⟨_,_,Hy,Hx,h9,-⟩:=cU.shape Hi.o pA.len
    cases Hy
    unfold maxLen at h9;have e1:(it.kind == 1)=true:=by simpa using hq
    clear hq;obtain⟨c0,c1,c2,c3,c4,c5,c6,c7,c8,c9,_⟩:=aT he.o.box;go_wp2_with (at_builtin; go_must (refine iX Tryz.appVals rfl _ _ rfl w.heap.size (.slice a7 v4.length c7') v4.length (v4.flatMap te) rfl wc (te (jZ it.chunks.length)) _ rfl rfl (by have:=uc (l:=[jZ it.chunks.length]); simpa using this) he.o.row (by omega) hH ?_); intro v' wd hd ha _; have h8:=he.o.app (news:=[jZ it.chunks.length]) (by simpa using hd) ha; have hh:=ag (show Bx w wr.heap.size _ wd v' (lQ v4 it.chunks 0)from h8); obtain⟨a8,c8',rfl,-,-⟩:=aH hh.o.row; clear hd ha h8)
    clear c0 c1 c2 c3 c4 c5 c6 c7 c8 c9;obtain⟨wo,HE⟩:=bH wr;subst HE
    go_loopw [3,6] (fun lv i wq=> ∃j:Nat,j<=it.chunks.length/\i= .int .i64 j/\Bx w wo.heap.size #[.string it.name, .int .i64 it.kind, .int .i64 it.mode, .int .i64 it.time, .int .i64 it.size, .string it.link, .slice ca it.chunks.length cc, .string it.node.name, .int .i64 it.node.gen, .int .i64 it.node.size] wq lv (lQ v4 it.chunks j)) (fun _ i _=>it.chunks.length-(intOf i).toNat)
    ·exact⟨0,aR _,rfl,hh.o⟩
    ·obtain⟨j,hj,rfl,hJ⟩:=hrel;have hP:=ag hJ;have HG:=Hq.o j;have HF:=hJ.below.size;obtain⟨a9,c9',rfl,-,-⟩:=aH hJ.row;have c6:=bD (k:=6) hJ.box;simp only[fV]at c6;clear hJ hh he
     by_cases Hb:j<it.chunks.length
     ·obtain⟨c,hc⟩: ∃c,it.chunks[j]? =some c:=⟨it.chunks[j],by simp[Hb]⟩;have Hu:=ag (show dJ (fun k=>k<w.heap.size) wr (.slice ca it.chunks.length cc) it.chunks from dJ.same Hi.o (fun k hk hS=>⟨hS,(hP.o.below.block k hS).trans (HB.o.block k hS).symm⟩));obtain⟨b2,o2,rfl,Ha,p0,p1,p2⟩:=lY Hu.o (ak _ _) hc;have Hr:=ag (Df (v4:=v4) hc)
      have Ho:=ag (Hf.o.ch c (aM hc));clear hc Ha;go_wp2_with fail;refine(qJ c _ Ho.o).mono ?_;rintro e w8 ⟨rv,rfl,hw,hG⟩;have hB:=ag (hP.o.next hG);have hZ:=ag (Jh hw);have hr:=hB.o.below.size;obtain⟨ra,rc,rfl,-,-,-⟩:=cU.shape hw OU.len;clear hw hG p0 p1 p2 c6;go_wp2_with (at_builtin; go_must (refine dV Tryz.appVals rfl _ _ rfl w.heap.size (.slice a9 (lQ v4 it.chunks j).length c9') (lQ v4 it.chunks j).length ((lQ v4 it.chunks j).flatMap te) rfl hB.o.row _ (eQ c).length ((eQ c).flatMap te) rfl hZ.o uc (by simp only[eQ,ay,bp]; omega) hr ?_); intro v' we hd ha; have h8:=hB.o.app (news:=eQ c) hd ha; rw[<-Hr.o]at h8; have Ht:=ag h8; obtain⟨ae,ce,rfl,-,-⟩:=aH h8.row; clear hd ha h8)
      go_roundw
      ·exact⟨j+1,by omega,by go_num,Ht.o⟩
      simp[intOf]; omega
     ·obtain rfl:j=it.chunks.length:=by omega
      have Hp:=ag (show vk++gA it=lQ v4 it.chunks it.chunks.length by rw[Fw,hA.o]);go_wp2_with fail
      go_roundw
      ·exact⟨k+1,by omega,by go_num,by rw[hR.o,Hp.o]; exact hP.o.row,hP.o.below⟩
      simp[intOf]; omega
   ·by_cases hD:it.kind=2
    ·have hA:=ag (show vk++gA it=v4++eQ it.node by rw[FG hD,h0.o,bg]);have e1:(it.kind == 1)=false:=by simpa using hq
     have e2:(it.kind == 2)=true:=by simpa using hD
     clear hq hD;obtain⟨c0,c1,c2,c3,c4,c5,c6,c7,c8,c9,_⟩:=aT he.o.box;go_wp2_with fail;refine(qJ it.node _ Hf.o.nd).mono ?_;rintro e w8 ⟨rv,rfl,hw,hG⟩;have hh:=ag (he.o.next hG);have hZ:=ag (Jh hw);have hr:=hh.o.below.size;obtain⟨ra,rc,rfl,-,-,-⟩:=cU.shape hw OU.len;clear hw hG c0 c1 c2 c3 c4 c5 c6 c7 c8 c9;go_wp2_with (at_builtin; go_must (refine dV Tryz.appVals rfl _ _ rfl w.heap.size (.slice a7 v4.length c7') v4.length (v4.flatMap te) rfl hh.o.row _ (eQ it.node).length ((eQ it.node).flatMap te) rfl hZ.o uc (by simp only[eQ,ay,bp]; omega) hr ?_); intro v' wd hd ha; have h8:=hh.o.app (news:=eQ it.node) hd ha; rw[<-hA.o]at h8; obtain⟨v8,hy⟩:=bH (vk++gA it); have h3:=ag hy; rw[<-hy]at h8; have hB:=ag h8; obtain⟨a8,c8',rfl,-,-⟩:=aH h8.row; clear hd ha h8 hy)
     go_roundw
     ·exact⟨k+1,by omega,by go_num,by rw[hR.o,<-h3.o]; exact hB.o.row,hB.o.below⟩
     simp[intOf]; omega
    ·have hA:=ag (show vk++gA it=v4++[ox it.link] by rw[Du hq hD,h0.o,bg]);have e1:(it.kind == 1)=false:=by simpa using hq
     have e2:(it.kind == 2)=false:=by simpa using hD
     clear hq hD;obtain⟨c0,c1,c2,c3,c4,c5,c6,c7,c8,c9,_⟩:=aT he.o.box;go_wp2_with (at_builtin; go_must (refine iX Tryz.appVals rfl _ _ rfl w.heap.size (.slice a7 v4.length c7') v4.length (v4.flatMap te) rfl wc (te (ox it.link)) _ rfl rfl (by have:=uc (l:=[ox it.link]); simpa using this) he.o.row (by omega) hH ?_); intro v' wd hd ha _; have h8:=he.o.app (news:=[ox it.link]) (by simpa using hd) ha; rw[<-hA.o]at h8; obtain⟨v8,hy⟩:=bH (vk++gA it); have h3:=ag hy; rw[<-hy]at h8; have hh:=ag h8; obtain⟨a8,c8',rfl,-,-⟩:=aH h8.row; clear hd ha h8 hy)
     go_roundw
     ·exact⟨k+1,by omega,by go_num,by rw[hR.o,<-h3.o]; exact hh.o.row,hh.o.below⟩
     simp[intOf]; omega
  ·obtain rfl:k=l.length:=by omega
   have Hv:=ag (show zA (fun _=>True) wr (.slice ao (mg l l.length).length co) (iM l) by have h1:=cK HO.o;have h2:=GO l;rw[h2]at h1 ⊢;exact⟨_,h1.weak (fun _ _=>trivial),Ch (DZ HS.o (by omega) HL.o)⟩)
   have Hs:=HL;go_wp2_with fail;refine(Fv _ _ _ _ Hv.o Hs.o).mono ?_;rintro e w1 ⟨hF,ho⟩;have He:=ag (aj HB.o hF);have hz:=HB.o.size;clear hF
   cases hC:yU (iM l)with
   | error x=>
    rw[hC]at ho;obtain⟨rfl,hx⟩:=ho;have HX:=ag (show tV l=[] by unfold tV; rw[hC]);clear hC hx;go_wp2_with fail;go_ret;exact⟨_,rfl,by rw[HX.o]; exact bN _ _ _ _,He.o⟩
   | ok bs=>
    rw[hC]at ho;obtain⟨v,rfl,hv⟩:=ho;have HX:=ag (show tV l=bs by unfold tV; rw[hC]);have Hw:=ag hv;obtain⟨va,vc,rfl,HI,HJ⟩:=aH hv;clear hv;clear hC;go_wp2_with fail;go_ret;exact⟨_,rfl,by rw[HX.o]; exact KI Hw.o hz,He.o⟩
theorem yD {n:Nat} (h:n<256):(UInt8.ofNat n).toNat=n:=ep (by exact h)
theorem AE : ∀(f n:Nat),n<2^(7*(f+1))-> ∃l c,jW f n=l++[c]/\(∀b∈l,128<=b.toNat)/\c.toNat<128
 | 0,n,h=>⟨[],UInt8.ofNat n,rfl,by simp,by rw[yD (by simp at h; omega)]; simpa using h⟩
 | f+1,n,h=>by
  rw[jW]
  by_cases hn:127<n
  ·rw[if_pos hn];obtain⟨l,c,h1,h2,h3⟩:=AE f (n/128) (by rw[show 7*(f+1+1)=7*(f+1)+7 by omega,gD]at h;exact fo (by omega))
   refine⟨UInt8.ofNat (n%128+128)::l,c,by rw[h1]; rfl,fun b hb=> ?_,h3⟩
   rcases aU.1 hb with rfl | hb
   ·rw[yD (by omega)]; omega
   ·exact h2 b hb
  ·rw[if_neg hn];exact⟨[],UInt8.ofNat n,rfl,by simp,by rw[yD (by omega)]; omega⟩
theorem xR : ∀(f n j:Nat),1<=j->n<2^(7*j)->(jW f n).length<=j
 | 0,n,j,hj,_=>by simpa [jW]using hj
 | f+1,n,j,hj,h=>by
  rw[jW]
  by_cases hn:127<n
  ·rw[if_pos hn,ay];obtain⟨j,rfl⟩: ∃k,j=k+1:=⟨j-1,by omega⟩;have hj1:1<=j:=by
    rcases eI j with e | e
    ·subst e; simp at h; omega
    ·exact e
   have:=xR f (n/128) j hj1 (by rw[show 7*(j+1)=7*j+7 by omega,gD]at h;exact fo (by omega))
   omega
  ·rw[if_neg hn]; simpa using hj
theorem iR {n:Nat} (h:n<18446744073709551616):(bG n).length<=10:=xR 10 n 10 (by decide) (jk h (by decide))
theorem sO (n:Nat):1<=(bG n).length:=by unfold bG jW; split<;> simp
theorem IV {data:List UInt8} {off:Nat} {c:UInt8} (hc:c.toNat<128) (rest:List UInt8): ∀(q p:List UInt8) (f:Nat),data.drop off=(p++q++[c])++rest->(∀b∈q,128<=b.toNat)->
  bG (uX (p++q++[c]))=p++q++[c]->q.length<f->zh data off f p.length= .ok (uX (p++q++[c]),off+(p++q++[c]).length)
 | [],p,f,hd,_,he,hf=>by
  obtain⟨f,rfl⟩: ∃g,f=g+1:=⟨f-1,by simp at hf; omega⟩;rw[cg]at hd he ⊢;have h1:data[off+p.length]? =some c:=by rw[<-fN,hd]; simp
  have h2:(data.drop off).take (p.length+1)=p++[c]:=by rw[hd,List.take_left' (by simp)]
  rw[PD h1 (by omega) (by rw[h2]; exact he),h2,ai,bT,<-dp]
 | b::q,p,f,hd,hq,he,hf=>by
  obtain⟨f,rfl⟩: ∃g,f=g+1:=⟨f-1,by simp at hf; omega⟩;have h1:data[off+p.length]? =some b:=by rw[<-fN,hd]; simp
  rw[KG h1 (hq b (by simp))];have:=IV hc rest q (p++[b]) f (by rw[hd]; simp) (fun x hx=>hq x (by simp[hx])) (by simpa using he) (by simp at hf; omega);rw[ai,bT]at this;rw[this]; simp
theorem xT {data rest:List UInt8} {off n:Nat} (ho:off<=data.length) (hn:n<18446744073709551616) (h:data.drop off=bG n++rest):oD data off= .ok (n,off+(bG n).length):=by
 obtain⟨l,c,h1,h2,h3⟩:=AE 10 n (jk hn (by decide));have hv:uX (bG n)=n:=by unfold uX bG;rw[yI 10 n (jk hn (by decide)),eM hn]
 have hs:=iR hn;have he:bG n=l++[c]:=h1;rw[Nq data off ho];have:=IV (data:=data) (off:=off) h3 rest l [] 10 (by rw[h,he]; simp) h2 (by rw[aJ,<-he,hv]) (by rw[he]at hs; simp at hs; omega);rw[bp,aJ,<-he,hv]at this;exact this
def Ok (data:List UInt8) (s:RS):Prop:=s.err=0/\s.off<=data.length
theorem Jg {α:Type} {z x:α} {r:Except Int (α×Nat)} {s:RS} {o:Nat} (h:s.err=0) (hr:r= .ok (x,o)):rv z r s=(x,⟨o,s.off,0⟩):=by unfold rv; rw[if_pos h,hr]
theorem og {data a rest:List UInt8} {off:Nat} (ho:off<=data.length) (h:data.drop off=a++rest):off+a.length<=data.length/\data.drop (off+a.length)=rest:=by have h1:=congrArg List.length h;rw[bz,ai]at h1;refine⟨by omega, ?_⟩;rw[<-fY,h,List.drop_left]
theorem yF {data rest:List UInt8} {s:RS} {n:Nat} (hs:Ok data s) (hn:n<18446744073709551616) (h:data.drop s.off=bG n++rest): ∃s',vV data s=(n,s')/\Ok data s'/\data.drop s'.off=rest:=by have h1:=og hs.2 h;exact⟨_,Jg hs.1 (xT hs.2 hn h),⟨rfl,h1.1⟩,h1.2⟩
theorem Ms {data rest:List UInt8} {s:RS} {n most:Nat} (hs:Ok data s) (hn:n<18446744073709551616) (hm:n<=most) (h:data.drop s.off=bG n++rest): ∃s',Cs data most s=(n,s')/\Ok data s'/\data.drop s'.off=rest:=by have h1:=og hs.2 h;refine⟨_,Jg hs.1 (o:=s.off+(bG n).length) ?_,⟨rfl,h1.1⟩,h1.2⟩;unfold nr;rw[xT hs.2 hn h];simp only;rw[if_neg (by omega)]
theorem EM {data a rest:List UInt8} {off:Nat} (ho:off<=data.length) (h:data.drop off=a++rest):kN data off a.length= .ok (a,off+a.length):=by have h1:=(og ho h).1;unfold kN;rw[if_neg (by omega),h,List.take_left]
theorem QN {data a rest:List UInt8} {s:RS} (hs:Ok data s) (ha:a.length=32) (h:data.drop s.off=a++rest): ∃s',smP data s=(a,s')/\Ok data s'/\data.drop s'.off=rest:=by have h1:=og hs.2 h;have h2:=EM hs.2 h;rw[ha]at h2 h1;exact⟨_,Jg hs.1 h2,⟨rfl,h1.1⟩,h1.2⟩
theorem Ox {data a rest:List UInt8} {s:RS} {most:Nat} (hs:Ok data s) (ha:a.length<=most) (hm:most<18446744073709551616) (h:data.drop s.off=bG a.length++(a++rest)): ∃s',EN data most s=(a,s')/\Ok data s'/\data.drop s'.off=rest:=by have h1:=og hs.2 h;have h3:=og h1.1 h1.2;refine⟨_,Jg hs.1 (o:=s.off+(bG a.length).length+a.length) ?_,⟨rfl,h3.1⟩,h3.2⟩;unfold kt nr;rw[xT hs.2 (by omega) h];simp only;rw[if_neg (by omega)];simp only;exact EM h1.1 h1.2
def fK (r:bY):List UInt8:=bl r.name++(bG r.gen.toNat++bG r.size.toNat)
theorem ui {n:Nat} (h:n<9223372036854775808):oE n=(n:Int):=by unfold oE wrap64; omega
theorem mZ {r:bY} :lj r=true<->r.name.size=32/\0<=r.gen/\r.gen<=1099511627776/\0<=r.size/\r.size<=32768:=by unfold lj; simp[and_assoc]
theorem Jf {data rest:List UInt8} {s:RS} {r:bY} (hs:Ok data s) (hr:lj r=true) (h:data.drop s.off=fK r++rest): ∃s',ss data s=(r,s')/\Ok data s'/\data.drop s'.off=rest:=by
 obtain⟨h1,h2,h3,h4,h5⟩:=mZ.1 hr;unfold fK at h;rw[bg,bg]at h;obtain⟨s1,e1,o1,d1⟩:=QN hs (by rw[<-bi]; exact h1) h;obtain⟨s2,e2,o2,d2⟩:=yF o1 (by omega) d1;obtain⟨s3,e3,o3,d3⟩:=yF o2 (by omega) d2;refine⟨s3, ?_,o3,d3⟩;unfold ss;rw[e1];simp only;rw[e2];simp only;rw[e3,tS,ui (by omega),ui (by omega)]
 congr 1
 cases r
 simp only[bY.mk.injEq,true_and]at *;omega
theorem wR {data:List UInt8} : ∀(l pre:List bY) (rest:List UInt8) (s0 s:RS),jq data s0 pre.length=(pre,s)->Ok data s->(∀r∈l,lj r=true)->data.drop s.off=l.flatMap fK++rest->
  ∃s',jq data s0 (pre.length+l.length)=(pre++l,s')/\Ok data s'/\data.drop s'.off=rest
 | [],pre,rest,s0,s,h,hs,_,hd=>⟨s,by simpa using h,hs,by simpa using hd⟩
 | r::l,pre,rest,s0,s,h,hs,hv,hd=>by
  rw[bC,bg]at hd;obtain⟨s1,e1,o1,d1⟩:=Jf hs (hv r (by simp)) hd;have h1:=vp h e1;obtain⟨s2,e2,o2,d2⟩:=wR l (pre++[r]) rest s0 s1 (by simpa using h1) o1 (fun x hx=>hv x (by simp[hx])) d1;refine⟨s2, ?_,o2,d2⟩;rw[ai,bT]at e2;rw[ay,show pre.length+(l.length+1)=pre.length+1+l.length by omega,e2]
  simp
theorem Fh (l:List UInt8):iV l=(dH l && !l.contains 47):=by
 by_cases h:(47:UInt8)∈l
 ·have h1:l.contains 47=true:=by simpa using h
  have h2:iV l=false:=by unfold iV; rw[h1]; simp
  rw[h1,h2]; simp
 ·have h1:l.contains 47=false:=by simpa using h
  rw[h1];unfold dH;rw[fW 47 l h]
  cases hc:iV l
  ·simp[hc]
  ·have h2:l.length<=64:=by unfold iV at hc;simp only[aE,aG]at hc;exact hc.1.1.1.1.2
   simp[hc]; omega
def lB (it:ci):List UInt8:=
 if it.kind=1 then bG it.chunks.length++it.chunks.flatMap fK else if it.kind=2 then fK it.node else bG it.link.size++bl it.link
def gL (it:ci):List UInt8:=bG it.name.size++(bl it.name++(bG it.kind.toNat++(bG it.mode.toNat++(bG it.time.toNat++lB it))))
def gC (l:List ci):List UInt8:=bG l.length++l.flatMap gL
theorem Ft {r:bY} (h:lj r=true):34<=(fK r).length:=by
 obtain⟨h1,_⟩:=mZ.1 h;unfold fK;rw[ai,ai,<-bi,h1];have:=sO r.gen.toNat
 have:=sO r.size.toNat
 omega
theorem vr : ∀ {l:List bY},(∀r∈l,lj r=true)->34*l.length<=(l.flatMap fK).length
 | [],_=>by simp
 | r::l,h=>by have h1:=Ft (h r (by simp));have h2:=vr (l:=l) (fun x hx=>h x (by simp[hx]));rw[bC,ai,ay]; omega
structure LQ (it : ci) : Prop where
 val:dH (bl it.name)=true
 nos:(bl it.name).contains 47=false
 md0:0<=it.mode
 md1:it.mode<=511
 tm0:0<=it.time
theorem qW {it:ci} :uj it=true<->LQ it:=by
 unfold uj
 constructor
 ·intro h;simp only[aE,aG,gh]at h;exact⟨h.1.1,h.1.2,h.2.1.1,h.2.1.2,h.2.2⟩
 ·intro h;simp only[aE,aG,gh];exact⟨⟨h.val,h.nos⟩,⟨h.md0,h.md1⟩,h.tm0⟩
theorem nK {it:ci} (hk:it.kind=1) (h:kX it=true):it.link=⟨#[]⟩/\it.node=eL/\(∀c∈it.chunks,lj c=true/\1<=c.size)/\it.size=nt it.chunks/\it.size<=1048576:=by
 unfold kX at h;rw[if_pos hk]at h;unfold lC at h;simp only[aE,aG,cB]at h;refine⟨?_,h.1.2,fun c hc=> ?_,h.2.2.1,h.2.2.2⟩
 ·apply kF
  have:=h.1.1;rw[bi]at this;rw[bq this]; rfl
 ·have:=h.2.1 c hc;unfold rz at this;simp only[aE,aG]at this;exact⟨this.1,by have:=this.2; omega⟩
theorem tF {it:ci} (hk:it.kind=2) (h:kX it=true):it.link=⟨#[]⟩/\it.size=0/\it.chunks=[]/\lj it.node=true:=by
 unfold kX at h;rw[if_neg (by omega),if_pos hk]at h;simp only[aE,aG]at h;refine⟨?_,h.1.1.2,bq h.1.2,h.2⟩
 apply kF
 have:=h.1.1.1;rw[bi]at this;rw[bq this]; rfl
theorem ur {it:ci} (hk:it.kind=3) (h:kX it=true):it.size=0/\it.chunks=[]/\it.node=eL/\1<=it.link.size/\it.link.size<=512/\(bl it.link).contains 0=false:=by unfold kX at h;rw[if_neg (by omega),if_neg (by omega),if_pos hk]at h;simp only[aE,aG,gh]at h;exact⟨h.1.1.1,bq h.1.1.2,h.1.2,h.2.1.1,h.2.1.2,h.2.2⟩
theorem rJ {it:ci} (h:kX it=true):it.kind=1\/it.kind=2\/it.kind=3:=by
 unfold kX at h
 by_cases h1:it.kind=1
 ·exact .inl h1
 ·by_cases h2:it.kind=2
  ·exact .inr (.inl h2)
  ·by_cases h3:it.kind=3
   ·exact .inr (.inr h3)
   ·rw[if_neg h1,if_neg h2,if_neg h3]at h; cases h
theorem tH {l:List UInt8} (h:dH l=true) (h2:l.contains 47=false):l.length<=64:=by have:=Fh l;rw[h,h2]at this;unfold iV at this;simp only[Bool.not_false,Bool.and_self,aE,aG]at this;omega
theorem MS {data rest:List UInt8} {s:RS} {it:ci} (hs:Ok data s) (hv:jA it=true) (ht:it.time<9223372036854775808) (hl:data.length<=32768) (h:data.drop s.off=gL it++rest):
  ∃s',nZ data s=some (it,s')/\Ok data s'/\data.drop s'.off=rest:=by
 unfold jA at hv;rw[aE]at hv;have hh:=qW.1 hv.1;have hk:=rJ hv.2;unfold gL at h;simp only[bg]at h;rw[bi]at h;obtain⟨s2,e2,o2,d2⟩:=Ox (most:=64) hs (tH hh.val hh.nos) (by decide) h;have b0:=hh.md0;have b1:=hh.md1;have b2:=hh.tm0;obtain⟨s3,e3,o3,d3⟩:=yF o2 (by omega) d2;obtain⟨s4,e4,o4,d4⟩:=yF o3 (by omega) d3
 obtain⟨s5,e5,o5,d5⟩:=yF o4 (by omega) d4;rw[xC e2 e3 e4 e5];have tk:oE it.kind.toNat=it.kind:=by rw[ui (by omega)]; omega
 have tm:oE it.mode.toNat=it.mode:=by rw[ui (by omega)]; omega
 have tt:oE it.time.toNat=it.time:=by rw[ui (by omega)]; omega
 rcases hk with hk | hk | hk
 ·obtain⟨f1,f2,f3,f4,_⟩:=nK hk hv.2;unfold lB at d5;rw[if_pos hk,bg]at d5;have h6:=og o5.2 d5;have h7:34*it.chunks.length<=(it.chunks.flatMap fK).length:=vr (fun r hr=>(f3 r hr).1);have h8:=congrArg List.length h6.2;rw[bz,ai]at h8;obtain⟨s6,e6,o6,d6⟩:=Ms (most:=963) o5 (by omega) (by omega) d5
  obtain⟨s7,e7,o7,d7⟩:=wR it.chunks [] rest s6 s6 rfl o6 (fun r hr=>(f3 r hr).1) d6;rw[bp,bO,aJ]at e7;refine⟨s7, ?_,o7,d7⟩;rw[xA (by rw[tk]; exact hk) e6 e7,tk,tm,tt,tS,<-f4,<-f1,<-f2]
 ·obtain⟨f1,f2,f3,f4⟩:=tF hk hv.2;unfold lB at d5;rw[if_neg (by omega),if_pos hk]at d5;obtain⟨s6,e6,o6,d6⟩:=Jf o5 f4 d5;refine⟨s6, ?_,o6,d6⟩;rw[Ai (by rw[tk]; exact hk) e6,tk,tm,tt,tS,<-f1,<-f3];rw[show(0:Int)=it.size from f2.symm]
 ·obtain⟨f1,f2,f3,f4,f5,_⟩:=ur hk hv.2;unfold lB at d5;rw[if_neg (by omega),if_neg (by omega),bg,bi]at d5;obtain⟨s6,e6,o6,d6⟩:=Ox (most:=512) o5 (by rw[<-bi]; omega) (by decide) d5;refine⟨s6, ?_,o6,d6⟩;rw[xB (by rw[tk]; exact hk) e6,tk,tm,tt,tS,tS,<-f3,<-f2];rw[show(0:Int)=it.size from f1.symm]
theorem yH : ∀ {l:List ci} {p:Option ByteArray},ke p l=true-> ∀it∈l,jA it=true
 | it::l,p,h,x,hx=>by
  rw[ke,aE,aE]at h
  rcases aU.1 hx with rfl | hx
  ·exact h.1.1
  ·exact yH h.2 x hx
theorem pS {l:List ci} (h:jL l=true):l.length<=4096/\ ∀it∈l,jA it=true:=by unfold jL at h;rw[aE,aG]at h;exact⟨h.1,yH h.2⟩
theorem An {data:List UInt8} (hl:data.length<=32768): ∀(l pre:List ci) (rest:List UInt8) (s0 s:RS),ku data s0 pre.length=some (pre,s)->Ok data s->(∀it∈l,jA it=true/\it.time<9223372036854775808)->data.drop s.off=l.flatMap gL++rest->
  ∃s',ku data s0 (pre.length+l.length)=some (pre++l,s')/\Ok data s'/\data.drop s'.off=rest
 | [],pre,rest,s0,s,h,hs,_,hd=>⟨s,by simpa using h,hs,by simpa using hd⟩
 | it::l,pre,rest,s0,s,h,hs,hv,hd=>by
  rw[bC,bg]at hd;obtain⟨s1,e1,o1,d1⟩:=MS hs (hv it (by simp)).1 (hv it (by simp)).2 hl hd;have h1:=oN h e1;obtain⟨s2,e2,o2,d2⟩:=An hl l (pre++[it]) rest s0 s1 (by simpa using h1) o1 (fun x hx=>hv x (by simp[hx])) d1;refine⟨s2, ?_,o2,d2⟩;rw[ai,bT]at e2;rw[ay,show pre.length+(l.length+1)=pre.length+1+l.length by omega,e2]
  simp
theorem Np {l:List ci} (hv:jL l=true) (ht: ∀it∈l,it.time<9223372036854775808) (hl:(gC l).length<=32768):js (gC l)=some l:=by
 obtain⟨h1,h2⟩:=pS hv;have hs:Ok (gC l) ⟨0,0,0⟩:=⟨rfl,aR _⟩;obtain⟨s1,e1,o1,d1⟩:=Ms (rest:=l.flatMap gL) (most:=4096) (n:=l.length) hs (by omega) h1 rfl;obtain⟨s2,e2,o2,d2⟩:=An hl l [] [] s1 s1 rfl o1 (fun it hi=>⟨h2 it hi,ht it hi⟩) (by simpa using d1);rw[bp,bO,aJ]at e2;rw[vA (by omega) e1 e2]
 have h3:=congrArg List.length d2;rw[bz,bp]at h3;have h4:uB (gC l) s2=0:=by unfold uB; rw[if_pos o2.1,if_neg (by omega)]
 rw[if_pos ⟨h4,hv⟩]
open Go Go.RowKit
theorem Rh {x:Nat} (h:x<256):x ||| 128=x%128+128:=by
 have: ∀y:Fin 256,y.val ||| 128=y.val%128+128:=by decide
 exact this ⟨x,h⟩
theorem JK (n:Nat):Value.int .u8 (bits BinOp.or IntKind.u8 ((n:Int)%256) 128)=aZ (UInt8.ofNat (n%128+128)):=by
 rw[mB (by omega),show((n:Int)%256)=((n%256:Nat):Int) by omega,show(128:Int)=((128:Nat):Int)from rfl,u8_or_nat _ _ (by omega) (by decide),Rh (by omega)]
 congr 2
 omega
theorem JJ {n:Nat} (h:n<256):Value.int .u8 (n:Int)=aZ (UInt8.ofNat n):=(mB h).symm
def mj (w:World) (base:Nat) (v:Value) (acc:List UInt8):Prop:=w.ownsRow base 5 1 v acc.length (acc.map aZ)
def Qo (base:Nat) (v:Value) (acc:List UInt8) (w:World) (e:Ending) (w':World):Prop:= ∃v',e= .returned v'/\mj w' base v' acc/\w.grownBy w' v.ownBlock/\(∀k,v'.ownBlock=some k->v.ownBlock=some k\/w.heap.size<=k)
structure OO (base : Nat) (v : Value) (w : World) (x : Value) (ac : List UInt8) (wr : World) : Prop where
 own:mj wr base x ac
 grown:w.grownBy wr v.ownBlock
 place: ∀k,x.ownBlock=some k->v.ownBlock=some k\/w.heap.size<=k
theorem OO.next {base:Nat} {v:Value} {w:World} {x:Value} {ac:List UInt8} {wr wc:World} {v' u:Value} {n:Nat} {b:UInt8} (h:OO base v w x ac wr) (h1:wc.ownsRow base 5 1 v' (n+1) (ac.map aZ++[u])) (h2:wr.grownBy wc x.ownBlock) (h3: ∀k,v'.ownBlock=some k->x.ownBlock=some k\/wr.heap.size<=k)
  (hn:n=ac.length) (hu:u=aZ b):OO base v w v' (ac++[b]) wc:=by
 subst hn hu;refine⟨by unfold mj; simpa using h1,⟨h2.os.trans h.grown.os,h2.tape.trans h.grown.tape,h2.output.trans h.grown.output,an h.grown.size h2.size,fun k hk ha=> ?_⟩,fun k hk=> ?_⟩
 ·rw[h2.block k (aO hk h.grown.size) (fun e=> ?_)]
  ·exact h.grown.block k hk ha
  ·rcases h.place k e.symm with e2 | e2
   ·exact ha e2.symm
   ·omega
 ·rcases h3 k hk with e | e
  ·exact h.place k e
  ·exact .inr (an h.grown.size e)
theorem sP (base:Nat) (v:Value) (acc:List UInt8) (n:Nat) (w:World) (hv:mj w base v acc) (hb:base<=w.heap.size) (hl:acc.length<1099511000000) (hn:n<18446744073709551616):
  Calls Tryz.prog 100 #[v, .int .u64 (n:Int)] w (Qo base v (acc++bG n) w):=by
 have HV:=ag hv;obtain⟨a0,c0,rfl,hx,hy⟩:=aH hv;clear hv
 go_enter Tryz.func100,Tryz.ntmps100
 go_wp2_with fail
 go_loopw [0,1] (fun x y wr=> ∃(f m:Nat) (ac:List UInt8),y= .int .u64 (m:Int)/\m<18446744073709551616/\m<2^(7*f)/\ac++jW f m=acc++bG n/\OO base (.slice a0 acc.length c0) w x ac wr) (fun _ y _=>(intOf y).toNat)
 ·exact⟨10,n,acc,rfl,hn,jk hn (by decide),rfl,HV.o,qe _ _,fun k hk=> .inl hk⟩
 ·obtain⟨f,m,ac,rfl,hm,hu,hf,hd⟩:=hrel;obtain⟨ax,cx,rfl,h1,h2⟩:=aH hd.own;obtain⟨xl,hh⟩:=bH ac.length;rw[<-hh]at hd h1 ⊢;have HI:=ag hd;have hq:=ag hh;have HO:=ag (show wr.ownsRow base 5 1 (.slice ax xl cx) xl (ac.map aZ) by have:=hd.own; unfold mj at this; rw[<-hh]at this; exact this);have HE:=ag hf;have hp:=ag hu;have hr:base<=wr.heap.size:=by have:=hd.grown.size; omega
  have hg:=congrArg List.length hf;rw[ai,ai]at hg;have:=dG n;have hw:xl<1099511627775:=by omega
  clear hd hf hu hg this hh
  by_cases hs:127<m
  ·have HV:=ag (JK m);have HZ:=ag (show ∀u∈[(Value.int .u8 (bits BinOp.or IntKind.u8 ((m:Int)%256) 128))],u.oneCell'=true by simp[Value.oneCell']);obtain⟨f,rfl⟩: ∃g,f=g+1:=⟨f-1,by
    cases f with
    | zero=>have:=hp.o; simp at this; omega
    | succ g=>rfl⟩
   have hj:=ag (show(ac++[UInt8.ofNat (m%128+128)])++jW f (m/128)=acc++bG n by rw[<-HE.o,jW,if_pos hs]; simp);have ho:=ag (show m/128<2^(7*f) by have h3:=hp.o;rw[show 7*(f+1)=7*f+7 by omega,gD]at h3;exact fo (by omega))
   go_wp2_with (at_builtin; go_loud (refine bP Tryz.appBytes rfl _ _ rfl base (.slice ax xl cx) xl (ac.map aZ) rfl wr [Value.int .u8 (bits BinOp.or IntKind.u8 ((m:Int)%256) 128)] _ rfl rfl HZ.o HO.o hw hr ?_); intro v' wc hc ha _ he; go_loud (have HP:=ag (HI.o.next hc ha he hq.o HV.o)); obtain⟨ae,ce,rfl,-,-⟩:=aH hc; clear hc ha he)
   go_roundw
   ·exact⟨f,m/128,_,by simp,by omega,ho.o,hj.o,HP.o⟩
   simp[intOf]; omega
  ·have HV:=ag (JJ (n:=m) (by omega));have HZ:=ag (show ∀u∈[(Value.int .u8 (m:Int))],u.oneCell'=true by simp[Value.oneCell']);have hj:=ag (show ac++[UInt8.ofNat m]=acc++bG n by
    rw[<-HE.o]
    cases f with
    | zero=>rfl
    | succ f=>rw[jW,if_neg hs])
   go_wp2_with (at_builtin; go_loud (refine bP Tryz.appBytes rfl _ _ rfl base (.slice ax xl cx) xl (ac.map aZ) rfl wr [Value.int .u8 (m:Int)] _ rfl rfl HZ.o HO.o hw hr ?_); intro v' wc hc ha _ he; go_loud (have HP:=ag (HI.o.next hc ha he hq.o HV.o)); obtain⟨ae,ce,rfl,-,-⟩:=aH hc; clear hc ha he);go_ret;rw[<-hj.o];exact⟨_,rfl,HP.o.own,HP.o.grown,HP.o.place⟩
theorem wH (n:Nat) (w:World) (hn:n<18446744073709551616):
  Calls Tryz.prog 176 #[.slice none 0 0, .int .u64 (n:Int)] w fun e w'=> ∃v,e= .returned v/\mj w' w.heap.size v (bG n)/\Below w.heap.size w w':=by
 obtain⟨hr,⟨i9,z9,he,hf,hg,hh,hq⟩,-,-⟩:=Tryz.appBytes;have hb:i9.bytes*10<=281474976710656:=by rw[hh]; decide
 have H9:=ag (aB he (aB hf (aB hg hb)));clear he hf hg hh hq hb
 go_enter Tryz.func176,Tryz.ntmps176
 go_wp2_with (first | (refine wpList_make_own _ rfl _ _ 29 rfl w.heap.size 5 i9 z9 1 cV H9.o.1 H9.o.2.1 H9.o.2.2.1 .i64 .i64 10 10 rfl rfl rfl H9.o.2.2.2 (by decide) (ah _) ?_; intro w4 ha hj; have ho:=ag ha; have hd:=ag hj; clear ha hj));refine(sP w.heap.size _ [] n w4 ho.o hd.o.size (by simp) hn).mono ?_;rintro e w5 ⟨v',rfl,hc,hl,-⟩
 rw[aJ]at hc;have hp:=ag hc;have hm:=ag ((jE hd.o).grown hl hd.o.size (fun k hk=>by cases hk; exact ah _));obtain⟨a5,c5,rfl,-,-⟩:=aH hc;clear hc hl;go_wp2_with fail;go_ret;exact⟨_,rfl,hp.o,hm.o⟩
structure dq where
 nm:ByteArray
 st:ByteArray
 ck:ByteArray
 ix:ByteArray
 tk:ByteArray
def dq.list (k:dq):List ByteArray:=[k.nm,k.st,k.ck,k.ix,k.tk]
def eW (k:dq):List Value:=[.string k.nm, .string k.st, .string k.ck, .string k.ix, .string k.tk]
def kJ (k:dq):Value:= .agg #[.string k.nm, .string k.st, .string k.ck, .string k.ix, .string k.tk]
def jK (k:dq):Bool:=k.list.all fun s=>decide (s.size=32)
theorem Kj (k:dq) {j:Nat} (h:j<5): ∃s,k.list[j]? =some s/\(eW k)[j]? =some (.string s):=by
 have hc:j=0\/j=1\/j=2\/j=3\/j=4:=by omega
 rcases hc with rfl | rfl | rfl | rfl | rfl
 ·exact⟨_,rfl,rfl⟩
 ·exact⟨_,rfl,rfl⟩
 ·exact⟨_,rfl,rfl⟩
 ·exact⟨_,rfl,rfl⟩
 ·exact⟨_,rfl,rfl⟩
theorem zp (k:dq) (w:World):Calls Tryz.prog 115 #[kJ k] w fun e w'=>e= .returned (.bool (jK k))/\Below w.heap.size w w':=by
 unfold kJ
 go_enter Tryz.func115,Tryz.ntmps115
 go_wp2_with fail;obtain⟨W1,hb⟩:=bH ((w.alloc (.cells #[.string k.nm, .string k.st, .string k.ck, .string k.ix, .string k.tk] 42)).alloc (.cells #[.string k.nm, .string k.st, .string k.ck, .string k.ix, .string k.tk] 9));rw[<-hb];have hd:=ag (show Below w.heap.size w W1 by rw[hb]; exact(eT).alloc (by simp) _);have hk:=ag (show W1.heap[w.heap.size+1]? =some (.cells (eW k).toArray 9 (0,0)) by rw[hb];have:=aC (w.alloc (.cells #[.string k.nm, .string k.st, .string k.ck, .string k.ix, .string k.tk] 42)) (.cells #[.string k.nm, .string k.st, .string k.ck, .string k.ix, .string k.tk] 9);rw[show(w.alloc (.cells #[.string k.nm, .string k.st, .string k.ck, .string k.ix, .string k.tk] 42)).heap.size=w.heap.size+1 by simp]at this;exact this)
 clear hb
 go_loopw [17] (fun i wr=> ∃j:Nat,j<=5/\i= .int .i64 (j:Int)/\wr=W1/\(k.list.take j).all (fun s=>decide (s.size=32))=true) (fun i _=>5-(intOf i).toNat)
 ·exact⟨0,by omega,rfl,rfl,rfl⟩
 ·obtain⟨j,hj,rfl,rfl,ha⟩:=hrel;have HA:=ag ha;clear ha
  by_cases h5:j<5
  ·obtain⟨s,hg,hh⟩:=Kj k h5;have c0:wr.cell? ⟨w.heap.size+1,j,none⟩=some (.string s):=by rw[br wr _ _ _ _ _ hk.o,aF]; exact hh
   have hl:(j:Int)<5:=by omega
   have HS:=ag hg;clear hg hh
   by_cases he:s.size=32
   ·have hc:(s.size:Int)=32:=by omega
    go_wp2_with fail
    go_roundw
    ·exact⟨j+1,by omega,by simp,trivial,by rw[cw,HS.o,List.all_append,HA.o]; simp[he]⟩
    simp[intOf]; omega
   ·have hc: ¬(s.size:Int)=32:=by omega
    go_wp2_with fail;go_ret;have hf:jK k=false:=by unfold jK;rw[List.all_eq_false];exact⟨s,aM HS.o,by simpa using he⟩
    rw[hf];exact⟨rfl,hd.o⟩
  ·obtain rfl:j=5:=by omega
   go_wp2_with fail;go_ret;have hf:jK k=true:=HA.o;rw[hf];exact⟨rfl,hd.o⟩
theorem qu (k:dq) (b:Bool) (w:World) (h:jK k=b):Calls Tryz.prog 115 #[kJ k] w fun e w'=>e= .returned (.bool b)/\Below w.heap.size w w':=by rw[<-h]; exact zp k w
theorem uV {k:dq} (h:jK k=true):k.nm.size=32/\k.st.size=32/\k.ck.size=32/\k.ix.size=32/\k.tk.size=32:=by unfold jK dq.list at h;simp only[List.all_cons,List.all_nil,Bool.and_true,aE,aG]at h;exact h
def ms (k:dq) (g:Nat) (c:List UInt8):ByteArray:=⟨(zq (bl k.nm) (bG g++c)).toArray⟩
theorem lG (k:dq) (g:Nat) (c:List UInt8):(ms k g c).size=32:=by unfold ms; rw[bi,jQ,EJ]
theorem ud (S:Nat->Prop) (k:dq) (g:Nat) (c:List UInt8) (cv:Value) (w:World) (hk:jK k=true) (hg:g<=1099511627776) (hc:bB S w cv c) (hl:c.length<=32768) (hE:Bv w):
  Calls Tryz.prog 156 #[kJ k, .int .i64 (g:Int),cv] w fun e w'=>e= .returned (.tuple #[.string (ms k g c), .int .i64 0])/\Below w.heap.size w w':=by
 have HK:=ag hk;have HC:=ag hc;have HE:=ag hE;obtain⟨_,a,cap,rfl,hu,hP,-⟩:=id hc;obtain⟨cl,hv⟩:=bH c.length;rw[<-hv]at hl HC ⊢;have ho:=ag hv;clear hk hc hE hv hu hP;unfold kJ
 go_enter Tryz.func156,Tryz.ntmps156
 go_wp2_with fail;obtain⟨W1,hj⟩:=bH (w.alloc (.cells #[.string k.nm, .string k.st, .string k.ck, .string k.ix, .string k.tk] 42));rw[<-hj];have hD:=ag (show Below w.heap.size w W1 by rw[hj]; exact eT);have hM:=ag (show W1.heap[w.heap.size]? =some (.cells (eW k).toArray 42 (0,0)) by rw[hj]; exact aC w _);clear hj;refine(qu k true W1 HK.o).mono ?_;rintro e w1 ⟨rfl,hr⟩
 have hF:=ag (aj hD.o hr);have hN:=ag (eA hr hM.o);clear hr;go_wp2_with fail;refine eV (fun w'=>w'.cell? ⟨w.heap.size,0,none⟩=some (.string k.nm)) (by kernel_rfl) ?_;obtain⟨V,hV⟩:=bH w1.drew;rw[<-hV];have hy:=ag (show Below w.heap.size w V by rw[hV]; exact hF.o.trans ((ak _ _).drew));have he:=ag (show V.heap[w.heap.size]? =some (.cells (eW k).toArray 42 (0,0)) by rw[hV]; exact hN.o)
 clear hV;have hh:V.cell? ⟨w.heap.size,0,none⟩=some (.string k.nm):=(br V _ _ _ _ _ he.o).trans rfl
 iterate 4 (refine cF rfl hh (by intro w' hC; go_simp; rfl) ?_; simp only[bM])
 refine dx 5 rfl hh (by intro w' hC; go_simp; rfl) ?_;simp only[bM];refine cA 4 rfl (fun K hK=> ?_);go_wp2_with fail;refine(wH g V (by omega)).mono ?_;rintro e w3 ⟨v3,rfl,hw,hm⟩;obtain⟨a3,c3,rfl,-,-⟩:=aH hw;have hn:=ag (aj hy.o hm);have hq:w3.cell? ⟨w.heap.size,0,none⟩=some (.string k.nm):=(hm.cell (p:=⟨w.heap.size,0,none⟩) (am he.o)).trans hh
 have hO:=hy.o.size;have hp:=ag hw;have hA:=ag (iR (n:=g) (by omega));have hd:=hm.size;clear hw hm hh;go_wp2_with fail;refine⟨hq, ?_⟩;refine cA 6 rfl (fun K hK=> ?_);have hI:=ag (show bB S w3 (.slice a cl cap) c from bX.below HC.o (by omega) hn.o);have hS:(bG g).length+cl<1099511627775:=by have:=hA.o; omega
 have hL:=ag (show bX S w3 1 (.slice a cl cap) cl (c.map aZ) by have h9:=hI.o; unfold bB at h9; rw[<-ho.o]at h9; exact h9);go_wp2_with (at_builtin; go_loud (refine dV Tryz.appBytes rfl _ _ rfl V.heap.size (.slice a3 (bG g).length c3) (bG g).length ((bG g).map aZ) rfl hp.o (.slice a cl cap) cl (c.map aZ) rfl hL.o (fE c) hS hd ?_); intro v' wc hb ha; have hJ:=ag hb; have hz:=ag ha; obtain⟨a4,c4,rfl,-,-⟩:=aH hb; clear hb ha)
 have hx:=ag (show Below w.heap.size w wc from bZ hn.o hp.o hz.o hO hn.o.size);have hf:wc.cell? ⟨w.heap.size,0,none⟩=some (.string k.nm):=by rw[<-hq];exact cC (hz.o.block w.heap.size (by have:=am he.o; omega) (fun e=>by have h1:=(hp.o.lt _ e.symm).1; have:=am he.o; omega))
 have hH:=ag (show bB (fun _=>True) wc (.slice a4 ((bG g).length+cl) c4) (bG g++c) by have h9:=cK hJ.o;rw[<-aI]at h9;unfold bB;rw[ai,<-ho.o];exact h9.weak (fun _ _=>trivial))
 have hR:(bG g++c).length<281474976710656:=by rw[ai,<-ho.o]; have:=hA.o; omega
 clear hq;refine⟨hf, ?_⟩;refine cA 7 rfl (fun K hK=> ?_);have hT:=(uV HK.o).1;go_wp2_with fail;refine(vy (fun _=>True) k.nm (bG g++c) _ wc (by rw[hT]; decide) hH.o hR (HE.o.below hx.o)).mono ?_;rintro e w5 ⟨rfl,hs⟩;have hG:=ag (aj hx.o hs);have hB:w5.cell? ⟨w.heap.size,0,none⟩=some (.string k.nm):=(hs.cell (p:=⟨w.heap.size,0,none⟩) (block_lt_of_cell hf)).trans hf
 clear hs hf;go_wp2_with fail;refine⟨hB, ?_⟩
 iterate 2 (refine cF rfl hB (by intro w' hC; go_simp; rfl) ?_; simp only[bM])
 refine cH (by kernel_rfl) ?_;go_wp2_with fail
 go_ret2
 exact⟨rfl,hG.o⟩
theorem zo (k:dq) (w:World) (hE:Bv w):Calls Tryz.prog 69 #[kJ k, .slice none 0 0] w fun e w'=>(∃v,e= .returned (.tuple #[v, .int .i64 (if jK k=true then 0 else 1)]))/\Below w.heap.size w w':=by
 have HE:=ag hE;clear hE;unfold kJ
 by_cases hk:jK k=true
 ·rw[if_pos hk];have HK:=ag hk;clear hk
  go_enter Tryz.func69,Tryz.ntmps69
  go_wp2_with fail;obtain⟨W1,ha⟩:=bH (w.alloc (.cells #[.string k.nm, .string k.st, .string k.ck, .string k.ix, .string k.tk] 42));rw[<-ha];have hd:=ag (show Below w.heap.size w W1 by rw[ha]; exact eT);have he:=ag (show W1.heap[w.heap.size]? =some (.cells (eW k).toArray 42 (0,0)) by rw[ha]; exact aC w _);clear ha;refine(qu k true W1 HK.o).mono ?_
  rintro e w1 ⟨rfl,hb⟩;have hc:=ag (aj hd.o hb);have hl:=ag (eA hb he.o);have c2:w1.cell? ⟨w.heap.size,2,none⟩=some (.string k.ck):=(br w1 _ _ _ _ _ hl.o).trans rfl;have hm:=(uV HK.o).2.2.1;clear hb;go_wp2_with fail;refine(vy (fun _=>True) k.ck [] _ w1 (by rw[hm]; decide) (bX.nil _ _ _) (by decide) (HE.o.below hc.o)).mono ?_;rintro e w2 ⟨rfl,hf⟩
  have hh:=ag (aj hc.o hf);obtain⟨t,ht⟩: ∃t:ByteArray,t=⟨(zq (bl k.ck) []).toArray⟩:=⟨_,rfl⟩;have ho:t.size=32:=by rw[ht,bi,jQ,EJ]
  rw[<-ht];obtain⟨W3,cp,hn,-,hg,-⟩:=uy (t.extract 0 16) w2 (by have:=Lib.extract_data t 0 16; rw[ByteArray.size_extract]; unfold maxLen; omega);have hj:=ag (aj hh.o hg);clear hf ht hg c2;go_wp2_with fail
  go_ret2
  exact⟨⟨_,rfl⟩,hj.o⟩
 ·rw[if_neg hk];have HK:=ag (show jK k=false by simpa using hk);clear hk
  go_enter Tryz.func69,Tryz.ntmps69
  go_wp2_with fail;obtain⟨W1,ha⟩:=bH (w.alloc (.cells #[.string k.nm, .string k.st, .string k.ck, .string k.ix, .string k.tk] 42));rw[<-ha];have hd:=ag (show Below w.heap.size w W1 by rw[ha]; exact eT);have he:=ag (show W1.heap[w.heap.size]? =some (.cells (eW k).toArray 42 (0,0)) by rw[ha]; exact aC w _);clear ha;refine(qu k false W1 HK.o).mono ?_
  rintro e w1 ⟨rfl,hb⟩;have hc:=ag (aj hd.o hb);clear hb;go_wp2_with fail
  go_ret2
  exact⟨⟨_,rfl⟩,hc.o⟩
end
section
def ki (x k:Nat):Nat:=(x*2^k%18446744073709551616) ||| (x/2^(64-k))
def pP :Nat->Nat->Nat
 | 0,x=>x
 | n+1,x=>ki (pP n x) 1
theorem mI {x k:Nat} (_hk:k<=64) (i:Nat):(ki x k).testBit i=((decide (i<64) && decide (k<=i) && x.testBit (i-k)) || x.testBit (64-k+i)):=by unfold ki;rw[Nat.testBit_or,show(18446744073709551616:Nat)=2^64 from rfl,Nat.testBit_mod_two_pow,Nat.testBit_mul_two_pow,Nat.testBit_div_two_pow,mi i (64-k),Bool.and_assoc]
theorem nS {x:Nat} (hx:x<18446744073709551616) {i:Nat} (h:64<=i):x.testBit i=false:=
 Nat.testBit_lt_two_pow (aO hx (gW (by decide) h:2^64<=2^i))
theorem pO {x:Nat} (k:Nat) (hx:x<18446744073709551616):ki x k<18446744073709551616:=
 Nat.or_lt_two_pow (n:=64) (cZ _ (by decide)) (dM (fc _ _) hx)
theorem ww : ∀(n:Nat) {x:Nat},x<18446744073709551616->pP n x<18446744073709551616
 | 0,_,h=>h
 | n+1,_,h=>pO 1 (ww n h)
theorem yj {x:Nat} (hx:x<18446744073709551616):ki x 0=x:=by unfold ki;rw[show(2:Nat)^(64-0)=18446744073709551616 by decide,Nat.div_eq_of_lt hx,Nat.or_zero,Nat.pow_zero,kr,eM hx]
theorem Gq {x k:Nat} (hx:x<18446744073709551616) (hk:k<64):ki (ki x k) 1=ki x (k+1):=by
 apply Nat.eq_of_testBit_eq
 intro i;rw[mI (by decide),mI (by omega),mI (by omega),mI (by omega)]
 by_cases ha:i<64
 ·by_cases h0:i=0
  ·subst h0;have e1:x.testBit (64-k+(64-1+0))=false:=nS hx (by omega);have e2:64-1+0-k=64-(k+1)+0:=by omega
   have e3:x.testBit (64-0+0-k+64)=false:=nS hx (by omega);simp only[e1,e2];simp;omega
  ·have e1:x.testBit (64-k+(64-1+i))=false:=nS hx (by omega);have e2:(64-1+i<64)=False:=by simp; omega
   have e3:i-1-k=i-(k+1):=by omega
   have e4:64-k+(i-1)=64-(k+1)+i:=by omega
   have e5:(decide (k<=i-1))=decide (k+1<=i):=by rw[jm]; omega
   have e6:decide (1<=i)=true:=by simp; omega
   have e7:decide (i-1<64)=true:=by simp; omega
   have e8:decide (i<64)=true:=by simp; omega
   have e9:decide (64-1+i<64)=false:=by simp; omega
   simp only[e1,e3,e4,e5,e6,e7,e8,e9,ie,Bool.false_and,Bool.or_false]
 ·have e1:x.testBit (64-k+(64-1+i))=false:=nS hx (by omega);have e2:x.testBit (64-(k+1)+i)=false:=nS hx (by omega);have e8:decide (i<64)=false:=by simp; omega
  have e9:decide (64-1+i<64)=false:=by simp; omega
  simp only[e1,e2,e8,e9,Bool.false_and,Bool.or_false]
theorem wv {x:Nat} (hx:x<18446744073709551616): ∀ {k:Nat},k<=64->pP k x=ki x k
 | 0,_=>(yj hx).symm
 | k+1,h=>by rw[pP,wv hx (k:=k) (by omega),Gq hx (by omega)]
theorem Lf {x:Nat} (hx:x<18446744073709551616):pP 64 x=x:=by rw[wv hx (by decide)];unfold ki;rw[show(2:Nat)^64=18446744073709551616 by decide,Nat.mul_mod_left,Nat.zero_or];simp
theorem PP {x y:Nat} (hx:x<18446744073709551616) (hy:y<18446744073709551616) {k:Nat} (hk:k<=64):ki (x^^^y) k=ki x k^^^ki y k:=by
 apply Nat.eq_of_testBit_eq
 intro i;rw[Nat.testBit_xor,mI hk,mI hk,mI hk,Nat.testBit_xor,Nat.testBit_xor]
 by_cases h:i<64/\k<=i
 ·have e:decide (i<64)=true/\decide (k<=i)=true:=by simpa using h
  rw[e.1,e.2,nS hx (i:=64-k+i) (by omega),nS hy (i:=64-k+i) (by omega)];simp
 ·have e:(decide (i<64) && decide (k<=i))=false:=by simp; omega
  rw[e]; simp
theorem rD {x y:Nat} (hx:x<18446744073709551616) (hy:y<18446744073709551616):x^^^y<18446744073709551616:=Nat.xor_lt_two_pow (n:=64) hx hy
def FS (z:Nat):Nat:=((z^^^(z/2^30))*13787848793156543929)%18446744073709551616
def Kv (z:Nat):Nat:=((z^^^(z/2^27))*10723151780598845931)%18446744073709551616
def QF (z:Nat):Nat:=z^^^(z/2^31)
def ue (seed i:Nat):Nat:=(seed+(i+1)*11400714819323198485%18446744073709551616)%18446744073709551616
def uJ (seed i:Nat):Nat:=QF (Kv (FS (ue seed i)))
theorem rR (seed i:Nat):uJ seed i<18446744073709551616:=by unfold uJ QF;have h:Kv (FS (ue seed i))<18446744073709551616:=cZ _ (by decide);exact rD h (dM (fc _ _) h)
theorem Dp {M:List UInt8->Prop} (h0:M []) (h1: ∀l b,M l->M (l++[b])) (l:List UInt8):M l:=by
 have: ∀r:List UInt8,M r.reverse:=by
  intro r
  induction r with
  | nil=>exact h0
  | cons b r ih=>rw[List.reverse_cons]; exact h1 _ _ ih
 have h:=this l.reverse;rw[List.reverse_reverse]at h; exact h
section
variable (T : Nat → Nat)
def kV (l:List UInt8):Nat:=l.foldl (fun s b=>ki s 1^^^T b.toNat) 0
theorem nY (l:List UInt8) (b:UInt8):kV T (l++[b])=ki (kV T l) 1^^^T b.toNat:=by unfold kV; rw[dW,ei,List.foldl_nil]
theorem Ad :kV T []=0:=rfl
theorem Kb (x:UInt8):kV T [x]=T x.toNat:=by unfold kV; rw[ei,List.foldl_nil,show ki 0 1=0 by decide,Nat.zero_xor]
def sT :List UInt8->Nat
 | []=>0
 | b::l=>pP l.length (T b.toNat)^^^sT l
variable {T}
theorem Do (hT: ∀i,T i<18446744073709551616) (l:List UInt8):kV T l<18446744073709551616:=by
 refine Dp (M:=fun l=>kV T l<18446744073709551616) ?_ (fun l b ih=> ?_) l
 ·show kV T []<_
  rw[Ad]; decide
 ·show kV T (l++[b])<_
  rw[nY]; exact rD (pO 1 ih) (hT _)
theorem xu (hT: ∀i,T i<18446744073709551616) (x:UInt8) (l:List UInt8):kV T (x::l)=pP l.length (T x.toNat)^^^kV T l:=by
 refine Dp (M:=fun l=>kV T (x::l)=pP l.length (T x.toNat)^^^kV T l) ?_ (fun l b ih=> ?_) l
 ·show kV T [x]=pP 0 (T x.toNat)^^^kV T []
  rw[Kb,Ad,Nat.xor_zero,pP]
 ·show kV T (x::(l++[b]))=pP (l++[b]).length (T x.toNat)^^^kV T (l++[b])
  rw[<-aK,nY,nY,ai,bT,pP,ih,PP (ww _ (hT _)) (Do hT _) (by decide),Nat.xor_assoc]
theorem Fz (hT: ∀i,T i<18446744073709551616) (x b:UInt8) (l:List UInt8) (h:l.length+1<=64):(ki (kV T (x::l)) 1^^^T b.toNat)^^^ki (T x.toNat) (l.length+1)=kV T (l++[b]):=by rw[<-nY,aK,xu hT,ai,bT,<-wv (hT _) h,Nat.xor_comm (pP _ _),Nat.xor_assoc,Nat.xor_self,Nat.xor_zero]
theorem Ac (hT: ∀i,T i<18446744073709551616): ∀l,sT T l=kV T l
 | []=>rfl
 | b::l=>by rw[sT,Ac hT l,xu hT]
end
def qD (seed:Nat) (l:List UInt8):Nat:=kV (uJ seed) l
theorem xt (seed:Nat) (l:List UInt8):qD seed l<18446744073709551616:=Do (rR seed) l
def oz (W:Nat) (d:List UInt8):List UInt8:=d.drop (d.length-W)
theorem oA (W:Nat) (d:List UInt8):(oz W d).length=min W d.length:=by unfold oz; rw[bz]; omega
theorem Bn {W:Nat} {d:List UInt8} (h:d.length<W) (b:UInt8):oz W (d++[b])=oz W d++[b]:=by unfold oz;rw[ai,bT,show d.length+1-W=0 by omega,show d.length-W=0 by omega]; rfl
theorem Bo {W:Nat} {d:List UInt8} (hW:1<=W) (h:W<=d.length) (b:UInt8):oz W (d++[b])=(oz W d).tail++[b]:=by
 unfold oz;rw[ai,bT,List.tail_drop,fG (by omega)]
 congr 2; omega
def IK (seed W bits:Nat) (d:List UInt8):Bool:=decide (W<=d.length) && decide (bits<=Lib.ctz 64 (qD seed (oz W d)))
section
variable (mk : Nat → Bool) (mn mx len : Nat)
def qF :Nat->Int
 | 0=> -(mn:Int)
 | p+1=>if mk (p+1)then((p+1:Nat):Int)else qF p
def kM :Nat->Bool
 | 0=>false
 | p+1=>mk (p+1) && decide ((mn:Int)<=((p+1:Nat):Int)-qF mk mn p)
def mr (l:List Nat):Nat:=l.getLast?.getD 0
def mY (s q:Nat):Bool:=kM mk mn q || decide (s+mx<=q) || decide (len<=q)
def lf :Nat->List Nat
 | 0=>[]
 | p+1=>if mY mk mn mx len (mr (lf p)) (p+1)then lf p++[p+1]else lf p
def qT :List Nat:=lf mk mn mx len len
end
section
variable {mk : Nat → Bool} {mn mx len : Nat}
theorem mG (l:List Nat) (p:Nat):mr (l++[p])=p:=by simp[mr]
theorem sV (p:Nat):(qF mk mn p= -(mn:Int)/\ ∀q,1<=q->q<=p->mk q=false)\/ ∃L,qF mk mn p=((L:Nat):Int)/\1<=L/\L<=p/\mk L=true/\ ∀q,L<q->q<=p->mk q=false:=by
 induction p with
 | zero=>exact .inl ⟨rfl,fun q h1 h2=>by omega⟩
 | succ p ih=>
  rw[qF]
  by_cases h:mk (p+1)=true
  ·rw[if_pos h];exact .inr ⟨p+1,rfl,by omega,by omega,h,fun q h1 h2=>by omega⟩
  ·rw[if_neg h];have h0:mk (p+1)=false:=by simpa using h
   rcases ih with⟨h1,h2⟩ | ⟨L,h1,h2,h3,h4,h5⟩
   ·exact .inl ⟨h1,fun q ha hb=>by
     by_cases e:q=p+1
     ·rw[e]; exact h0
     ·exact h2 q ha (by omega)⟩
   ·exact .inr ⟨L,h1,h2,by omega,h4,fun q ha hb=>by
     by_cases e:q=p+1
     ·rw[e]; exact h0
     ·exact h5 q ha (by omega)⟩
theorem KN {p:Nat} :kM mk mn p=true<->1<=p/\mk p=true/\ ∀q,1<=q->q<p->p<q+mn->mk q=false:=by
 cases p with
 | zero=>simp[kM]
 | succ p=>
  rw[kM,aE,aG]
  constructor
  ·rintro⟨h1,h2⟩;refine⟨by omega,h1,fun q ha hb hc=> ?_⟩
   rcases sV (mk:=mk) (mn:=mn) p with⟨h3,h4⟩ | ⟨L,h3,h4,h5,h6,h7⟩
   ·exact h4 q ha (by omega)
   ·rw[h3]at h2;exact h7 q (by omega) (by omega)
  ·rintro⟨_,h1,h2⟩;refine⟨h1, ?_⟩
   rcases sV (mk:=mk) (mn:=mn) p with⟨h3,_⟩ | ⟨L,h3,h4,h5,h6,_⟩
   ·rw[h3]; omega
   ·rw[h3]
    by_cases h8:p+1<L+mn
    ·have:=h2 L h4 (by omega) h8;rw[h6]at this; cases this
    ·omega
def BA (mk:Nat->Bool) (mn mx len s q:Nat):Prop:=s<q/\q<=len/\mY mk mn mx len s q=true/\ ∀r,s<r->r<q->mY mk mn mx len s r=false
inductive yQ (mk : Nat → Bool) (mn mx len : Nat) : List Nat → Nat → Prop
 | nil:yQ mk mn mx len [] 0
 | snoc {l:List Nat} {s q:Nat} :yQ mk mn mx len l s->BA mk mn mx len s q->yQ mk mn mx len (l++[q]) q
inductive vd (mk : Nat → Bool) (mn mx len : Nat) : Nat → List Nat → Prop
 | nil:vd mk mn mx len len []
 | cons {s q:Nat} {l:List Nat} :BA mk mn mx len s q->vd mk mn mx len q l->vd mk mn mx len s (q::l)
theorem BA.det {s q q':Nat} (h:BA mk mn mx len s q) (h':BA mk mn mx len s q'):q=q':=by
 rcases Nat.lt_trichotomy q q' with e | e | e
 ·have h1:=h'.2.2.2 q h.1 e;rw[h.2.2.1]at h1; cases h1
 ·exact e
 ·have h1:=h.2.2.2 q' h'.1 e;rw[h'.2.2.1]at h1; cases h1
theorem vd.det {s:Nat} {l:List Nat} (h:vd mk mn mx len s l): ∀ {l'},vd mk mn mx len s l'->l=l':=by
 induction h with
 | nil=>
  intro l' h'
  cases h' with
  | nil=>rfl
  | cons h1 _=>exact absurd h1.1 (by have:=h1.2.1; omega)
 | cons h1 _ ih=>
  intro l' h'
  cases h' with
  | nil=>exact absurd h1.1 (by have:=h1.2.1; omega)
  | cons h3 h4=>
   cases h1.det h3
   rw[ih h4]
theorem yQ.chain {l:List Nat} {s:Nat} (h:yQ mk mn mx len l s): ∀ {m},vd mk mn mx len s m->vd mk mn mx len 0 (l++m):=by
 induction h with
 | nil=>intro m hm; exact hm
 | snoc _ h2 ih=>
  intro m hm;rw[bg];exact ih (.cons h2 hm)
theorem yQ.det {l l':List Nat} (h:yQ mk mn mx len l len) (h':yQ mk mn mx len l' len):l=l':=by have h1:=h.chain .nil;have h2:=h'.chain .nil;rw[cg]at h1 h2;exact h1.det h2
theorem yQ.last {l:List Nat} {s:Nat} (h:yQ mk mn mx len l s):mr l=s:=by
 cases h with
 | nil=>rfl
 | snoc _ _=>exact mG _ _
theorem yQ.le {l:List Nat} {s:Nat} (h:yQ mk mn mx len l s):s<=len:=by
 cases h with
 | nil=>omega
 | snoc _ h=>exact h.2.1
theorem xi : ∀ {p:Nat},p<=len-> ∃s,yQ mk mn mx len (lf mk mn mx len p) s/\s<=p/\ ∀r,s<r->r<=p->mY mk mn mx len s r=false
 | 0,_=>⟨0, .nil,by omega,fun r h1 h2=>by omega⟩
 | p+1,hp=>by
  obtain⟨s,h1,h2,h3⟩:=xi (p:=p) (by omega);rw[lf,h1.last]
  by_cases h:mY mk mn mx len s (p+1)=true
  ·rw[if_pos h];exact⟨p+1,h1.snoc ⟨by omega,hp,h,fun r hr1 hr2=>h3 r hr1 (by omega)⟩,by omega,fun r hr1 hr2=>by omega⟩
  ·rw[if_neg h];exact⟨s,h1,by omega,fun r hr1 hr2=>by
    by_cases e:r=p+1
    ·rw[e]; simpa using h
    ·exact h3 r hr1 (by omega)⟩
theorem pH :yQ mk mn mx len (qT mk mn mx len) len:=by
 obtain⟨s,h1,h2,h3⟩:=xi (mk:=mk) (mn:=mn) (mx:=mx) (len:=len) (ah len)
 by_cases e:s=len
 ·rw[e]at h1; exact h1
 ·have:=h3 len (by omega) (by omega);simp[mY]at this
theorem BA.reach {s q:Nat} (hm:1<=mx) (h:BA mk mn mx len s q):q<=s+mx:=by
 by_cases h1:s+mx<q
 ·have h2:=h.2.2.2 (s+mx) (by omega) h1;simp[mY]at h2
 ·omega
theorem Oe {s e:Nat} (hm:1<=mx) (hs:s<e) (he:e<=len) (hst:kM mk mn e=true\/e=len) (hno: ∀r,s<r->r<e->kM mk mn r=false):BA mk mn mx len s (min (s+mx) e):=by
 refine⟨by omega,by omega, ?_,fun r h1 h2=> ?_⟩
 ·unfold mY
  by_cases h:s+mx<=e
  ·rw[fC h]; simp
  ·rw[Nat.min_eq_right (by omega)]
   rcases hst with h' | h'
   ·rw[h']; rfl
   ·rw[h']; simp
 ·unfold mY;rw[hno r h1 (by omega)]
  simp; omega
def je (data:List UInt8) (s e:Nat):List UInt8:=(data.drop s).take (e-s)
def jO (data:List UInt8):Nat->List Nat->List (List UInt8)
 | _,[]=>[]
 | s,e::l=>je data s e::jO data e l
theorem lX (data:List UInt8): ∀(l:List Nat) (s e:Nat),jO data s (l++[e])=jO data s l++[je data (l.getLast?.getD s) e]
 | [],_,_=>rfl
 | x::l,s,e=>by
  rw[aK,jO,lX data l x e,jO,aK]
  congr 3
  rw[List.getLast?_cons]; rfl
theorem Ee {data:List UInt8} {l:List Nat} {s:Nat} (h:yQ mk mn mx data.length l s):(jO data 0 l).flatten=data.take s:=by
 induction h with
 | nil=>simp[jO]
 | snoc h1 h2 ih=>
  rename_i l s q;rw[lX,List.flatten_append,ih];have:=h1.last;unfold mr at this;rw[this,iO,List.flatten_nil,cg];unfold je;have h3:=h2.1;rw[show q=s+(q-s) by omega,List.take_add,show s+(q-s)-s=q-s by omega]
theorem xY {data:List UInt8} :(jO data 0 (qT mk mn mx data.length)).flatten=data:=by rw[Ee pH,dw]
theorem AN {data:List UInt8} {l:List Nat} {s:Nat} (hm:1<=mx) (h:yQ mk mn mx data.length l s): ∀c∈jO data 0 l,1<=c.length/\c.length<=mx:=by
 induction h with
 | nil=>simp[jO]
 | snoc h1 h2 ih=>
  rename_i l s q;rw[lX];intro c hc
  rcases aP.1 hc with hc | hc
  ·exact ih c hc
  ·rw[aL.1 hc];have:=h1.last;unfold mr at this;rw[this];unfold je;rw[aW,bz];have h3:=h2.reach hm;have h4:=h2.1;have h5:=h2.2.1;omega
end
open Go Go.RowKit
theorem AX {x s:Nat} (hx:x<18446744073709551616):bits .or .u64 ((x:Int)*2^s%18446744073709551616) ((x:Int)/2^(64-s))=((ki x s:Nat):Int):=by
 have e1:((x:Int)*2^s%18446744073709551616)=((x*2^s%18446744073709551616:Nat):Int):=by simp
 have e2:((x:Int)/2^(64-s))=((x/2^(64-s):Nat):Int):=by simp
 rw[e1,e2,u64_or_nat _ _ (cZ _ (by decide)) (dM (fc _ _) hx)]
 rfl
theorem AW (x k:Nat) (w:World) (hx:x<18446744073709551616) (hk:k<=64):Calls Tryz.prog 211 #[.int .u64 (x:Int), .int .i64 (k:Int)] w fun e w'=>e= .returned (.int .u64 ((ki x k:Nat):Int))/\w=w':=by
 obtain⟨s,hs⟩:=bH (k%64);have h1:bits BinOp.and IntKind.u64 (k:Int) 63=(s:Int):=by rw[show(63:Int)=((63:Nat):Int)from rfl,u64_and_nat _ _ (by omega) (by decide),nat_mask6,hs]
 have hc:s<64:=by omega
 have hb:min s 64=s:=by omega
 have ha:min (64-s) 64=64-s:=by omega
 have HR:=ag (show ki x s=ki x k by
  by_cases h:k=64
  ·have e:s=0:=by rw[hs,h]
   rw[e,h,yj hx,<-wv hx (ah 64),Lf hx]
  ·rw[show s=k by omega])
 clear hs
 go_enter Tryz.func211,Tryz.ntmps211
 go_wp2_with fail;go_ret;refine⟨?_,rfl⟩;rw[<-HR.o,<-AX hx,cX]
 rfl
theorem QH (a c:Nat):((a:Int)*(c:Int))%18446744073709551616=((a*c%18446744073709551616:Nat):Int):=by simp
theorem yO (z d:Nat) (hz:z<18446744073709551616):bits BinOp.xor IntKind.u64 (z:Int) ((z:Int)/(d:Int))=((z^^^(z/d):Nat):Int):=by rw[show((z:Int)/(d:Int))=((z/d:Nat):Int) by simp,u64_xor_nat _ _ hz (dM (fc _ _) hz)]
theorem Ku (z:Nat) (hz:z<18446744073709551616):(bits BinOp.xor IntKind.u64 (z:Int) ((z:Int)/1073741824)*13787848793156543929)%18446744073709551616=((FS z:Nat):Int):=by have h:=yO z 1073741824 hz;rw[show((1073741824:Nat):Int)=1073741824 from rfl]at h;rw[h];exact QH (z^^^(z/1073741824)) 13787848793156543929
theorem Kw (z:Nat) (hz:z<18446744073709551616):(bits BinOp.xor IntKind.u64 (z:Int) ((z:Int)/134217728)*10723151780598845931)%18446744073709551616=((Kv z:Nat):Int):=by have h:=yO z 134217728 hz;rw[show((134217728:Nat):Int)=134217728 from rfl]at h;rw[h];exact QH (z^^^(z/134217728)) 10723151780598845931
theorem Ay (z:Nat) (hz:z<18446744073709551616):bits BinOp.xor IntKind.u64 (z:Int) ((z:Int)/2147483648)=((QF z:Nat):Int):=by have h:=yO z 2147483648 hz;rw[show((2147483648:Nat):Int)=2147483648 from rfl]at h;exact h
theorem Ba (s k:Nat):IntKind.u64.wrap ((s:Int)+IntKind.u64.wrap (((k:Int)+1)*11400714819323198485))=((ue s k:Nat):Int):=by rw[cX,cX,show((k:Int)+1)=((k+1:Nat):Int) by omega,show(11400714819323198485:Int)=((11400714819323198485:Nat):Int)from rfl,QH];unfold ue;omega
theorem Av (z:Nat) (hz:z<18446744073709551616):IntKind.u64.wrap (bits BinOp.xor IntKind.u64 (z:Int) ((z:Int)/1073741824)*13787848793156543929)=((FS z:Nat):Int):=by rw[cX,Ku z hz]
theorem Aw (z:Nat) (hz:z<18446744073709551616):IntKind.u64.wrap (bits BinOp.xor IntKind.u64 (z:Int) ((z:Int)/134217728)*10723151780598845931)=((Kv z:Nat):Int):=by rw[cX,Kw z hz]
theorem IL (z:Nat):FS z<18446744073709551616:=cZ _ (by decide)
theorem IM (z:Nat):Kv z<18446744073709551616:=cZ _ (by decide)
theorem Ez (s i:Nat):ue s i<18446744073709551616:=cZ _ (by decide)
def Lz (x:Nat):Value:= .int .u64 (x:Int)
structure pi (w : World) (seed k : Nat) (wr : World) : Prop where
 box:wr.heap[w.heap.size]? =some (.cells ((List.range k).map (fun i=>Lz (uJ seed i))++List.replicate (256-k) (Lz 0)).toArray 43 (0,0))
 below:Below w.heap.size w wr
theorem pi.here {w wr:World} {seed k:Nat} (h:pi w seed k wr) (hk:k<256):wr.cell? ⟨w.heap.size,k,none⟩=some (.int .u64 0):=by
 rw[br wr _ _ _ _ _ h.box,aF,bE (by simp)];rw[aw,List.length_range,fa,show 256-k=(256-(k+1))+1 by omega,iq]
 rfl
theorem pi.put {w wr:World} {seed k:Nat} (h:pi w seed k wr) (hk:k<256):pi w seed (k+1) (wr.setCell ⟨w.heap.size,k,none⟩ (Lz (uJ seed k))):=by
 refine⟨?_,h.below.trans ⟨rfl,rfl,rfl,by simp[World.setCell],fun j hj=>heap_setCell_other wr _ j _ (by show j≠w.heap.size; omega)⟩⟩;rw[gZ wr _ _ _ _ _ h.box]
 congr 2
 rw[aX,et _ _ (by simp),aw,List.length_range,fa,show 256-k=(256-(k+1))+1 by omega,iq,mh,aI];simp
theorem Pw (w:World):(Instr.makeSlice 262 (.int .i64 256) (.int .i64 256)).run Tryz.prog w= .ok (.slice (some ⟨w.heap.size,0,none⟩) 256 256) (w.alloc (.cells (List.replicate 256 (Lz 0)).toArray 43)):=by kernel_rfl
theorem Lx (seed:Nat) (w:World):Calls Tryz.prog 210 #[.int .u64 (seed:Int)] w fun e w'=>e= .returned (.slice (some ⟨w.heap.size,0,none⟩) 256 256)/\pi w seed 256 w':=by
 have hc:=Pw
 go_enter Tryz.func210,Tryz.ntmps210
 go_wp2_with fail;have hb:=ag (show pi w seed 0 (w.alloc (.cells (List.replicate 256 (Lz 0)).toArray 43))from⟨by rw[aC]; rfl,eT⟩);clear hc
 go_loopw [9] (fun i wr=> ∃k:Nat,k<=256/\i= .int .i64 (k:Int)/\pi w seed k wr) (fun i _=>256-(intOf i).toNat)
 ·exact⟨0,by omega,rfl,hb.o⟩
 ·obtain⟨k,hk,rfl,ht⟩:=hrel;have HT:=ag ht;have hz:=ht.below.size;clear ht
  by_cases ha:k<256
  ·have ch:=HT.o.here ha;have cf:=dT wr _ k _ _ HT.o.box;have hd:(k:Int)<256:=by omega
   go_wp2_with fail
   go_roundw
   ·rw[Ba,Av _ (Ez _ _),Aw _ (IL _),Ay _ (IM _)];exact⟨k+1,by omega,by simp,HT.o.put ha⟩
   simp[intOf]; omega
  ·obtain rfl:k=256:=by omega
   go_wp2_with fail;go_ret;exact⟨rfl,HT.o⟩
def uT (seed:Nat):List Value:=(List.range 256).map fun i=>Lz (uJ seed i)
theorem ug (seed:Nat):(uT seed).length=256:=by simp[uT]
def lw (seed:Nat) (ring:List UInt8) (W s n h:Nat):List Value:=uT seed++(ring.map aZ++[.int .i64 (W:Int), .int .i64 (s:Int), .int .i64 (n:Int), .int .u64 (h:Int)])
theorem pi.full {w wr:World} {seed:Nat} (h:pi w seed 256 wr):wr.heap[w.heap.size]? =some (.cells (uT seed).toArray 43 (0,0)):=by rw[h.box,fa,List.replicate_zero,cg]; rfl
def rE (W:Nat):List Value:=List.replicate 256 (.int .u64 0)++((List.replicate 64 (0:UInt8)).map aZ++[.int .i64 (W:Int), .int .i64 0, .int .i64 0, .int .u64 0])
theorem Eu (seed W:Nat) (w:World) (hW:1<=W) (hW2:W<=64):Calls Tryz.prog 199 #[.int .u64 (seed:Int), .int .i64 (W:Int)] w fun e w'=> ∃rb,e= .returned (.pointer (some ⟨rb,0,none⟩))/\w.heap.size<=rb/\
  w'.heap[rb]? =some (.cells (lw seed (List.replicate 64 0) W 0 0 0).toArray 237 (0,0))/\Below w.heap.size w w':=by
 have hg:max (W:Int) 1=(W:Int):=by omega
 have hh:min (W:Int) 64=(W:Int):=by omega
 go_enter Tryz.func199,Tryz.ntmps199
 go_wp2_with fail;obtain⟨w1,ha⟩:=bH (w.alloc (.cells (Tryz.zeroCells237.setIfInBounds 320 (.int .i64 (W:Int))) 237));rw[<-ha];have hq:=ag (show w1.heap[w.heap.size]? =some (.cells (rE W).toArray 237 (0,0)) by rw[ha,aC,show Tryz.zeroCells237.setIfInBounds 320 (.int .i64 (W:Int))=(rE W).toArray by kernel_rfl]);have hl:=ag (show Below w.heap.size w w1 by rw[ha]; exact eT)
 clear ha hg hh;refine eV (fun _=>True) (by kernel_rfl) ?_;obtain⟨V,hV⟩:=bH w1.drew;rw[<-hV];have hf:=ag (show V.heap[w.heap.size]? =some (.cells (rE W).toArray 237 (0,0)) by rw[hV]; exact hq.o);have ho:=ag (show Below w.heap.size w V by rw[hV]; exact hl.o.trans (ak _ _).drew);clear hV
 iterate 5 (refine cF rfl trivial (by intro w' ha; go_simp; rfl) ?_; simp only[bM])
 refine cA 5 rfl (fun K hK=> ?_);go_wp2_with fail;refine(Lx seed V).mono ?_;rintro e w2 ⟨rfl,ht⟩;have hp:=ag ht.full;have hm:=ag (aj ho.o ht.below);have hk:=ag ((ht.below.block _ (am hf.o)).trans hf.o);have hs:=ag (am hf.o);clear ht;go_wp2_with fail
 try refine⟨trivial, ?_⟩
 refine cA 6 rfl (fun K hK=> ?_);have he:=ag (show ∀j v,(uT seed)[j]? =some v->w2.cell? ((⟨V.heap.size,0,none⟩:Addr).add j)=some v from fun j v hj=>by rw[jU,bO,br w2 _ _ _ _ _ hp.o,aF]; exact hj);have hc:=ag (show 0+(uT seed).length<=(rE W).toArray.size by rw[ug,bR]; simp[rE])
 have hd:=ag (show ∀v∈uT seed,v.oneCell'=true from fun v hv=>by obtain⟨x,_,rfl⟩:=aQ.1 hv; rfl);go_wp2_with (refine wpList_copy_own rfl _ _ 262 262 rfl 43 Tryz.underlying262 (by kernel_rfl) w.heap.size 0 256 256 ⟨V.heap.size,0,none⟩ 256 256 rfl rfl (rE W).toArray 237 hk.o (uT seed) rfl he.o hc.o hd.o ?_);simp only[bM];obtain⟨w3,hb⟩:=bH (w2.setRow w.heap.size (List.take 0 (rE W)++(uT seed++List.drop (0+(uT seed).length) (rE W))).toArray)
 have hr:=ag (show w3.heap[w.heap.size]? =some (.cells (lw seed (List.replicate 64 0) W 0 0 0).toArray 237 (0,0)) by
  rw[hb,eu w2 _ _ _ _ _ hk.o,aY,aJ,bO,ug]
  congr 3)
 have hn:=ag (show Below w.heap.size w w3 by rw[hb]; exact eK hm.o (ah _) _);refine⟨trivial, ?_⟩;refine cH (by kernel_rfl) ?_
 change Exit.then _ _ _ _ (w2.setRow w.heap.size (List.take 0 (rE W)++(uT seed++List.drop (0+(uT seed).length) (rE W))).toArray)
 rw[<-hb];clear hb;go_wp2_with fail;go_ret;exact⟨_,rfl,ah _,hr.o,hn.o⟩
structure fQ where
 mn:Int
 mx:Int
 win:Int
 bits:Int
 seed:Nat
def gx (c:fQ):List Value:=[.int .i64 c.mn, .int .i64 c.mx, .int .i64 c.win, .int .i64 c.bits, .int .u64 (c.seed:Int)]
def kB (c:fQ):Value:= .agg #[.int .i64 c.mn, .int .i64 c.mx, .int .i64 c.win, .int .i64 c.bits, .int .u64 (c.seed:Int)]
def jT (c:fQ):Bool:=decide (1<=c.win) && decide (c.win<=64) && decide (c.win<=c.mn) && decide (c.mn<=c.mx) && decide (c.mx<=32768) && decide (0<=c.bits) && decide (c.bits<=20)
theorem mf {c:fQ} :jT c=true<->1<=c.win/\c.win<=64/\c.win<=c.mn/\c.mn<=c.mx/\c.mx<=32768/\0<=c.bits/\c.bits<=20:=by unfold jT; simp[and_assoc]
theorem BM (c:fQ) (w:World):Calls Tryz.prog 70 #[kB c] w fun e w'=>e= .returned (.bool (jT c))/\Below w.heap.size w w':=by
 unfold kB
 go_enter Tryz.func70,Tryz.ntmps70
 go_wp2_with fail
 all_goals (go_ret; refine⟨cj ?_,eT⟩; rw[dy,mf]; simp; try omega)
theorem MG {place:Nat->Option (Nat×Nat)} {cells:Array Value} {i off:Nat} {v:Value} {rest:List (Nat×Value)} (hp:place i=some (off,1)) (hv:v.cells= #[v]) (hf:off<cells.size):
  Instr.fill place cells ((i,v)::rest)=Instr.fill place (cells.setIfInBounds off v) rest:=by
 rw[Instr.fill,hp];simp only[hv];rw[if_neg (by simp; omega)]
 rfl
def OG :List Value:=rE 0++([.int .i64 0, .int .i64 0, .int .i64 0, .int .i64 0, .int .u64 0]++[.int .i64 0, .int .i64 0])
theorem LH :OG.length=331:=by kernel_rfl
theorem uP (seed:Nat) {ring:List UInt8} (h:ring.length=64) (W s n x:Nat):(lw seed ring W s n x).length=324:=by unfold lw; rw[ai,ug,ai,aw,h]; rfl
theorem Fe (r:List Value) (c:fQ) (l:Int) (hr:r.length=324):Tryz.prog.built 239 [(0, .agg r.toArray),(1,kB c),(3, .int .i64 l)]=some (r++(gx c++[Value.int .i64 0,Value.int .i64 l])).toArray:=by
 have h: ∀parts,Tryz.prog.built 239 parts=Instr.fill (fun i=>(#[(0,324),(324,5),(329,1),(330,1)]:Array (Nat×Nat))[i]?) OG.toArray parts:=fun parts=>by kernel_rfl
 have e0:splice OG 0 r=r++([.int .i64 0, .int .i64 0, .int .i64 0, .int .i64 0, .int .u64 0]++[.int .i64 0, .int .i64 0]):=by
  unfold splice;rw[aY,aJ,bO,hr]
  congr 1
 rw[h,pI (off:=0) (size:=324) rfl (by simpa using hr) (by rw[bR,LH]; decide)];simp only;rw[e0];unfold kB;rw[pI (off:=324) (size:=5) rfl rfl (by rw[bR,ai,hr]; decide),MG (off:=330) rfl rfl (by rw[bR,length_splice _ _ _ (by rw[ai,hr]; show 324+5<=324+7; decide),ai,hr]; show 330<324+7; decide)]
 simp only[Instr.fill]
 congr 1
 unfold splice;rw[aX]
 congr 1
 rw[fH (by omega),bo (by omega),jg,ee (by rw[hr]; show 324<=324+5; decide),et _ _ (by omega),hr]
 rfl
def sE (c:fQ) (roll:List Value) (pos last:Int):List Value:=roll++(gx c++[Value.int .i64 pos,Value.int .i64 last])
theorem uI (c:fQ) {roll:List Value} (h:roll.length=324) (p l:Int):(sE c roll p l).length=331:=by unfold sE; rw[ai,h]; rfl
theorem KU (seed:Nat) (ring:List UInt8) (W s n x:Nat): ∀v∈lw seed ring W s n x,v.oneCell'=true:=by
 intro v hv;unfold lw at hv
 rcases aP.1 hv with hv | hv
 ·obtain⟨y,_,rfl⟩:=aQ.1 hv; rfl
 ·rcases aP.1 hv with hv | hv
  ·obtain⟨y,_,rfl⟩:=aQ.1 hv; rfl
  ·simp only[aU,du,or_false]at hv
   rcases hv with rfl | rfl | rfl | rfl<;> rfl
theorem Au (c:fQ) (seed:Nat) (W:Nat) (l:Int): ∀v∈lw seed (List.replicate 64 0) W 0 0 0++(gx c++[Value.int .i64 0,Value.int .i64 l]),v.oneCell'=true:=by
 intro v hv
 rcases aP.1 hv with hv | hv
 ·exact KU _ _ _ _ _ _ v hv
 ·simp only[gx,aP,aU,du,or_false]at hv
  rcases hv with(rfl | rfl | rfl | rfl | rfl) | rfl | rfl<;> rfl
theorem Gp (seed W:Nat) (wi:Int) (w:World) (hwi:wi=(W:Int)) (hW:1<=W) (hW2:W<=64):Calls Tryz.prog 199 #[.int .u64 (seed:Int), .int .i64 wi] w fun e w'=> ∃rb,e= .returned (.pointer (some ⟨rb,0,none⟩))/\w.heap.size<=rb/\
  w'.heap[rb]? =some (.cells (lw seed (List.replicate 64 0) W 0 0 0).toArray 237 (0,0))/\Below w.heap.size w w':=by
 subst hwi; exact Eu seed W w hW hW2
theorem zd (c:fQ) (W:Nat) (w:World) (_hs:c.seed<18446744073709551616) (hW:c.win=(W:Int)) (h1:1<=W) (h2:W<=64) (hm:0<=c.mn/\c.mn<=32768):
  Calls Tryz.prog 187 #[kB c] w fun e w'=>e= .returned (.agg (sE c (lw c.seed (List.replicate 64 0) W 0 0 0) 0 (-c.mn)).toArray)/\Below w.heap.size w w':=by
 have HW:=ag hW;have hM:IntKind.i64.wrap (-c.mn)= -c.mn:=by rw[bI]; omega
 clear hW;unfold kB
 go_enter Tryz.func187,Tryz.ntmps187
 go_wp2_with fail;obtain⟨w1,ha⟩:=bH ((w.alloc (.cells #[.int .i64 c.mn, .int .i64 c.mx, .int .i64 c.win, .int .i64 c.bits, .int .u64 (c.seed:Int)] 45)).alloc (.cells Tryz.zeroCells239 239));rw[<-ha];have hI:=ag (show w1.heap[w.heap.size]? =some (.cells (gx c).toArray 45 (0,0)) by rw[ha]; exact heap_alloc2_old w _ _);have hJ:=ag (show w1.heap[w.heap.size+1]? =some (.cells Tryz.zeroCells239 239 (0,0)) by rw[ha]; exact heap_alloc2_new w _ _)
 have hz:=ag (show Below w.heap.size w w1 by rw[ha]; exact(eT).alloc (by simp) _);clear ha;refine eV (fun w'=>w'.cell? ⟨w.heap.size,0,none⟩=some (.int .i64 c.mn)/\w'.cell? ⟨w.heap.size,1,none⟩=some (.int .i64 c.mx)/\w'.cell? ⟨w.heap.size,2,none⟩=some (.int .i64 c.win)/\w'.cell? ⟨w.heap.size,3,none⟩=some (.int .i64 c.bits)/\w'.cell? ⟨w.heap.size,4,none⟩=some (.int .u64 (c.seed:Int))) (by kernel_rfl) ?_
 obtain⟨V,hV⟩:=bH w1.drew;rw[<-hV];have he:=ag (show V.heap[w.heap.size]? =some (.cells (gx c).toArray 45 (0,0)) by rw[hV]; exact hI.o);have hL:=ag (show V.heap[w.heap.size+1]? =some (.cells Tryz.zeroCells239 239 (0,0)) by rw[hV]; exact hJ.o);have hD:=ag (show Below w.heap.size w V by rw[hV]; exact hz.o.trans (ak _ _).drew);clear hV;have c0:V.cell? ⟨w.heap.size,0,none⟩=some (.int .i64 c.mn):=(br V _ _ _ _ _ he.o).trans rfl
 have c1:V.cell? ⟨w.heap.size,1,none⟩=some (.int .i64 c.mx):=(br V _ _ _ _ _ he.o).trans rfl;have c2:V.cell? ⟨w.heap.size,2,none⟩=some (.int .i64 c.win):=(br V _ _ _ _ _ he.o).trans rfl;have c3:V.cell? ⟨w.heap.size,3,none⟩=some (.int .i64 c.bits):=(br V _ _ _ _ _ he.o).trans rfl;have c4:V.cell? ⟨w.heap.size,4,none⟩=some (.int .u64 (c.seed:Int)):=(br V _ _ _ _ _ he.o).trans rfl
 iterate 4 (refine cF rfl ⟨c0,c1,c2,c3,c4⟩ (by rintro w' ⟨ha,hj,hb,hk,hl⟩; go_simp; rfl) ?_; simp only[bM])
 refine dx 7 rfl ⟨c0,c1,c2,c3,c4⟩ (by rintro w' ⟨ha,hj,hb,hk,hl⟩; go_simp; rfl) ?_;simp only[bM];refine dx 8 rfl ⟨c0,c1,c2,c3,c4⟩ (by rintro w' ⟨ha,hj,hb,hk,hl⟩; go_simp; rfl) ?_;simp only[bM];refine dx 9 rfl ⟨c0,c1,c2,c3,c4⟩ (by rintro w' ⟨ha,hj,hb,hk,hl⟩; go_simp; rfl) ?_;simp only[bM];refine dx 10 rfl ⟨c0,c1,c2,c3,c4⟩ (by rintro w' ⟨ha,hj,hb,hk,hl⟩; go_simp; rfl) ?_
 simp only[bM];refine cA 4 rfl (fun K hK=> ?_);go_wp2_with fail;refine(Gp c.seed W c.win V HW.o h1 h2).mono ?_;rintro e w2 ⟨rb,rfl,hN,hy,hn⟩;have hA:=ag (aj hD.o hn);have hd:=ag (eA hn he.o);have hx:=ag (eA hn hL.o);have hv:=ag hy;clear c0 c1 c2 c3 c4 hn hy;have c0:w2.cell? ⟨w.heap.size,0,none⟩=some (.int .i64 c.mn):=(br w2 _ _ _ _ _ hd.o).trans rfl
 have c1:w2.cell? ⟨w.heap.size,1,none⟩=some (.int .i64 c.mx):=(br w2 _ _ _ _ _ hd.o).trans rfl;have c2:w2.cell? ⟨w.heap.size,2,none⟩=some (.int .i64 c.win):=(br w2 _ _ _ _ _ hd.o).trans rfl;have c3:w2.cell? ⟨w.heap.size,3,none⟩=some (.int .i64 c.bits):=(br w2 _ _ _ _ _ hd.o).trans rfl;have c4:w2.cell? ⟨w.heap.size,4,none⟩=some (.int .u64 (c.seed:Int)):=(br w2 _ _ _ _ _ hd.o).trans rfl
 go_wp2_with fail;refine⟨⟨c0,c1,c2,c3,c4⟩, ?_⟩;refine dx 5 rfl ⟨c0,c1,c2,c3,c4⟩ (by rintro w' ⟨ha,hj,hb,hk,hl⟩; go_simp; rfl) ?_;simp only[bM];obtain⟨rc,ho⟩:=bH (lw c.seed (List.replicate 64 0) W 0 0 0);have hp:rc.length=324:=by rw[ho]; exact uP _ (by simp) _ _ _ _
 rw[<-ho]at hv;have hw:=ag ho;clear ho;have hg:=ag (show(Tryz.prog.info? 237).map (·.size)=some rc.length by rw[hp]; kernel_rfl);have hG:=ag (mJ hv.o);have hC:=ag (Fe rc c (-c.mn) hp);have hH:=ag hp;clear hp;refine cA 6 rfl (fun K hK=> ?_);go_wp2_with (refine el rfl 237 _ rfl rb 0 rfl rc _ hG.o Tryz.underlying237 rfl hg.o ?_)
 refine⟨⟨c0,c1,c2,c3,c4⟩, ?_⟩;simp only[bM];refine cA 11 rfl (fun K hK=> ?_);go_wp2_with (go_loud (refine iS rfl 239 _ rfl [(0, .agg rc.toArray),(1,kB c),(3, .int .i64 (-c.mn))] (by kernel_rfl) _ hC.o ?_));refine⟨⟨c0,c1,c2,c3,c4⟩, ?_⟩;simp only[bM];refine cA 12 rfl (fun K hK=> ?_);obtain⟨mc,hh⟩:=bH (rc++(gx c++[Value.int .i64 0,Value.int .i64 (-c.mn)]))
 have hu:mc.length=331:=by rw[hh]; exact uI c hH.o 0 (-c.mn)
 rw[<-hh];have hF:=ag hh;have hc:=ag (show(Tryz.prog.info? 239).map (·.size)=some mc.toArray.size by rw[bR,hu]; kernel_rfl);have hr:=ag (show Tryz.zeroCells239.size=mc.toArray.size by rw[show mc.toArray.size=331 from by rw[bR]; exact hu]; kernel_rfl);have hs:=ag (show mc.toArray.all (·.oneCell')=true from er (by rw[hh,hw.o];exact Au c _ _ _))
 clear hu hh;go_wp2_with (go_loud (refine dF rfl 239 _ _ rfl (w.heap.size+1) _ rfl rfl _ _ hx.o hc.o hr.o hs.o ?_));simp only[Act.put];obtain⟨w3,hb⟩:=bH (w2.setRow (w.heap.size+1) mc.toArray);rw[<-hb];have hf:w3.heap[w.heap.size]? =some (.cells (gx c).toArray 45 (0,0)):=by rw[hb,setRow_other w2 _ _ _ (by omega)]; exact hd.o
 have hE:=ag (show w3.heap[w.heap.size+1]? =some (.cells mc.toArray 239 (0,0)) by rw[hb]; exact eu w2 _ _ _ _ _ hx.o);have hB:=ag (show Below w.heap.size w w3 by rw[hb]; exact eK hA.o (by omega) _);clear hb;refine⟨⟨(br w3 _ _ _ _ _ hf).trans rfl,(br w3 _ _ _ _ _ hf).trans rfl,(br w3 _ _ _ _ _ hf).trans rfl,(br w3 _ _ _ _ _ hf).trans rfl,(br w3 _ _ _ _ _ hf).trans rfl⟩, ?_⟩
 refine cH (by kernel_rfl) ?_;clear c0 c1 c2 c3 c4 hf;have hq:=ag (show Ending.returned (.agg mc.toArray)=Ending.returned (.agg (sE c (lw c.seed (List.replicate 64 0) W 0 0 0) 0 (-c.mn)).toArray) by rw[hF.o,hw.o]; rfl);go_wp2_with fail;refine cS (results_cell_row rfl _ _ (w.heap.size+1) _ _ _ _ rfl hE.o Tryz.underlying239 rfl hc.o) rfl ?_;exact⟨hq.o,hB.o⟩
structure sx (seed W : Nat) (d : List UInt8) (cs : List Value) : Prop where
 tab: ∀i,i<256->cs[i]? =some (.int .u64 ((uJ seed i:Nat):Int))
 rng: ∀j,j<64-> ∃b,cs[256+j]? =some (aZ b)
 win:cs[320]? =some (.int .i64 (W:Int))
 st: ∃s,s<64/\cs[321]? =some (.int .i64 (s:Int))/\ ∀j b,(oz W d)[j]? =some b->cs[256+(s+j)%64]? =some (aZ b)
 len:cs[322]? =some (.int .i64 ((min W d.length:Nat):Int))
 sum:cs[323]? =some (.int .u64 ((qD seed (oz W d):Nat):Int))
theorem sx.lt {seed W:Nat} {d:List UInt8} {cs:List Value} (h:sx seed W d cs):323<cs.length:=(aA.1 h.sum).1
theorem Jt {x y:Nat} (hx:x<18446744073709551616) (hy:y<18446744073709551616):bits BinOp.xor IntKind.u64 (x:Int) (y:Int)=((x^^^y:Nat):Int):=u64_xor_nat x y hx hy
theorem eU {w:World} {b k:Nat} {cs:List Value} {ty:TypeId} (h:w.heap[b]? =some (.cells cs.toArray ty (0,0))):w.cell? ⟨b,k,none⟩=cs[k]? :=by rw[br w _ _ _ _ _ h,aF]
theorem mO {w:World} {b k:Nat} {cs:List Value} {ty:TypeId} (h:w.heap[b]? =some (.cells cs.toArray ty (0,0))) (v:Value):(w.setCell ⟨b,k,none⟩ v).heap[b]? =some (.cells (cs.set k v).toArray ty (0,0)):=by rw[gZ w _ _ _ _ _ h,aX]
theorem fR {w V:World} {rb:Nat} (h:w.grownBy V (some rb)) (k:Nat) (v:Value):w.grownBy (V.setCell ⟨rb,k,none⟩ v) (some rb):=h.trans (cJ _ _ _ _)
theorem sS {w V:World} {rb:Nat} (h:w.grownBy V (some rb)):w.grownBy V.drew (some rb):=h.trans ⟨rfl,rfl,rfl,ah _,fun _ _ _=>rfl⟩
theorem oM {w V:World} {rb:Nat} (h:w.grownBy V (some rb)) (n:Nat):w.grownBy (V.drewN n) (some rb):=h.trans ⟨rfl,rfl,rfl,ah _,fun _ _ _=>rfl⟩
theorem sx.push {seed W:Nat} {d:List UInt8} {cs cs2:List Value} (h:sx seed W d cs) {b:UInt8} {q:List UInt8} {s2 n2:Nat} (heq: ∀i,i<321->cs2[i]? =cs[i]?) (hs:cs2[321]? =some (.int .i64 (s2:Int))) (hs2:s2<64) (hl:323<cs2.length)
  (hsum:cs2[323]? =some (.int .u64 ((qD seed (oz W (d++[b])):Nat):Int))) (hq:oz W (d++[b])=q++[b]) (hqn:q.length=n2) (hn:n2<W) (hW:W<=64) (hring: ∀(j:Nat) (c:UInt8),q[j]? =some c->cs2[256+(s2+j)%64]? =some (aZ c)):
  sx seed W (d++[b]) ((cs2.set (256+(s2+n2)%64) (aZ b)).set 322 (.int .i64 ((n2+1:Nat):Int))) where
 tab i hi:=by rw[au (by omega),au (by omega),heq i (by omega)]; exact h.tab i hi
 rng j hj:=by
  rw[au (by omega)]
  by_cases e:(s2+n2)%64=j
  ·rw[e,di (by omega)]; exact⟨b,rfl⟩
  ·rw[au (by omega),heq _ (by omega)]; exact h.rng j hj
 win:=by rw[au (by omega),au (by omega),heq _ (by omega)]; exact h.win
 st:=by
  refine⟨s2,hs2,by rw[au (by omega),au (by omega)]; exact hs,fun j c hc=> ?_⟩;rw[hq]at hc;rw[au (by omega)]
  rcases Nat.lt_trichotomy j n2 with hj | hj | hj
  ·rw[bJ (by omega)]at hc;rw[au (by omega)];exact hring j c hc
  ·subst hj;rw[bE (by omega),hqn,fa,aD]at hc
   cases hc
   rw[di (by omega)]
  ·rw[dP (by simp; omega)]at hc; cases hc
 len:=by rw[di (by simpa using by omega)];have:=oA W (d++[b]);rw[hq]at this;simp only[ai,ay,bp]at this ⊢;rw[<-this,hqn]
 sum:=by rw[au (by omega),au (by omega)]; exact hsum
theorem NF (rb:Nat) (ty:TypeId) (seed W:Nat) (d:List UInt8) (b:UInt8) (cs:List Value) (w:World) (hb:w.heap[rb]? =some (.cells cs.toArray ty (0,0))) (hr:sx seed W d cs) (hW:1<=W) (hW2:W<=64):
  Calls Tryz.prog 200 #[.pointer (some ⟨rb,0,none⟩), .int .u8 (b.toNat:Int)] w fun e w'=>e= .returned (.tuple #[])/\(∃cs',w'.heap[rb]? =some (.cells cs'.toArray ty (0,0))/\sx seed W (d++[b]) cs'/\cs'.length=cs.length/\ ∀i,324<=i->cs'[i]? =cs[i]?)/\w.grownBy w' (some rb):=by
 have HB:=ag hb;have HR:=ag hr;clear hb hr;have hN:=b.toNat_lt;have Ho:(b.toNat:Int)<256:=by omega
 obtain⟨t,ht⟩:=bH (uJ seed b.toNat);obtain⟨h,hh⟩:=bH (qD seed (oz W d));have Hl:t<18446744073709551616:=by rw[ht]; exact rR _ _
 have h9:h<18446744073709551616:=by rw[hh]; exact xt _ _
 have c323:w.cell? ⟨rb,323,none⟩=some (.int .u64 (h:Int)):=by rw[eU HB.o,HR.o.sum,hh]
 have ct:w.cell? ⟨rb,b.toNat,none⟩=some (.int .u64 (t:Int)):=by rw[eU HB.o,HR.o.tab _ hN,ht]
 have HT:=ag (aB ht hh);clear ht hh
 go_enter Tryz.func200,Tryz.ntmps200
 go_wp2_with fail;refine eP (fun w'=>w'.cell? ⟨rb,323,none⟩=some (.int .u64 (h:Int))/\w'.cell? ⟨rb,b.toNat,none⟩=some (.int .u64 (t:Int))) (by kernel_rfl) (by kernel_rfl) ?_;simp only[bu,bw,ay,bp,Nat.reduceAdd,Nat.reduceSub];obtain⟨V,hV⟩:=bH w.drew;rw[<-hV];have hL:=ag (show V.heap[rb]? =some (.cells cs.toArray ty (0,0)) by rw[hV]; exact HB.o)
 have Hm:=ag (show w.grownBy V (some rb) by rw[hV]; exact⟨rfl,rfl,rfl,ah _,fun _ _ _=>rfl⟩);clear c323 ct;have c323:V.cell? ⟨rb,323,none⟩=some (.int .u64 (h:Int)):=by rw[eU hL.o,HR.o.sum,HT.o.2]
 have ct:V.cell? ⟨rb,b.toNat,none⟩=some (.int .u64 (t:Int)):=by rw[eU hL.o,HR.o.tab _ hN,HT.o.1]
 clear hV
 iterate 5 (refine cF rfl ⟨c323,ct⟩ (by rintro w' ⟨hk,hm⟩; go_simp; rfl) ?_; simp only[bM])
 refine dx 6 rfl ⟨c323,ct⟩ (by rintro w' ⟨hk,hm⟩; go_simp; rfl) ?_;simp only[bM];refine dx 7 rfl ⟨c323,ct⟩ (by rintro w' ⟨hk,hm⟩; go_simp; rfl) ?_;simp only[bM];refine dx 8 rfl ⟨c323,ct⟩ (by rintro w' ⟨hk,hm⟩; go_simp; rfl) ?_;simp only[bM];refine dx 9 rfl ⟨c323,ct⟩ (by rintro w' ⟨hk,hm⟩; go_simp; rfl) ?_;simp only[bM];refine dx 10 rfl ⟨c323,ct⟩ (by rintro w' ⟨hk,hm⟩; go_simp; rfl) ?_
 simp only[bM];refine dx 11 rfl ⟨c323,ct⟩ (by rintro w' ⟨hk,hm⟩; go_simp; rfl) ?_;simp only[bM];refine cA 5 rfl (fun K hK=> ?_);go_wp2_with fail;refine(AW h 1 V h9 (by decide)).mono ?_;rintro e w1 ⟨rfl,rfl⟩;go_wp2_with fail;refine⟨⟨c323,ct⟩, ?_⟩
 iterate 3 (refine cF rfl ⟨c323,ct⟩ (by rintro w' ⟨hk,hm⟩; go_simp; rfl) ?_; simp only[bM])
 rw[Jt (pO 1 h9) Hl];obtain⟨h1,hO⟩:=bH (ki h 1^^^t);rw[<-hO];have hE:h1<18446744073709551616:=by rw[hO]; exact rD (pO 1 h9) Hl
 have Hg:=ag hO;clear hO;have cf:V.frozen? ⟨rb,323,none⟩=false:=dT V _ _ _ _ hL.o;refine cH (by kernel_rfl) ?_;refine eX rfl rfl (fun K hK=> ?_);go_wp2_with fail;obtain⟨U,hU⟩:=bH (V.setCell ⟨rb,323,none⟩ (.int .u64 (h1:Int)));rw[<-hU];obtain⟨cs1,h8⟩:=bH (cs.set 323 (.int .u64 (h1:Int)));have hy:=ag (show U.heap[rb]? =some (.cells cs1.toArray ty (0,0)) by rw[hU,h8]; exact mO hL.o _)
 have Hf:=ag (show w.grownBy U (some rb) by rw[hU]; exact fR Hm.o _ _);have ha:=ag h8;clear hU c323 ct cf h8;obtain⟨n,hn⟩:=bH (min W d.length);obtain⟨s,hs,He,Hk⟩:=HR.o.st;have hl:=HR.o.lt;have c322:U.cell? ⟨rb,322,none⟩=some (.int .i64 (n:Int)):=by rw[eU hy.o,ha.o,au (by decide),HR.o.len,hn]
 have c320:U.cell? ⟨rb,320,none⟩=some (.int .i64 (W:Int)):=by rw[eU hy.o,ha.o,au (by decide),HR.o.win]
 have c321:U.cell? ⟨rb,321,none⟩=some (.int .i64 (s:Int)):=by rw[eU hy.o,ha.o,au (by decide),He]
 have Hh:=ag (show cs[322]? =some (.int .i64 (n:Int)) by rw[HR.o.len,hn]);have HN:=ag hn;have Hi:=ag He;clear hn He;have h3:=ag Hk;clear Hk
 go_quiet (fail)
 have hz:=ag (show(U.drewN nq).heap[rb]? =some (.cells cs1.toArray ty (0,0))from hy.o);have hA:=ag (show w.grownBy (U.drewN nq) (some rb)from oM Hf.o _);clear hy Hf c322 c320 c321
 generalize U.drewN nq=U1 at *
 by_cases hf:n=W
 ·obtain⟨x,l,hS⟩: ∃x l,oz W d=x::l:=by
   cases hw:oz W d with
   | nil=>have:=oA W d; rw[hw,<-HN.o,hf]at this; simp at this; omega
   | cons x l=>exact⟨x,l,rfl⟩
  have Hr:l.length+1=W:=by have:=oA W d; rw[hS,<-HN.o,hf]at this; simpa using this
  have hx:=h3.o 0 x (by rw[hS]; rfl);rw[dh,eM hs]at hx;have Hv:=x.toNat_lt;have Hw:(x.toNat:Int)<256:=by omega
  have HC:(s:Int)<64:=by omega
  obtain⟨tx,hR⟩:=bH (uJ seed x.toNat);have hq:tx<18446744073709551616:=by rw[hR]; exact rR _ _
  have cx:=HR.o.tab _ Hv;rw[<-hR]at cx;have HX:=ag (aB hS (aB hx (aB hR cx)));clear hS hx hR cx;subst hf;go_wp2_with fail;refine eP (fun w'=>w'.cell? ⟨rb,323,none⟩=some (.int .u64 (h1:Int))/\w'.cell? ⟨rb,321,none⟩=some (.int .i64 (s:Int))/\w'.cell? ⟨rb,256+s,none⟩=some (.int .u8 (x.toNat:Int))/\w'.cell? ⟨rb,x.toNat,none⟩=some (.int .u64 (tx:Int))/\w'.cell? ⟨rb,320,none⟩=some (.int .i64 (n:Int))) (by kernel_rfl) (by kernel_rfl) ?_
  simp only[bu,bw,ay,bp,Nat.reduceAdd,Nat.reduceSub];obtain⟨V2,hM⟩:=bH U1.drew;rw[<-hM];have hd:=ag (show V2.heap[rb]? =some (.cells cs1.toArray ty (0,0)) by rw[hM]; exact hz.o);have hT:=ag (show w.grownBy V2 (some rb) by rw[hM]; exact sS hA.o);clear hM;have c323:V2.cell? ⟨rb,323,none⟩=some (.int .u64 (h1:Int)):=by rw[eU hd.o,ha.o,di (by omega)]
  have c320:V2.cell? ⟨rb,320,none⟩=some (.int .i64 (n:Int)):=by rw[eU hd.o,ha.o,au (by decide),HR.o.win]
  have c321:V2.cell? ⟨rb,321,none⟩=some (.int .i64 (s:Int)):=by rw[eU hd.o,ha.o,au (by decide),Hi.o]
  have cx1:V2.cell? ⟨rb,256+s,none⟩=some (.int .u8 (x.toNat:Int)):=by rw[eU hd.o,ha.o,au (by omega),HX.o.2.1]; rfl
  have ct1:V2.cell? ⟨rb,x.toNat,none⟩=some (.int .u64 (tx:Int)):=by rw[eU hd.o,ha.o,au (by omega),HX.o.2.2.2]
  iterate 22 (refine cF rfl ⟨c323,c321,cx1,ct1,c320⟩ (by rintro w' ⟨hk,hm,Hs,Ht,Hu⟩; go_simp; rfl) ?_; simp only[bM])
  refine cA 22 rfl (fun K hK=> ?_);go_wp2_with fail;refine(AW tx n V2 hq hW2).mono ?_;rintro e w1 ⟨rfl,rfl⟩;go_wp2_with fail;refine⟨⟨c323,c321,cx1,ct1,c320⟩, ?_⟩
  iterate 3 (refine cF rfl ⟨c323,c321,cx1,ct1,c320⟩ (by rintro w' ⟨hk,hm,Hs,Ht,Hu⟩; go_simp; rfl) ?_; simp only[bM])
  rw[Jt hE (pO n hq)];obtain⟨h2,hP⟩:=bH (h1^^^ki tx n);rw[<-hP];have Hp:h2<18446744073709551616:=by rw[hP]; exact rD hE (pO n hq)
  have Hn:=ag hP;have cf:V2.frozen? ⟨rb,323,none⟩=false:=dT V2 _ _ _ _ hd.o;have cf1:V2.frozen? ⟨rb,321,none⟩=false:=dT V2 _ _ _ _ hd.o;have cf2:V2.frozen? ⟨rb,322,none⟩=false:=dT V2 _ _ _ _ hd.o;have c322:V2.cell? ⟨rb,322,none⟩=some (.int .i64 (n:Int)):=by rw[eU hd.o,ha.o,au (by decide),Hh.o]
  obtain⟨s2,hv⟩:=bH ((s+1)%64);obtain⟨n2,hu⟩:=bH (n-1);have Hz:IntKind.i64.wrap ((s:Int)+1)=((s+1:Nat):Int):=by rw[bI]; omega
  have HA:((s:Int)+1)%64=(s2:Int):=by omega
  have Hy:IntKind.i64.wrap ((n:Int)-1)=(n2:Int):=by rw[bI]; omega
  have hg:s2<64:=by omega
  have hJ:n2<64:=by omega
  have h0:=ag hv;have hC:=ag hu;clear hP hv hu;refine cH (by kernel_rfl) ?_;refine eX rfl rfl (fun K hK=> ?_);go_wp2_with fail;obtain⟨X,hX⟩:=bH (((V2.setCell ⟨rb,323,none⟩ (.int .u64 (h2:Int))).setCell ⟨rb,321,none⟩ (.int .i64 (s2:Int))).setCell ⟨rb,322,none⟩ (.int .i64 (n2:Int)));rw[<-hX];have he:=ag (show X.heap[rb]? =some (.cells (((cs1.set 323 (.int .u64 (h2:Int))).set 321 (.int .i64 (s2:Int))).set 322 (.int .i64 (n2:Int))).toArray ty (0,0)) by rw[hX]; exact mO (mO (mO hd.o _) _) _)
  have hY:=ag (show w.grownBy X (some rb) by rw[hX]; exact fR (fR (fR hT.o _ _) _ _) _ _);have ho:=ag (show(((cs1.set 323 (.int .u64 (h2:Int))).set 321 (.int .i64 (s2:Int))).set 322 (.int .i64 (n2:Int)))[321]? =some (.int .i64 (s2:Int))/\(((cs1.set 323 (.int .u64 (h2:Int))).set 321 (.int .i64 (s2:Int))).set 322 (.int .i64 (n2:Int)))[322]? =some (.int .i64 (n2:Int))from⟨by rw[au (by decide),di (by rw[ha.o]; simp; omega)],by rw[di (by rw[ha.o]; simp; omega)]⟩)
  have hZ:=ag (show ∀j,j<64-> ∃c,(((cs1.set 323 (.int .u64 (h2:Int))).set 321 (.int .i64 (s2:Int))).set 322 (.int .i64 (n2:Int)))[256+j]? =some (aZ c)from fun j hj=>by rw[au (by omega),au (by omega),au (by omega),ha.o,au (by omega)];exact HR.o.rng j hj)
  clear hX c323 c320 c321 cx1 ct1 cf cf1 cf2 c322;have h7:=hN;obtain⟨j2,hF⟩:=bH ((s2+n2)%64);have hp:j2<64:=by omega
  have hG:(j2:Int)<64:=by omega
  have h4:IntKind.i64.wrap ((s2:Int)+(n2:Int))=(s2:Int)+(n2:Int):=by rw[bI]; omega
  have Hb:((s2:Int)+(n2:Int))%64=(j2:Int):=by omega
  have hH:Int.tmod ((s2:Int)+(n2:Int)) 64=(j2:Int):=by rw[Int.tmod_eq_emod_of_nonneg (by omega)]; omega
  have hI:IntKind.i64.wrap (j2:Int)=(j2:Int):=by rw[bI]; omega
  have Ha:IntKind.i64.wrap ((n2:Int)+1)=((n2+1:Nat):Int):=by rw[bI]; omega
  have c321:X.cell? ⟨rb,321,none⟩=some (.int .i64 (s2:Int)):=by rw[eU he.o,ho.o.1]
  have c322:X.cell? ⟨rb,322,none⟩=some (.int .i64 (n2:Int)):=by rw[eU he.o,ho.o.2]
  have cf1:X.frozen? ⟨rb,256+j2,none⟩=false:=dT X _ _ _ _ he.o;have cf2:X.frozen? ⟨rb,322,none⟩=false:=dT X _ _ _ _ he.o;obtain⟨bj,hD⟩:=hZ.o j2 hp;have cbj:X.cell? ⟨rb,256+j2,none⟩=some (aZ bj):=by rw[eU he.o,hD]
  clear hD;have Hc: ¬(256+j2=322):=by omega
  have Hd: ¬(322=256+j2):=by omega
  have hB:=ag hF;clear hF;refine bL [some 15,none] (by kernel_rfl) (by kernel_rfl) (by kernel_rfl) ?_;simp only[ef,aS,aY,bA,bQ]
  repeat (first | (refine cy rfl ?_; simp only[bM]) | (refine cP rfl (fun K hK=> ?_); go_simp; refine hK _ ?_; clear hK K))
  refine cO ?_;refine eE rfl (fun K hK=> ?_);go_wp2_with fail
  go_end0
  refine⟨rfl,⟨_,mO (mO (show X.drew.heap[rb]? =_ from he.o) _) _, ?_, ?_, ?_⟩,fR (fR (sS hY.o) _ _) _ _⟩
  ·rw[hB.o];have Hq:=(oA n d).symm;refine HR.o.push (b:=b) (q:=l) (s2:=s2) (n2:=n2) ?_ ?_ hg ?_ ?_ ?_ ?_ ?_ hW2 ?_
   ·intro i hi;rw[au (by omega),au (by omega),au (by omega),ha.o,au (by omega)]
   ·exact ho.o.1
   ·rw[ha.o]; simp; omega
   ·rw[au (by omega),au (by omega),di (by rw[ha.o]; simp; omega),Hn.o,Hg.o,HT.o.1,HT.o.2,HX.o.2.2.1,Bo hW (by have:=HN.o; omega),HX.o.1];have:=Fz (rR seed) x b l (by omega);rw[Hr]at this;unfold qD;rw[this]
    rfl
   ·rw[Bo hW (by have:=HN.o; omega),HX.o.1]; rfl
   ·have:=hC.o; omega
   ·have:=hC.o; omega
   ·intro j c hc;have Hx:=(aA.1 hc).1;rw[au (by omega),au (by omega),au (by omega),ha.o,au (by omega)];have:=h3.o (j+1) c (by rw[HX.o.1]; exact hc);rw[show(s2+j)%64=(s+(j+1))%64 by have:=h0.o; omega];exact this
  ·rw[ha.o]; simp
  ·intro i hi;have:=hB.o;rw[au (by omega),au (by omega),au (by omega),au (by omega),au (by omega),ha.o,au (by omega)]
 ·go_wp2_with fail;obtain⟨X,hX⟩:=bH U1;rw[<-hX];obtain⟨s2,hv⟩:=bH s;obtain⟨n2,hu⟩:=bH n;have he:=ag (show X.heap[rb]? =some (.cells cs1.toArray ty (0,0)) by rw[hX]; exact hz.o);have hY:=ag (show w.grownBy X (some rb) by rw[hX]; exact hA.o);have ho:=ag (show cs1[321]? =some (.int .i64 (s2:Int))/\cs1[322]? =some (.int .i64 (n2:Int))from⟨by rw[ha.o,au (by decide),Hi.o,hv],by rw[ha.o,au (by decide),Hh.o,hu]⟩)
  have hZ:=ag (show ∀j,j<64-> ∃c,cs1[256+j]? =some (aZ c)from fun j hj=>by rw[ha.o,au (by omega)];exact HR.o.rng j hj)
  have hg:s2<64:=by omega
  have hJ:n2<64:=by have:=HN.o; omega
  have h0:=ag hv;have hC:=ag hu;clear hX hv hu;have h7:=hN;obtain⟨j2,hF⟩:=bH ((s2+n2)%64);have hp:j2<64:=by omega
  have hG:(j2:Int)<64:=by omega
  have h4:IntKind.i64.wrap ((s2:Int)+(n2:Int))=(s2:Int)+(n2:Int):=by rw[bI]; omega
  have Hb:((s2:Int)+(n2:Int))%64=(j2:Int):=by omega
  have hH:Int.tmod ((s2:Int)+(n2:Int)) 64=(j2:Int):=by rw[Int.tmod_eq_emod_of_nonneg (by omega)]; omega
  have hI:IntKind.i64.wrap (j2:Int)=(j2:Int):=by rw[bI]; omega
  have Ha:IntKind.i64.wrap ((n2:Int)+1)=((n2+1:Nat):Int):=by rw[bI]; omega
  have c321:X.cell? ⟨rb,321,none⟩=some (.int .i64 (s2:Int)):=by rw[eU he.o,ho.o.1]
  have c322:X.cell? ⟨rb,322,none⟩=some (.int .i64 (n2:Int)):=by rw[eU he.o,ho.o.2]
  have cf1:X.frozen? ⟨rb,256+j2,none⟩=false:=dT X _ _ _ _ he.o;have cf2:X.frozen? ⟨rb,322,none⟩=false:=dT X _ _ _ _ he.o;obtain⟨bj,hD⟩:=hZ.o j2 hp;have cbj:X.cell? ⟨rb,256+j2,none⟩=some (aZ bj):=by rw[eU he.o,hD]
  clear hD;have Hc: ¬(256+j2=322):=by omega
  have Hd: ¬(322=256+j2):=by omega
  have hB:=ag hF;clear hF;refine bL [some 15,none] (by kernel_rfl) (by kernel_rfl) (by kernel_rfl) ?_;simp only[ef,aS,aY,bA,bQ]
  repeat (first | (refine cy rfl ?_; simp only[bM]) | (refine cP rfl (fun K hK=> ?_); go_simp; refine hK _ ?_; clear hK K))
  refine cO ?_;refine eE rfl (fun K hK=> ?_);go_wp2_with fail
  go_end0
  have Hj:d.length<W:=by have:=HN.o; omega
  refine⟨rfl,⟨_,mO (mO (show X.drew.heap[rb]? =_ from he.o) _) _, ?_, ?_, ?_⟩,fR (fR (sS hY.o) _ _) _ _⟩
  ·rw[hB.o];refine HR.o.push (b:=b) (q:=oz W d) (s2:=s2) (n2:=n2) ?_ ?_ hg ?_ ?_ (Bn Hj b) ?_ ?_ hW2 ?_
   ·intro i hi;rw[ha.o,au (by omega)]
   ·exact ho.o.1
   ·rw[ha.o]; simp; omega
   ·rw[ha.o,di (by omega),Hg.o,HT.o.1,HT.o.2,Bn Hj];unfold qD;rw[nY]
   ·rw[oA,<-HN.o,hC.o]
   ·have:=hC.o; have:=HN.o; omega
   ·intro j c hc;rw[ha.o,au (by omega),h0.o];exact h3.o j c hc
  ·rw[ha.o]; simp
  ·intro i hi;have:=hB.o;rw[au (by omega),au (by omega),ha.o,au (by omega)]
structure Cu (w : World) : Prop where
 tab:TabAt 6 Lib.deBruijn64tab w
 lt:6<w.heap.size
theorem Cu.block {w w':World} (h:Cu w) (hb:w'.heap[6]? =w.heap[6]?) (hs:w.heap.size<=w'.heap.size):Cu w':=
 ⟨fun j hj=>by rw[<-h.tab j hj]; exact cC hb,aO h.lt hs⟩
theorem Cu.below {w0 w w':World} (h:Cu w) (hb:Below w0.heap.size w w') (hlt:6<w0.heap.size):Cu w':=h.block (hb.block _ hlt) hb.size
theorem Cu.grown {w w':World} {r:Option Nat} (h:Cu w) (hg:w.grownBy w' r) (hr:r≠some 6):Cu w':=h.block (hg.block _ h.lt (fun e=>hr e.symm)) hg.size
theorem rq (rb n:Nat) (w:World) (h:w.cell? ⟨rb,322,none⟩=some (.int .i64 (n:Int))):Calls Tryz.prog 201 #[.pointer (some ⟨rb,0,none⟩)] w fun e w'=>e= .returned (.int .i64 (n:Int))/\w=w':=by
 go_enter Tryz.func201,Tryz.ntmps201
 go_wp2_with fail;go_ret;exact⟨rfl,rfl⟩
theorem rr (rb n:Nat) (w:World) (h:w.cell? ⟨rb,323,none⟩=some (.int .u64 (n:Int))):Calls Tryz.prog 203 #[.pointer (some ⟨rb,0,none⟩)] w fun e w'=>e= .returned (.int .u64 (n:Int))/\w=w':=by
 go_enter Tryz.func203,Tryz.ntmps203
 go_wp2_with fail;go_ret;exact⟨rfl,rfl⟩
theorem LI (x:Nat) (w:World) (hx:x<18446744073709551616) (hT:Cu w):Calls Tryz.prog 202 #[.int .u64 (x:Int)] w fun e w'=>e= .returned (.int .i64 ((Lib.ctz 64 x:Nat):Int))/\w=w':=by
 go_enter Tryz.func202,Tryz.ntmps202
 go_wp2_with fail;refine(Tryz.bits_TrailingZeros64 x hx w (fun _=>hT.tab)).mono ?_;rintro e w' ⟨rfl,rfl⟩;go_wp2_with fail;go_ret;exact⟨rfl,rfl⟩
def qG (c:fQ) (data:List UInt8) (p:Nat):Bool:=IK c.seed c.win.toNat c.bits.toNat (data.take p)
structure vf (c : fQ) (data : List UInt8) (p : Nat) (cs : List Value) : Prop where
 roll:sx c.seed c.win.toNat (data.take p) cs
 len:cs.length=331
 cut: ∀i,i<5->cs[324+i]? =(gx c)[i]?
 pos:cs[329]? =some (.int .i64 (p:Int))
 last:cs[330]? =some (.int .i64 (qF (qG c data) c.mn.toNat p))
theorem DH (mk:Nat->Bool) (mn p:Nat): -(mn:Int)<=qF mk mn p/\qF mk mn p<=(p:Int):=by rcases sV (mk:=mk) (mn:=mn) p with⟨h,_⟩ | ⟨L,h,h1,h2,_⟩<;> rw[h]<;> omega
theorem Od (c:fQ) (data:List UInt8) (p:Nat) (b:UInt8) (mb:Nat) (ty:TypeId) (cs:List Value) (w:World) (hc:jT c=true) (hb:data[p]? =some b) (hp:data.length<=1048576) (hbox:w.heap[mb]? =some (.cells cs.toArray ty (0,0))) (hm:vf c data p cs) (hT:Cu w) (hmb:mb≠6):
  Calls Tryz.prog 188 #[.pointer (some ⟨mb,0,none⟩), .int .u8 (b.toNat:Int)] w fun e w'=>e= .returned (.bool (kM (qG c data) c.mn.toNat (p+1)))/\(∃cs',w'.heap[mb]? =some (.cells cs'.toArray ty (0,0))/\vf c data (p+1) cs')/\w.grownBy w' (some mb):=by
 have hv:=mf.1 hc;have HV:=ag hv;have HM:=ag hm;have hS:=ag hbox;have HT:=ag hT;have Hh:=(aA.1 hb).1;have hR:data.take (p+1)=data.take p++[b]:=by rw[cw,hb]; rfl
 have hF:=ag hR;obtain⟨W,hW⟩:=bH c.win.toNat
 obtain⟨B,hB⟩:=bH c.bits.toNat
 obtain⟨mn,hO⟩:=bH c.mn.toNat
 have hH:c.win=(W:Int):=by omega
 have hG:c.bits=(B:Int):=by omega
 have hM:c.mn=(mn:Int):=by omega
 have h9:1<=W:=by omega
 have Ha:W<=64:=by omega
 have HI:=ag (aB hW (aB hB (aB hO (aB hH (aB hG hM)))));clear hc hm hbox hT hb hR hv hW hB hO hH hG hM
 go_enter Tryz.func188,Tryz.ntmps188
 go_wp2_with fail;refine(NF mb ty c.seed W (data.take p) b cs w hS.o (by have:=HM.o.roll; rw[<-HI.o.1]at this; exact this) h9 Ha).mono ?_;rintro e w1 ⟨rfl,⟨cs1,hI,hP,hL,hJ⟩,hx⟩;have ho:=ag hI;have hw:=ag hP;have hf:=ag hJ;have hr:=ag (hL.trans HM.o.len);have hX:=ag hx;have hZ:=ag (HT.o.grown hx (fun e=>hmb (bt e)));clear hI hP hJ hL hx
 have c329:w1.cell? ⟨mb,329,none⟩=some (.int .i64 (p:Int)):=by rw[eU ho.o,hf.o _ (by decide),HM.o.pos]
 have cf:w1.frozen? ⟨mb,329,none⟩=false:=dT w1 _ _ _ _ ho.o;have hy:IntKind.i64.wrap ((p:Int)+1)=((p+1:Nat):Int):=by rw[bI]; omega
 go_wp2_with fail;obtain⟨cs2,he⟩:=bH (cs1.set 329 (.int .i64 (((p:Nat):Int)+1)));obtain⟨U,hU⟩:=bH (w1.setCell ⟨mb,329,none⟩ (.int .i64 (((p:Nat):Int)+1)));rw[<-hU];have ha:=ag (show U.heap[mb]? =some (.cells cs2.toArray ty (0,0)) by rw[hU,he]; exact mO ho.o _);have hq:=ag (show w.grownBy U (some mb) by rw[hU]; exact fR hX.o _ _);have h4:=ag (show Cu U by rw[hU]; exact hZ.o.grown (cJ _ _ _ _) (fun e=>hmb (bt e)))
 have hd:=ag he;have hs:=ag (show cs2.length=331 by rw[he,List.length_set]; exact hr.o);clear hU he c329 cf hy;obtain⟨n,hn⟩:=bH (min W (p+1));obtain⟨h,hh⟩:=bH (qD c.seed (oz W (data.take (p+1))));have Hc:h<18446744073709551616:=by rw[hh]; exact xt _ _
 obtain⟨z,hz⟩:=bH (Lib.ctz 64 h);obtain⟨la,hl⟩:=bH (qF (qG c data) mn p);have Hg: -(mn:Int)<=la/\la<=(p:Int):=by rw[hl]; exact DH _ _ _
 have c322:U.cell? ⟨mb,322,none⟩=some (.int .i64 (n:Int)):=by rw[eU ha.o,hd.o,au (by decide),hw.o.len,hn,ai,aW,ay,bp,fC (by omega:p<=data.length)]
 have c323:U.cell? ⟨mb,323,none⟩=some (.int .u64 (h:Int)):=by rw[eU ha.o,hd.o,au (by decide),hw.o.sum,hh,hF.o]
 have c324:U.cell? ⟨mb,324,none⟩=some (.int .i64 (mn:Int)):=by rw[eU ha.o,hd.o,au (by decide),hf.o _ (by decide),HM.o.cut 0 (by decide),<-HI.o.2.2.2.2.2]; rfl
 have c326:U.cell? ⟨mb,326,none⟩=some (.int .i64 (W:Int)):=by rw[eU ha.o,hd.o,au (by decide),hf.o _ (by decide),HM.o.cut 2 (by decide),<-HI.o.2.2.2.1]; rfl
 have c327:U.cell? ⟨mb,327,none⟩=some (.int .i64 (B:Int)):=by rw[eU ha.o,hd.o,au (by decide),hf.o _ (by decide),HM.o.cut 3 (by decide),<-HI.o.2.2.2.2.1]; rfl
 have c329:U.cell? ⟨mb,329,none⟩=some (.int .i64 ((p:Int)+1)):=by rw[eU ha.o,hd.o,di (by rw[hr.o]; decide)]
 have c330:U.cell? ⟨mb,330,none⟩=some (.int .i64 la):=by rw[eU ha.o,hd.o,au (by decide),hf.o _ (by decide),HM.o.last,hl,HI.o.2.2.1]
 have hN:qG c data (p+1)=(decide (W<=n) && decide (B<=z)):=by
  unfold qG IK;rw[<-HI.o.1,<-HI.o.2.1,hz,hh]
  congr 1
  rw[jm,aW]; omega
 have hu:=ag hN;have HH:=ag (aB hn (aB hh (aB hz hl)));have hV:=ag (show ∀n,Cu (U.drewN n)from fun n=>h4.o.block rfl (ah _));clear hn hh hz hl hN;have HZ:=ag (show ∀m,Calls Tryz.prog 202 #[.int .u64 (h:Int)] (U.drewN m) fun e w'=>e= .returned (.int .i64 (z:Int))/\U.drewN m=w' from fun m=>by rw[HH.o.2.2.1]; exact LI h (U.drewN m) Hc (hV.o m))
 have hE:=ag (show sx c.seed c.win.toNat (data.take (p+1)) cs2 by
  rw[<-HI.o.1,hF.o,hd.o];have h:=hw.o;refine⟨fun i hi=> ?_,fun j hj=> ?_, ?_, ?_, ?_, ?_⟩
  ·rw[au (by omega)]; exact h.tab i hi
  ·rw[au (by omega)]; exact h.rng j hj
  ·rw[au (by omega)]; exact h.win
  ·obtain⟨s,h1,h2,h3⟩:=h.st;refine⟨s,h1,by rw[au (by omega)]; exact h2,fun j b hb=>by rw[au (by omega)]; exact h3 j b hb⟩
  ·rw[au (by omega)]; exact h.len
  ·rw[au (by omega)]; exact h.sum)
 have hA:=ag (show ∀i,i<5->cs2[324+i]? =(gx c)[i]? from fun i hi=>by rw[hd.o,au (by omega),hf.o _ (by omega)]; exact HM.o.cut i hi)
 have hD:=ag (show cs2[329]? =some (.int .i64 ((p+1:Nat):Int)) by rw[hd.o,di (by rw[hr.o]; decide)]; rfl);have hY:=ag (show cs2[330]? =some (.int .i64 la) by rw[hd.o,au (by decide),hf.o _ (by decide),HM.o.last,HH.o.2.2.2,HI.o.2.2.1]);have hC:=ag (show qG c data (p+1)=false->(kM (qG c data) c.mn.toNat (p+1)=false/\vf c data (p+1) cs2)from fun h0=>⟨by rw[kM,h0]; rfl,{
  roll:=hE.o
  len:=hs.o
  cut:=hA.o
  pos:=hD.o
  last:=by rw[qF,if_neg (by rw[h0]; decide),<-HI.o.2.2.1,<-HH.o.2.2.2]; exact hY.o}⟩)
 by_cases h1:n<W
 ·have h7:(n:Int)<(W:Int):=by omega
  go_quiet ((first | (go_at_call 201; refine lh (rq mb n _ c322)) | (go_at_call 203; refine lh (rr mb h _ c323)) | (go_at_call 202; refine lh (HZ.o _))))
  go_wp2_with fail;go_ret;have hg:=hC.o (by rw[hu.o,cE (by omega)]; rfl);exact⟨cj hg.1.symm,⟨cs2,ha.o,hg.2⟩,oM hq.o _⟩
 ·have h7:(W:Int)<=(n:Int):=by omega
  have He: ¬(n:Int)<(W:Int):=by omega
  by_cases h2:z<B
  ·have h8:(z:Int)<(B:Int):=by omega
   go_quiet ((first | (go_at_call 201; refine lh (rq mb n _ c322)) | (go_at_call 203; refine lh (rr mb h _ c323)) | (go_at_call 202; refine lh (HZ.o _))))
   go_wp2_with fail;go_ret;have hg:=hC.o (by rw[hu.o,cE (by omega: ¬B<=z),Bool.and_false]);exact⟨cj hg.1.symm,⟨cs2,ha.o,hg.2⟩,oM hq.o _⟩
  ·have h8:(B:Int)<=(z:Int):=by omega
   have Hf: ¬(z:Int)<(B:Int):=by omega
   go_quiet ((first | (go_at_call 201; refine lh (rq mb n _ c322)) | (go_at_call 203; refine lh (rr mb h _ c323)) | (go_at_call 202; refine lh (HZ.o _))))
   go_wp2_with fail;have cf:U.frozen? ⟨mb,330,none⟩=false:=dT U _ _ _ _ ha.o;have Hd:IntKind.i64.wrap ((p:Int)+1-la)=(p:Int)+1-la:=by have:=HV.o; have:=HI.o; rw[bI]; omega
   go_quiet (fail)
   go_wp2_with fail;go_ret;have hk:qG c data (p+1)=true:=by rw[hu.o,de (by omega:W<=n),de (by omega:B<=z)]; rfl
   refine⟨cj ?_,⟨cs2.set 330 (.int .i64 ((p:Int)+1)),mO (show(U.drewN _).heap[mb]? =_ from ha.o) _, ?_⟩,fR (oM hq.o _) _ _⟩
   ·rw[kM,hk,ie,<-HI.o.2.2.1,<-HH.o.2.2.2,jm]; simp
   ·have h:=hE.o;have Hb:=hA.o;refine⟨⟨fun i hi=> ?_,fun j hj=> ?_, ?_, ?_, ?_, ?_⟩,by rw[List.length_set]; exact hs.o,fun i hi=> ?_, ?_, ?_⟩
    ·rw[au (by omega)]; exact h.tab i hi
    ·rw[au (by omega)]; exact h.rng j hj
    ·rw[au (by omega)]; exact h.win
    ·obtain⟨s,h1,h2,h3⟩:=h.st;refine⟨s,h1,by rw[au (by omega)]; exact h2,fun j b hb=>by rw[au (by omega)]; exact h3 j b hb⟩
    ·rw[au (by omega)]; exact h.len
    ·rw[au (by omega)]; exact h.sum
    ·rw[au (by omega)]; exact Hb i hi
    ·rw[au (by omega)]; exact hD.o
    ·rw[di (by rw[hs.o]; decide),qF,if_pos hk]; rfl
def NR {α:Type} (Kp:World->World->Prop) (I:List α->World->Prop) (Ix:Code->List α->World->Prop) (xs:List α) (W:World):Exit->Act->World->Prop
 | .normal,_,B=>KeepsOthers W B/\Kp W B/\I xs B
 | .ret,_,B=>KeepsOthers W B/\Ix .ret xs B
 | .exit id,_,B=>KeepsOthers W B/\Ix (.exit id) xs B
 | .goto t,_,B=>KeepsOthers W B/\Ix (.goto t) xs B
 | .panic _,_,_=>False
 | .outgrown,_,_=>False
section
variable {P : Program} {α : Type}
theorem Fb {W W':World} (h:Below W.heap.size W W'):W.grownBy W' none:=⟨h.os,h.tape,h.output,h.size,fun k hk _=>h.block k hk⟩
theorem wL {W:World} {l:Nat} {r:Loop} (h:W.heap[l]? =some (.loop r)) (o:Obj):(W.putObj l o).heap[l]? =some o:=World.putObj_heap_same (aN.1 h).1
end
def Ia {σ:Type} (mt:TypeId) (n:Nat) (I:σ->World->Prop):Prop:=
 ∀s A B row,I s A->A.grownBy B row->(∀r,row=some r->n<=r/\ ∃cs,A.heap[r]? =some (.cells cs mt (0,0)))->I s B
def QX {α:Type} (P:Program) (g:Nat) (lb:Array Value) (encs:α->Array Value) (D:List α->α->World->Prop) (Kp:World->World->Prop) (S Sp:List α->Prop) (N:Nat) (mt:TypeId) (w:World):Prop:=
 ∀(l:Nat) (J Jx:List α->World->Prop) (W:World),Below w.heap.size w W->Ia mt W.heap.size J->
  (∀pre x A,J pre A->D pre x A->pre.length<N->YieldAt Fence.wide 2 P l (encs x) A fun e B=>(e= .returned (.bool true)/\J (pre++[x]) B/\Kp A B)\/(e= .returned (.bool false)/\Jx (pre++[x]) B))->
  J [] W->
  CallsIn Fence.wide 3 P g (#[.func (.yield l) #[] #[]]++lb) W fun e B=>(∃v,e= .returned v)/\((∃xs,S xs/\J xs B)\/(∃pre,Sp pre/\Jx pre B))
section
variable {P : Program} {α : Type}
theorem LG {g:Operand} {ps:Array Tmp} {assign body:Code} {Q:Exit->Act->World->Prop} {a:Act} {w:World} {gf:Nat} {lb:Array Value} (hg:a.eval g= .func (.func gf) #[] lb) (eg: ∀args w,(callFunc gf args).run P w= .ok (.enter gf args) w)
  {encs:α->Array Value} {D:List α->α->World->Prop} {Kp:World->World->Prop} {S Sp:List α->Prop} {N:Nat} {mt:TypeId} (hseq:QX P gf lb encs D Kp S Sp N mt w)
  (hKt: ∀ {A B C:World},Kp A B->Kp B C->Kp A C) (hKb: ∀(W:World) (l:Nat) (o o':Obj),w.heap.size<=l->W.heap[l]? =some o->o.isCells=false->o.isWalk=false->Kp W (W.putObj l o')) (hps: ∀x,(encs x).size=ps.size)
  (I:List α->World->Prop) (Ix:Code->List α->World->Prop) (Ax:List α->α->Act->World->Prop) (hI:OwnFrom w.heap.size I) (hI2:Ia mt w.heap.size I) (hIx: ∀c,OwnFrom w.heap.size (Ix c))
  (hAx:OwnFrom w.heap.size (fun(s:List α×α×Act) W=>Ax s.1 s.2.1 s.2.2 W)) (h0:I [] w)
  (hassign: ∀(l:Nat) (pre:List α) (x:α) (W:World),w.heap.size<W.heap.size->I pre W->D pre x W->pre.length<N->assign.wpIn (Fence.wide.inRound l) 2 P (Exit.then (fun a₁ B=>KeepsOthers W B/\Kp W B/\Ax pre x a₁ B) (fun _ _ _=>False)) {tmps:=(ps.zip (encs x)).foldl (fun t (p,v)=>t.setIfInBounds p v) a.tmps,defers:=[]} W)
  (hbody: ∀(l:Nat) (pre:List α) (x:α) (a₁:Act) (W:World),Ax pre x a₁ W->body.wpIn (Fence.wide.inRound l) 2 P (NR Kp I Ix (pre++[x]) W) a₁ W)
  (hdone: ∀(Dl:Nat) (xs:List α) (W:World),w.heap.size<=Dl->S xs->I xs W->W.heap[Dl]? =some (.deferred (some []))->Q .normal {a with defers:= {target:= .collected Dl,args:= #[]} ::a.defers} W)
  (hstop: ∀(Dl:Nat) (c:Code) (pre:List α) (W:World),w.heap.size<=Dl->Sp pre->Ix c pre W->W.heap[Dl]? =some (.deferred (some []))->c.wp P Q {a with defers:= {target:= .collected Dl,args:= #[]} ::a.defers} W):
  (Code.rangeFunc g ps assign body).wp P Q a w:=by
 refine(wpIn_wide (n:=4)).1 (wpIn_rangeFunc (fun fn hG=> ?_))
 show ∃l mark w₁ d w₁' f args w₂,_
 let rec_:LoopState->Option Code->Loop:=fun st pe=> {state:=st,pending:=pe,fn:=fn,tmps:=a.tmps,params:=ps,assign:=assign,body:=body,defers:=w.heap.size}
 obtain⟨rec,ha⟩:=bH rec_;have hO: ∀st pe,(rec st pe).params=ps:=fun st pe=>by rw[ha]
 have hp: ∀st pe,(rec st pe).state=st:=fun st pe=>by rw[ha]
 have hu: ∀st pe,(rec st pe).pending=pe:=fun st pe=>by rw[ha]
 obtain⟨L,hL⟩:=bH (w.heap.size+1);obtain⟨V,hV⟩: ∃V,(w.alloc (.deferred (some []))).alloc (.loop (rec .ready none))=V:=⟨_,rfl⟩;have hA:V.heap[L]? =some (.loop (rec .ready none)):=by rw[<-hV,hL]; have:=World.alloc_heap_new (w.alloc (.deferred (some []))) (.loop (rec .ready none)); rwa [World.size_alloc]at this
 have hx:V.heap[w.heap.size]? =some (.deferred (some [])):=by rw[<-hV]; exact(cN _ _ _ (by simp)).trans (World.alloc_heap_new w _)
 have hz:I [] V:=by rw[<-hV]; exact hI.alloc _ (hI.alloc _ h0)
 have hv:Below w.heap.size w V:=by rw[<-hV]; exact((ak _ w).alloc (ah _) _).alloc (by simp) _
 let J:List α->World->Prop:=fun pre W=>I pre W/\W.heap[L]? =some (.loop (rec .ready none))/\W.heap[w.heap.size]? =some (.deferred (some []))
 let Jx:List α->World->Prop:=fun pre W=> ∃c,Ix c pre W/\W.heap[L]? =some (.loop (rec .done (some c)))/\W.heap[w.heap.size]? =some (.deferred (some []))
 have hP:w.heap.size+2<=V.heap.size:=by rw[<-hV]; simp
 have hJ:Ia mt V.heap.size J:=by
  rintro s A B row ⟨h1,h2,h3⟩ hg hr;have hs: ∀(k:Nat) (o:Obj),A.heap[k]? =some o->o.isCells=false->row≠some k:=fun k o hk hw e=>by obtain⟨_,cs,ho⟩:=hr k e;rw[hk]at ho; cases ho; cases hw
  refine⟨hI2 s A B row h1 hg (fun r e=> ?_), ?_, ?_⟩
  ·obtain⟨h4,cs,ho⟩:=hr r e;exact⟨by omega,cs,ho⟩
  ·exact(hg.block _ (aN.1 h2).1 (fun e=>hs _ _ h2 rfl e.symm)).trans h2
  ·exact(hg.block _ (aN.1 h3).1 (fun e=>hs _ _ h3 rfl e.symm)).trans h3
 have hc: ∀(jump:Option Code) (W B:World),W.heap[L]? =some (.loop (rec .busy none))->W.heap[w.heap.size]? =some (.deferred (some []))->KeepsOthers W B->
   (Instr.endRound L jump).run P B= .ok (.bool jump.isNone) (B.putObj L (.loop (rec (if jump.isNone then .ready else .done) jump)))/\B.heap[L]? =some (.loop (rec .busy none))/\
   (B.putObj L (.loop (rec (if jump.isNone then .ready else .done) jump))).heap[L]? =some (.loop (rec (if jump.isNone then .ready else .done) jump))/\
   (B.putObj L (.loop (rec (if jump.isNone then .ready else .done) jump))).heap[w.heap.size]? =some (.deferred (some [])):=by
  intro jump W B h1 h2 hk;have hb:=hk.same _ _ h1 rfl;have hd:=hk.same _ _ h2 rfl;have:=run_endRound (P:=P) jump hb;refine⟨?_,hb,wL hb _,(ik (by omega)).trans hd⟩;rw[this,ha]
 have he: ∀pre x A,J pre A->D pre x A->pre.length<N->YieldAt Fence.wide 2 P L (encs x) A fun e B=>(e= .returned (.bool true)/\J (pre++[x]) B/\Kp A B)\/(e= .returned (.bool false)/\Jx (pre++[x]) B):=by
  rintro pre x A ⟨hi,hl,hk⟩ hd hN;have hR:L<A.heap.size:=(aN.1 hl).1;have hy:=run_yield (P:=P) (args:=encs x) hl (by rw[hO]; exact hps x);refine⟨_,_,_,_,hy, ?_⟩;rw[ha];refine roundIn_of_wpIn hG (wpIn_mono (hassign L pre x A (by omega) hi hd hN) ?_);rintro e a₁ B hB
  cases e with
  | normal=>
   obtain⟨hq,hM,hD⟩:=hB;have hh:=hq.same _ _ hl rfl;have hH:=hq.same _ _ hk rfl;have hE:=run_beginRound (P:=P) hh (hp _ _);refine⟨_,hE, ?_⟩;have hF:({rec .ready none with state:= .busy} :Loop)=rec .busy none:=by rw[ha]
   rw[hF];have hj:=wL hh (.loop (rec .busy none));have hf:(B.putObj L (.loop (rec .busy none))).heap[w.heap.size]? =some (.deferred (some [])):=(ik (by omega)).trans hH;have hm:Ax pre x a₁ (B.putObj L (.loop (rec .busy none))):=hAx.putObj (s:=(pre,x,a₁)) _ hD (by omega) hh rfl;have hn:Kp A (B.putObj L (.loop (rec .busy none))):=hKt hM (hKb _ _ _ _ (by omega) hh rfl rfl)
   refine wpIn_mono (hbody L pre x a₁ _ hm) ?_;rintro e a3 C hC
   cases e with
   | normal=>
    obtain⟨c1,c2,c3⟩:=hC;obtain⟨r1,r2,r3,r4⟩:=hc none _ C hj hf c1;exact⟨_,_,r1, .inl ⟨rfl,⟨hI.putObj _ c3 (by omega) r2 rfl,r3,r4⟩,hKt (hKt hn c2) (hKb _ _ _ _ (by omega) r2 rfl rfl)⟩⟩
   | ret=>
    obtain⟨c1,c3⟩:=hC;obtain⟨r1,r2,r3,r4⟩:=hc (some .ret) _ C hj hf c1;exact⟨_,_,r1, .inr ⟨rfl,_,(hIx _).putObj _ c3 (by omega) r2 rfl,r3,r4⟩⟩
   | exit id=>
    obtain⟨c1,c3⟩:=hC;obtain⟨r1,r2,r3,r4⟩:=hc (some (.exit id)) _ C hj hf c1;exact⟨_,_,r1, .inr ⟨rfl,_,(hIx _).putObj _ c3 (by omega) r2 rfl,r3,r4⟩⟩
   | goto t=>
    obtain⟨c1,c3⟩:=hC;obtain⟨r1,r2,r3,r4⟩:=hc (some (.goto t)) _ C hj hf c1;exact⟨_,_,r1, .inr ⟨rfl,_,(hIx _).putObj _ c3 (by omega) r2 rfl,r3,r4⟩⟩
   | panic ch=>exact hC.elim
   | outgrown=>exact hC.elim
  | ret=>exact hB.elim
  | exit id=>exact hB.elim
  | goto t=>exact hB.elim
  | panic ch=>exact hB.elim
  | outgrown=>exact hB.elim
 refine⟨L,[{target:= .collected w.heap.size,args:= #[]}],V,{target:= .fn (.func gf) lb,args:= #[.func (.yield L) #[] #[]]},V,gf, #[.func (.yield L) #[] #[]]++lb,V, ?_, ?_,fun _ _=>trivial, ?_,fun _=>by omega, ?_⟩
 ·rw[<-hV,hL,ha]; exact run_enterLoop_outer _ _ _ _ _
 ·simp only[resolve,hg];simp[go_sem]
 ·simp[invoke,go_sem,eg]
 ·refine(hseq L J Jx V hv hJ he ⟨hz,hA,hx⟩).mono ?_;rintro e B ⟨⟨v,rfl⟩,hB⟩
  rcases hB with⟨xs,hS,hi,hl,hk⟩ | ⟨pre,hS,c,hi,hl,hk⟩
  ·have:=run_endLoop (P:=P) hl (by rw[hp]; simp);rw[hu]at this;exact⟨none,_,this,hdone _ xs _ (ah _) hS (hI.putObj _ hi (by omega) hl rfl) ((ik (by omega)).trans hk)⟩
  ·have:=run_endLoop (P:=P) hl (by rw[hp]; simp);rw[hu]at this;exact⟨some c,_,this,(wpIn_wide (n:=4)).2 (hstop _ c pre _ (ah _) hS ((hIx c).putObj _ hi (by omega) hl rfl) ((ik (by omega)).trans hk))⟩
end
attribute [local go_sem] Oper.semAt_some
def jD (t:TypeId) (A B:World):Prop:= ∀(k:Nat) (cs:Array Value),A.heap[k]? =some (.cells cs t (0,0))->B.heap[k]? =A.heap[k]?
section
variable {t : TypeId} {A B C : World} {n : Nat}
theorem jD.refl (A:World):jD t A A:=fun _ _ _=>rfl
theorem jD.trans (h:jD t A B) (k:jD t B C):jD t A C:=fun i cs hi=>(k i cs ((h i cs hi).trans hi)).trans (h i cs hi)
theorem jD.below (h:Below A.heap.size A B):jD t A B:=fun i _ hi=>h.block i (aN.1 hi).1
theorem jD.grown {row:Option Nat} (h:A.grownBy B row) (hr: ∀r,row=some r-> ∀cs,A.heap[r]? ≠some (.cells cs t (0,0))):jD t A B:=fun i cs hi=>h.block i (aN.1 hi).1 (fun e=>hr i e.symm cs hi)
end
theorem pp {A:World} {base sz m k:Nat} {t:TypeId} {v:Value} {xs:List Value} (h:A.ownsRow base t sz v m xs) (hk:v.ownBlock=some k):base<=k/\ ∃cur,A.heap[k]? =some (.cells cur t (0,0)):=by
 rcases h.2 with⟨rfl,_⟩ | ⟨g,cap,cur,rfl,hb,ha,_⟩
 ·cases hk
 ·simp only[Value.ownBlock,aV]at hk;subst hk;exact⟨hb,cur,ha⟩
theorem KV {seed W:Nat} :sx seed W [] (lw seed (List.replicate 64 0) W 0 0 0):=by
 have h0:oz W []=[]:=by unfold oz; simp
 have ht:=ug seed;have g: ∀i,256<=i->(lw seed (List.replicate 64 0) W 0 0 0)[i]? =((List.replicate 64 (0:UInt8)).map aZ++[Value.int .i64 (W:Int), .int .i64 0, .int .i64 0, .int .u64 0])[i-256]? :=fun i hi=>by unfold lw; rw[bE (by omega),ht]; rfl
 refine⟨fun i hi=> ?_,fun j hj=>⟨0, ?_⟩, ?_,⟨0,by decide, ?_,fun j b hb=>by rw[h0]at hb; cases hb⟩, ?_, ?_⟩
 ·unfold lw;rw[bJ (by omega)];unfold uT;rw[bm,List.getElem?_range hi]; rfl
 ·rw[g _ (by omega),gg,bJ (by simpa using hj),bm,List.getElem?_replicate,if_pos hj]; rfl
 ·rw[g _ (by decide)]; rfl
 ·rw[g _ (by decide)]; rfl
 ·rw[g _ (by decide)]; simp
 ·rw[g _ (by decide),h0]; rfl
theorem Kt {c:fQ} (hc:jT c=true) (data:List UInt8):vf c data 0 (sE c (lw c.seed (List.replicate 64 0) c.win.toNat 0 0 0) 0 (-c.mn)):=by
 have hv:=mf.1 hc;have hl:(lw c.seed (List.replicate 64 0) c.win.toNat 0 0 0).length=324:=uP _ (by simp) _ _ _ _;have h:=KV (seed:=c.seed) (W:=c.win.toNat);have lo: ∀i,i<324->(sE c (lw c.seed (List.replicate 64 0) c.win.toNat 0 0 0) 0 (-c.mn))[i]? =(lw c.seed (List.replicate 64 0) c.win.toNat 0 0 0)[i]? :=fun i hi=>by unfold sE; rw[bJ (by omega)]
 have ha: ∀i,(sE c (lw c.seed (List.replicate 64 0) c.win.toNat 0 0 0) 0 (-c.mn))[324+i]? =(gx c++[Value.int .i64 0,Value.int .i64 (-c.mn)])[i]? :=fun i=>by unfold sE; rw[bE (by omega),hl,gg]
 refine⟨⟨fun i hi=> ?_,fun j hj=> ?_, ?_, ?_, ?_, ?_⟩,uI c hl _ _,fun i hi=> ?_, ?_, ?_⟩
 ·rw[lo _ (by omega)]; exact h.tab i hi
 ·rw[lo _ (by omega)]; exact h.rng j hj
 ·rw[lo _ (by omega)]; exact h.win
 ·obtain⟨s,h1,h2,h3⟩:=h.st;exact⟨s,h1,by rw[lo _ (by omega)]; exact h2,fun j b hb=>by rw[lo _ (by omega)]; exact h3 j b hb⟩
 ·rw[lo _ (by omega)]; exact h.len
 ·rw[lo _ (by omega)]; exact h.sum
 ·rw[ha,bJ (by simpa [gx]using hi)]
 ·rw[show 329=324+5 from rfl,ha]; rfl
 ·rw[show 330=324+6 from rfl,ha,qF];have: -c.mn= -((c.mn.toNat:Nat):Int):=by omega
  rw[this]; rfl
theorem xh (mk:Nat->Bool) (mn mx len:Nat): ∀p,(lf mk mn mx len p).length<=p/\mr (lf mk mn mx len p)<=p
 | 0=>⟨by simp[lf],by simp[lf,mr]⟩
 | p+1=>by
  have:=xh mk mn mx len p;rw[lf]
  split
  ·rw[ai,mG]; simp; omega
  ·omega
def kZ (c:fQ) (dv:Value) (b1 b2:Nat) (w:World):Prop:=w.heap[b1]? =some (.cells (gx c).toArray 45 (0,0))/\w.heap[b2]? =some (.cells #[dv] 29 (0,0))
def Mb (b1 b2:Nat) (A B:World):Prop:=B.heap[b1]? =A.heap[b1]? /\B.heap[b2]? =A.heap[b2]?
theorem kZ.same {c:fQ} {dv:Value} {b1 b2:Nat} {A B:World} (h:kZ c dv b1 b2 A) (hk:Mb b1 b2 A B):kZ c dv b1 b2 B:=⟨hk.1.trans h.1,hk.2.trans h.2⟩
theorem kZ.below {c:fQ} {dv:Value} {b1 b2:Nat} {A B:World} (h:kZ c dv b1 b2 A) (hb:Below A.heap.size A B):kZ c dv b1 b2 B:=h.same ⟨hb.block _ (am h.1),hb.block _ (am h.2)⟩
theorem kZ.grown {c:fQ} {dv:Value} {b1 b2 r:Nat} {A B:World} (h:kZ c dv b1 b2 A) (hg:A.grownBy B (some r)) (h1:b1<r) (h2:b2<r):kZ c dv b1 b2 B:=
 h.same ⟨hg.block _ (am h.1) (fun e=>by cases e; omega),hg.block _ (am h.2) (fun e=>by cases e; omega)⟩
theorem kZ.mx {c:fQ} {dv:Value} {b1 b2:Nat} {A:World} (h:kZ c dv b1 b2 A):A.cell? ⟨b1,1,none⟩=some (.int .i64 c.mx):=(br A _ 1 _ _ _ h.1).trans rfl
theorem kZ.dat {c:fQ} {dv:Value} {b1 b2:Nat} {A:World} (h:kZ c dv b1 b2 A):A.cell? ⟨b2,0,none⟩=some dv:=(br A _ 0 _ _ _ h.2).trans rfl
def ON (c:fQ) (data:List UInt8) (b1 b2 n₀:Nat) (w:World):Prop:=
 QX Tryz.prog 186 #[.pointer (some ⟨b1,0,none⟩), .pointer (some ⟨b2,0,none⟩)] (fun q:Nat=> #[.int .i64 (q:Int)]) (fun pre q _=>mr pre<q/\q<=data.length)
  (fun A B=>Below n₀ A B/\jD 239 A B/\Mb b1 b2 A B) (fun xs=>xs=qT (qG c data) c.mn.toNat c.mx.toNat data.length) (fun _=>True) data.length 239 w
theorem mA {B b:Nat} {w0 w w':World} (hb:Below B w0 w) (h:w.grownBy w' (some b)) (h1:B<=b) (h2:B<=w.heap.size):Below B w0 w':=
 hb.trans ⟨h.os,h.tape,h.output,h.size,fun k hk=>h.block k (by omega) (fun e=>by cases e; omega)⟩
theorem wA (c:fQ) (data:List UInt8) (p:Nat) (b:UInt8) (pr:Bool) (mb:Nat) (ty:TypeId) (cs:List Value) (w:World) (hc:jT c=true) (hb:data[p]? =some b) (hp:data.length<=1048576) (hbox:w.heap[mb]? =some (.cells cs.toArray ty (0,0))) (hm:vf c data p cs) (hT:Cu w) (hmb:mb≠6) (hpr:pr=kM (qG c data) c.mn.toNat (p+1)):
  Calls Tryz.prog 188 #[.pointer (some ⟨mb,0,none⟩), .int .u8 (b.toNat:Int)] w fun e w'=>e= .returned (.bool pr)/\(∃cs',w'.heap[mb]? =some (.cells cs'.toArray ty (0,0))/\vf c data (p+1) cs')/\w.grownBy w' (some mb):=by
 rw[hpr]; exact Od c data p b mb ty cs w hc hb hp hbox hm hT hmb
theorem MF (S:Nat->Prop) (c:fQ) (data:List UInt8) (dv:Value) (b1 b2:Nat) (w wc:World) (hc:jT c=true) (hs:c.seed<18446744073709551616) (hx:kZ c dv b1 b2 wc) (hd:bB S w dv data) (hl:data.length<=1048576) (hT:Cu w) (hbc:Below w.heap.size w wc):
  ON c data b1 b2 w.heap.size wc:=by
 intro l J Jx W hP hJ hY h0;have Hp:=aj hbc hP;have hV:=ag Hp;have HV:=ag hc;have HD:=ag hd;have HT:=ag hT;have HJ:=ag hJ;have HY:=ag hY;have H0:=ag h0;have hM:=ag (hx.below hP);have hE:=ag (show b1<W.heap.size/\b2<W.heap.size from⟨am hM.o.1,am hM.o.2⟩);obtain⟨_,da,dcap,rfl,HA,HC,Hk⟩:=id hd;obtain⟨n,hn⟩:=bH data.length
 rw[<-hn]at hM HA hl;have HN:=ag hn;have hv:=mf.1 hc;obtain⟨mx,Hv⟩:=bH c.mx.toNat
 obtain⟨mn,Hu⟩:=bH c.mn.toNat
 have Hd:c.mx=(mx:Int):=by omega
 have HK:mx<=32768:=by omega
 have hF:=ag (aB Hv (aB Hd Hu));have He:=ag (show c.win=(c.win.toNat:Int)/\1<=c.win.toNat/\c.win.toNat<=64/\0<=c.mn/\c.mn<=32768 by omega);have hr:=mJ hM.o.1;have HR:=ag hr;have Hy:=ag (show(Tryz.prog.info? 45).map (·.size)=some (gx c).length by kernel_rfl);clear hJ hY h0 Hp hP hbc hc hd hT hx hn hv Hv Hu Hd hr;have y2:=hM.o.dat
 refine callsIn_wide.2 ?_
 show Calls Tryz.prog 186 #[.func (.yield l) #[] #[], .pointer (some ⟨b1,0,none⟩), .pointer (some ⟨b2,0,none⟩)] W _
 go_enter Tryz.func186,Tryz.ntmps186
 go_wp2_with (first | (refine el rfl 45 _ rfl b1 0 rfl (gx c) _ HR.o Tryz.underlying45 rfl Hy.o ?_) | fail);refine(zd c c.win.toNat W hs He.o.1 He.o.2.1 He.o.2.2.1 He.o.2.2.2).mono ?_;rintro e w5 ⟨rfl,Ho⟩;obtain⟨mc,hX⟩:=bH (sE c (lw c.seed (List.replicate 64 0) c.win.toNat 0 0 0) 0 (-c.mn));rw[<-hX];have hZ:mc.length=331:=by rw[hX]; exact uI c (uP _ (by simp) _ _ _ _) _ _
 have HO:=ag hX;have Hz:=ag (show vf c data 0 mc by rw[hX]; exact Kt HV.o data);have h8:=ag (show(Tryz.prog.info? 239).map (·.size)=some mc.toArray.size by rw[bR,hZ]; kernel_rfl);have Hh:=ag (show Tryz.zeroCells239.size=mc.toArray.size by rw[show mc.toArray.size=331 from by rw[bR]; exact hZ]; kernel_rfl);have Hi:=ag (show mc.toArray.all (·.oneCell')=true from er (by rw[hX]; exact Au c _ _ _))
 have Hf:=ag Ho;clear Ho hX hZ y2;have y2:=(hM.o.below Hf.o).dat
 have Hg:=ag (show Below w5.heap.size w5 ((w5.alloc (.cells Tryz.zeroCells239 239)).setRow w5.heap.size mc.toArray)from eK (eT) (ah _) _);have Hm:=ag (show((w5.alloc (.cells Tryz.zeroCells239 239)).setRow w5.heap.size mc.toArray).heap[w5.heap.size]? =some (.cells mc.toArray 239 (0,0))from eu _ _ _ _ _ _ (aC w5 _));have y3:=(Hg.o.cell (cR y2)).trans y2
 go_wp2_with (first | (refine dF rfl 239 _ _ rfl w5.heap.size _ rfl rfl _ _ (aC w5 _) h8.o Hh.o Hi.o ?_) | fail)
 generalize (w5.alloc (.cells Tryz.zeroCells239 239)).setRow w5.heap.size mc.toArray=w6 at *
 obtain⟨mb,Ht⟩:=bH w5.heap.size;have ha:=ag (show W.heap.size<=mb/\mb≠6 by
  have h1:=Hf.o.size;have h2:=hV.o.size;have h3:=HT.o.lt
  omega)
 have hI:=ag (aj Hf.o Hg.o);rw[<-Ht]at Hg Hm ⊢;clear Ht y2 y3
 go_loopw [13,5] (fun i s wr=> ∃(k:Nat) (pre:List Nat) (cs:List Value),k<=n/\i= .int .i64 (k:Int)/\pre=lf (qG c data) mn mx n k/\s= .int .i64 ((mr pre:Nat):Int)/\J pre wr/\Below w.heap.size w wr/\wr.heap[mb]? =some (.cells cs.toArray 239 (0,0))/\vf c data k cs/\kZ c (.slice da n dcap) b1 b2 wr) (fun i _ _=>n-(intOf i).toNat)
 ·exact⟨0,[],mc,aR _,rfl,rfl,rfl,HJ.o _ _ _ none H0.o (Fb hI.o) (fun r e=>by cases e),aj hV.o hI.o,Hm.o,Hz.o,hM.o.below hI.o⟩
 ·obtain⟨k,pre,cs,hk,rfl,hU,rfl,Hn,Hq,Hr,hZ,Hs⟩:=hrel;have h4:=ag Hs;have hw:=ag hU;have Ha:=ag Hn;have hf:=ag Hq;have hD:=ag Hr;have hC:=ag hZ;have Hw:=xh (qG c data) mn mx n k;rw[<-hU]at Hw;obtain⟨sn,Hl⟩:=bH (mr pre);rw[<-Hl]at Hw ⊢;have hG:=ag Hl;clear hU Hn Hq Hr hZ Hl Hs
  by_cases HH:k<n
  ·obtain⟨b,hb⟩: ∃b,data[k]? =some b:=⟨data[k]'(by rw[<-HN.o]; exact HH),by simp⟩
   rcases Hk with Hk | ⟨db,dof,rfl,hS,Hj⟩
   ·rw[<-HN.o]at Hk; omega
   have Hc:=(hf.o.cell (cR (Hj k (aZ b) (by rw[bm,hb]; rfl)))).trans (Hj k (aZ b) (by rw[bm,hb]; rfl));have y2:=h4.o.dat
   have HQ:(k:Int)<(n:Int):=by omega
   have HF:IntKind.i64.wrap ((k:Int)+1)=((k+1:Nat):Int):=by rw[bI]; omega
   have HB:=ag hb;clear Hj hb hS;unfold maxLen at HC
   change wr.cell? ⟨db,dof+k,none⟩=some (.int .u8 (b.toNat:Int))at Hc
   obtain⟨pr,Hx⟩:=bH (kM (qG c data) c.mn.toNat (k+1));have hW:=ag Hx;clear Hx;have HM:IntKind.i64.wrap ((k:Int)+1-(sn:Int))=(k:Int)+1-(sn:Int):=by rw[bI]; omega
   by_cases hp:pr=true
   ·subst hp;have hO:=ag (show mY (qG c data) mn mx n sn (k+1)=true by unfold mY; rw[hF.o.2.2,<-hW.o]; rfl)
    go_upto_region 7 with(fail)
    refine(wA c data k b _ mb 239 cs _ HV.o HB.o (by rw[<-HN.o]; exact hl) hD.o hC.o (HT.o.block (hf.o.block _ HT.o.lt) hf.o.size) ha.o.2 hW.o).mono ?_;rintro e w7 ⟨rfl,⟨cs7,hA,hz⟩,hj⟩;have hB:=ag hA;have hN:=ag hz;have ho:=ag hj;have hL:=ag (mA hf.o hj (an hV.o.size ha.o.1) hf.o.size);clear hA hz hj;have hh:=ag (h4.o.grown ho.o (aO hE.o.1 ha.o.1) (aO hE.o.2 ha.o.1)); have z2:=hh.o.dat
    have z1:=hh.o.mx; rw[hF.o.2.1]at z1
    go_upto_region 7 with(fail)
    have h9:=ag (HJ.o _ _ _ _ Ha.o ho.o (fun r e=>by cases e; exact⟨ha.o.1,cs.toArray,hD.o⟩));have h7:=ag (show mr pre<k+1/\k+1<=data.length from⟨by rw[<-hG.o]; omega,by rw[<-HN.o]; omega⟩);have Hb:=ag (show pre.length<data.length by rw[<-HN.o]; omega);obtain⟨fn,tmps,assign,body,hy,hR⟩:=HY.o pre (k+1) w7 h9.o h7.o Hb.o;rw[show(((k+1:Nat):Int))=(k:Int)+1 from rfl]at hy
    refine(wpIn_wide (n:=3)).1 ?_
    gi_wp2_with (fail)
    refine hR.mono ?_;rintro e6 w8 (⟨rfl,hg,hH⟩ | ⟨rfl,hg⟩)
    ·have hq:=ag hg;have hu:=ag hH;clear hg hH hy hR
     gi_wp2
     go_wp2_with fail
     go_roundw
     ·refine⟨k+1,pre++[k+1],cs7,by omega,by go_num, ?_,by rw[mG]; rfl,hq.o,hL.o.trans hu.o.1,(hu.o.2.1 mb _ hB.o).trans hB.o,hN.o,hh.o.same hu.o.2.2⟩;rw[lf,<-hw.o,<-hG.o,hO.o,if_pos rfl]
     simp[intOf]; omega
    ·have hq:=ag hg;clear hg hy hR
     gi_wp2
     go_wp2_with fail;refine cS (gI rfl _ _ _) rfl ?_;exact⟨⟨_,rfl⟩, .inr ⟨pre++[k+1],trivial,hq.o⟩⟩
   ·have HL:pr=false:=by simpa using hp
    subst HL;clear hp
    by_cases hm:sn+mx<=k+1
    ·have HI:(mx:Int)<=(k:Int)+1-(sn:Int):=by omega
     have HS: ¬(k:Int)+1-(sn:Int)<(mx:Int):=by omega
     have hO:=ag (show mY (qG c data) mn mx n sn (k+1)=true by unfold mY; rw[de hm]; simp)
     go_upto_region 7 with(fail)
     refine(wA c data k b _ mb 239 cs _ HV.o HB.o (by rw[<-HN.o]; exact hl) hD.o hC.o (HT.o.block (hf.o.block _ HT.o.lt) hf.o.size) ha.o.2 hW.o).mono ?_;rintro e w7 ⟨rfl,⟨cs7,hA,hz⟩,hj⟩;have hB:=ag hA;have hN:=ag hz;have ho:=ag hj;have hL:=ag (mA hf.o hj (an hV.o.size ha.o.1) hf.o.size);clear hA hz hj;have hh:=ag (h4.o.grown ho.o (aO hE.o.1 ha.o.1) (aO hE.o.2 ha.o.1)); have z2:=hh.o.dat
     have z1:=hh.o.mx; rw[hF.o.2.1]at z1
     go_upto_region 7 with(fail)
     have h9:=ag (HJ.o _ _ _ _ Ha.o ho.o (fun r e=>by cases e; exact⟨ha.o.1,cs.toArray,hD.o⟩));have h7:=ag (show mr pre<k+1/\k+1<=data.length from⟨by rw[<-hG.o]; omega,by rw[<-HN.o]; omega⟩);have Hb:=ag (show pre.length<data.length by rw[<-HN.o]; omega);obtain⟨fn,tmps,assign,body,hy,hR⟩:=HY.o pre (k+1) w7 h9.o h7.o Hb.o;rw[show(((k+1:Nat):Int))=(k:Int)+1 from rfl]at hy
     refine(wpIn_wide (n:=3)).1 ?_
     gi_wp2_with (fail)
     refine hR.mono ?_;rintro e6 w8 (⟨rfl,hg,hH⟩ | ⟨rfl,hg⟩)
     ·have hq:=ag hg;have hu:=ag hH;clear hg hH hy hR
      gi_wp2
      go_wp2_with fail
      go_roundw
      ·refine⟨k+1,pre++[k+1],cs7,by omega,by go_num, ?_,by rw[mG]; rfl,hq.o,hL.o.trans hu.o.1,(hu.o.2.1 mb _ hB.o).trans hB.o,hN.o,hh.o.same hu.o.2.2⟩;rw[lf,<-hw.o,<-hG.o,hO.o,if_pos rfl]
      simp[intOf]; omega
     ·have hq:=ag hg;clear hg hy hR
      gi_wp2
      go_wp2_with fail;refine cS (gI rfl _ _ _) rfl ?_;exact⟨⟨_,rfl⟩, .inr ⟨pre++[k+1],trivial,hq.o⟩⟩
    ·have HI:(k:Int)+1-(sn:Int)<(mx:Int):=by omega
     by_cases he:n<=k+1
     ·have HE:(n:Int)<=(k:Int)+1:=by omega
      have HP: ¬(k:Int)+1<(n:Int):=by omega
      have hO:=ag (show mY (qG c data) mn mx n sn (k+1)=true by unfold mY; rw[de he]; simp)
      go_upto_region 7 with(fail)
      refine(wA c data k b _ mb 239 cs _ HV.o HB.o (by rw[<-HN.o]; exact hl) hD.o hC.o (HT.o.block (hf.o.block _ HT.o.lt) hf.o.size) ha.o.2 hW.o).mono ?_;rintro e w7 ⟨rfl,⟨cs7,hA,hz⟩,hj⟩;have hB:=ag hA;have hN:=ag hz;have ho:=ag hj;have hL:=ag (mA hf.o hj (an hV.o.size ha.o.1) hf.o.size);clear hA hz hj;have hh:=ag (h4.o.grown ho.o (aO hE.o.1 ha.o.1) (aO hE.o.2 ha.o.1)); have z2:=hh.o.dat
      have z1:=hh.o.mx; rw[hF.o.2.1]at z1
      go_upto_region 7 with(fail)
      have h9:=ag (HJ.o _ _ _ _ Ha.o ho.o (fun r e=>by cases e; exact⟨ha.o.1,cs.toArray,hD.o⟩));have h7:=ag (show mr pre<k+1/\k+1<=data.length from⟨by rw[<-hG.o]; omega,by rw[<-HN.o]; omega⟩);have Hb:=ag (show pre.length<data.length by rw[<-HN.o]; omega);obtain⟨fn,tmps,assign,body,hy,hR⟩:=HY.o pre (k+1) w7 h9.o h7.o Hb.o;rw[show(((k+1:Nat):Int))=(k:Int)+1 from rfl]at hy
      refine(wpIn_wide (n:=3)).1 ?_
      gi_wp2_with (fail)
      refine hR.mono ?_;rintro e6 w8 (⟨rfl,hg,hH⟩ | ⟨rfl,hg⟩)
      ·have hq:=ag hg;have hu:=ag hH;clear hg hH hy hR
       gi_wp2
       go_wp2_with fail
       go_roundw
       ·refine⟨k+1,pre++[k+1],cs7,by omega,by go_num, ?_,by rw[mG]; rfl,hq.o,hL.o.trans hu.o.1,(hu.o.2.1 mb _ hB.o).trans hB.o,hN.o,hh.o.same hu.o.2.2⟩;rw[lf,<-hw.o,<-hG.o,hO.o,if_pos rfl]
       simp[intOf]; omega
      ·have hq:=ag hg;clear hg hy hR
       gi_wp2
       go_wp2_with fail;refine cS (gI rfl _ _ _) rfl ?_;exact⟨⟨_,rfl⟩, .inr ⟨pre++[k+1],trivial,hq.o⟩⟩
     ·have HE:(k:Int)+1<(n:Int):=by omega
      have hO:=ag (show mY (qG c data) mn mx n sn (k+1)=false by unfold mY; rw[cE he,cE hm,hF.o.2.2,<-hW.o]; rfl);go_wp2_with (go_at_call 188; refine(wA c data k b _ mb 239 cs _ HV.o HB.o (by rw[<-HN.o]; exact hl) hD.o hC.o (HT.o.block (hf.o.block _ HT.o.lt) hf.o.size) ha.o.2 hW.o).mono ?_; rintro e w7 ⟨rfl,⟨cs7,hA,hz⟩,hj⟩; have hB:=ag hA; have hN:=ag hz; have ho:=ag hj; have hL:=ag (mA hf.o hj (an hV.o.size ha.o.1) hf.o.size); clear hA hz hj; have hh:=ag (h4.o.grown ho.o (aO hE.o.1 ha.o.1) (aO hE.o.2 ha.o.1)); have z2:=hh.o.dat; have z1:=hh.o.mx; rw[hF.o.2.1]at z1)
      go_roundw
      ·refine⟨k+1,pre,cs7,by omega,by go_num, ?_,by rw[hG.o], ?_,hL.o,hB.o,hN.o,hh.o⟩
       ·rw[lf,<-hw.o,<-hG.o,hO.o,if_neg (by decide)]
       ·exact HJ.o _ _ _ _ Ha.o ho.o (fun r e=>by cases e; exact⟨ha.o.1,cs.toArray,hD.o⟩)
      simp[intOf]; omega
  ·have HG:k=n:=by omega
   go_wp2_with fail
   go_end0
   refine⟨⟨_,rfl⟩, .inl ⟨pre, ?_,Ha.o⟩⟩;rw[hw.o,HG,HN.o,hF.o.1,hF.o.2.2]; rfl
end
end Go.Proofs.YtpffpjbkbaleiaaGreatDoor
