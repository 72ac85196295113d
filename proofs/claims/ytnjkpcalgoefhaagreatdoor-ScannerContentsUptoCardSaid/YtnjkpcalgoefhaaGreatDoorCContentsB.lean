/- Texts of this proof, one after the other: ShaE, ShaF, Built, RollP, ChkP, RollA, RollB, HmacA, Opr, HmacB, MarkA, MarkB, MarkC, ScnP, ScnQ, ScnC, TreeR, Ent, ScnM, ScnV, MapS, TreeM, TreeN, FtA, FtB, FtC, FtD, FtE, OwnE, FtP. -/
import Derived.Test.YtnjkpcalgoefhaaGreatDoorCContentsA
set_option maxRecDepth 100000
set_option maxHeartbeats 8000000
namespace Go.Proofs.YtnjkpcalgoefhaaGreatDoor
open Go Go.RowKit
theorem AH {S:Nat->Prop} {w:World} {v:Value} {bs:List UInt8} (hd:bp S w v bs):(convert 28 9 v).run Tryz.prog w= .ok (.string ⟨bs.toArray⟩) w:=by
 obtain⟨_,a,cap,rfl,hn,hm,h0⟩:=hd
 rcases h0 with h0 | ⟨b,o,rfl,_,hc⟩
 ·obtain rfl:=List.eq_nil_of_length_eq_zero h0
  show(convert 28 9 (.slice a 0 cap)).run Tryz.prog w=_
  cases a<;> kernel_rfl
 ·have h:=run_convert_bytes_arg (P:=Tryz.prog) w 28 5 Tryz.underlying28 Tryz.underlying5 b o bs.length cap (bs.map fun b=>(b.toNat:Int)) (by simp) (fun i hi=>by
   rw[hc i (aW bs[i]) (by simp[hi])];simp[aW,List.getD,hi]) 9 Tryz.underlying9
  rw[so]at h;exact h
def ij (w:World):Prop:= ∀j x,kV.list[j]? =some x->w.cell? ⟨1,j,none⟩=some (eQ x)
def uE :List Value:=[.int .u32 1779033703, .int .u32 3144134277, .int .u32 1013904242, .int .u32 2773480762, .int .u32 1359893119, .int .u32 2600822924, .int .u32 528734635, .int .u32 1541459225]
theorem ij.range {w:World} (h:ij w):w.rangeAt 1 0 uE:=by
 intro j x hj;rw[Nat.zero_add];have h2:uE=kV.list.map eQ:=by kernel_rfl
 rw[h2,List.getElem?_map]at hj
 cases hq:kV.list[j]? with
 | none=>rw[hq]at hj; cases hj
 | some y=>
  rw[hq]at hj;rw[h j y hq];exact hj
theorem tO (w:World) (hI:ij w):Calls Tryz.prog 147 #[] w fun e w'=>e= .returned (.pointer (some ⟨w.heap.size,0,none⟩))/\jP w' w.heap.size 248 [] []/\Below w.heap.size w w'/\w.heap.size<w'.heap.size:=by
 have HR:=aa hI.range;clear hI
 go_enter Tryz.func147,Tryz.ntmps147
 go_wp2_with (first | (refine wpList_load_mid rfl 101 _ rfl 1 0 rfl uE _ HR.out Tryz.underlying101 rfl (by kernel_rfl) ?_) | (refine wpList_build rfl 248 _ rfl (by kernel_rfl) ?_));go_ret;refine⟨rfl,⟨List.replicate 64 0,by simp,by simp, ?_⟩,(Below.refl _ _).alloc (Nat.le_refl _) _,by simp⟩;rw[heap_alloc_new,show(Tryz.prog.built 248 [(0,Value.agg uE.toArray)]).getD #[]=(aT (dT [] (([]:List UInt8).length/64)) (List.replicate 64 0) ([]:List UInt8).length++[]).toArray by kernel_rfl]
theorem iQ {ops:Array Oper} {rest:List Oper} {o:Oper} {a:Act} {Q:Exit->Act->World->Prop} (hgd:o.guard=none) (s x:Operand)
  (ho:o.op= .call {callee:= .builtin .append,args:= #[s,x],argTypes:= #[28,28]}) (base:Nat) (v:Value) (n m:Nat) (xs:List Value) (hs:a.eval s=v) (w0:World) (news:List Value) (e2:TypeId)
  (hx:a.eval x= .slice (some ⟨w0.heap.size,0,none⟩) m m) (hl:news.length=m) (h1: ∀u∈news,u.oneCell'=true) (hown:w0.ownsRow base 5 1 v n xs) (hn:n+m<1099511627775) (hbase:base<=w0.heap.size)
  (h: ∀v' w',w'.ownsRow base 5 1 v' (n+m) (xs++news)->w0.grownBy w' v.ownBlock->wpList Tryz.prog ops Q rest (a.put o.dst v') w'):wpList Tryz.prog ops Q (o::rest) a (w0.alloc (.cells news.toArray e2)):=by
 obtain⟨ht,⟨i,z,h11,h12,h13,h14,h15⟩,hpos,hsm⟩:=Tryz.appBytes;have hnews: ∀(j:Nat) u,news[j]? =some u->(w0.alloc (.cells news.toArray e2)).cell? ((⟨w0.heap.size,0,none⟩:Addr).add j)=some u:=by
  intro j u hj;rw[Addr.add_mid,Nat.zero_add,cell_of_row _ _ _ _ _ _ (heap_alloc_new w0 (.cells news.toArray e2))]
  simpa using hj
 have hl1:news.length=m*1:=by rw[hl,Nat.mul_one]
 obtain⟨v',w',hr,h2,hg,_⟩:=run_append_own (P:=Tryz.prog) (w0.alloc (.cells news.toArray e2)) base _ o.type _ i z 1 1 ht h11 h12 h13 h14 h15 hpos v n xs (hown.alloc _) ⟨w0.heap.size,0,none⟩ m m news hl1 hnews h1 (by unfold maxLen; omega) (by omega) (by simp; omega);refine wpList_plain hgd fun K hK=> ?_
 unfold Oper.wp execOp;simp only[ho,resolve,invoke,builtin,Sem.run_bind,Sem.run_pure,Result.andThen_ok,List.map_toArray,List.map_cons,List.map_nil,hs,hx,hr];refine hK _ _ (h v' w' h2 ⟨hg.os,hg.tape,hg.output,by have:=hg.size; simp at this; omega,fun k hk hne=> ?_⟩);rw[hg.block k (by simp; omega) hne];exact Below.heap_alloc _ _ _ hk
theorem yK (v:V8) {buf:List UInt8} (h:buf.length=64) (n:Nat):(aT v buf n).toArray.size=73:=by rw[List.size_toArray,gK v h]
theorem Af (v:V8) (buf:List UInt8) (n:Nat): ∀x∈aT v buf n,x.oneCell'=true:=by
 intro x hx;unfold aT at hx
 rcases List.mem_append.1 hx with hx | hx
 ·obtain⟨y,_,rfl⟩:=List.mem_map.1 hx; rfl
 ·rcases List.mem_append.1 hx with hx | hx
  ·obtain⟨y,_,rfl⟩:=List.mem_map.1 hx; rfl
  ·rw[List.mem_singleton.1 hx]; rfl
theorem wF {w:World} {sb:Nat} {v:V8} {buf:List UInt8} {n:Nat} {rest:List Value} {ty:TypeId} (h:w.heap[sb]? =some (.cells (aT v buf n++rest).toArray ty (0,0))):w.rangeAt sb 0 (aT v buf n):=by
 intro j x hj;rw[cell_of_row w _ _ _ _ _ h,Nat.zero_add,List.getElem?_toArray,List.getElem?_append_left (List.getElem?_eq_some_iff.1 hj).1];exact hj
theorem qo : ∀l:List Nat,(l.flatMap sJ).length=4*l.length
 | []=>rfl
 | x::l=>by rw[List.flatMap_cons,List.length_append,qo l,un,List.length_cons]; omega
theorem Bp (v:V8) {k:Nat} (h:k<8):v.list.take (k+1)=v.list.take k++[v.list.getD k 0]:=by
 have hc:k=0\/k=1\/k=2\/k=3\/k=4\/k=5\/k=6\/k=7:=by omega
 rcases hc with rfl | rfl | rfl | rfl | rfl | rfl | rfl | rfl<;> rfl
theorem nN {w w':World} (h:w.grownBy w' none):Below w.heap.size w w':=⟨h.os,h.tape,h.output,h.size,fun k hk=>h.block k hk (by simp)⟩
def lH (z:Nat):List UInt8:=128::List.replicate z 0
theorem vJ (z:Nat):lH (z+1)=lH z++[0]:=by unfold lH; rw[List.replicate_succ',List.cons_append]
theorem mT (z:Nat):(lH z).length=z+1:=by simp[lH]
structure lV (w W1 wr : World) (v : Value) (pad : List UInt8) : Prop where
 row:wr.ownsRow (w.heap.size+1) 5 1 v pad.length (pad.map aW)
 below:Below W1.heap.size W1 wr
theorem lV.app {w W1 wr w':World} {v v':Value} {pad:List UInt8} {x:UInt8} {n:Nat} {cs:List Value} (h:lV w W1 wr v pad) (hs:W1.heap.size=w.heap.size+1) (h1:w'.ownsRow (w.heap.size+1) 5 1 v' (n+1) cs) (h2:wr.grownBy w' v.ownBlock) (hn:n=pad.length:=by simp[mT]) (hc:cs=pad.map aW++[aW x]:=by rfl):lV w W1 w' v' (pad++[x]):=by
 subst hn hc;refine⟨by simpa using h1,aZ h.below h.row h2 (by omega) (by have:=h.below.size; omega)⟩
theorem zn (c:Nat) {k s:Nat} (h:k<8) (hs:s=56-8*k):(pG c).getD k 0=UInt8.ofNat (c/2^s):=by
 subst hs;have hc:k=0\/k=1\/k=2\/k=3\/k=4\/k=5\/k=6\/k=7:=by omega
 rcases hc with rfl | rfl | rfl | rfl | rfl | rfl | rfl | rfl
 case inr.inr.inr.inr.inr.inr.inr=>simp[pG]
 all_goals rfl
theorem xt (c:Nat) {k:Nat} (h:k<8):(pG c)[k]? =some ((pG c).getD k 0):=by
 have:k<(pG c).length:=h;simp[List.getD_eq_getElem?_getD,this]
theorem gn (y:Nat) (v:Int) (h:v=(y:Int)):Value.int .u8 (v%256)=aW (UInt8.ofNat y):=by
 subst h;unfold aW;rw[UInt8.toNat_ofNat'];simp
theorem tQ (sb:Nat) (ty:TypeId) (rest:List Value) (data:List UInt8) (w:World) (h:jP w sb ty rest data) (hlen:data.length<576460752303423488) (hK:ft w) (hKlt:4<w.heap.size):
  Calls Tryz.prog 149 #[.pointer (some ⟨sb,0,none⟩)] w fun e w'=>e= .returned (.string ⟨(tP data).toArray⟩)/\Below w.heap.size w w':=by
 obtain⟨buf,hb64,htl,hbox⟩:=h;have HBX:=aa hbox;have HTL:=aa htl;have HK:=aa hK;have HL64:=aa hb64;have hsl:=lt_of_block hbox;obtain⟨n,hn⟩: ∃n,n=data.length:=⟨_,rfl⟩;have c72:=(cell_of_row w _ 72 _ _ _ HBX.out).trans (pi _ hb64 data.length rest);rw[<-hn]at c72 hlen;have HN:=aa hn;clear hbox htl hK hb64 hn;have HSZ:=aa (yK (dT data (data.length/64)) HL64.out data.length)
 have HONE:=aa (all_oneCell_toArray (Af (dT data (data.length/64)) buf data.length));have HI73:=aa (show(Tryz.prog.info? 248).map (·.size)=some (aT (dT data (data.length/64)) buf data.length).length by rw[gK _ HL64.out]; kernel_rfl);have HI73b:=aa (show(Tryz.prog.info? 248).map (·.size)=some (aT (dT data (data.length/64)) buf data.length).toArray.size by rw[HSZ.out]; kernel_rfl)
 have HRG:=aa (wF HBX.out)
 go_enter Tryz.func149,Tryz.ntmps149
 go_wp2_with (first | (refine wpList_load_mid rfl 248 _ rfl sb 0 rfl (aT (dT data (data.length/64)) buf data.length) _ HRG.out Tryz.underlying248 rfl HI73.out ?_) | (refine wpList_store_row rfl 248 _ _ rfl w.heap.size _ rfl rfl _ _ (heap_alloc_new w _) HI73b.out (HSZ.out.symm) HONE.out ?_));obtain⟨W1,hW1⟩: ∃W1,W1=(w.alloc (.cells Tryz.zeroCells248 248)).setRow w.heap.size (aT (dT data (data.length/64)) buf data.length).toArray:=⟨_,rfl⟩
 rw[<-hW1];have hsz1:W1.heap.size=w.heap.size+1:=by rw[hW1]; simp
 have HBW:=aa (show Below w.heap.size w W1 by rw[hW1]; exact below_setRow ((Below.refl _ _).alloc (Nat.le_refl _) _) (Nat.le_refl _) _);have HPB:=aa (show jP W1 w.heap.size 248 [] data from⟨buf,HL64.out,HTL.out,by rw[hW1,List.append_nil]; exact setRow_heap _ _ _ _ _ _ (heap_alloc_new w _)⟩);clear hW1;rw[<-hsz1];obtain⟨W2,hW2⟩: ∃W2,W2=W1.alloc (.cells #[.int .u8 128] 5):=⟨_,rfl⟩
 have HP0:=aa (show lV w W1 W2 (.slice (some ⟨W1.heap.size,0,none⟩) 1 1) (lH 0)from⟨by
  rw[hW2];exact World.ownsRow_lit (e:=5) (size:=1) (base:=w.heap.size+1) W1 #[.int .u8 128] 1 (by omega) (by decide) (by simp),by rw[hW2]; exact(Below.refl _ _).alloc (Nat.le_refl _) _⟩)
 rw[<-hW2];clear hW2;have HSZ1:=aa hsz1;clear hsz1;have hzn:gi n<64:=by unfold gi; omega
 go_loopw [4] (fun x wr=> ∃z:Nat,z<=gi n/\lV w W1 wr x (lH z)) (fun x _=>64-zI x)
 case atStart=>exact⟨0,by omega,HP0.out⟩
 case round=>
  obtain⟨z,hz,hpad⟩:=hrel;obtain⟨ao,co,rfl,h1,h2⟩:=aj hpad.row;have hl:(lH z).length=z+1:=mT z;have hpd:=hpad;rw[hl]at hpd;have HPD:=aa hpd;clear hpd;rw[hl]at h1 ⊢;have HROW:=aa (show wr.ownsRow (w.heap.size+1) 5 1 (.slice ao (z+1) co) (z+1) ((lH z).map aW) by have:=hpad.row; rw[hl]at this; exact this);have hbz:=hpad.below.size;clear hpad HP0
  have c72r:=(HPD.out.below.cell (p:=⟨sb,72,none⟩) (by have:=HSZ1.out; show sb<_; omega)).trans ((HBW.out.cell (p:=⟨sb,72,none⟩) hsl).trans c72)
  by_cases hzz:z<gi n
  ·have hne: ¬((n:Int)+((z:Int)+1))%64=56:=by unfold gi at hzz; omega
   have HZ:=aa (show ∀u∈[(Value.int .u8 0)],u.oneCell'=true by simp[Value.oneCell']);have hzb:z+1+1<1099511627775:=by omega
   have hzc:w.heap.size+1<=wr.heap.size:=by have:=HSZ1.out; omega
   go_wp2_with (at_builtin; (refine iQ rfl _ _ rfl (w.heap.size+1) (.slice ao (z+1) co) (z+1) 1 ((lH z).map aW) rfl wr [.int .u8 0] _ rfl rfl HZ.out HROW.out hzb hzc ?_); intro v' wc hown' hgrow'; have HP3:=aa (HPD.out.app (x:=0) HSZ1.out hown' hgrow' hl.symm rfl); obtain⟨ae,ce,rfl,-,-⟩:=aj hown'; clear hown' hgrow')
   go_roundw
   case rel=>exact⟨z+1,by omega,by rw[vJ]; exact HP3.out⟩
   case measure=>simp[zI]; omega
  ·have hez:z=gi n:=by omega
   have heq:((n:Int)+((z:Int)+1))%64=56:=by rw[hez]; unfold gi; omega
   have HZE:=aa hez
   go_upto_region 6 with(fail)
   rename ((_ != _)=false)=>hcond
   clear hcond heq hez hzz;obtain⟨pz,hpz⟩: ∃pz,pz=lH z:=⟨_,rfl⟩;have HPZ:=aa hpz;have HQ0:=aa (show lV w W1 wr (.slice ao (z+1) co) (pz++(pG (n*8)).take 0) by rw[List.take_zero,List.append_nil,hpz]; exact HPD.out);clear hpz;go_wp2_with fail
   go_loopw [4,6] (fun x s wr=> ∃k:Nat,k<=8/\s= .int .i64 (56-8*(k:Int))/\lV w W1 wr x (pz++(pG (n*8)).take k)) (fun _ s _=>(intOf s+8).toNat)
   case atStart=>exact⟨0,by omega,rfl,HQ0.out⟩
   case round=>
    obtain⟨k,hk,rfl,hpad⟩:=hrel;obtain⟨aq,cq,rfl,h1q,h2q⟩:=aj hpad.row;obtain⟨pl,hpl⟩: ∃pl,pl=(pz++(pG (n*8)).take k).length:=⟨_,rfl⟩;rw[<-hpl]at hpad h1q ⊢;have HQD:=aa hpad;have HROW2:=aa (show wr.ownsRow (w.heap.size+1) 5 1 (.slice aq pl cq) pl ((pz++(pG (n*8)).take k).map aW) by have:=hpad.row; rw[<-hpl]at this; exact this);have HPL:=aa hpl
    have hplb:pl<=72:=by rw[hpl,List.length_append,HPZ.out,mT]; have:=List.length_take_le k (pG (n*8)); have:(pG (n*8)).length=8:=rfl; omega
    have hbz2:=hpad.below.size;have hbz3:=HSZ1.out▸hbz2;clear hpad hpl
    by_cases hk8:k<8
    ·obtain⟨sN,hsN⟩: ∃sN:Nat,56-8*(k:Int)=(sN:Int):=⟨56-8*k,by omega⟩;rw[hsN];have hsl2:(sN:Int)<=56:=by omega
     have hmin:min sN 64=sN:=by omega
     obtain⟨x,hx⟩: ∃x,x=(pG (n*8)).getD k 0:=⟨_,rfl⟩;have HV:=aa (show Value.int .u8 ((n:Int)*8/2^sN%256)=aW x by rw[hx,zn _ hk8 (by omega:sN=56-8*k)]; exact gn _ _ rfl);have HTK:=aa (show(pG (n*8)).take (k+1)=(pG (n*8)).take k++[x] by rw[hx,List.take_add_one,xt _ hk8]; rfl);have HSN:=aa hsN;have hsn8: -8<=(sN:Int)-8:=by omega
     clear hx hsN;have HZ:=aa (show ∀u∈[(Value.int .u8 ((n:Int)*8/2^sN%256))],u.oneCell'=true by simp[Value.oneCell']);have hzb:pl+1<1099511627775:=by omega
     have hzc:w.heap.size+1<=wr.heap.size:=by have:=HSZ1.out; omega
     go_wp2_with (at_builtin; go_loud (refine iQ rfl _ _ rfl (w.heap.size+1) (.slice aq pl cq) pl 1 ((pz++(pG (n*8)).take k).map aW) rfl wr [.int .u8 ((n:Int)*8/2^sN%256)] _ rfl rfl HZ.out HROW2.out hzb hzc ?_); intro v' wc hown' hgrow'; go_loud (have HP3:=aa (HQD.out.app (x:=x) HSZ1.out hown' hgrow' HPL.out (by rw[HV.out]))); obtain⟨ae,ce,rfl,-,-⟩:=aj hown'; clear hown' hgrow')
     go_roundw
     case rel=>exact⟨k+1,by omega,by have:=HSN.out; congr 1; omega,by rw[HTK.out,<-List.append_assoc]; exact HP3.out⟩
     case measure=>simp[intOf]; omega
    ·obtain rfl:k=8:=by omega
     have hpp:pz++(pG (n*8)).take 8=lG data.length:=by
      rw[HPZ.out,HZE.out,<-HN.out,List.take_of_length_le (show(pG (n*8)).length<=8 from Nat.le_refl _)];unfold lG lH;rw[Nat.mod_eq_of_lt (by omega)]
     have hby:bp (· ≠w.heap.size) wr (.slice aq pl cq) (lG data.length):=by
      have h9:=ba HROW2.out;rw[hpp]at h9;have h10:pl=(lG data.length).length:=by rw[<-hpp]; exact HPL.out
      rw[h10]at h9 ⊢;exact h9.weak (fun j hj=>by show j≠w.heap.size; have:=hj.1; omega)
     have HBY:=aa hby
     have HPP:=aa hpp;clear hby hpp;have hpl2:(lG data.length).length<=80:=by rw[yj]; unfold gi; omega
     go_wp2_with fail;refine(kw w.heap.size 248 [] data (lG data.length) (.slice aq pl cq) wr ?_ HBY.out (by have:=HN.out; omega) ?_ (by have:=HSZ1.out; omega) (by omega)).mono ?_
     ·obtain⟨b1,b2,b3,b4⟩:=HPB.out;exact⟨b1,b2,b3,(HQD.out.below.block _ (lt_of_block b4)).trans b4⟩
     ·intro j x hj;rw[<-HK.out j x hj];exact World.cell?_of_block ((HQD.out.below.block _ (by have:=HSZ1.out; show 4<_; omega)).trans (HBW.out.block _ hKlt))
     ·rintro e w3 ⟨rfl,hsha,hg3⟩;obtain⟨buf2,hb1,hb2,hb3⟩:=hsha;obtain⟨vv,hvv⟩: ∃vv,vv=dT (data++lG data.length) ((data++lG data.length).length/64):=⟨_,rfl⟩;rw[<-hvv,dg]at hb3;have HB3:=aa hb3;have HVV:=aa hvv;have hz3:=hg3.size;have HBL3:=aa (show Below w.heap.size w w3 from((HBW.out.trans (HQD.out.below.mono HBW.out.size)).grown hg3 (by have:=HSZ1.out; omega) (fun k hk=>by cases hk; exact Nat.le_refl _)))
      have hzz3:w.heap.size+1<=w3.heap.size:=by have:=HSZ1.out; omega
      clear hb1 hb2 hb3 hvv hg3;obtain⟨ht9,⟨i9,z9,h91,h92,h93,h94,h95⟩,-,-⟩:=Tryz.appBytes;have hb32:i9.bytes*32<=281474976710656:=by rw[h94]; decide
      have H9:=aa (And.intro h91 (And.intro h92 (And.intro h93 hb32)));clear h91 h92 h93 h94 h95 hb32
      go_upto_region 12 with(refine wpList_make_own _ rfl _ _ 28 rfl (w.heap.size+1) 5 i9 z9 1 Tryz.underlying28 H9.out.1 H9.out.2.1 H9.out.2.2.1 .i64 .i64 32 32 rfl rfl rfl H9.out.2.2.2 (by decide) hzz3 ?_; intro w4 hown4 hg4; have HO4:=aa hown4; have HG4:=aa hg4; clear hown4 hg4)
      have HBL4:=aa (HBL3.out.trans ((nN HG4.out).mono HBL3.out.size));have HB4:=aa ((HG4.out.block _ (lt_of_block HB3.out) (by simp)).trans HB3.out);have HR4:=aa (lC HB4.out);have hzz4:w.heap.size+1<=w4.heap.size:=by have:=HG4.out.size; omega
      have HO5:=aa (show w4.ownsRow (w.heap.size+1) 5 1 (.slice (some ⟨w3.heap.size,0,none⟩) 0 32) (((vv.list.take 0).flatMap sJ).length) (((vv.list.take 0).flatMap sJ).map aW)from HO4.out);go_wp2_with (refine wpList_load_mid rfl 101 _ rfl w.heap.size 0 rfl [.int .u32 (vv.a:Int), .int .u32 (vv.b:Int), .int .u32 (vv.c:Int), .int .u32 (vv.d:Int), .int .u32 (vv.e:Int), .int .u32 (vv.f:Int), .int .u32 (vv.g:Int), .int .u32 (vv.h:Int)] _ HR4.out Tryz.underlying101 rfl (by kernel_rfl) ?_)
      go_loopw [7,48] (fun x i wr=> ∃k:Nat,k<=8/\i= .int .i64 (k:Int)/\wr.ownsRow (w.heap.size+1) 5 1 x (((vv.list.take k).flatMap sJ).length) (((vv.list.take k).flatMap sJ).map aW)/\Below w.heap.size w wr/\w.heap.size+1<=wr.heap.size) (fun _ i _=>8-(intOf i).toNat)
      case atStart=>exact⟨0,by omega,rfl,HO5.out,HBL4.out,hzz4⟩
      case round=>
       obtain⟨k,hk,rfl,hown,hbel,hzz5⟩:=hrel;obtain⟨asx,csx,rfl,h1s,h2s⟩:=aj hown;obtain⟨sl,hsl5⟩: ∃sl,sl=((vv.list.take k).flatMap sJ).length:=⟨_,rfl⟩;rw[<-hsl5]at hown h1s ⊢;have HSL:=aa hsl5;have HOW:=aa hown;have HBE:=aa hbel;have hslb:sl<=32:=by rw[hsl5,qo,List.length_take]; omega
       clear hsl5 hown hbel
       by_cases hk8:k<8
       ·have hI: ∀w,(Instr.index 101 (.agg #[.int .u32 (vv.a:Int), .int .u32 (vv.b:Int), .int .u32 (vv.c:Int), .int .u32 (vv.d:Int), .int .u32 (vv.e:Int), .int .u32 (vv.f:Int), .int .u32 (vv.g:Int), .int .u32 (vv.h:Int)]) (.int .i64 (k:Int))).run Tryz.prog w= .ok (.int .u32 ((vv.list.getD k 0:Nat):Int)) w:=xW vv hk8;obtain⟨y,hy⟩: ∃y,y=vv.list.getD k 0:=⟨_,rfl⟩
        rw[<-hy]at hI;have HTK:=aa (show(vv.list.take (k+1)).flatMap sJ=(vv.list.take k).flatMap sJ++sJ y by rw[hy,Bp vv hk8,List.flatMap_append]; simp);have HZ:=aa (show ∀u∈[(Value.int .u8 ((y:Int)/16777216%256)), .int .u8 ((y:Int)/65536%256), .int .u8 ((y:Int)/256%256), .int .u8 ((y:Int)%256)],u.oneCell'=true by simp[Value.oneCell']);have HV:=aa (show [(Value.int .u8 ((y:Int)/16777216%256)), .int .u8 ((y:Int)/65536%256), .int .u8 ((y:Int)/256%256), .int .u8 ((y:Int)%256)]=(sJ y).map aW by
         rw[gn (y/2^24) _ (by simp),gn (y/2^16) _ (by simp),gn (y/2^8) _ (by simp),gn y _ rfl]; rfl)
        have hk8i:(k:Int)<8:=by omega
        have hslb2:sl+4<1099511627775:=by omega
        clear hy;go_wp2_with (at_builtin; go_loud (refine iQ rfl _ _ rfl (w.heap.size+1) (.slice asx sl csx) sl 4 (((vv.list.take k).flatMap sJ).map aW) rfl wr [.int .u8 ((y:Int)/16777216%256), .int .u8 ((y:Int)/65536%256), .int .u8 ((y:Int)/256%256), .int .u8 ((y:Int)%256)] _ rfl rfl HZ.out HOW.out hslb2 hzz5 ?_); intro v' wc hown' hgrow'; have HO6:=aa hown'; have HG6:=aa hgrow'; obtain⟨ae,ce,rfl,-,-⟩:=aj hown'; clear hown' hgrow')
        go_roundw
        case rel=>
         refine⟨k+1,by omega,by simp, ?_,aZ HBE.out HOW.out HG6.out (by omega) (by omega),by have:=HG6.out.size; omega⟩;rw[HTK.out,List.length_append,un,List.map_append,<-HV.out,<-HSL.out];exact HO6.out
        case measure=>simp[intOf]; omega
       ·obtain rfl:k=8:=by omega
        have hout:(vv.list.take 8).flatMap sJ=tP data:=by
         unfold tP V8.out;rw[<-HVV.out]; rfl
        have hb8:bp (fun _=>True) wr (.slice asx sl csx) (tP data):=by
         have h9:=ba HOW.out;have h10:=HSL.out;rw[hout]at h9 h10;rw[h10]at h9 ⊢;exact h9.weak (fun _ _=>trivial)
        have hcv:=AH hb8;have HBE2:=aa HBE.out;clear hb8 hout;go_wp2_with fail;go_ret;exact⟨rfl,HBE2.out⟩
theorem qT (off:Nat): ∀(xs:List Value) (k:Nat) (cs:Array Value),off+k+xs.length<=cs.size->
  ((xs.zipIdx k).foldl (fun cs p=>cs.setIfInBounds (off+p.2) p.1) cs).toList=cs.toList.take (off+k)++(xs++cs.toList.drop (off+k+xs.length))
 | [],k,cs,_=>by simp
 | x::xs,k,cs,h=>by
  rw[List.length_cons]at h;rw[List.zipIdx_cons,List.foldl_cons,qT off xs (k+1) _ (by simp; omega),Array.toList_setIfInBounds];have h1:off+k<cs.toList.length:=by simp; omega
  have h2:((cs.toList.set (off+k) x).take (off+(k+1)))=cs.toList.take (off+k)++[x]:=by
   rw[show off+(k+1)=off+k+1 by omega,List.take_add_one,List.take_set_of_le (Nat.le_refl _),List.getElem?_set_self h1]; rfl
  have h3:(cs.toList.set (off+k) x).drop (off+(k+1)+xs.length)=cs.toList.drop (off+k+(xs.length+1)):=by
   rw[List.drop_set_of_lt (by omega),show off+(k+1)+xs.length=off+k+(xs.length+1) by omega]
  rw[h2,h3,List.length_cons]; simp
theorem oG {place:Nat->Option (Nat×Nat)} {cells:Array Value} {i off size:Nat} {a:Array Value} {rest:List (Nat×Value)} (hp:place i=some (off,size)) (ha:a.size=size) (hf:off+size<=cells.size):
  Instr.fill place cells ((i, .agg a)::rest)=Instr.fill place (splice cells.toList off a.toList).toArray rest:=by
 subst ha;have hc:(Value.agg a).cells=a:=rfl;rw[Instr.fill,hp];simp only[hc];rw[if_neg (by simp; omega)]
 congr 1
 apply Array.ext'
 have h:=qT off a.toList 0 cells (by simpa using hf);have e:(a.zipIdx.foldl (fun cs (p:Value×Nat)=>cs.setIfInBounds (off+p.2) p.1) cells)=((a.toList.zipIdx 0).foldl (fun cs (p:Value×Nat)=>cs.setIfInBounds (off+p.2) p.1) cells):=by
  rw[<-Array.foldl_toList,Array.toList_zipIdx]
 show(a.zipIdx.foldl (fun cs (p:Value×Nat)=>cs.setIfInBounds (off+p.2) p.1) cells).toList=_
 rw[e,h];simp[splice]
end Go.Proofs.YtnjkpcalgoefhaaGreatDoor
namespace Go.Proofs.YtnjkpcalgoefhaaGreatDoor
def cY (x k:Nat):Nat:=(x*2^k%18446744073709551616) ||| (x/2^(64-k))
def lI :Nat->Nat->Nat
 | 0,x=>x
 | n+1,x=>cY (lI n x) 1
theorem eE {x k:Nat} (_hk:k<=64) (i:Nat):(cY x k).testBit i=((decide (i<64) && decide (k<=i) && x.testBit (i-k)) || x.testBit (64-k+i)):=by
 unfold cY;rw[Nat.testBit_or,show(18446744073709551616:Nat)=2^64 from rfl,Nat.testBit_mod_two_pow,Nat.testBit_mul_two_pow,Nat.testBit_div_two_pow,Nat.add_comm i (64-k),Bool.and_assoc]
theorem fB {x:Nat} (hx:x<18446744073709551616) {i:Nat} (h:64<=i):x.testBit i=false:=
 Nat.testBit_lt_two_pow (Nat.lt_of_lt_of_le hx (Nat.pow_le_pow_right (by decide) h:2^64<=2^i))
theorem gw {x:Nat} (k:Nat) (hx:x<18446744073709551616):cY x k<18446744073709551616:=
 Nat.or_lt_two_pow (n:=64) (Nat.mod_lt _ (by decide)) (Nat.lt_of_le_of_lt (Nat.div_le_self _ _) hx)
theorem uQ : ∀(n:Nat) {x:Nat},x<18446744073709551616->lI n x<18446744073709551616
 | 0,_,h=>h
 | n+1,_,h=>gw 1 (uQ n h)
theorem nh {x:Nat} (hx:x<18446744073709551616):cY x 0=x:=by
 unfold cY;rw[show(2:Nat)^(64-0)=18446744073709551616 by decide,Nat.div_eq_of_lt hx,Nat.or_zero,Nat.pow_zero,Nat.mul_one,Nat.mod_eq_of_lt hx]
theorem tJ {x k:Nat} (hx:x<18446744073709551616) (hk:k<64):cY (cY x k) 1=cY x (k+1):=by
 apply Nat.eq_of_testBit_eq
 intro i;rw[eE (by decide),eE (by omega),eE (by omega),eE (by omega)]
 by_cases h64:i<64
 ·by_cases h0:i=0
  ·subst h0;have e1:x.testBit (64-k+(64-1+0))=false:=fB hx (by omega);have e2:64-1+0-k=64-(k+1)+0:=by omega
   have e3:x.testBit (64-0+0-k+64)=false:=fB hx (by omega);simp only[e1,e2];simp;omega
  ·have e1:x.testBit (64-k+(64-1+i))=false:=fB hx (by omega);have e2:(64-1+i<64)=False:=by simp; omega
   have e3:i-1-k=i-(k+1):=by omega
   have e4:64-k+(i-1)=64-(k+1)+i:=by omega
   have e5:(decide (k<=i-1))=decide (k+1<=i):=by rw[decide_eq_decide]; omega
   have e6:decide (1<=i)=true:=by simp; omega
   have e7:decide (i-1<64)=true:=by simp; omega
   have e8:decide (i<64)=true:=by simp; omega
   have e9:decide (64-1+i<64)=false:=by simp; omega
   simp only[e1,e3,e4,e5,e6,e7,e8,e9,Bool.true_and,Bool.false_and,Bool.or_false]
 ·have e1:x.testBit (64-k+(64-1+i))=false:=fB hx (by omega);have e2:x.testBit (64-(k+1)+i)=false:=fB hx (by omega);have e8:decide (i<64)=false:=by simp; omega
  have e9:decide (64-1+i<64)=false:=by simp; omega
  simp only[e1,e2,e8,e9,Bool.false_and,Bool.or_false]
theorem lR {x:Nat} (hx:x<18446744073709551616): ∀ {k:Nat},k<=64->lI k x=cY x k
 | 0,_=>(nh hx).symm
 | k+1,h=>by rw[lI,lR hx (k:=k) (by omega),tJ hx (by omega)]
theorem wn {x:Nat} (hx:x<18446744073709551616):lI 64 x=x:=by
 rw[lR hx (by decide)];unfold cY;rw[show(2:Nat)^64=18446744073709551616 by decide,Nat.mul_mod_left,Nat.zero_or];simp
theorem zX {x y:Nat} (hx:x<18446744073709551616) (hy:y<18446744073709551616) {k:Nat} (hk:k<=64):cY (x^^^y) k=cY x k^^^cY y k:=by
 apply Nat.eq_of_testBit_eq
 intro i;rw[Nat.testBit_xor,eE hk,eE hk,eE hk,Nat.testBit_xor,Nat.testBit_xor]
 by_cases h:i<64/\k<=i
 ·have e:decide (i<64)=true/\decide (k<=i)=true:=by simpa using h
  rw[e.1,e.2,fB hx (i:=64-k+i) (by omega),fB hy (i:=64-k+i) (by omega)];simp
 ·have e:(decide (i<64) && decide (k<=i))=false:=by simp; omega
  rw[e]; simp
theorem kz {x y:Nat} (hx:x<18446744073709551616) (hy:y<18446744073709551616):x^^^y<18446744073709551616:=Nat.xor_lt_two_pow (n:=64) hx hy
def yd (z:Nat):Nat:=((z^^^(z/2^30))*13787848793156543929)%18446744073709551616
def ye (z:Nat):Nat:=((z^^^(z/2^27))*10723151780598845931)%18446744073709551616
def AU (z:Nat):Nat:=z^^^(z/2^31)
def rV (seed i:Nat):Nat:=(seed+(i+1)*11400714819323198485%18446744073709551616)%18446744073709551616
def pW (seed i:Nat):Nat:=AU (ye (yd (rV seed i)))
theorem lQ (seed i:Nat):pW seed i<18446744073709551616:=by
 unfold pW AU;have h:ye (yd (rV seed i))<18446744073709551616:=Nat.mod_lt _ (by decide);exact kz h (Nat.lt_of_le_of_lt (Nat.div_le_self _ _) h)
theorem qY {M:List UInt8->Prop} (h0:M []) (h1: ∀l b,M l->M (l++[b])) (l:List UInt8):M l:=by
 have: ∀r:List UInt8,M r.reverse:=by
  intro r
  induction r with
  | nil=>exact h0
  | cons b r ih=>rw[List.reverse_cons]; exact h1 _ _ ih
 have h:=this l.reverse;rw[List.reverse_reverse]at h; exact h
section
variable (T : Nat → Nat)
def dL (l:List UInt8):Nat:=l.foldl (fun s b=>cY s 1^^^T b.toNat) 0
theorem fG (l:List UInt8) (b:UInt8):dL T (l++[b])=cY (dL T l) 1^^^T b.toNat:=by
 unfold dL; rw[List.foldl_append,List.foldl_cons,List.foldl_nil]
theorem oK :dL T []=0:=rfl
theorem vq (x:UInt8):dL T [x]=T x.toNat:=by
 unfold dL; rw[List.foldl_cons,List.foldl_nil,show cY 0 1=0 by decide,Nat.zero_xor]
variable {T}
theorem qX (hT: ∀i,T i<18446744073709551616) (l:List UInt8):dL T l<18446744073709551616:=by
 refine qY (M:=fun l=>dL T l<18446744073709551616) ?_ (fun l b ih=> ?_) l
 ·show dL T []<_
  rw[oK]; decide
 ·show dL T (l++[b])<_
  rw[fG]; exact kz (gw 1 ih) (hT _)
theorem sY (hT: ∀i,T i<18446744073709551616) (x:UInt8) (l:List UInt8):dL T (x::l)=lI l.length (T x.toNat)^^^dL T l:=by
 refine qY (M:=fun l=>dL T (x::l)=lI l.length (T x.toNat)^^^dL T l) ?_ (fun l b ih=> ?_) l
 ·show dL T [x]=lI 0 (T x.toNat)^^^dL T []
  rw[vq,oK,Nat.xor_zero,lI]
 ·show dL T (x::(l++[b]))=lI (l++[b]).length (T x.toNat)^^^dL T (l++[b])
  rw[<-List.cons_append,fG,fG,List.length_append,List.length_singleton,lI,ih,zX (uQ _ (hT _)) (qX hT _) (by decide),Nat.xor_assoc]
theorem sZ (hT: ∀i,T i<18446744073709551616) (x b:UInt8) (l:List UInt8) (h:l.length+1<=64):(cY (dL T (x::l)) 1^^^T b.toNat)^^^cY (T x.toNat) (l.length+1)=dL T (l++[b]):=by
 rw[<-fG,List.cons_append,sY hT,List.length_append,List.length_singleton,<-lR (hT _) h,Nat.xor_comm (lI _ _),Nat.xor_assoc,Nat.xor_self,Nat.xor_zero]
end
def lk (seed:Nat) (l:List UInt8):Nat:=dL (pW seed) l
theorem qW (seed:Nat) (l:List UInt8):lk seed l<18446744073709551616:=qX (lQ seed) l
def gx (W:Nat) (d:List UInt8):List UInt8:=d.drop (d.length-W)
theorem iP (W:Nat) (d:List UInt8):(gx W d).length=min W d.length:=by unfold gx; rw[List.length_drop]; omega
theorem pw {W:Nat} {d:List UInt8} (h:d.length<W) (b:UInt8):gx W (d++[b])=gx W d++[b]:=by
 unfold gx;rw[List.length_append,List.length_singleton,show d.length+1-W=0 by omega,show d.length-W=0 by omega]; rfl
theorem px {W:Nat} {d:List UInt8} (hW:1<=W) (h:W<=d.length) (b:UInt8):gx W (d++[b])=(gx W d).tail++[b]:=by
 unfold gx;rw[List.length_append,List.length_singleton,List.tail_drop,List.drop_append_of_le_length (by omega)]
 congr 2; omega
def Aw (seed W bits:Nat) (d:List UInt8):Bool:=decide (W<=d.length) && decide (bits<=Lib.ctz 64 (lk seed (gx W d)))
section
variable (mk : Nat → Bool) (mn mx len : Nat)
def gV :Nat->Int
 | 0=> -(mn:Int)
 | p+1=>if mk (p+1)then((p+1:Nat):Int)else gV p
def nd :Nat->Bool
 | 0=>false
 | p+1=>mk (p+1) && decide ((mn:Int)<=((p+1:Nat):Int)-gV mk mn p)
def eN (l:List Nat):Nat:=l.getLast?.getD 0
def fN (s q:Nat):Bool:=nd mk mn q || decide (s+mx<=q) || decide (len<=q)
def dH :Nat->List Nat
 | 0=>[]
 | p+1=>if fN mk mn mx len (eN (dH p)) (p+1)then dH p++[p+1]else dH p
def qO :List Nat:=dH mk mn mx len len
end
section
variable {mk : Nat → Bool} {mn mx len : Nat}
theorem eB (l:List Nat) (p:Nat):eN (l++[p])=p:=by simp[eN]
theorem tk (p:Nat):(gV mk mn p= -(mn:Int)/\ ∀q,1<=q->q<=p->mk q=false)\/ ∃L,gV mk mn p=((L:Nat):Int)/\1<=L/\L<=p/\mk L=true/\ ∀q,L<q->q<=p->mk q=false:=by
 induction p with
 | zero=>exact .inl ⟨rfl,fun q h1 h2=>by omega⟩
 | succ p ih=>
  rw[gV]
  by_cases h:mk (p+1)=true
  ·rw[if_pos h];exact .inr ⟨p+1,rfl,by omega,by omega,h,fun q h1 h2=>by omega⟩
  ·rw[if_neg h];have h0:mk (p+1)=false:=by simpa using h
   rcases ih with⟨h1,h2⟩ | ⟨L,h1,h2,h3,h4,h5⟩
   ·exact .inl ⟨h1,fun q hq1 hq2=>by
     by_cases e:q=p+1
     ·rw[e]; exact h0
     ·exact h2 q hq1 (by omega)⟩
   ·exact .inr ⟨L,h1,h2,by omega,h4,fun q hq1 hq2=>by
     by_cases e:q=p+1
     ·rw[e]; exact h0
     ·exact h5 q hq1 (by omega)⟩
def AE (mk:Nat->Bool) (mn mx len s q:Nat):Prop:=s<q/\q<=len/\fN mk mn mx len s q=true/\ ∀r,s<r->r<q->fN mk mn mx len s r=false
inductive xk (mk : Nat → Bool) (mn mx len : Nat) : List Nat → Nat → Prop
 | nil:xk mk mn mx len [] 0
 | snoc {l:List Nat} {s q:Nat} :xk mk mn mx len l s->AE mk mn mx len s q->xk mk mn mx len (l++[q]) q
theorem xk.last {l:List Nat} {s:Nat} (h:xk mk mn mx len l s):eN l=s:=by
 cases h with
 | nil=>rfl
 | snoc _ _=>exact eB _ _
theorem xk.le {l:List Nat} {s:Nat} (h:xk mk mn mx len l s):s<=len:=by
 cases h with
 | nil=>omega
 | snoc _ h=>exact h.2.1
theorem mE : ∀ {p:Nat},p<=len-> ∃s,xk mk mn mx len (dH mk mn mx len p) s/\s<=p/\ ∀r,s<r->r<=p->fN mk mn mx len s r=false
 | 0,_=>⟨0, .nil,by omega,fun r h1 h2=>by omega⟩
 | p+1,hp=>by
  obtain⟨s,h1,h2,h3⟩:=mE (p:=p) (by omega);rw[dH,h1.last]
  by_cases h:fN mk mn mx len s (p+1)=true
  ·rw[if_pos h];exact⟨p+1,h1.snoc ⟨by omega,hp,h,fun r hr1 hr2=>h3 r hr1 (by omega)⟩,by omega,fun r hr1 hr2=>by omega⟩
  ·rw[if_neg h];exact⟨s,h1,by omega,fun r hr1 hr2=>by
    by_cases e:r=p+1
    ·rw[e]; simpa using h
    ·exact h3 r hr1 (by omega)⟩
theorem oF :xk mk mn mx len (qO mk mn mx len) len:=by
 obtain⟨s,h1,h2,h3⟩:=mE (mk:=mk) (mn:=mn) (mx:=mx) (len:=len) (Nat.le_refl len)
 by_cases e:s=len
 ·rw[e]at h1; exact h1
 ·have:=h3 len (by omega) (by omega);simp[fN]at this
theorem AE.reach {s q:Nat} (hm:1<=mx) (h:AE mk mn mx len s q):q<=s+mx:=by
 by_cases h1:s+mx<q
 ·have h2:=h.2.2.2 (s+mx) (by omega) h1;simp[fN]at h2
 ·omega
def eY (data:List UInt8) (s e:Nat):List UInt8:=(data.drop s).take (e-s)
def dy (data:List UInt8):Nat->List Nat->List (List UInt8)
 | _,[]=>[]
 | s,e::l=>eY data s e::dy data e l
theorem fm (data:List UInt8): ∀(l:List Nat) (s e:Nat),dy data s (l++[e])=dy data s l++[eY data (l.getLast?.getD s) e]
 | [],_,_=>rfl
 | x::l,s,e=>by
  rw[List.cons_append,dy,fm data l x e,dy,List.cons_append]
  congr 3
  rw[List.getLast?_cons]; rfl
theorem rG {data:List UInt8} {l:List Nat} {s:Nat} (h:xk mk mn mx data.length l s):(dy data 0 l).flatten=data.take s:=by
 induction h with
 | nil=>simp[dy]
 | snoc h1 h2 ih=>
  rename_i l s q;rw[fm,List.flatten_append,ih];have:=h1.last;unfold eN at this;rw[this,List.flatten_cons,List.flatten_nil,List.append_nil];unfold eY;have h3:=h2.1;rw[show q=s+(q-s) by omega,List.take_add,show s+(q-s)-s=q-s by omega]
theorem mZ {data:List UInt8} :(dy data 0 (qO mk mn mx data.length)).flatten=data:=by
 rw[rG oF,List.take_length]
theorem vP {data:List UInt8} {l:List Nat} {s:Nat} (hm:1<=mx) (h:xk mk mn mx data.length l s): ∀c∈dy data 0 l,1<=c.length/\c.length<=mx:=by
 induction h with
 | nil=>simp[dy]
 | snoc h1 h2 ih=>
  rename_i l s q;rw[fm];intro c hc
  rcases List.mem_append.1 hc with hc | hc
  ·exact ih c hc
  ·rw[List.mem_singleton.1 hc];have:=h1.last;unfold eN at this;rw[this];unfold eY;rw[List.length_take,List.length_drop];have h3:=h2.reach hm;have h4:=h2.1;have h5:=h2.2.1;omega
end
open Go Go.RowKit
theorem wo {x s:Nat} (hx:x<18446744073709551616):bits .or .u64 ((x:Int)*2^s%18446744073709551616) ((x:Int)/2^(64-s))=((cY x s:Nat):Int):=by
 have e1:((x:Int)*2^s%18446744073709551616)=((x*2^s%18446744073709551616:Nat):Int):=by simp
 have e2:((x:Int)/2^(64-s))=((x/2^(64-s):Nat):Int):=by simp
 rw[e1,e2,u64_or_nat _ _ (Nat.mod_lt _ (by decide)) (Nat.lt_of_le_of_lt (Nat.div_le_self _ _) hx)]
 rfl
theorem oY (x k:Nat) (w:World) (hx:x<18446744073709551616) (hk:k<=64):Calls Tryz.prog 205 #[.int .u64 (x:Int), .int .i64 (k:Int)] w fun e w'=>e= .returned (.int .u64 ((cY x k:Nat):Int))/\w=w':=by
 obtain⟨s,hs⟩: ∃s,s=k%64:=⟨_,rfl⟩;have h1:bits BinOp.and IntKind.u64 (k:Int) 63=(s:Int):=by
  rw[show(63:Int)=((63:Nat):Int)from rfl,u64_and_nat _ _ (by omega) (by decide),nat_mask6,hs]
 have hs64:s<64:=by omega
 have hmin:min s 64=s:=by omega
 have hmin2:min (64-s) 64=64-s:=by omega
 have HR:=aa (show cY x s=cY x k by
  by_cases h:k=64
  ·have e:s=0:=by rw[hs,h]
   rw[e,h,nh hx,<-lR hx (Nat.le_refl 64),wn hx]
  ·rw[show s=k by omega])
 clear hs
 go_enter Tryz.func205,Tryz.ntmps205
 go_wp2_with fail;go_ret;refine⟨?_,rfl⟩;rw[<-HR.out,<-wo hx,IntKind.wrap_u64]
 rfl
theorem AV (a c:Nat):((a:Int)*(c:Int))%18446744073709551616=((a*c%18446744073709551616:Nat):Int):=by simp
theorem nL (z d:Nat) (hz:z<18446744073709551616):bits BinOp.xor IntKind.u64 (z:Int) ((z:Int)/(d:Int))=((z^^^(z/d):Nat):Int):=by
 rw[show((z:Int)/(d:Int))=((z/d:Nat):Int) by simp,u64_xor_nat _ _ hz (Nat.lt_of_le_of_lt (Nat.div_le_self _ _) hz)]
theorem vB (z:Nat) (hz:z<18446744073709551616):(bits BinOp.xor IntKind.u64 (z:Int) ((z:Int)/1073741824)*13787848793156543929)%18446744073709551616=((yd z:Nat):Int):=by
 have h:=nL z 1073741824 hz;rw[show((1073741824:Nat):Int)=1073741824 from rfl]at h;rw[h];exact AV (z^^^(z/1073741824)) 13787848793156543929
theorem vD (z:Nat) (hz:z<18446744073709551616):(bits BinOp.xor IntKind.u64 (z:Int) ((z:Int)/134217728)*10723151780598845931)%18446744073709551616=((ye z:Nat):Int):=by
 have h:=nL z 134217728 hz;rw[show((134217728:Nat):Int)=134217728 from rfl]at h;rw[h];exact AV (z^^^(z/134217728)) 10723151780598845931
theorem vF (z:Nat) (hz:z<18446744073709551616):bits BinOp.xor IntKind.u64 (z:Int) ((z:Int)/2147483648)=((AU z:Nat):Int):=by
 have h:=nL z 2147483648 hz;rw[show((2147483648:Nat):Int)=2147483648 from rfl]at h;exact h
theorem wD (s k:Nat):IntKind.u64.wrap ((s:Int)+IntKind.u64.wrap (((k:Int)+1)*11400714819323198485))=((rV s k:Nat):Int):=by
 rw[IntKind.wrap_u64,IntKind.wrap_u64,show((k:Int)+1)=((k+1:Nat):Int) by omega,show(11400714819323198485:Int)=((11400714819323198485:Nat):Int)from rfl,AV];unfold rV;omega
theorem vC (z:Nat) (hz:z<18446744073709551616):IntKind.u64.wrap (bits BinOp.xor IntKind.u64 (z:Int) ((z:Int)/1073741824)*13787848793156543929)=((yd z:Nat):Int):=by rw[IntKind.wrap_u64,vB z hz]
theorem vE (z:Nat) (hz:z<18446744073709551616):IntKind.u64.wrap (bits BinOp.xor IntKind.u64 (z:Int) ((z:Int)/134217728)*10723151780598845931)=((ye z:Nat):Int):=by rw[IntKind.wrap_u64,vD z hz]
theorem zM (z:Nat):yd z<18446744073709551616:=Nat.mod_lt _ (by decide)
theorem zN (z:Nat):ye z<18446744073709551616:=Nat.mod_lt _ (by decide)
theorem yH (s i:Nat):rV s i<18446744073709551616:=Nat.mod_lt _ (by decide)
def wT (x:Nat):Value:= .int .u64 (x:Int)
structure ga (w : World) (seed k : Nat) (wr : World) : Prop where
 box:wr.heap[w.heap.size]? =some (.cells ((List.range k).map (fun i=>wT (pW seed i))++List.replicate (256-k) (wT 0)).toArray 46 (0,0))
 below:Below w.heap.size w wr
theorem ga.here {w wr:World} {seed k:Nat} (h:ga w seed k wr) (hk:k<256):wr.cell? ⟨w.heap.size,k,none⟩=some (.int .u64 0):=by
 rw[cell_of_row wr _ _ _ _ _ h.box,List.getElem?_toArray,List.getElem?_append_right (by simp)];rw[List.length_map,List.length_range,Nat.sub_self,show 256-k=(256-(k+1))+1 by omega,List.replicate_succ]
 rfl
theorem ga.put {w wr:World} {seed k:Nat} (h:ga w seed k wr) (hk:k<256):ga w seed (k+1) (wr.setCell ⟨w.heap.size,k,none⟩ (wT (pW seed k))):=by
 refine⟨?_,h.below.trans ⟨rfl,rfl,rfl,by simp[World.setCell],fun j hj=>heap_setCell_other wr _ j _ (by show j≠w.heap.size; omega)⟩⟩;rw[heap_setCell_same wr _ _ _ _ _ h.box]
 congr 2
 rw[List.setIfInBounds_toArray,List.set_append_right _ _ (by simp),List.length_map,List.length_range,Nat.sub_self,show 256-k=(256-(k+1))+1 by omega,List.replicate_succ,List.range_succ,List.map_append];simp
theorem zL (w:World):(Instr.makeSlice 269 (.int .i64 256) (.int .i64 256)).run Tryz.prog w= .ok (.slice (some ⟨w.heap.size,0,none⟩) 256 256) (w.alloc (.cells (List.replicate 256 (wT 0)).toArray 46)):=by kernel_rfl
theorem wS (seed:Nat) (w:World):Calls Tryz.prog 204 #[.int .u64 (seed:Int)] w fun e w'=>e= .returned (.slice (some ⟨w.heap.size,0,none⟩) 256 256)/\ga w seed 256 w':=by
 have hmk:=zL
 go_enter Tryz.func204,Tryz.ntmps204
 go_wp2_with fail;have HT0:=aa (show ga w seed 0 (w.alloc (.cells (List.replicate 256 (wT 0)).toArray 46))from⟨by rw[heap_alloc_new]; rfl,(Below.refl _ _).alloc (Nat.le_refl _) _⟩);clear hmk
 go_loopw [9] (fun i wr=> ∃k:Nat,k<=256/\i= .int .i64 (k:Int)/\ga w seed k wr) (fun i _=>256-(intOf i).toNat)
 case atStart=>exact⟨0,by omega,rfl,HT0.out⟩
 case round=>
  obtain⟨k,hk,rfl,ht⟩:=hrel;have HT:=aa ht;have hz:=ht.below.size;clear ht
  by_cases h256:k<256
  ·have ch:=HT.out.here h256;have cf:=frozen_of_row wr _ k _ _ HT.out.box;have hki:(k:Int)<256:=by omega
   go_wp2_with fail
   go_roundw
   case rel=>
    rw[wD,vC _ (yH _ _),vE _ (zM _),vF _ (zN _)];exact⟨k+1,by omega,by simp,HT.out.put h256⟩
   case measure=>simp[intOf]; omega
  ·obtain rfl:k=256:=by omega
   go_wp2_with fail;go_ret;exact⟨rfl,HT.out⟩
def kT (seed:Nat):List Value:=(List.range 256).map fun i=>wT (pW seed i)
theorem kx (seed:Nat):(kT seed).length=256:=by simp[kT]
def dO (seed:Nat) (ring:List UInt8) (W s n h:Nat):List Value:=kT seed++(ring.map aW++[.int .i64 (W:Int), .int .i64 (s:Int), .int .i64 (n:Int), .int .u64 (h:Int)])
theorem ga.full {w wr:World} {seed:Nat} (h:ga w seed 256 wr):wr.heap[w.heap.size]? =some (.cells (kT seed).toArray 46 (0,0)):=by
 rw[h.box,Nat.sub_self,List.replicate_zero,List.append_nil]; rfl
def iS (W:Nat):List Value:=List.replicate 256 (.int .u64 0)++((List.replicate 64 (0:UInt8)).map aW++[.int .i64 (W:Int), .int .i64 0, .int .i64 0, .int .u64 0])
theorem rR (seed W:Nat) (w:World) (hW:1<=W) (hW2:W<=64):Calls Tryz.prog 194 #[.int .u64 (seed:Int), .int .i64 (W:Int)] w fun e w'=> ∃rb,e= .returned (.pointer (some ⟨rb,0,none⟩))/\w.heap.size<=rb/\
  w'.heap[rb]? =some (.cells (dO seed (List.replicate 64 0) W 0 0 0).toArray 242 (0,0))/\Below w.heap.size w w':=by
 have hmax:max (W:Int) 1=(W:Int):=by omega
 have hmin:min (W:Int) 64=(W:Int):=by omega
 go_enter Tryz.func194,Tryz.ntmps194
 go_wp2_with fail;obtain⟨w1,hw1⟩: ∃w1,w1=w.alloc (.cells (Tryz.zeroCells242.setIfInBounds 320 (.int .i64 (W:Int))) 242):=⟨_,rfl⟩;rw[<-hw1];have HX1:=aa (show w1.heap[w.heap.size]? =some (.cells (iS W).toArray 242 (0,0)) by rw[hw1,heap_alloc_new,show Tryz.zeroCells242.setIfInBounds 320 (.int .i64 (W:Int))=(iS W).toArray by kernel_rfl]);have HB1:=aa (show Below w.heap.size w w1 by rw[hw1]; exact(Below.refl _ _).alloc (Nat.le_refl _) _)
 clear hw1 hmax hmin;refine dW (fun _=>True) (by kernel_rfl) ?_;obtain⟨V,hV⟩: ∃V:World,V=w1.drew:=⟨_,rfl⟩;rw[<-hV];have HXV:=aa (show V.heap[w.heap.size]? =some (.cells (iS W).toArray 242 (0,0)) by rw[hV]; exact HX1.out);have HBV:=aa (show Below w.heap.size w V by rw[hV]; exact HB1.out.trans (Below.refl _ _).drew);clear hV;refine ag 0 rfl (by kernel_rfl) (by kernel_rfl) (by kernel_rfl) (fun _ _ _ h=>h) rfl trivial (by intro w' hw1; go_simp; rfl) ?_
 simp only[Act.put,aG,aH,aI];refine ag 1 rfl (by kernel_rfl) (by kernel_rfl) (by kernel_rfl) (fun _ _ _ h=>h) rfl trivial (by intro w' hw1; go_simp; rfl) ?_;simp only[Act.put,aG,aH,aI];refine ag 2 rfl (by kernel_rfl) (by kernel_rfl) (by kernel_rfl) (fun _ _ _ h=>h) rfl trivial (by intro w' hw1; go_simp; rfl) ?_;simp only[Act.put,aG,aH,aI];refine ag 3 rfl (by kernel_rfl) (by kernel_rfl) (by kernel_rfl) (fun _ _ _ h=>h) rfl trivial (by intro w' hw1; go_simp; rfl) ?_
 simp only[Act.put,aG,aH,aI];refine ag 4 rfl (by kernel_rfl) (by kernel_rfl) (by kernel_rfl) (fun _ _ _ h=>h) rfl trivial (by intro w' hw1; go_simp; rfl) ?_;simp only[Act.put,aG,aH,aI];refine aR 5 rfl (by kernel_rfl) rfl (fun K hK=> ?_);go_wp2_with fail;refine(wS seed V).mono ?_;rintro e w2 ⟨rfl,ht⟩;have HTF:=aa ht.full;have HB2:=aa (ac HBV.out ht.below)
 have HX2:=aa ((ht.below.block _ (lt_of_block HXV.out)).trans HXV.out);have HLT:=aa (lt_of_block HXV.out);clear ht;go_wp2_with fail
 try refine⟨trivial, ?_⟩
 refine aR 6 rfl (by kernel_rfl) rfl (fun K hK=> ?_);have HSRC:=aa (show ∀j v,(kT seed)[j]? =some v->w2.cell? ((⟨V.heap.size,0,none⟩:Addr).add j)=some v from fun j v hj=>by rw[Addr.add_mid,Nat.zero_add,cell_of_row w2 _ _ _ _ _ HTF.out,List.getElem?_toArray]; exact hj);have HFIT:=aa (show 0+(kT seed).length<=(iS W).toArray.size by rw[kx,List.size_toArray]; simp[iS])
 have HONE:=aa (show ∀v∈kT seed,v.oneCell'=true from fun v hv=>by obtain⟨x,_,rfl⟩:=List.mem_map.1 hv; rfl);go_wp2_with (refine wpList_copy_own rfl _ _ 269 269 rfl 46 Tryz.underlying269 (by kernel_rfl) w.heap.size 0 256 256 ⟨V.heap.size,0,none⟩ 256 256 rfl rfl (iS W).toArray 242 HX2.out (kT seed) rfl HSRC.out HFIT.out HONE.out ?_);simp only[Act.put,aG,aH,aI];obtain⟨w3,hw3⟩: ∃w3,w3=w2.setRow w.heap.size (List.take 0 (iS W)++(kT seed++List.drop (0+(kT seed).length) (iS W))).toArray:=⟨_,rfl⟩
 have HX3:=aa (show w3.heap[w.heap.size]? =some (.cells (dO seed (List.replicate 64 0) W 0 0 0).toArray 242 (0,0)) by
  rw[hw3,setRow_heap w2 _ _ _ _ _ HX2.out,List.take_zero,List.nil_append,Nat.zero_add,kx]
  congr 3)
 have HB3:=aa (show Below w.heap.size w w3 by rw[hw3]; exact below_setRow HB2.out (Nat.le_refl _) _);refine⟨trivial, ?_⟩;refine bN (by kernel_rfl) ?_
 change Exit.then _ _ _ _ (w2.setRow w.heap.size (List.take 0 (iS W)++(kT seed++List.drop (0+(kT seed).length) (iS W))).toArray)
 rw[<-hw3];clear hw3;go_wp2_with fail;go_ret;exact⟨_,rfl,Nat.le_refl _,HX3.out,HB3.out⟩
theorem jP.below {w w':World} {sb:Nat} {ty:TypeId} {rest:List Value} {data:List UInt8} (h:jP w sb ty rest data) (hb:Below w.heap.size w w'):jP w' sb ty rest data:=by
 obtain⟨b,h1,h2,h3⟩:=h;exact⟨b,h1,h2,(hb.block _ (lt_of_block h3)).trans h3⟩
theorem ft.below {w w':World} (h:ft w) (hb:Below w.heap.size w w') (hlt:4<w.heap.size):ft w':=by
 intro j x hj;rw[<-h j x hj];exact World.cell?_of_block (hb.block _ hlt)
end Go.Proofs.YtnjkpcalgoefhaaGreatDoor
namespace Go.Proofs.YtnjkpcalgoefhaaGreatDoor
open Go
theorem lO {P:Program} {ops:Array Oper} {Q:Exit->Act->World->Prop} {S:World->Prop} {dst:Option Tmp} {op:Op} {ty:TypeId} {pos:String} {aft:Array Edge} {g:Option (Nat×Bool)} {fuel:Nat} {listed:Array Bool} {a:Act} {w:World} (i:Nat) (hi:ops[i]? =some ⟨dst,op,ty,pos,aft,g⟩)
  (hw:Region.wanted ⟨dst,op,ty,pos,aft,g⟩ (yielded ops a.tmps)=true)
  (h: ∀K:Act->World->Prop,(∀a w,S w/\nM P ops Q S fuel (listed.setIfInBounds i true) a w->K a w)->wpList P #[] (Exit.then K Q) [⟨dst,op,ty,pos, #[],none⟩] a w):
  wpOp P ops Q i (fun a' w'=>S w'/\wpAnyH P .any ops Q S fuel (listed.setIfInBounds i true) a' w') a w:=by
 have hb:qi P ops (fun a' w'=>S w'/\wpAnyH P .any ops Q S fuel (listed.setIfInBounds i true) a' w') Q [⟨dst,op,ty,pos,aft,g⟩] a w:=
  bg hw (fun K hK=>h K (fun a w hh=>hK a w ⟨hh.1,hh.2.out⟩))
 unfold wpOp;simp only[hi];exact qi.out hb
open Go Go.RowKit
theorem ij.below {w0 w w':World} (h:ij w) (hb:Below w0.heap.size w w') (hlt:1<w0.heap.size):ij w':=by
 intro j x hj;rw[<-h j x hj];exact World.cell?_of_block (hb.block _ hlt)
theorem oZ {w:World} {sb:Nat} {cs:List Value} {ty:TypeId} (h:w.heap[sb]? =some (.cells cs.toArray ty (0,0))):w.rangeAt sb 0 cs:=by
 intro j x hj;rw[cell_of_row w _ _ _ _ _ h,Nat.zero_add,List.getElem?_toArray];exact hj
theorem qh {ops:Array Oper} {rest:List Oper} {o:Oper} {a:Act} {w:World} {Q:Exit->Act->World->Prop} (hg:o.guard=none) (t:TypeId) (parts:Array (Nat×Operand)) (ho:o.op= .build t parts) (vs:List (Nat×Value))
  (hv:(parts.map fun(i,x)=>(i,a.eval x)).toList=vs) (c:Array Value) (hb:Tryz.prog.built t vs=some c) (h:wpList Tryz.prog ops Q rest (a.put o.dst (.agg c)) w):wpList Tryz.prog ops Q (o::rest) a w:=by
 subst hv;exact wpList_build hg t parts ho (by rw[hb]; rfl) (by rw[hb]; exact h)
structure dV where
 mn:Int
 mx:Int
 win:Int
 bits:Int
 seed:Nat
def bX (c:dV):List Value:=[.int .i64 c.mn, .int .i64 c.mx, .int .i64 c.win, .int .i64 c.bits, .int .u64 (c.seed:Int)]
def gd (c:dV):Value:= .agg #[.int .i64 c.mn, .int .i64 c.mx, .int .i64 c.win, .int .i64 c.bits, .int .u64 (c.seed:Int)]
def ep (c:dV):Bool:=decide (1<=c.win) && decide (c.win<=64) && decide (c.win<=c.mn) && decide (c.mn<=c.mx) && decide (c.mx<=32768) && decide (0<=c.bits) && decide (c.bits<=20)
theorem em {c:dV} :ep c=true<->1<=c.win/\c.win<=64/\c.win<=c.mn/\c.mn<=c.mx/\c.mx<=32768/\0<=c.bits/\c.bits<=20:=by unfold ep; simp[and_assoc]
theorem pN (c:dV) (w:World):Calls Tryz.prog 36 #[gd c] w fun e w'=>e= .returned (.bool (ep c))/\Below w.heap.size w w':=by
 unfold gd
 go_enter Tryz.func36,Tryz.ntmps36
 go_wp2_with fail
 all_goals (go_ret; refine⟨ak ?_,(Below.refl _ _).alloc (Nat.le_refl _) _⟩; rw[Bool.eq_iff_iff,em]; simp; try omega)
theorem xR {place:Nat->Option (Nat×Nat)} {cells:Array Value} {i off:Nat} {v:Value} {rest:List (Nat×Value)} (hp:place i=some (off,1)) (hv:v.cells= #[v]) (hf:off<cells.size):
  Instr.fill place cells ((i,v)::rest)=Instr.fill place (cells.setIfInBounds off v) rest:=by
 rw[Instr.fill,hp];simp only[hv];rw[if_neg (by simp; omega)]
 rfl
def yY :List Value:=iS 0++([.int .i64 0, .int .i64 0, .int .i64 0, .int .i64 0, .int .u64 0]++[.int .i64 0, .int .i64 0])
theorem wY :yY.length=331:=by kernel_rfl
theorem kN (seed:Nat) {ring:List UInt8} (h:ring.length=64) (W s n x:Nat):(dO seed ring W s n x).length=324:=by unfold dO; rw[List.length_append,kx,List.length_append,List.length_map,h]; rfl
theorem sM (r:List Value) (c:dV) (l:Int) (hr:r.length=324):Tryz.prog.built 244 [(0, .agg r.toArray),(1,gd c),(3, .int .i64 l)]=some (r++(bX c++[Value.int .i64 0,Value.int .i64 l])).toArray:=by
 have h: ∀parts,Tryz.prog.built 244 parts=Instr.fill (fun i=>(#[(0,324),(324,5),(329,1),(330,1)]:Array (Nat×Nat))[i]?) yY.toArray parts:=fun parts=>by kernel_rfl
 have e0:splice yY 0 r=r++([.int .i64 0, .int .i64 0, .int .i64 0, .int .i64 0, .int .u64 0]++[.int .i64 0, .int .i64 0]):=by
  unfold splice;rw[List.take_zero,List.nil_append,Nat.zero_add,hr]
  congr 1
 rw[h,oG (off:=0) (size:=324) rfl (by simpa using hr) (by rw[List.size_toArray,wY]; decide)];simp only;rw[e0];unfold gd;rw[oG (off:=324) (size:=5) rfl rfl (by rw[List.size_toArray,List.length_append,hr]; decide),xR (off:=330) rfl rfl (by rw[List.size_toArray,length_splice _ _ _ (by rw[List.length_append,hr]; show 324+5<=324+7; decide),List.length_append,hr]; show 330<324+7; decide)]
 simp only[Instr.fill]
 congr 1
 unfold splice;rw[List.setIfInBounds_toArray]
 congr 1
 rw[List.take_append_of_le_length (by omega),List.take_of_length_le (by omega),List.drop_append,List.drop_eq_nil_of_le (by rw[hr]; show 324<=324+5; decide),List.set_append_right _ _ (by omega),hr]
 rfl
def js (c:dV) (roll:List Value) (pos last:Int):List Value:=roll++(bX c++[Value.int .i64 pos,Value.int .i64 last])
theorem kJ (c:dV) {roll:List Value} (h:roll.length=324) (p l:Int):(js c roll p l).length=331:=by unfold js; rw[List.length_append,h]; rfl
theorem vW (seed:Nat) (ring:List UInt8) (W s n x:Nat): ∀v∈dO seed ring W s n x,v.oneCell'=true:=by
 intro v hv;unfold dO at hv
 rcases List.mem_append.1 hv with hv | hv
 ·obtain⟨y,_,rfl⟩:=List.mem_map.1 hv; rfl
 ·rcases List.mem_append.1 hv with hv | hv
  ·obtain⟨y,_,rfl⟩:=List.mem_map.1 hv; rfl
  ·simp only[List.mem_cons,List.not_mem_nil,or_false]at hv
   rcases hv with rfl | rfl | rfl | rfl<;> rfl
theorem oR (c:dV) (seed:Nat) (W:Nat) (l:Int): ∀v∈dO seed (List.replicate 64 0) W 0 0 0++(bX c++[Value.int .i64 0,Value.int .i64 l]),v.oneCell'=true:=by
 intro v hv
 rcases List.mem_append.1 hv with hv | hv
 ·exact vW _ _ _ _ _ _ v hv
 ·simp only[bX,List.mem_append,List.mem_cons,List.not_mem_nil,or_false]at hv
  rcases hv with(rfl | rfl | rfl | rfl | rfl) | rfl | rfl<;> rfl
theorem tI (seed W:Nat) (wi:Int) (w:World) (hwi:wi=(W:Int)) (hW:1<=W) (hW2:W<=64):Calls Tryz.prog 194 #[.int .u64 (seed:Int), .int .i64 wi] w fun e w'=> ∃rb,e= .returned (.pointer (some ⟨rb,0,none⟩))/\w.heap.size<=rb/\
  w'.heap[rb]? =some (.cells (dO seed (List.replicate 64 0) W 0 0 0).toArray 242 (0,0))/\Below w.heap.size w w':=by
 subst hwi; exact rR seed W w hW hW2
theorem nZ (c:dV) (W:Nat) (w:World) (_hs:c.seed<18446744073709551616) (hW:c.win=(W:Int)) (h1:1<=W) (h2:W<=64) (hm:0<=c.mn/\c.mn<=32768):
  Calls Tryz.prog 175 #[gd c] w fun e w'=>e= .returned (.agg (js c (dO c.seed (List.replicate 64 0) W 0 0 0) 0 (-c.mn)).toArray)/\Below w.heap.size w w':=by
 have HW:=aa hW;have hneg:IntKind.i64.wrap (-c.mn)= -c.mn:=by rw[IntKind.wrap_i64]; omega
 clear hW;unfold gd
 go_enter Tryz.func175,Tryz.ntmps175
 go_wp2_with fail;obtain⟨w1,hw1⟩: ∃w1,w1=(w.alloc (.cells #[.int .i64 c.mn, .int .i64 c.mx, .int .i64 c.win, .int .i64 c.bits, .int .u64 (c.seed:Int)] 48)).alloc (.cells Tryz.zeroCells244 244):=⟨_,rfl⟩;rw[<-hw1];have HX1:=aa (show w1.heap[w.heap.size]? =some (.cells (bX c).toArray 48 (0,0)) by rw[hw1]; exact heap_alloc2_old w _ _);have HZ1:=aa (show w1.heap[w.heap.size+1]? =some (.cells Tryz.zeroCells244 244 (0,0)) by rw[hw1]; exact heap_alloc2_new w _ _)
 have HB1:=aa (show Below w.heap.size w w1 by rw[hw1]; exact((Below.refl _ _).alloc (Nat.le_refl _) _).alloc (by simp) _);clear hw1;refine dW (fun w'=>w'.cell? ⟨w.heap.size,0,none⟩=some (.int .i64 c.mn)/\w'.cell? ⟨w.heap.size,1,none⟩=some (.int .i64 c.mx)/\w'.cell? ⟨w.heap.size,2,none⟩=some (.int .i64 c.win)/\w'.cell? ⟨w.heap.size,3,none⟩=some (.int .i64 c.bits)/\w'.cell? ⟨w.heap.size,4,none⟩=some (.int .u64 (c.seed:Int))) (by kernel_rfl) ?_
 obtain⟨V,hV⟩: ∃V:World,V=w1.drew:=⟨_,rfl⟩;rw[<-hV];have HXV:=aa (show V.heap[w.heap.size]? =some (.cells (bX c).toArray 48 (0,0)) by rw[hV]; exact HX1.out);have HZV:=aa (show V.heap[w.heap.size+1]? =some (.cells Tryz.zeroCells244 244 (0,0)) by rw[hV]; exact HZ1.out);have HBV:=aa (show Below w.heap.size w V by rw[hV]; exact HB1.out.trans (Below.refl _ _).drew);clear hV
 have c0:V.cell? ⟨w.heap.size,0,none⟩=some (.int .i64 c.mn):=(cell_of_row V _ _ _ _ _ HXV.out).trans rfl;have c1:V.cell? ⟨w.heap.size,1,none⟩=some (.int .i64 c.mx):=(cell_of_row V _ _ _ _ _ HXV.out).trans rfl;have c2:V.cell? ⟨w.heap.size,2,none⟩=some (.int .i64 c.win):=(cell_of_row V _ _ _ _ _ HXV.out).trans rfl;have c3:V.cell? ⟨w.heap.size,3,none⟩=some (.int .i64 c.bits):=(cell_of_row V _ _ _ _ _ HXV.out).trans rfl
 have c4:V.cell? ⟨w.heap.size,4,none⟩=some (.int .u64 (c.seed:Int)):=(cell_of_row V _ _ _ _ _ HXV.out).trans rfl;refine ag 0 rfl (by kernel_rfl) (by kernel_rfl) (by kernel_rfl) (fun _ _ _ h=>h) rfl ⟨c0,c1,c2,c3,c4⟩ (by rintro w' ⟨hw1,hw2,hw3,hw4,hw5⟩; go_simp; rfl) ?_;simp only[Act.put,aG,aH,aI];refine ag 1 rfl (by kernel_rfl) (by kernel_rfl) (by kernel_rfl) (fun _ _ _ h=>h) rfl ⟨c0,c1,c2,c3,c4⟩ (by rintro w' ⟨hw1,hw2,hw3,hw4,hw5⟩; go_simp; rfl) ?_
 simp only[Act.put,aG,aH,aI];refine ag 2 rfl (by kernel_rfl) (by kernel_rfl) (by kernel_rfl) (fun _ _ _ h=>h) rfl ⟨c0,c1,c2,c3,c4⟩ (by rintro w' ⟨hw1,hw2,hw3,hw4,hw5⟩; go_simp; rfl) ?_;simp only[Act.put,aG,aH,aI];refine ag 3 rfl (by kernel_rfl) (by kernel_rfl) (by kernel_rfl) (fun _ _ _ h=>h) rfl ⟨c0,c1,c2,c3,c4⟩ (by rintro w' ⟨hw1,hw2,hw3,hw4,hw5⟩; go_simp; rfl) ?_
 simp only[Act.put,aG,aH,aI];refine ag 7 rfl (by kernel_rfl) (by kernel_rfl) (by kernel_rfl) (fun _ _ _ h=>h) rfl ⟨c0,c1,c2,c3,c4⟩ (by rintro w' ⟨hw1,hw2,hw3,hw4,hw5⟩; go_simp; rfl) ?_;simp only[Act.put,aG,aH,aI];refine ag 8 rfl (by kernel_rfl) (by kernel_rfl) (by kernel_rfl) (fun _ _ _ h=>h) rfl ⟨c0,c1,c2,c3,c4⟩ (by rintro w' ⟨hw1,hw2,hw3,hw4,hw5⟩; go_simp; rfl) ?_
 simp only[Act.put,aG,aH,aI];refine ag 9 rfl (by kernel_rfl) (by kernel_rfl) (by kernel_rfl) (fun _ _ _ h=>h) rfl ⟨c0,c1,c2,c3,c4⟩ (by rintro w' ⟨hw1,hw2,hw3,hw4,hw5⟩; go_simp; rfl) ?_;simp only[Act.put,aG,aH,aI];refine ag 10 rfl (by kernel_rfl) (by kernel_rfl) (by kernel_rfl) (fun _ _ _ h=>h) rfl ⟨c0,c1,c2,c3,c4⟩ (by rintro w' ⟨hw1,hw2,hw3,hw4,hw5⟩; go_simp; rfl) ?_
 simp only[Act.put,aG,aH,aI];refine aR 4 rfl (by kernel_rfl) rfl (fun K hK=> ?_);go_wp2_with fail;refine(tI c.seed W c.win V HW.out h1 h2).mono ?_;rintro e w2 ⟨rb,rfl,hrb,hbx,hb2⟩;have HB2:=aa (ac HBV.out hb2);have HX2:=aa ((hb2.block _ (lt_of_block HXV.out)).trans HXV.out);have HZ2:=aa ((hb2.block _ (lt_of_block HZV.out)).trans HZV.out);have HRB:=aa hbx
 clear c0 c1 c2 c3 c4 hb2 hbx;have c0:w2.cell? ⟨w.heap.size,0,none⟩=some (.int .i64 c.mn):=(cell_of_row w2 _ _ _ _ _ HX2.out).trans rfl;have c1:w2.cell? ⟨w.heap.size,1,none⟩=some (.int .i64 c.mx):=(cell_of_row w2 _ _ _ _ _ HX2.out).trans rfl;have c2:w2.cell? ⟨w.heap.size,2,none⟩=some (.int .i64 c.win):=(cell_of_row w2 _ _ _ _ _ HX2.out).trans rfl;have c3:w2.cell? ⟨w.heap.size,3,none⟩=some (.int .i64 c.bits):=(cell_of_row w2 _ _ _ _ _ HX2.out).trans rfl
 have c4:w2.cell? ⟨w.heap.size,4,none⟩=some (.int .u64 (c.seed:Int)):=(cell_of_row w2 _ _ _ _ _ HX2.out).trans rfl;go_wp2_with fail;refine⟨⟨c0,c1,c2,c3,c4⟩, ?_⟩;refine ag 5 rfl (by kernel_rfl) (by kernel_rfl) (by kernel_rfl) (fun _ _ _ h=>h) rfl ⟨c0,c1,c2,c3,c4⟩ (by rintro w' ⟨hw1,hw2,hw3,hw4,hw5⟩; go_simp; rfl) ?_;simp only[Act.put,aG,aH,aI];obtain⟨rc,hrc⟩: ∃rc,rc=dO c.seed (List.replicate 64 0) W 0 0 0:=⟨_,rfl⟩
 have hrl:rc.length=324:=by rw[hrc]; exact kN _ (by simp) _ _ _ _
 rw[<-hrc]at HRB;have HRC:=aa hrc;clear hrc;have HI324:=aa (show(Tryz.prog.info? 242).map (·.size)=some rc.length by rw[hrl]; kernel_rfl);have HRG:=aa (oZ HRB.out);have HBM:=aa (sM rc c (-c.mn) hrl);have HRL:=aa hrl;clear hrl;refine aR 6 rfl (by kernel_rfl) rfl (fun K hK=> ?_);go_wp2_with (refine wpList_load_mid rfl 242 _ rfl rb 0 rfl rc _ HRG.out Tryz.underlying242 rfl HI324.out ?_)
 refine⟨⟨c0,c1,c2,c3,c4⟩, ?_⟩;simp only[Act.put,aG,aH,aI];refine aR 11 rfl (by kernel_rfl) rfl (fun K hK=> ?_);go_wp2_with (go_loud (refine qh rfl 244 _ rfl [(0, .agg rc.toArray),(1,gd c),(3, .int .i64 (-c.mn))] (by kernel_rfl) _ HBM.out ?_));refine⟨⟨c0,c1,c2,c3,c4⟩, ?_⟩;simp only[Act.put,aG,aH,aI];refine aR 12 rfl (by kernel_rfl) rfl (fun K hK=> ?_)
 obtain⟨mc,hmc⟩: ∃mc,mc=rc++(bX c++[Value.int .i64 0,Value.int .i64 (-c.mn)]):=⟨_,rfl⟩;have hml:mc.length=331:=by rw[hmc]; exact kJ c HRL.out 0 (-c.mn)
 rw[<-hmc];have HMC:=aa hmc;have HI331:=aa (show(Tryz.prog.info? 244).map (·.size)=some mc.toArray.size by rw[List.size_toArray,hml]; kernel_rfl);have HOLD:=aa (show Tryz.zeroCells244.size=mc.toArray.size by rw[show mc.toArray.size=331 from by rw[List.size_toArray]; exact hml]; kernel_rfl);have HONE:=aa (show mc.toArray.all (·.oneCell')=true from all_oneCell_toArray (by
  rw[hmc,HRC.out];exact oR c _ _ _))
 clear hml hmc;go_wp2_with (go_loud (refine wpList_store_row rfl 244 _ _ rfl (w.heap.size+1) _ rfl rfl _ _ HZ2.out HI331.out HOLD.out HONE.out ?_));simp only[Act.put];obtain⟨w3,hw3⟩: ∃w3,w3=w2.setRow (w.heap.size+1) mc.toArray:=⟨_,rfl⟩;rw[<-hw3];have hX3:w3.heap[w.heap.size]? =some (.cells (bX c).toArray 48 (0,0)):=by rw[hw3,setRow_other w2 _ _ _ (by omega)]; exact HX2.out
 have HM3:=aa (show w3.heap[w.heap.size+1]? =some (.cells mc.toArray 244 (0,0)) by rw[hw3]; exact setRow_heap w2 _ _ _ _ _ HZ2.out);have HB3:=aa (show Below w.heap.size w w3 by rw[hw3]; exact below_setRow HB2.out (by omega) _);clear hw3;refine⟨⟨(cell_of_row w3 _ _ _ _ _ hX3).trans rfl,(cell_of_row w3 _ _ _ _ _ hX3).trans rfl,(cell_of_row w3 _ _ _ _ _ hX3).trans rfl,(cell_of_row w3 _ _ _ _ _ hX3).trans rfl,(cell_of_row w3 _ _ _ _ _ hX3).trans rfl⟩, ?_⟩
 refine bN (by kernel_rfl) ?_;clear c0 c1 c2 c3 c4 hX3;have HFIN:=aa (show Ending.returned (.agg mc.toArray)=Ending.returned (.agg (js c (dO c.seed (List.replicate 64 0) W 0 0 0) 0 (-c.mn)).toArray) by rw[HMC.out,HRC.out]; rfl);go_wp2_with fail;refine bodyPost_ret (results_cell_row rfl _ _ (w.heap.size+1) _ _ _ _ rfl HM3.out Tryz.underlying244 rfl HI331.out) rfl ?_;exact⟨HFIN.out,HB3.out⟩
structure ji (seed W : Nat) (d : List UInt8) (cs : List Value) : Prop where
 tab: ∀i,i<256->cs[i]? =some (.int .u64 ((pW seed i:Nat):Int))
 rng: ∀j,j<64-> ∃b,cs[256+j]? =some (aW b)
 win:cs[320]? =some (.int .i64 (W:Int))
 st: ∃s,s<64/\cs[321]? =some (.int .i64 (s:Int))/\ ∀j b,(gx W d)[j]? =some b->cs[256+(s+j)%64]? =some (aW b)
 len:cs[322]? =some (.int .i64 ((min W d.length:Nat):Int))
 sum:cs[323]? =some (.int .u64 ((lk seed (gx W d):Nat):Int))
theorem ji.lt {seed W:Nat} {d:List UInt8} {cs:List Value} (h:ji seed W d cs):323<cs.length:=(List.getElem?_eq_some_iff.1 h.sum).1
theorem uX {x y:Nat} (hx:x<18446744073709551616) (hy:y<18446744073709551616):bits BinOp.xor IntKind.u64 (x:Int) (y:Int)=((x^^^y:Nat):Int):=u64_xor_nat x y hx hy
theorem bh {w:World} {b k:Nat} {cs:List Value} {ty:TypeId} (h:w.heap[b]? =some (.cells cs.toArray ty (0,0))):w.cell? ⟨b,k,none⟩=cs[k]? :=by rw[cell_of_row w _ _ _ _ _ h,List.getElem?_toArray]
theorem eG {w:World} {b k:Nat} {cs:List Value} {ty:TypeId} (h:w.heap[b]? =some (.cells cs.toArray ty (0,0))) (v:Value):(w.setCell ⟨b,k,none⟩ v).heap[b]? =some (.cells (cs.set k v).toArray ty (0,0)):=by
 rw[heap_setCell_same w _ _ _ _ _ h,List.setIfInBounds_toArray]
theorem bA {w V:World} {rb:Nat} (h:w.grownBy V (some rb)) (k:Nat) (v:Value):w.grownBy (V.setCell ⟨rb,k,none⟩ v) (some rb):=h.trans (bm _ _ _ _)
theorem iw {w V:World} {rb:Nat} (h:w.grownBy V (some rb)):w.grownBy V.drew (some rb):=h.trans ⟨rfl,rfl,rfl,Nat.le_refl _,fun _ _ _=>rfl⟩
theorem fU {w V:World} {rb:Nat} (h:w.grownBy V (some rb)) (n:Nat):w.grownBy (V.drewN n) (some rb):=h.trans ⟨rfl,rfl,rfl,Nat.le_refl _,fun _ _ _=>rfl⟩
theorem ji.push {seed W:Nat} {d:List UInt8} {cs cs2:List Value} (h:ji seed W d cs) {b:UInt8} {q:List UInt8} {s2 n2:Nat} (heq: ∀i,i<321->cs2[i]? =cs[i]?) (hs:cs2[321]? =some (.int .i64 (s2:Int))) (hs2:s2<64) (hl:323<cs2.length)
  (hsum:cs2[323]? =some (.int .u64 ((lk seed (gx W (d++[b])):Nat):Int))) (hq:gx W (d++[b])=q++[b]) (hqn:q.length=n2) (hn:n2<W) (hW:W<=64) (hring: ∀(j:Nat) (c:UInt8),q[j]? =some c->cs2[256+(s2+j)%64]? =some (aW c)):
  ji seed W (d++[b]) ((cs2.set (256+(s2+n2)%64) (aW b)).set 322 (.int .i64 ((n2+1:Nat):Int))) where
 tab i hi:=by rw[List.getElem?_set_ne (by omega),List.getElem?_set_ne (by omega),heq i (by omega)]; exact h.tab i hi
 rng j hj:=by
  rw[List.getElem?_set_ne (by omega)]
  by_cases e:(s2+n2)%64=j
  ·rw[e,List.getElem?_set_self (by omega)]; exact⟨b,rfl⟩
  ·rw[List.getElem?_set_ne (by omega),heq _ (by omega)]; exact h.rng j hj
 win:=by rw[List.getElem?_set_ne (by omega),List.getElem?_set_ne (by omega),heq _ (by omega)]; exact h.win
 st:=by
  refine⟨s2,hs2,by rw[List.getElem?_set_ne (by omega),List.getElem?_set_ne (by omega)]; exact hs,fun j c hc=> ?_⟩;rw[hq]at hc;rw[List.getElem?_set_ne (by omega)]
  rcases Nat.lt_trichotomy j n2 with hj | hj | hj
  ·rw[List.getElem?_append_left (by omega)]at hc;rw[List.getElem?_set_ne (by omega)];exact hring j c hc
  ·subst hj;rw[List.getElem?_append_right (by omega),hqn,Nat.sub_self,List.getElem?_cons_zero]at hc
   cases hc
   rw[List.getElem?_set_self (by omega)]
  ·rw[List.getElem?_eq_none (by simp; omega)]at hc; cases hc
 len:=by
  rw[List.getElem?_set_self (by simpa using by omega)];have:=iP W (d++[b]);rw[hq]at this;simp only[List.length_append,List.length_cons,List.length_nil]at this ⊢;rw[<-this,hqn]
 sum:=by rw[List.getElem?_set_ne (by omega),List.getElem?_set_ne (by omega)]; exact hsum
theorem yq (rb:Nat) (ty:TypeId) (seed W:Nat) (d:List UInt8) (b:UInt8) (cs:List Value) (w:World) (hb:w.heap[rb]? =some (.cells cs.toArray ty (0,0))) (hr:ji seed W d cs) (hW:1<=W) (hW2:W<=64):
  Calls Tryz.prog 195 #[.pointer (some ⟨rb,0,none⟩), .int .u8 (b.toNat:Int)] w fun e w'=>e= .returned (.tuple #[])/\(∃cs',w'.heap[rb]? =some (.cells cs'.toArray ty (0,0))/\ji seed W (d++[b]) cs'/\cs'.length=cs.length/\ ∀i,324<=i->cs'[i]? =cs[i]?)/\w.grownBy w' (some rb):=by
 have HB:=aa hb;have HR:=aa hr;clear hb hr;have hbt:=b.toNat_lt;have hbti:(b.toNat:Int)<256:=by omega
 obtain⟨t,ht⟩: ∃t,t=pW seed b.toNat:=⟨_,rfl⟩;obtain⟨h,hh⟩: ∃h,h=lk seed (gx W d):=⟨_,rfl⟩;have htl:t<18446744073709551616:=by rw[ht]; exact lQ _ _
 have hhl:h<18446744073709551616:=by rw[hh]; exact qW _ _
 have c323:w.cell? ⟨rb,323,none⟩=some (.int .u64 (h:Int)):=by rw[bh HB.out,HR.out.sum,hh]
 have ct:w.cell? ⟨rb,b.toNat,none⟩=some (.int .u64 (t:Int)):=by rw[bh HB.out,HR.out.tab _ hbt,ht]
 have HT:=aa (And.intro ht hh);clear ht hh
 go_enter Tryz.func195,Tryz.ntmps195
 go_wp2_with fail;refine dd (fun w'=>w'.cell? ⟨rb,323,none⟩=some (.int .u64 (h:Int))/\w'.cell? ⟨rb,b.toNat,none⟩=some (.int .u64 (t:Int))) (by kernel_rfl) (by kernel_rfl) ?_;simp only[List.dropLast_cons_cons,List.dropLast_singleton,List.length_cons,List.length_nil,Nat.reduceAdd,Nat.reduceSub];obtain⟨V,hV⟩: ∃V:World,V=w.drew:=⟨_,rfl⟩;rw[<-hV];have HBV:=aa (show V.heap[rb]? =some (.cells cs.toArray ty (0,0)) by rw[hV]; exact HB.out)
 have HGV:=aa (show w.grownBy V (some rb) by rw[hV]; exact⟨rfl,rfl,rfl,Nat.le_refl _,fun _ _ _=>rfl⟩);clear c323 ct;have c323:V.cell? ⟨rb,323,none⟩=some (.int .u64 (h:Int)):=by rw[bh HBV.out,HR.out.sum,HT.out.2]
 have ct:V.cell? ⟨rb,b.toNat,none⟩=some (.int .u64 (t:Int)):=by rw[bh HBV.out,HR.out.tab _ hbt,HT.out.1]
 clear hV;refine ag 0 rfl (by kernel_rfl) (by kernel_rfl) (by kernel_rfl) (fun _ _ _ h=>h) rfl ⟨c323,ct⟩ (by rintro w' ⟨hw1,hw2⟩; go_simp; rfl) ?_;simp only[Act.put,aG,aH,aI];refine ag 1 rfl (by kernel_rfl) (by kernel_rfl) (by kernel_rfl) (fun _ _ _ h=>h) rfl ⟨c323,ct⟩ (by rintro w' ⟨hw1,hw2⟩; go_simp; rfl) ?_;simp only[Act.put,aG,aH,aI];refine ag 2 rfl (by kernel_rfl) (by kernel_rfl) (by kernel_rfl) (fun _ _ _ h=>h) rfl ⟨c323,ct⟩ (by rintro w' ⟨hw1,hw2⟩; go_simp; rfl) ?_
 simp only[Act.put,aG,aH,aI];refine ag 3 rfl (by kernel_rfl) (by kernel_rfl) (by kernel_rfl) (fun _ _ _ h=>h) rfl ⟨c323,ct⟩ (by rintro w' ⟨hw1,hw2⟩; go_simp; rfl) ?_;simp only[Act.put,aG,aH,aI];refine ag 4 rfl (by kernel_rfl) (by kernel_rfl) (by kernel_rfl) (fun _ _ _ h=>h) rfl ⟨c323,ct⟩ (by rintro w' ⟨hw1,hw2⟩; go_simp; rfl) ?_;simp only[Act.put,aG,aH,aI];refine ag 6 rfl (by kernel_rfl) (by kernel_rfl) (by kernel_rfl) (fun _ _ _ h=>h) rfl ⟨c323,ct⟩ (by rintro w' ⟨hw1,hw2⟩; go_simp; rfl) ?_
 simp only[Act.put,aG,aH,aI];refine ag 7 rfl (by kernel_rfl) (by kernel_rfl) (by kernel_rfl) (fun _ _ _ h=>h) rfl ⟨c323,ct⟩ (by rintro w' ⟨hw1,hw2⟩; go_simp; rfl) ?_;simp only[Act.put,aG,aH,aI];refine ag 8 rfl (by kernel_rfl) (by kernel_rfl) (by kernel_rfl) (fun _ _ _ h=>h) rfl ⟨c323,ct⟩ (by rintro w' ⟨hw1,hw2⟩; go_simp; rfl) ?_;simp only[Act.put,aG,aH,aI];refine ag 9 rfl (by kernel_rfl) (by kernel_rfl) (by kernel_rfl) (fun _ _ _ h=>h) rfl ⟨c323,ct⟩ (by rintro w' ⟨hw1,hw2⟩; go_simp; rfl) ?_
 simp only[Act.put,aG,aH,aI];refine ag 10 rfl (by kernel_rfl) (by kernel_rfl) (by kernel_rfl) (fun _ _ _ h=>h) rfl ⟨c323,ct⟩ (by rintro w' ⟨hw1,hw2⟩; go_simp; rfl) ?_;simp only[Act.put,aG,aH,aI];refine ag 11 rfl (by kernel_rfl) (by kernel_rfl) (by kernel_rfl) (fun _ _ _ h=>h) rfl ⟨c323,ct⟩ (by rintro w' ⟨hw1,hw2⟩; go_simp; rfl) ?_;simp only[Act.put,aG,aH,aI]
 refine aR 5 rfl (by kernel_rfl) rfl (fun K hK=> ?_);go_wp2_with fail;refine(oY h 1 V hhl (by decide)).mono ?_;rintro e w1 ⟨rfl,rfl⟩;go_wp2_with fail;refine⟨⟨c323,ct⟩, ?_⟩;refine ag 12 rfl (by kernel_rfl) (by kernel_rfl) (by kernel_rfl) (fun _ _ _ h=>h) rfl ⟨c323,ct⟩ (by rintro w' ⟨hw1,hw2⟩; go_simp; rfl) ?_;simp only[Act.put,aG,aH,aI];refine ag 13 rfl (by kernel_rfl) (by kernel_rfl) (by kernel_rfl) (fun _ _ _ h=>h) rfl ⟨c323,ct⟩ (by rintro w' ⟨hw1,hw2⟩; go_simp; rfl) ?_
 simp only[Act.put,aG,aH,aI];refine ag 14 rfl (by kernel_rfl) (by kernel_rfl) (by kernel_rfl) (fun _ _ _ h=>h) rfl ⟨c323,ct⟩ (by rintro w' ⟨hw1,hw2⟩; go_simp; rfl) ?_;simp only[Act.put,aG,aH,aI];rw[uX (gw 1 hhl) htl];obtain⟨h1,hh1⟩: ∃h1,h1=cY h 1^^^t:=⟨_,rfl⟩;rw[<-hh1];have hh1l:h1<18446744073709551616:=by rw[hh1]; exact kz (gw 1 hhl) htl
 have HH1:=aa hh1;clear hh1;have cf:V.frozen? ⟨rb,323,none⟩=false:=frozen_of_row V _ _ _ _ HBV.out;refine bN (by kernel_rfl) ?_;refine dr rfl rfl (fun K hK=> ?_);go_wp2_with fail;obtain⟨U,hU⟩: ∃U:World,U=V.setCell ⟨rb,323,none⟩ (.int .u64 (h1:Int)):=⟨_,rfl⟩;rw[<-hU];obtain⟨cs1,hc1⟩: ∃cs1,cs1=cs.set 323 (.int .u64 (h1:Int)):=⟨_,rfl⟩;have HBU:=aa (show U.heap[rb]? =some (.cells cs1.toArray ty (0,0)) by rw[hU,hc1]; exact eG HBV.out _)
 have HGU:=aa (show w.grownBy U (some rb) by rw[hU]; exact bA HGV.out _ _);have HC1:=aa hc1;clear hU c323 ct cf hc1;obtain⟨n,hn⟩: ∃n,n=min W d.length:=⟨_,rfl⟩;obtain⟨s,hs,hsc,hsw⟩:=HR.out.st;have hl:=HR.out.lt;have c322:U.cell? ⟨rb,322,none⟩=some (.int .i64 (n:Int)):=by rw[bh HBU.out,HC1.out,List.getElem?_set_ne (by decide),HR.out.len,hn]
 have c320:U.cell? ⟨rb,320,none⟩=some (.int .i64 (W:Int)):=by rw[bh HBU.out,HC1.out,List.getElem?_set_ne (by decide),HR.out.win]
 have c321:U.cell? ⟨rb,321,none⟩=some (.int .i64 (s:Int)):=by rw[bh HBU.out,HC1.out,List.getElem?_set_ne (by decide),hsc]
 have HLN:=aa (show cs[322]? =some (.int .i64 (n:Int)) by rw[HR.out.len,hn]);have HN:=aa hn;have HSC:=aa hsc;clear hn hsc;have HSW:=aa hsw;clear hsw
 go_quiet (fail)
 have HBU1:=aa (show(U.drewN nq).heap[rb]? =some (.cells cs1.toArray ty (0,0))from HBU.out);have HGU1:=aa (show w.grownBy (U.drewN nq) (some rb)from fU HGU.out _);clear HBU HGU c322 c320 c321
 generalize U.drewN nq=U1 at *
 by_cases hf:n=W
 ·obtain⟨x,l,hxl⟩: ∃x l,gx W d=x::l:=by
   cases hw:gx W d with
   | nil=>have:=iP W d; rw[hw,<-HN.out,hf]at this; simp at this; omega
   | cons x l=>exact⟨x,l,rfl⟩
  have hll:l.length+1=W:=by have:=iP W d; rw[hxl,<-HN.out,hf]at this; simpa using this
  have hx:=HSW.out 0 x (by rw[hxl]; rfl);rw[Nat.add_zero,Nat.mod_eq_of_lt hs]at hx;have hxt:=x.toNat_lt;have hxti:(x.toNat:Int)<256:=by omega
  have hsi:(s:Int)<64:=by omega
  obtain⟨tx,htx⟩: ∃tx,tx=pW seed x.toNat:=⟨_,rfl⟩;have htxl:tx<18446744073709551616:=by rw[htx]; exact lQ _ _
  have cx:=HR.out.tab _ hxt;rw[<-htx]at cx;have HX:=aa (And.intro hxl (And.intro hx (And.intro htx cx)));clear hxl hx htx cx;subst hf;go_wp2_with fail;refine dd (fun w'=>w'.cell? ⟨rb,323,none⟩=some (.int .u64 (h1:Int))/\w'.cell? ⟨rb,321,none⟩=some (.int .i64 (s:Int))/\w'.cell? ⟨rb,256+s,none⟩=some (.int .u8 (x.toNat:Int))/\w'.cell? ⟨rb,x.toNat,none⟩=some (.int .u64 (tx:Int))/\w'.cell? ⟨rb,320,none⟩=some (.int .i64 (n:Int))) (by kernel_rfl) (by kernel_rfl) ?_
  simp only[List.dropLast_cons_cons,List.dropLast_singleton,List.length_cons,List.length_nil,Nat.reduceAdd,Nat.reduceSub];obtain⟨V2,hV2⟩: ∃V2:World,V2=U1.drew:=⟨_,rfl⟩;rw[<-hV2];have HBV2:=aa (show V2.heap[rb]? =some (.cells cs1.toArray ty (0,0)) by rw[hV2]; exact HBU1.out);have HGV2:=aa (show w.grownBy V2 (some rb) by rw[hV2]; exact iw HGU1.out);clear hV2;have c323:V2.cell? ⟨rb,323,none⟩=some (.int .u64 (h1:Int)):=by rw[bh HBV2.out,HC1.out,List.getElem?_set_self (by omega)]
  have c320:V2.cell? ⟨rb,320,none⟩=some (.int .i64 (n:Int)):=by rw[bh HBV2.out,HC1.out,List.getElem?_set_ne (by decide),HR.out.win]
  have c321:V2.cell? ⟨rb,321,none⟩=some (.int .i64 (s:Int)):=by rw[bh HBV2.out,HC1.out,List.getElem?_set_ne (by decide),HSC.out]
  have cx1:V2.cell? ⟨rb,256+s,none⟩=some (.int .u8 (x.toNat:Int)):=by rw[bh HBV2.out,HC1.out,List.getElem?_set_ne (by omega),HX.out.2.1]; rfl
  have ct1:V2.cell? ⟨rb,x.toNat,none⟩=some (.int .u64 (tx:Int)):=by rw[bh HBV2.out,HC1.out,List.getElem?_set_ne (by omega),HX.out.2.2.2]
  refine ag 0 rfl (by kernel_rfl) (by kernel_rfl) (by kernel_rfl) (fun _ _ _ h=>h) rfl ⟨c323,c321,cx1,ct1,c320⟩ (by rintro w' ⟨hw1,hw2,hw3,hw4,hw5⟩; go_simp; rfl) ?_;simp only[Act.put,aG,aH,aI];refine ag 1 rfl (by kernel_rfl) (by kernel_rfl) (by kernel_rfl) (fun _ _ _ h=>h) rfl ⟨c323,c321,cx1,ct1,c320⟩ (by rintro w' ⟨hw1,hw2,hw3,hw4,hw5⟩; go_simp; rfl) ?_;simp only[Act.put,aG,aH,aI]
  refine ag 2 rfl (by kernel_rfl) (by kernel_rfl) (by kernel_rfl) (fun _ _ _ h=>h) rfl ⟨c323,c321,cx1,ct1,c320⟩ (by rintro w' ⟨hw1,hw2,hw3,hw4,hw5⟩; go_simp; rfl) ?_;simp only[Act.put,aG,aH,aI];refine ag 3 rfl (by kernel_rfl) (by kernel_rfl) (by kernel_rfl) (fun _ _ _ h=>h) rfl ⟨c323,c321,cx1,ct1,c320⟩ (by rintro w' ⟨hw1,hw2,hw3,hw4,hw5⟩; go_simp; rfl) ?_;simp only[Act.put,aG,aH,aI]
  refine ag 4 rfl (by kernel_rfl) (by kernel_rfl) (by kernel_rfl) (fun _ _ _ h=>h) rfl ⟨c323,c321,cx1,ct1,c320⟩ (by rintro w' ⟨hw1,hw2,hw3,hw4,hw5⟩; go_simp; rfl) ?_;simp only[Act.put,aG,aH,aI];refine ag 5 rfl (by kernel_rfl) (by kernel_rfl) (by kernel_rfl) (fun _ _ _ h=>h) rfl ⟨c323,c321,cx1,ct1,c320⟩ (by rintro w' ⟨hw1,hw2,hw3,hw4,hw5⟩; go_simp; rfl) ?_;simp only[Act.put,aG,aH,aI]
  refine ag 6 rfl (by kernel_rfl) (by kernel_rfl) (by kernel_rfl) (fun _ _ _ h=>h) rfl ⟨c323,c321,cx1,ct1,c320⟩ (by rintro w' ⟨hw1,hw2,hw3,hw4,hw5⟩; go_simp; rfl) ?_;simp only[Act.put,aG,aH,aI];refine ag 7 rfl (by kernel_rfl) (by kernel_rfl) (by kernel_rfl) (fun _ _ _ h=>h) rfl ⟨c323,c321,cx1,ct1,c320⟩ (by rintro w' ⟨hw1,hw2,hw3,hw4,hw5⟩; go_simp; rfl) ?_;simp only[Act.put,aG,aH,aI]
  refine ag 8 rfl (by kernel_rfl) (by kernel_rfl) (by kernel_rfl) (fun _ _ _ h=>h) rfl ⟨c323,c321,cx1,ct1,c320⟩ (by rintro w' ⟨hw1,hw2,hw3,hw4,hw5⟩; go_simp; rfl) ?_;simp only[Act.put,aG,aH,aI];refine ag 9 rfl (by kernel_rfl) (by kernel_rfl) (by kernel_rfl) (fun _ _ _ h=>h) rfl ⟨c323,c321,cx1,ct1,c320⟩ (by rintro w' ⟨hw1,hw2,hw3,hw4,hw5⟩; go_simp; rfl) ?_;simp only[Act.put,aG,aH,aI]
  refine ag 10 rfl (by kernel_rfl) (by kernel_rfl) (by kernel_rfl) (fun _ _ _ h=>h) rfl ⟨c323,c321,cx1,ct1,c320⟩ (by rintro w' ⟨hw1,hw2,hw3,hw4,hw5⟩; go_simp; rfl) ?_;simp only[Act.put,aG,aH,aI];refine ag 11 rfl (by kernel_rfl) (by kernel_rfl) (by kernel_rfl) (fun _ _ _ h=>h) rfl ⟨c323,c321,cx1,ct1,c320⟩ (by rintro w' ⟨hw1,hw2,hw3,hw4,hw5⟩; go_simp; rfl) ?_;simp only[Act.put,aG,aH,aI]
  refine ag 12 rfl (by kernel_rfl) (by kernel_rfl) (by kernel_rfl) (fun _ _ _ h=>h) rfl ⟨c323,c321,cx1,ct1,c320⟩ (by rintro w' ⟨hw1,hw2,hw3,hw4,hw5⟩; go_simp; rfl) ?_;simp only[Act.put,aG,aH,aI];refine ag 13 rfl (by kernel_rfl) (by kernel_rfl) (by kernel_rfl) (fun _ _ _ h=>h) rfl ⟨c323,c321,cx1,ct1,c320⟩ (by rintro w' ⟨hw1,hw2,hw3,hw4,hw5⟩; go_simp; rfl) ?_;simp only[Act.put,aG,aH,aI]
  refine ag 14 rfl (by kernel_rfl) (by kernel_rfl) (by kernel_rfl) (fun _ _ _ h=>h) rfl ⟨c323,c321,cx1,ct1,c320⟩ (by rintro w' ⟨hw1,hw2,hw3,hw4,hw5⟩; go_simp; rfl) ?_;simp only[Act.put,aG,aH,aI];refine ag 15 rfl (by kernel_rfl) (by kernel_rfl) (by kernel_rfl) (fun _ _ _ h=>h) rfl ⟨c323,c321,cx1,ct1,c320⟩ (by rintro w' ⟨hw1,hw2,hw3,hw4,hw5⟩; go_simp; rfl) ?_;simp only[Act.put,aG,aH,aI]
  refine ag 16 rfl (by kernel_rfl) (by kernel_rfl) (by kernel_rfl) (fun _ _ _ h=>h) rfl ⟨c323,c321,cx1,ct1,c320⟩ (by rintro w' ⟨hw1,hw2,hw3,hw4,hw5⟩; go_simp; rfl) ?_;simp only[Act.put,aG,aH,aI];refine ag 17 rfl (by kernel_rfl) (by kernel_rfl) (by kernel_rfl) (fun _ _ _ h=>h) rfl ⟨c323,c321,cx1,ct1,c320⟩ (by rintro w' ⟨hw1,hw2,hw3,hw4,hw5⟩; go_simp; rfl) ?_;simp only[Act.put,aG,aH,aI]
  refine ag 18 rfl (by kernel_rfl) (by kernel_rfl) (by kernel_rfl) (fun _ _ _ h=>h) rfl ⟨c323,c321,cx1,ct1,c320⟩ (by rintro w' ⟨hw1,hw2,hw3,hw4,hw5⟩; go_simp; rfl) ?_;simp only[Act.put,aG,aH,aI];refine ag 19 rfl (by kernel_rfl) (by kernel_rfl) (by kernel_rfl) (fun _ _ _ h=>h) rfl ⟨c323,c321,cx1,ct1,c320⟩ (by rintro w' ⟨hw1,hw2,hw3,hw4,hw5⟩; go_simp; rfl) ?_;simp only[Act.put,aG,aH,aI]
  refine ag 20 rfl (by kernel_rfl) (by kernel_rfl) (by kernel_rfl) (fun _ _ _ h=>h) rfl ⟨c323,c321,cx1,ct1,c320⟩ (by rintro w' ⟨hw1,hw2,hw3,hw4,hw5⟩; go_simp; rfl) ?_;simp only[Act.put,aG,aH,aI];refine ag 21 rfl (by kernel_rfl) (by kernel_rfl) (by kernel_rfl) (fun _ _ _ h=>h) rfl ⟨c323,c321,cx1,ct1,c320⟩ (by rintro w' ⟨hw1,hw2,hw3,hw4,hw5⟩; go_simp; rfl) ?_;simp only[Act.put,aG,aH,aI]
  refine aR 22 rfl (by kernel_rfl) rfl (fun K hK=> ?_);go_wp2_with fail;refine(oY tx n V2 htxl hW2).mono ?_;rintro e w1 ⟨rfl,rfl⟩;go_wp2_with fail;refine⟨⟨c323,c321,cx1,ct1,c320⟩, ?_⟩;refine ag 23 rfl (by kernel_rfl) (by kernel_rfl) (by kernel_rfl) (fun _ _ _ h=>h) rfl ⟨c323,c321,cx1,ct1,c320⟩ (by rintro w' ⟨hw1,hw2,hw3,hw4,hw5⟩; go_simp; rfl) ?_;simp only[Act.put,aG,aH,aI]
  refine ag 24 rfl (by kernel_rfl) (by kernel_rfl) (by kernel_rfl) (fun _ _ _ h=>h) rfl ⟨c323,c321,cx1,ct1,c320⟩ (by rintro w' ⟨hw1,hw2,hw3,hw4,hw5⟩; go_simp; rfl) ?_;simp only[Act.put,aG,aH,aI];refine ag 25 rfl (by kernel_rfl) (by kernel_rfl) (by kernel_rfl) (fun _ _ _ h=>h) rfl ⟨c323,c321,cx1,ct1,c320⟩ (by rintro w' ⟨hw1,hw2,hw3,hw4,hw5⟩; go_simp; rfl) ?_;simp only[Act.put,aG,aH,aI]
  rw[uX hh1l (gw n htxl)];obtain⟨h2,hh2⟩: ∃h2,h2=h1^^^cY tx n:=⟨_,rfl⟩;rw[<-hh2];have hh2l:h2<18446744073709551616:=by rw[hh2]; exact kz hh1l (gw n htxl)
  have HH2:=aa hh2;have cf:V2.frozen? ⟨rb,323,none⟩=false:=frozen_of_row V2 _ _ _ _ HBV2.out;have cf1:V2.frozen? ⟨rb,321,none⟩=false:=frozen_of_row V2 _ _ _ _ HBV2.out;have cf2:V2.frozen? ⟨rb,322,none⟩=false:=frozen_of_row V2 _ _ _ _ HBV2.out;have c322:V2.cell? ⟨rb,322,none⟩=some (.int .i64 (n:Int)):=by rw[bh HBV2.out,HC1.out,List.getElem?_set_ne (by decide),HLN.out]
  obtain⟨s2,hs2⟩: ∃s2,s2=(s+1)%64:=⟨_,rfl⟩;obtain⟨n2,hn2⟩: ∃n2,n2=n-1:=⟨_,rfl⟩;have hsa:IntKind.i64.wrap ((s:Int)+1)=((s+1:Nat):Int):=by rw[IntKind.wrap_i64]; omega
  have hsb:((s:Int)+1)%64=(s2:Int):=by omega
  have hna:IntKind.i64.wrap ((n:Int)-1)=(n2:Int):=by rw[IntKind.wrap_i64]; omega
  have hs264:s2<64:=by omega
  have hn264:n2<64:=by omega
  have HS2:=aa hs2;have HN2:=aa hn2;clear hh2 hs2 hn2;refine bN (by kernel_rfl) ?_;refine dr rfl rfl (fun K hK=> ?_);go_wp2_with fail;obtain⟨X,hX⟩: ∃X:World,X=((V2.setCell ⟨rb,323,none⟩ (.int .u64 (h2:Int))).setCell ⟨rb,321,none⟩ (.int .i64 (s2:Int))).setCell ⟨rb,322,none⟩ (.int .i64 (n2:Int)):=⟨_,rfl⟩;rw[<-hX];have HBX:=aa (show X.heap[rb]? =some (.cells (((cs1.set 323 (.int .u64 (h2:Int))).set 321 (.int .i64 (s2:Int))).set 322 (.int .i64 (n2:Int))).toArray ty (0,0)) by rw[hX]; exact eG (eG (eG HBV2.out _) _) _)
  have HGX:=aa (show w.grownBy X (some rb) by rw[hX]; exact bA (bA (bA HGV2.out _ _) _ _) _ _);have HCX:=aa (show(((cs1.set 323 (.int .u64 (h2:Int))).set 321 (.int .i64 (s2:Int))).set 322 (.int .i64 (n2:Int)))[321]? =some (.int .i64 (s2:Int))/\(((cs1.set 323 (.int .u64 (h2:Int))).set 321 (.int .i64 (s2:Int))).set 322 (.int .i64 (n2:Int)))[322]? =some (.int .i64 (n2:Int))from⟨by rw[List.getElem?_set_ne (by decide),List.getElem?_set_self (by rw[HC1.out]; simp; omega)],by rw[List.getElem?_set_self (by rw[HC1.out]; simp; omega)]⟩)
  have HRX:=aa (show ∀j,j<64-> ∃c,(((cs1.set 323 (.int .u64 (h2:Int))).set 321 (.int .i64 (s2:Int))).set 322 (.int .i64 (n2:Int)))[256+j]? =some (aW c)from fun j hj=>by
   rw[List.getElem?_set_ne (by omega),List.getElem?_set_ne (by omega),List.getElem?_set_ne (by omega),HC1.out,List.getElem?_set_ne (by omega)];exact HR.out.rng j hj)
  clear hX c323 c320 c321 cx1 ct1 cf cf1 cf2 c322;have hbt2:=hbt;obtain⟨j2,hj2⟩: ∃j2,j2=(s2+n2)%64:=⟨_,rfl⟩;have hj64:j2<64:=by omega
  have hj64i:(j2:Int)<64:=by omega
  have hadd:IntKind.i64.wrap ((s2:Int)+(n2:Int))=(s2:Int)+(n2:Int):=by rw[IntKind.wrap_i64]; omega
  have hmod:((s2:Int)+(n2:Int))%64=(j2:Int):=by omega
  have hmod2:Int.tmod ((s2:Int)+(n2:Int)) 64=(j2:Int):=by rw[Int.tmod_eq_emod_of_nonneg (by omega)]; omega
  have hmod3:IntKind.i64.wrap (j2:Int)=(j2:Int):=by rw[IntKind.wrap_i64]; omega
  have hinc:IntKind.i64.wrap ((n2:Int)+1)=((n2+1:Nat):Int):=by rw[IntKind.wrap_i64]; omega
  have c321:X.cell? ⟨rb,321,none⟩=some (.int .i64 (s2:Int)):=by rw[bh HBX.out,HCX.out.1]
  have c322:X.cell? ⟨rb,322,none⟩=some (.int .i64 (n2:Int)):=by rw[bh HBX.out,HCX.out.2]
  have cf1:X.frozen? ⟨rb,256+j2,none⟩=false:=frozen_of_row X _ _ _ _ HBX.out;have cf2:X.frozen? ⟨rb,322,none⟩=false:=frozen_of_row X _ _ _ _ HBX.out;obtain⟨bj,hbj⟩:=HRX.out j2 hj64;have cbj:X.cell? ⟨rb,256+j2,none⟩=some (aW bj):=by rw[bh HBX.out,hbj]
  clear hbj;have hne1: ¬(256+j2=322):=by omega
  have hne2: ¬(322=256+j2):=by omega
  have HJ2:=aa hj2;clear hj2;refine al [some 15,none] (by kernel_rfl) (by kernel_rfl) (by kernel_rfl) ?_;simp only[bc,List.take_succ_cons,List.take_zero,List.drop_succ_cons,List.drop_zero]
  repeat (first | (refine aw rfl ?_; simp only[Act.put,aG,aH,aI]) | (refine aB rfl (fun K hK=> ?_); go_simp; refine hK _ ?_; clear hK K))
  refine aA ?_;refine bg rfl (fun K hK=> ?_);go_wp2_with fail
  go_end0
  refine⟨rfl,⟨_,eG (eG (show X.drew.heap[rb]? =_ from HBX.out) _) _, ?_, ?_, ?_⟩,bA (bA (iw HGX.out) _ _) _ _⟩
  ·rw[HJ2.out];have hlen:=(iP n d).symm;refine HR.out.push (b:=b) (q:=l) (s2:=s2) (n2:=n2) ?_ ?_ hs264 ?_ ?_ ?_ ?_ ?_ hW2 ?_
   ·intro i hi;rw[List.getElem?_set_ne (by omega),List.getElem?_set_ne (by omega),List.getElem?_set_ne (by omega),HC1.out,List.getElem?_set_ne (by omega)]
   ·exact HCX.out.1
   ·rw[HC1.out]; simp; omega
   ·rw[List.getElem?_set_ne (by omega),List.getElem?_set_ne (by omega),List.getElem?_set_self (by rw[HC1.out]; simp; omega),HH2.out,HH1.out,HT.out.1,HT.out.2,HX.out.2.2.1,px hW (by have:=HN.out; omega),HX.out.1];have:=sZ (lQ seed) x b l (by omega);rw[hll]at this;unfold lk;rw[this]
    rfl
   ·rw[px hW (by have:=HN.out; omega),HX.out.1]; rfl
   ·have:=HN2.out; omega
   ·have:=HN2.out; omega
   ·intro j c hc;have hjl:=(List.getElem?_eq_some_iff.1 hc).1;rw[List.getElem?_set_ne (by omega),List.getElem?_set_ne (by omega),List.getElem?_set_ne (by omega),HC1.out,List.getElem?_set_ne (by omega)];have:=HSW.out (j+1) c (by rw[HX.out.1]; exact hc);rw[show(s2+j)%64=(s+(j+1))%64 by have:=HS2.out; omega];exact this
  ·rw[HC1.out]; simp
  ·intro i hi;have:=HJ2.out;rw[List.getElem?_set_ne (by omega),List.getElem?_set_ne (by omega),List.getElem?_set_ne (by omega),List.getElem?_set_ne (by omega),List.getElem?_set_ne (by omega),HC1.out,List.getElem?_set_ne (by omega)]
 ·go_wp2_with fail;obtain⟨X,hX⟩: ∃X:World,X=U1:=⟨_,rfl⟩;rw[<-hX];obtain⟨s2,hs2⟩: ∃s2,s2=s:=⟨_,rfl⟩;obtain⟨n2,hn2⟩: ∃n2,n2=n:=⟨_,rfl⟩;have HBX:=aa (show X.heap[rb]? =some (.cells cs1.toArray ty (0,0)) by rw[hX]; exact HBU1.out);have HGX:=aa (show w.grownBy X (some rb) by rw[hX]; exact HGU1.out);have HCX:=aa (show cs1[321]? =some (.int .i64 (s2:Int))/\cs1[322]? =some (.int .i64 (n2:Int))from⟨by rw[HC1.out,List.getElem?_set_ne (by decide),HSC.out,hs2],by rw[HC1.out,List.getElem?_set_ne (by decide),HLN.out,hn2]⟩)
  have HRX:=aa (show ∀j,j<64-> ∃c,cs1[256+j]? =some (aW c)from fun j hj=>by
   rw[HC1.out,List.getElem?_set_ne (by omega)];exact HR.out.rng j hj)
  have hs264:s2<64:=by omega
  have hn264:n2<64:=by have:=HN.out; omega
  have HS2:=aa hs2;have HN2:=aa hn2;clear hX hs2 hn2;have hbt2:=hbt;obtain⟨j2,hj2⟩: ∃j2,j2=(s2+n2)%64:=⟨_,rfl⟩;have hj64:j2<64:=by omega
  have hj64i:(j2:Int)<64:=by omega
  have hadd:IntKind.i64.wrap ((s2:Int)+(n2:Int))=(s2:Int)+(n2:Int):=by rw[IntKind.wrap_i64]; omega
  have hmod:((s2:Int)+(n2:Int))%64=(j2:Int):=by omega
  have hmod2:Int.tmod ((s2:Int)+(n2:Int)) 64=(j2:Int):=by rw[Int.tmod_eq_emod_of_nonneg (by omega)]; omega
  have hmod3:IntKind.i64.wrap (j2:Int)=(j2:Int):=by rw[IntKind.wrap_i64]; omega
  have hinc:IntKind.i64.wrap ((n2:Int)+1)=((n2+1:Nat):Int):=by rw[IntKind.wrap_i64]; omega
  have c321:X.cell? ⟨rb,321,none⟩=some (.int .i64 (s2:Int)):=by rw[bh HBX.out,HCX.out.1]
  have c322:X.cell? ⟨rb,322,none⟩=some (.int .i64 (n2:Int)):=by rw[bh HBX.out,HCX.out.2]
  have cf1:X.frozen? ⟨rb,256+j2,none⟩=false:=frozen_of_row X _ _ _ _ HBX.out;have cf2:X.frozen? ⟨rb,322,none⟩=false:=frozen_of_row X _ _ _ _ HBX.out;obtain⟨bj,hbj⟩:=HRX.out j2 hj64;have cbj:X.cell? ⟨rb,256+j2,none⟩=some (aW bj):=by rw[bh HBX.out,hbj]
  clear hbj;have hne1: ¬(256+j2=322):=by omega
  have hne2: ¬(322=256+j2):=by omega
  have HJ2:=aa hj2;clear hj2;refine al [some 15,none] (by kernel_rfl) (by kernel_rfl) (by kernel_rfl) ?_;simp only[bc,List.take_succ_cons,List.take_zero,List.drop_succ_cons,List.drop_zero]
  repeat (first | (refine aw rfl ?_; simp only[Act.put,aG,aH,aI]) | (refine aB rfl (fun K hK=> ?_); go_simp; refine hK _ ?_; clear hK K))
  refine aA ?_;refine bg rfl (fun K hK=> ?_);go_wp2_with fail
  go_end0
  have hdl:d.length<W:=by have:=HN.out; omega
  refine⟨rfl,⟨_,eG (eG (show X.drew.heap[rb]? =_ from HBX.out) _) _, ?_, ?_, ?_⟩,bA (bA (iw HGX.out) _ _) _ _⟩
  ·rw[HJ2.out];refine HR.out.push (b:=b) (q:=gx W d) (s2:=s2) (n2:=n2) ?_ ?_ hs264 ?_ ?_ (pw hdl b) ?_ ?_ hW2 ?_
   ·intro i hi;rw[HC1.out,List.getElem?_set_ne (by omega)]
   ·exact HCX.out.1
   ·rw[HC1.out]; simp; omega
   ·rw[HC1.out,List.getElem?_set_self (by omega),HH1.out,HT.out.1,HT.out.2,pw hdl];unfold lk;rw[fG]
   ·rw[iP,<-HN.out,HN2.out]
   ·have:=HN2.out; have:=HN.out; omega
   ·intro j c hc;rw[HC1.out,List.getElem?_set_ne (by omega),HS2.out];exact HSW.out j c hc
  ·rw[HC1.out]; simp
  ·intro i hi;have:=HJ2.out;rw[List.getElem?_set_ne (by omega),List.getElem?_set_ne (by omega),HC1.out,List.getElem?_set_ne (by omega)]
structure qk (w : World) : Prop where
 tab:TabAt 5 Lib.deBruijn64tab w
 lt:5<w.heap.size
theorem qk.block {w w':World} (h:qk w) (hb:w'.heap[5]? =w.heap[5]?) (hs:w.heap.size<=w'.heap.size):qk w':=
 ⟨fun j hj=>by rw[<-h.tab j hj]; exact World.cell?_of_block hb,Nat.lt_of_lt_of_le h.lt hs⟩
theorem qk.below {w0 w w':World} (h:qk w) (hb:Below w0.heap.size w w') (hlt:5<w0.heap.size):qk w':=h.block (hb.block _ hlt) hb.size
theorem qk.grown {w w':World} {r:Option Nat} (h:qk w) (hg:w.grownBy w' r) (hr:r≠some 5):qk w':=h.block (hg.block _ h.lt (fun e=>hr e.symm)) hg.size
theorem iE (rb n:Nat) (w:World) (h:w.cell? ⟨rb,322,none⟩=some (.int .i64 (n:Int))):Calls Tryz.prog 196 #[.pointer (some ⟨rb,0,none⟩)] w fun e w'=>e= .returned (.int .i64 (n:Int))/\w=w':=by
 go_enter Tryz.func196,Tryz.ntmps196
 go_wp2_with fail;go_ret;exact⟨rfl,rfl⟩
theorem iF (rb n:Nat) (w:World) (h:w.cell? ⟨rb,323,none⟩=some (.int .u64 (n:Int))):Calls Tryz.prog 198 #[.pointer (some ⟨rb,0,none⟩)] w fun e w'=>e= .returned (.int .u64 (n:Int))/\w=w':=by
 go_enter Tryz.func198,Tryz.ntmps198
 go_wp2_with fail;go_ret;exact⟨rfl,rfl⟩
theorem wZ (x:Nat) (w:World) (hx:x<18446744073709551616) (hT:qk w):Calls Tryz.prog 197 #[.int .u64 (x:Int)] w fun e w'=>e= .returned (.int .i64 ((Lib.ctz 64 x:Nat):Int))/\w=w':=by
 go_enter Tryz.func197,Tryz.ntmps197
 go_wp2_with fail;refine(Tryz.bits_TrailingZeros64 x hx w (fun _=>hT.tab)).mono ?_;rintro e w' ⟨rfl,rfl⟩;go_wp2_with fail;go_ret;exact⟨rfl,rfl⟩
def pU (c:dV) (data:List UInt8) (p:Nat):Bool:=Aw c.seed c.win.toNat c.bits.toNat (data.take p)
structure kX (c : dV) (data : List UInt8) (p : Nat) (cs : List Value) : Prop where
 roll:ji c.seed c.win.toNat (data.take p) cs
 len:cs.length=331
 cut: ∀i,i<5->cs[324+i]? =(bX c)[i]?
 pos:cs[329]? =some (.int .i64 (p:Int))
 last:cs[330]? =some (.int .i64 (gV (pU c data) c.mn.toNat p))
theorem ru (mk:Nat->Bool) (mn p:Nat): -(mn:Int)<=gV mk mn p/\gV mk mn p<=(p:Int):=by
 rcases tk (mk:=mk) (mn:=mn) p with⟨h,_⟩ | ⟨L,h,h1,h2,_⟩<;> rw[h]<;> omega
theorem yM (c:dV) (data:List UInt8) (p:Nat) (b:UInt8) (mb:Nat) (ty:TypeId) (cs:List Value) (w:World) (hc:ep c=true) (hb:data[p]? =some b) (hp:data.length<=1048576) (hbox:w.heap[mb]? =some (.cells cs.toArray ty (0,0))) (hm:kX c data p cs) (hT:qk w) (hmb:mb≠5):
  Calls Tryz.prog 176 #[.pointer (some ⟨mb,0,none⟩), .int .u8 (b.toNat:Int)] w fun e w'=>e= .returned (.bool (nd (pU c data) c.mn.toNat (p+1)))/\(∃cs',w'.heap[mb]? =some (.cells cs'.toArray ty (0,0))/\kX c data (p+1) cs')/\w.grownBy w' (some mb):=by
 have hv:=em.1 hc;have HV:=aa hv;have HM:=aa hm;have HBX:=aa hbox;have HT:=aa hT;have hpl:=(List.getElem?_eq_some_iff.1 hb).1;have htk:data.take (p+1)=data.take p++[b]:=by rw[List.take_add_one,hb]; rfl
 have HTK:=aa htk;obtain⟨W,hW⟩: ∃W,W=c.win.toNat:=⟨_,rfl⟩;obtain⟨B,hB⟩: ∃B,B=c.bits.toNat:=⟨_,rfl⟩;obtain⟨mn,hmn⟩: ∃mn,mn=c.mn.toNat:=⟨_,rfl⟩;have hWi:c.win=(W:Int):=by omega
 have hBi:c.bits=(B:Int):=by omega
 have hmi:c.mn=(mn:Int):=by omega
 have hW1:1<=W:=by omega
 have hW2:W<=64:=by omega
 have HI:=aa (And.intro hW (And.intro hB (And.intro hmn (And.intro hWi (And.intro hBi hmi)))));clear hc hm hbox hT hb htk hv hW hB hmn hWi hBi hmi
 go_enter Tryz.func176,Tryz.ntmps176
 go_wp2_with fail;refine(yq mb ty c.seed W (data.take p) b cs w HBX.out (by have:=HM.out.roll; rw[<-HI.out.1]at this; exact this) hW1 hW2).mono ?_;rintro e w1 ⟨rfl,⟨cs1,hb1,hr1,hl1,hk1⟩,hg1⟩;have HB1:=aa hb1;have HR1:=aa hr1;have HK1:=aa hk1;have HL1:=aa (hl1.trans HM.out.len);have HG1:=aa hg1;have HT1:=aa (HT.out.grown hg1 (fun e=>hmb (Option.some.inj e)));clear hb1 hr1 hk1 hl1 hg1
 have c329:w1.cell? ⟨mb,329,none⟩=some (.int .i64 (p:Int)):=by rw[bh HB1.out,HK1.out _ (by decide),HM.out.pos]
 have cf:w1.frozen? ⟨mb,329,none⟩=false:=frozen_of_row w1 _ _ _ _ HB1.out;have hinc:IntKind.i64.wrap ((p:Int)+1)=((p+1:Nat):Int):=by rw[IntKind.wrap_i64]; omega
 go_wp2_with fail;obtain⟨cs2,hcs2⟩: ∃cs2,cs2=cs1.set 329 (.int .i64 (((p:Nat):Int)+1)):=⟨_,rfl⟩;obtain⟨U,hU⟩: ∃U:World,U=w1.setCell ⟨mb,329,none⟩ (.int .i64 (((p:Nat):Int)+1)):=⟨_,rfl⟩;rw[<-hU];have HBU:=aa (show U.heap[mb]? =some (.cells cs2.toArray ty (0,0)) by rw[hU,hcs2]; exact eG HB1.out _);have HGU:=aa (show w.grownBy U (some mb) by rw[hU]; exact bA HG1.out _ _)
 have HTU:=aa (show qk U by rw[hU]; exact HT1.out.grown (bm _ _ _ _) (fun e=>hmb (Option.some.inj e)));have HC2:=aa hcs2;have HL2:=aa (show cs2.length=331 by rw[hcs2,List.length_set]; exact HL1.out);clear hU hcs2 c329 cf hinc;obtain⟨n,hn⟩: ∃n,n=min W (p+1):=⟨_,rfl⟩;obtain⟨h,hh⟩: ∃h,h=lk c.seed (gx W (data.take (p+1))):=⟨_,rfl⟩;have hhl:h<18446744073709551616:=by rw[hh]; exact qW _ _
 obtain⟨z,hz⟩: ∃z,z=Lib.ctz 64 h:=⟨_,rfl⟩;obtain⟨la,hla⟩: ∃la,la=gV (pU c data) mn p:=⟨_,rfl⟩;have hlr: -(mn:Int)<=la/\la<=(p:Int):=by rw[hla]; exact ru _ _ _
 have c322:U.cell? ⟨mb,322,none⟩=some (.int .i64 (n:Int)):=by
  rw[bh HBU.out,HC2.out,List.getElem?_set_ne (by decide),HR1.out.len,hn,List.length_append,List.length_take,List.length_cons,List.length_nil,Nat.min_eq_left (by omega:p<=data.length)]
 have c323:U.cell? ⟨mb,323,none⟩=some (.int .u64 (h:Int)):=by
  rw[bh HBU.out,HC2.out,List.getElem?_set_ne (by decide),HR1.out.sum,hh,HTK.out]
 have c324:U.cell? ⟨mb,324,none⟩=some (.int .i64 (mn:Int)):=by
  rw[bh HBU.out,HC2.out,List.getElem?_set_ne (by decide),HK1.out _ (by decide),HM.out.cut 0 (by decide),<-HI.out.2.2.2.2.2]; rfl
 have c326:U.cell? ⟨mb,326,none⟩=some (.int .i64 (W:Int)):=by
  rw[bh HBU.out,HC2.out,List.getElem?_set_ne (by decide),HK1.out _ (by decide),HM.out.cut 2 (by decide),<-HI.out.2.2.2.1]; rfl
 have c327:U.cell? ⟨mb,327,none⟩=some (.int .i64 (B:Int)):=by
  rw[bh HBU.out,HC2.out,List.getElem?_set_ne (by decide),HK1.out _ (by decide),HM.out.cut 3 (by decide),<-HI.out.2.2.2.2.1]; rfl
 have c329:U.cell? ⟨mb,329,none⟩=some (.int .i64 ((p:Int)+1)):=by
  rw[bh HBU.out,HC2.out,List.getElem?_set_self (by rw[HL1.out]; decide)]
 have c330:U.cell? ⟨mb,330,none⟩=some (.int .i64 la):=by
  rw[bh HBU.out,HC2.out,List.getElem?_set_ne (by decide),HK1.out _ (by decide),HM.out.last,hla,HI.out.2.2.1]
 have hmk:pU c data (p+1)=(decide (W<=n) && decide (B<=z)):=by
  unfold pU Aw;rw[<-HI.out.1,<-HI.out.2.1,hz,hh]
  congr 1
  rw[decide_eq_decide,List.length_take]; omega
 have HMK:=aa hmk;have HH:=aa (And.intro hn (And.intro hh (And.intro hz hla)));have HDQ:=aa (show ∀n,qk (U.drewN n)from fun n=>HTU.out.block rfl (Nat.le_refl _));clear hn hh hz hla hmk;have HZ:=aa (show ∀m,Calls Tryz.prog 197 #[.int .u64 (h:Int)] (U.drewN m) fun e w'=>e= .returned (.int .i64 (z:Int))/\U.drewN m=w' from fun m=>by rw[HH.out.2.2.1]; exact wZ h (U.drewN m) hhl (HDQ.out m))
 have HRO:=aa (show ji c.seed c.win.toNat (data.take (p+1)) cs2 by
  rw[<-HI.out.1,HTK.out,HC2.out];have h:=HR1.out;refine⟨fun i hi=> ?_,fun j hj=> ?_, ?_, ?_, ?_, ?_⟩
  ·rw[List.getElem?_set_ne (by omega)]; exact h.tab i hi
  ·rw[List.getElem?_set_ne (by omega)]; exact h.rng j hj
  ·rw[List.getElem?_set_ne (by omega)]; exact h.win
  ·obtain⟨s,h1,h2,h3⟩:=h.st;refine⟨s,h1,by rw[List.getElem?_set_ne (by omega)]; exact h2,fun j b hb=>by rw[List.getElem?_set_ne (by omega)]; exact h3 j b hb⟩
  ·rw[List.getElem?_set_ne (by omega)]; exact h.len
  ·rw[List.getElem?_set_ne (by omega)]; exact h.sum)
 have HCU:=aa (show ∀i,i<5->cs2[324+i]? =(bX c)[i]? from fun i hi=>by
  rw[HC2.out,List.getElem?_set_ne (by omega),HK1.out _ (by omega)]; exact HM.out.cut i hi)
 have HPO:=aa (show cs2[329]? =some (.int .i64 ((p+1:Nat):Int)) by rw[HC2.out,List.getElem?_set_self (by rw[HL1.out]; decide)]; rfl);have HLA:=aa (show cs2[330]? =some (.int .i64 la) by rw[HC2.out,List.getElem?_set_ne (by decide),HK1.out _ (by decide),HM.out.last,HH.out.2.2.2,HI.out.2.2.1]);have HNO:=aa (show pU c data (p+1)=false->(nd (pU c data) c.mn.toNat (p+1)=false/\kX c data (p+1) cs2)from fun h0=>⟨by rw[nd,h0]; rfl,{
  roll:=HRO.out
  len:=HL2.out
  cut:=HCU.out
  pos:=HPO.out
  last:=by rw[gV,if_neg (by rw[h0]; decide),<-HI.out.2.2.1,<-HH.out.2.2.2]; exact HLA.out}⟩)
 by_cases h1:n<W
 ·have h1i:(n:Int)<(W:Int):=by omega
  go_quiet ((first | (go_at_call 196; refine dI (iE mb n _ c322)) | (go_at_call 198; refine dI (iF mb h _ c323)) | (go_at_call 197; refine dI (HZ.out _))))
  go_wp2_with fail;go_ret;have hno:=HNO.out (by rw[HMK.out,decide_eq_false (by omega)]; rfl);exact⟨ak hno.1.symm,⟨cs2,HBU.out,hno.2⟩,fU HGU.out _⟩
 ·have h1i:(W:Int)<=(n:Int):=by omega
  have h1j: ¬(n:Int)<(W:Int):=by omega
  by_cases h2:z<B
  ·have h2i:(z:Int)<(B:Int):=by omega
   go_quiet ((first | (go_at_call 196; refine dI (iE mb n _ c322)) | (go_at_call 198; refine dI (iF mb h _ c323)) | (go_at_call 197; refine dI (HZ.out _))))
   go_wp2_with fail;go_ret;have hno:=HNO.out (by rw[HMK.out,decide_eq_false (by omega: ¬B<=z),Bool.and_false]);exact⟨ak hno.1.symm,⟨cs2,HBU.out,hno.2⟩,fU HGU.out _⟩
  ·have h2i:(B:Int)<=(z:Int):=by omega
   have h2j: ¬(z:Int)<(B:Int):=by omega
   go_quiet ((first | (go_at_call 196; refine dI (iE mb n _ c322)) | (go_at_call 198; refine dI (iF mb h _ c323)) | (go_at_call 197; refine dI (HZ.out _))))
   go_wp2_with fail;have cf:U.frozen? ⟨mb,330,none⟩=false:=frozen_of_row U _ _ _ _ HBU.out;have hsub:IntKind.i64.wrap ((p:Int)+1-la)=(p:Int)+1-la:=by have:=HV.out; have:=HI.out; rw[IntKind.wrap_i64]; omega
   go_quiet (fail)
   go_wp2_with fail;go_ret;have hyes:pU c data (p+1)=true:=by rw[HMK.out,decide_eq_true (by omega:W<=n),decide_eq_true (by omega:B<=z)]; rfl
   refine⟨ak ?_,⟨cs2.set 330 (.int .i64 ((p:Int)+1)),eG (show(U.drewN _).heap[mb]? =_ from HBU.out) _, ?_⟩,bA (fU HGU.out _) _ _⟩
   ·rw[nd,hyes,Bool.true_and,<-HI.out.2.2.1,<-HH.out.2.2.2,decide_eq_decide]; simp
   ·have h:=HRO.out;have hcu:=HCU.out;refine⟨⟨fun i hi=> ?_,fun j hj=> ?_, ?_, ?_, ?_, ?_⟩,by rw[List.length_set]; exact HL2.out,fun i hi=> ?_, ?_, ?_⟩
    ·rw[List.getElem?_set_ne (by omega)]; exact h.tab i hi
    ·rw[List.getElem?_set_ne (by omega)]; exact h.rng j hj
    ·rw[List.getElem?_set_ne (by omega)]; exact h.win
    ·obtain⟨s,h1,h2,h3⟩:=h.st;refine⟨s,h1,by rw[List.getElem?_set_ne (by omega)]; exact h2,fun j b hb=>by rw[List.getElem?_set_ne (by omega)]; exact h3 j b hb⟩
    ·rw[List.getElem?_set_ne (by omega)]; exact h.len
    ·rw[List.getElem?_set_ne (by omega)]; exact h.sum
    ·rw[List.getElem?_set_ne (by omega)]; exact hcu i hi
    ·rw[List.getElem?_set_ne (by omega)]; exact HPO.out
    ·rw[List.getElem?_set_self (by rw[HL2.out]; decide),gV,if_pos hyes]; rfl
end Go.Proofs.YtnjkpcalgoefhaaGreatDoor
namespace Go.Proofs.YtnjkpcalgoefhaaGreatDoor
open Go.RowKit
structure aY where
 sum:ByteArray
 size:Int
deriving DecidableEq
structure au where
 path:ByteArray
 kind:Int
 mode:Int
 time:Int
 size:Int
 link:ByteArray
 parts:List aY
deriving DecidableEq
structure dn where
 tm:Int
 files:List au
def fj (f:au):bi:=⟨f.path,f.kind,f.mode,f.time,[],f.link⟩
def ia (l:List aY):Int:=l.foldl (fun a p=>wrap64 (a+p.size)) 0
theorem pn (l:List aY) (p:aY):ia (l++[p])=wrap64 (ia l+p.size):=by unfold ia; rw[List.foldl_append]; rfl
def fP (p:aY):Bool:=decide (p.sum.size=32) && decide (1<=p.size) && decide (p.size<=32768)
def cr (f:au):Bool:=if f.kind=1 then f.parts.all fP && (decide (f.size=ia f.parts) && decide (ia f.parts<=1048576))else decide (f.size=0) && decide (f.parts=[])
def cZ (x:dn):Bool:=decide (0<=x.tm) && decide (x.files.length<=4096) && x.files.all cr && decide (bL (x.files.map fj)=0)
def gZ (c:List UInt8):ByteArray:=⟨(tP c).toArray⟩
def bw (c:List UInt8):aY:=⟨gZ c,(c.length:Int)⟩
def eZ (tm:Int) (f:au) (e:bi):Bool:=decide (f.path=e.path) && decide (f.kind=1) && decide (e.kind=1) && (decide (f.time=e.time) && decide (f.size=(e.data.length:Int)) && decide (e.time<tm))
def eh (l:List au) (p:ByteArray):Option au:=l.find? fun f=>decide (f.path=p)
def nD (tm:Int) (prev:List au) (e:bi):Bool:=decide (e.kind=1) && (match eh prev e.path with | some f=>eZ tm f e | none=>false)
def oX (tm:Int) (prev:List au) (e:bi):Bool:=decide (e.kind=1) && !nD tm prev e
def bM (c:dV) (data:List UInt8):List (List UInt8):=dy data 0 (qO (pU c data) c.mn.toNat c.mx.toNat data.length)
def dt (tm:Int) (prev:List au) (c:dV) (e:bi):List aY:=
 if e.kind=1 then(match eh prev e.path with | some f=>if eZ tm f e=true then f.parts else(bM c e.data).map bw | none=>(bM c e.data).map bw)else []
def et (tm:Int) (prev:List au) (c:dV) (e:bi):au:=⟨e.path,e.kind,e.mode,e.time,(e.data.length:Int),e.link,dt tm prev c e⟩
instance decMemB (x : ByteArray) (l : List ByteArray) : Decidable (x ∈ l) := decidable_of_iff (∃ y ∈ l, y = x) ⟨fun ⟨_, h, e⟩ => e ▸ h, fun h => ⟨x, h, rfl⟩⟩
def kI (l:List ByteArray) (x:ByteArray):List ByteArray:=if x∈l then l else l++[x]
def jn (fs:List au):List ByteArray:=(fs.flatMap au.parts).foldl (fun l p=>kI l p.sum) []
def bu (s:List ByteArray×List (List UInt8)) (c:List UInt8):List ByteArray×List (List UInt8):=if gZ c∈s.1 then s else(s.1++[gZ c],s.2++[c])
def nU (rs:List aN) (e:bi):Bool:=(cN rs (bl e.path) (decide (e.kind=2))).1
def cC (rs:List aN) (T:List bi):List bi:=T.filter fun e=> !nU rs e
structure jh where
 files:List au
 known:List ByteArray
 news:List (List UInt8)
 read:Nat
 kept:Nat
def cV (tm:Int) (prev:List au) (c:dV) (K:List bi):jh:=
 ⟨K.map (et tm prev c),(((K.filter (oX tm prev)).flatMap fun e=>bM c e.data).foldl bu (jn prev,[])).1,(((K.filter (oX tm prev)).flatMap fun e=>bM c e.data).foldl bu (jn prev,[])).2,(K.filter (oX tm prev)).length,(K.filter (nD tm prev)).length⟩
def fF (f g:au):Int:=if f.kind=g.kind/\f.link=g.link/\f.parts=g.parts then(if f.mode=g.mode/\f.time=g.time then 0 else 3)else 2
def gY :Nat->List au->List au->List (ByteArray×Int)
 | 0,_,_=>[]
 | _+1,[],[]=>[]
 | n+1,a::ar,[]=>(a.path,4)::gY n ar []
 | n+1,[],b::br=>(b.path,1)::gY n [] br
 | n+1,a::ar,b::br=>
  if bH (bl a.path) (bl b.path)<0 then(a.path,4)::gY n ar (b::br)
  else if 0<bH (bl a.path) (bl b.path)then(b.path,1)::gY n (a::ar) br
  else if fF a b=0 then gY n ar br else(b.path,fF a b)::gY n ar br
def nO (a b:List au):List (ByteArray×Int):=gY (a.length+b.length) a b
structure xl where
 idx:dn
 chg:List (ByteArray×Int)
 news:List (List UInt8)
 read:Nat
 kept:Nat
def el (prev:dn) (at':Int) (tree:List bi) (rules:List UInt8) (c:dV):Except Int xl:=
 if cZ prev=true/\prev.tm<=at'/\ep c=true then
  (if(bS rules).2.2=0 then
   (if bL tree=0 then
    .ok ⟨⟨at',(cV prev.tm prev.files c (cC (bS rules).1 tree)).files⟩,nO prev.files (cV prev.tm prev.files c (cC (bS rules).1 tree)).files,
     (cV prev.tm prev.files c (cC (bS rules).1 tree)).news,(cV prev.tm prev.files c (cC (bS rules).1 tree)).read,(cV prev.tm prev.files c (cC (bS rules).1 tree)).kept⟩
   else .error (bL tree))
  else .error (bS rules).2.2)
 else .error 1
theorem AY {tm:Int} {prev:List au} {e:bi} (h:nD tm prev e=true):oX tm prev e=false:=by unfold oX; rw[h]; simp
theorem wA {tm:Int} {prev:List au} {c:dV} {K:List bi} {e:bi} (h:nD tm prev e=true):
  cV tm prev c (K++[e])=⟨(cV tm prev c K).files++[et tm prev c e],(cV tm prev c K).known,(cV tm prev c K).news,(cV tm prev c K).read,(cV tm prev c K).kept+1⟩:=by
 simp[cV,List.filter_append,h,AY h]
theorem wC {tm:Int} {prev:List au} {c:dV} {K:List bi} {e:bi} (h:oX tm prev e=true):
  cV tm prev c (K++[e])=⟨(cV tm prev c K).files++[et tm prev c e],((bM c e.data).foldl bu ((cV tm prev c K).known,(cV tm prev c K).news)).1,((bM c e.data).foldl bu ((cV tm prev c K).known,(cV tm prev c K).news)).2,(cV tm prev c K).read+1,(cV tm prev c K).kept⟩:=by
 have h2:nD tm prev e=false:=by
  unfold oX at h; rw[Bool.and_eq_true]at h; simpa using h.2
 simp[cV,List.filter_append,h,h2,List.foldl_append]
theorem wB {tm:Int} {prev:List au} {c:dV} {K:List bi} {e:bi} (h:e.kind≠1):
  cV tm prev c (K++[e])=⟨(cV tm prev c K).files++[et tm prev c e],(cV tm prev c K).known,(cV tm prev c K).news,(cV tm prev c K).read,(cV tm prev c K).kept⟩:=by
 have h1:oX tm prev e=false:=by unfold oX; simp[h]
 have h2:nD tm prev e=false:=by unfold nD; simp[h]
 simp[cV,List.filter_append,h1,h2]
theorem vu {rs:List aN} {T:List bi} {e:bi} (h:nU rs e=true):cC rs (T++[e])=cC rs T:=by simp[cC,List.filter_append,h]
theorem vw {rs:List aN} {T:List bi} {e:bi} (h:nU rs e=false):cC rs (T++[e])=cC rs T++[e]:=by simp[cC,List.filter_append,h]
theorem uG {l:List ByteArray} {x y:ByteArray} :y∈kI l x<->y∈l\/y=x:=by
 unfold kI; split
 ·rename_i h;exact⟨.inl,fun h2=>h2.elim id (fun e=>by rw[e]; exact h)⟩
 ·simp
theorem xX (ps:List aY): ∀(l:List ByteArray) (y:ByteArray),y∈ps.foldl (fun l p=>kI l p.sum) l<->y∈l\/ ∃p∈ps,p.sum=y:=by
 induction ps with
 | nil=>intro l y; simp
 | cons p ps ih=>
  intro l y;rw[List.foldl_cons,ih,uG];simp only[List.mem_cons]
  constructor
  ·rintro((h | h) | ⟨q,h1,h2⟩)
   ·exact .inl h
   ·exact .inr ⟨p, .inl rfl,h.symm⟩
   ·exact .inr ⟨q, .inr h1,h2⟩
  ·rintro(h | ⟨q,rfl | h1,h2⟩)
   ·exact .inl (.inl h)
   ·exact .inl (.inr h2.symm)
   ·exact .inr ⟨q,h1,h2⟩
theorem qE {fs:List au} {y:ByteArray} :y∈jn fs<-> ∃f∈fs,∃p∈f.parts,p.sum=y:=by
 unfold jn;rw[xX];simp only[List.not_mem_nil,false_or,List.mem_flatMap];exact⟨fun⟨p,⟨f,h1,h2⟩,h3⟩=>⟨f,h1,p,h2,h3⟩,fun⟨f,h1,p,h2,h3⟩=>⟨p,⟨f,h1,h2⟩,h3⟩⟩
theorem gr {l:List au} {p:ByteArray} {f:au} (h:eh l p=some f):f∈l/\f.path=p:=
 ⟨List.mem_of_find?_eq_some h,by have:=List.find?_some h; simpa using this⟩
theorem Am {tm:Int} {prev:List au} {e:bi} :nD tm prev e=true<->e.kind=1/\ ∃f,eh prev e.path=some f/\f.kind=1/\f.time=e.time/\f.size=(e.data.length:Int)/\e.time<tm:=by
 unfold nD eZ
 cases h:eh prev e.path with
 | none=>simp
 | some f=>
  have:=(gr h).2;simp[this,and_assoc];exact fun h _ _ _ _=>h
theorem yl {tm:Int} {prev:List au} {c:dV} {e:bi} (h:nD tm prev e=true): ∃f,eh prev e.path=some f/\dt tm prev c e=f.parts/\f.kind=1/\f.size=(e.data.length:Int):=by
 obtain⟨h1,f,h2,h3,h4,h5,h6⟩:=Am.1 h;refine⟨f,h2, ?_,h3,h5⟩;unfold dt eZ;rw[if_pos h1,h2];simp[(gr h2).2,h1,h3,h4,h5,h6]
theorem mY {tm:Int} {prev:List au} {c:dV} {e:bi} (h:oX tm prev e=true):dt tm prev c e=(bM c e.data).map bw:=by
 unfold oX at h;rw[Bool.and_eq_true,decide_eq_true_eq]at h;have h2:=h.2;unfold nD at h2;unfold dt;rw[if_pos h.1]
 cases hf:eh prev e.path with
 | none=>rfl
 | some f=>
  rw[hf]at h2;simp[h.1]at h2;simp[h2]
theorem zG {tm:Int} {prev:List au} {e:bi} (h:e.kind=1):nD tm prev e=true\/oX tm prev e=true:=by
 unfold oX
 cases nD tm prev e<;> simp[h]
theorem wX {n:Int} (h0:0<=n) (h1:n<=9223372036854775807):wrap64 n=n:=IntWalk.wrap64_in n ⟨by omega,h1⟩
theorem kL : ∀(ls:List (List UInt8)) (i:Nat) (acc rs:List aN) (n:Int),acc.length<=256->cz ls i acc=(rs,n,0)->rs.length<=256
 | [],i,acc,rs,n,ha,h=>by
  simp only[cz,Prod.mk.injEq]at h;rw[<-h.1]; exact ha
 | l::ls,i,acc,rs,n,ha,h=>by
  simp only[cz]at h
  split at h
  ·exact kL ls _ _ _ _ ha h
  ·split at h
   ·simp at h
   ·split at h
    ·simp at h
    ·rename_i hne;exact kL ls _ _ _ _ (by simp; omega) h
theorem tz {l:List UInt8} {rs:List aN} {n:Int} (h:bS l=(rs,n,0)):rs.length<=256:=by
 unfold bS at h
 split at h
 ·simp at h
 ·exact kL _ _ _ _ _ (by simp) h
theorem xV {l:List UInt8} {rs:List aN} {n:Int} (h:bS l=(rs,n,0)): ∃us,aO rs=some us/\ ∀p d,bv p=true->cN rs p d=(bT d (ax 47 p) us (ax 47 p).length 1,0):=by
 obtain⟨⟨us,hu⟩,_⟩:=rD h;refine⟨us,hu,fun p d hp=> ?_⟩;have h2:=tz h;unfold cN;rw[if_neg (by rw[hp]; simp; omega),hu]
theorem AO {rs:List aN} {us:List (aN×List aJ)} (hi: ∀p d,bv p=true->cN rs p d=(bT d (ax 47 p) us (ax 47 p).length 1,0)) {e f:bi} (he:bv (bl e.path)=true) (hp:aL (bl e.path)≠[]) (hf:bl f.path=aL (bl e.path)) (hk:f.kind=2) (hn:nU rs e=false):nU rs f=false:=by
 rcases vK he with⟨h1,_⟩ | ⟨_,h2,h3⟩
 ·exact absurd h1 hp
 ·unfold nU at *;rw[hi _ _ he]at hn;rw[hf,hi _ _ h2,h3,hk]
  cases hx:bT true (ax 47 (bl e.path)).dropLast us (ax 47 (bl e.path)).dropLast.length 1
  ·simpa using hx
  ·have:=xu (dir:=decide (e.kind=2)) (parts:=ax 47 (bl e.path)) (us:=us) hx;simp only at hn;rw[this]at hn; cases hn
theorem pq : ∀(cs:List (List UInt8)) (a:Int),0<=a->a+(cs.flatten.length:Int)<=9223372036854775807->(cs.map bw).foldl (fun a p=>wrap64 (a+p.size)) a=a+(cs.flatten.length:Int)
 | [],a,_,_=>by simp
 | c::cs,a,h0,h=>by
  rw[List.flatten_cons,List.length_append]at h ⊢;rw[List.map_cons,List.foldl_cons];have e:wrap64 (a+(bw c).size)=a+(c.length:Int):=wX (by show 0<=a+(c.length:Int); omega) (by show a+(c.length:Int)<=_; omega);rw[e,pq cs _ (by omega) (by omega)];omega
theorem qH (c:dV) (data:List UInt8):(bM c data).flatten=data:=mZ
theorem Al {c:dV} {data:List UInt8} (h:data.length<=1048576):ia ((bM c data).map bw)=(data.length:Int):=by
 unfold ia;rw[pq _ 0 (by omega) (by rw[qH]; omega),qH]; omega
theorem jf (c:List UInt8):(gZ c).size=32:=yJ c
theorem my {c:dV} (hc:ep c=true) (data:List UInt8): ∀y∈bM c data,1<=y.length/\y.length<=c.mx.toNat:=by
 have hv:=em.1 hc;exact fun y hy=>vP (mx:=c.mx.toNat) (by omega) (oF) y hy
theorem xH {c:dV} (hc:ep c=true) (data:List UInt8):((bM c data).map bw).all fP=true:=by
 have hv:=em.1 hc;rw[List.all_eq_true];intro p hp;obtain⟨y,hy,rfl⟩:=List.mem_map.1 hp;have:=my hc data y hy
 show(decide ((gZ y).size=32) && decide ((1:Int)<=(y.length:Int)) && decide ((y.length:Int)<=32768))=true
 rw[jf];simp;omega
def bare (e:bi):bi:= {e with data:=[]}
theorem zm {e:bi} (h:bR e=true):bR (bare e)=true:=by
 obtain⟨pa,kd,md,tm,da,li⟩:=e
 show bR ⟨pa,kd,md,tm,[],li⟩=true
 unfold bR gL dQ at *;simp only[Bool.and_eq_true]at *;refine⟨h.1, ?_⟩;have h2:=h.2
 split at h2<;> rename_i hk
 ·rw[if_pos hk]; simp only[Bool.and_eq_true,decide_eq_true_eq,List.length_nil]at *; exact⟨by omega,h2.2⟩
 ·rw[if_neg hk]
  split at h2<;> rename_i hk2
  ·rw[if_pos hk2]; simp only[Bool.and_eq_true,decide_eq_true_eq,List.length_nil]at *; exact⟨trivial,h2.2⟩
  ·rw[if_neg hk2]
   split at h2<;> rename_i hk3
   ·rw[if_pos hk3]; simp only[Bool.and_eq_true,decide_eq_true_eq,List.length_nil]at *; exact⟨trivial,h2.2⟩
   ·cases h2
theorem kj {rs:List aN} {T:List bi} {e:bi} (h:e∈cC rs T):e∈T/\nU rs e=false:=by
 unfold cC at h;rw[List.mem_filter]at h;exact⟨h.1,by simpa using h.2⟩
theorem sR {rules:List UInt8} {rs:List aN} {n:Int} {T:List bi} (hr:bS rules=(rs,n,0)) (hT:bL T=0):bL ((cC rs T).map bare)=0:=by
 obtain⟨us,hu,hi⟩:=xV hr;have hT:=fD.1 hT;have hs:cT ((cC rs T).map bare):=by
  unfold cT;rw[List.pairwise_map];exact hT.ord.filter _
 refine fD.2 (Ak hs (fun e he=> ?_) (fun e he=> ?_) ?_)
 ·obtain⟨x,hx,rfl⟩:=List.mem_map.1 he;exact zm (hT.val x (kj hx).1)
 ·obtain⟨x,hx,rfl⟩:=List.mem_map.1 he;obtain⟨h1,h2⟩:=kj hx
  rcases hT.has h1 with h | ⟨f,h3,h4,h5⟩
  ·exact .inl h
  ·by_cases hp:aL (bl x.path)=[]
   ·exact .inl hp
   ·refine .inr ⟨bare f,List.mem_map_of_mem ?_,h4,h5⟩;unfold cC;rw[List.mem_filter];exact⟨h3,by rw[AO hi (bP (hT.val x h1)) hp h4 h5 h2]; rfl⟩
 ·rw[List.length_map];exact Nat.le_trans (List.length_filter_le _ _) hT.len
theorem kf {e:bi} (h:bR e=true):(e.kind=1->e.data.length<=1048576)/\(e.kind≠1->e.data=[]):=by
 unfold bR dQ at h;simp only[Bool.and_eq_true]at h;have h2:=h.2;refine⟨fun hk=> ?_,fun hk=> ?_⟩
 ·rw[if_pos hk]at h2; simp only[Bool.and_eq_true,decide_eq_true_eq]at h2; exact h2.1
 ·rw[if_neg hk]at h2
  split at h2
  ·simp only[Bool.and_eq_true,decide_eq_true_eq]at h2; exact List.length_eq_zero_iff.1 h2.1
  ·split at h2
   ·simp only[Bool.and_eq_true,decide_eq_true_eq]at h2; exact List.length_eq_zero_iff.1 h2.1
   ·cases h2
theorem nI {f:au} (h:f.kind=1):cr f=(f.parts.all fP && (decide (f.size=ia f.parts) && decide (ia f.parts<=1048576))):=by unfold cr; rw[if_pos h]
theorem sw {f:au} (h: ¬f.kind=1):cr f=(decide (f.size=0) && decide (f.parts=[])):=by unfold cr; rw[if_neg h]
theorem zA {tm:Int} {prev:List au} {c:dV} {e:bi} (hv:prev.all cr=true) (hc:ep c=true) (he:bR e=true):cr (et tm prev c e)=true:=by
 obtain⟨h1,h2⟩:=kf he
 by_cases hk:e.kind=1
 ·have hd:=h1 hk;rw[nI (show(et tm prev c e).kind=1 from hk)]
  show((dt tm prev c e).all fP && (decide ((e.data.length:Int)=ia (dt tm prev c e)) && decide (ia (dt tm prev c e)<=1048576)))=true
  rcases zG (tm:=tm) (prev:=prev) hk with h | h
  ·obtain⟨f,h3,h4,h5,h6⟩:=yl (c:=c) h;have h7:=List.all_eq_true.1 hv f (gr h3).1;rw[nI h5]at h7;rw[h4,<-h6];exact h7
  ·rw[mY h,xH hc,Al hd]
   simp; omega
 ·rw[sw (show ¬(et tm prev c e).kind=1 from hk)];have hp:dt tm prev c e=[]:=by unfold dt; rw[if_neg hk]
  show(decide ((e.data.length:Int)=0) && decide (dt tm prev c e=[]))=true
  rw[hp,h2 hk]; rfl
theorem AN {rules:List UInt8} {rs:List aN} {n:Int} {T:List bi} {prev:dn} {tm:Int} {c:dV} (hr:bS rules=(rs,n,0)) (hT:bL T=0) (hv:cZ prev=true) (ht:prev.tm<=tm) (hc:ep c=true):
  cZ ⟨tm,(cC rs T).map (et prev.tm prev.files c)⟩=true:=by
 have hb:=sR hr hT;have hT:=fD.1 hT;unfold cZ at *;simp only[Bool.and_eq_true,decide_eq_true_eq]at *;refine⟨⟨⟨by omega, ?_⟩, ?_⟩, ?_⟩
 ·rw[List.length_map]; exact Nat.le_trans (List.length_filter_le _ _) hT.len
 ·rw[List.all_eq_true];intro f hf;obtain⟨e,he,rfl⟩:=List.mem_map.1 hf;exact zA hv.1.2 hc (hT.val e (kj he).1)
 ·rw[List.map_map];exact hb
theorem vm (f:au):fF f f=0:=by simp[fF]
theorem qz : ∀(n:Nat) (l:List au),gY n l l=[]
 | 0,l=>by simp[gY]
 | n+1,[]=>by simp[gY]
 | n+1,a::l=>by
  have h:bH (bl a.path) (bl a.path)=0:=(jU _ _).2 rfl;simp[gY,h,vm,qz n l]
section
variable {tm later' : Int} {prev : List au} {c : dV} {K : List bi}
end
def AZ (l:List au):Prop:=l.Pairwise fun f g=>bH (bl f.path) (bl g.path)<0
theorem Bj {a b:ByteArray} (h:bH (bl a) (bl b)<0):a≠b:=by
 rintro rfl;rw[(jU _ _).2 rfl]at h; omega
theorem zD {x:dn} (h:cZ x=true):AZ x.files:=by
 unfold cZ at h;simp only[Bool.and_eq_true,decide_eq_true_eq]at h;have:=(fD.1 h.2).ord;unfold cT at this;rw[List.pairwise_map]at this;exact this
def ge {α:Type} [DecidableEq α] (lt:α->α->Bool):List α->α->List α
 | [],p=>[p]
 | q::P,p=>if lt q p=true then q::ge lt P p else if q=p then q::P else p::q::P
section
variable {α : Type} [DecidableEq α] {lt : α → α → Bool}
theorem mO {p q:α} : ∀ {P:List α},q∈ge lt P p<->q∈P\/q=p
 | []=>by simp[ge]
 | x::P=>by
  simp only[ge]
  split
  ·rw[List.mem_cons,List.mem_cons,mO (P:=P)]
   constructor
   ·rintro(h | h | h)<;> simp[h]
   ·rintro((h | h) | h)<;> simp[h]
  ·split
   ·rename_i h;subst h;simp only[List.mem_cons]
    constructor
    ·rintro(h | h)<;> simp[h]
    ·rintro((h | h) | h)<;> simp[h]
   ·simp only[List.mem_cons]
    constructor
    ·rintro(h | h | h)<;> simp[h]
    ·rintro((h | h) | h)<;> simp[h]
theorem rj (ht: ∀a b c,lt a b=true->lt b c=true->lt a c=true) (hc: ∀a b,lt a b=false->a≠b->lt b a=true) {p:α} : ∀ {P:List α},P.Pairwise (fun a b=>lt a b=true)->(ge lt P p).Pairwise (fun a b=>lt a b=true)
 | [],_=>by simp[ge]
 | x::P,h=>by
  have h2:=List.pairwise_cons.1 h;simp only[ge]
  split
  ·rename_i hx;refine List.pairwise_cons.2 ⟨fun q hq=> ?_,rj ht hc h2.2⟩
   rcases mO.1 hq with hq | rfl
   ·exact h2.1 q hq
   ·exact hx
  ·rename_i hx
   split
   ·exact h
   ·rename_i hne;have hpx:=hc x p (by simpa using hx) hne;refine List.pairwise_cons.2 ⟨fun q hq=> ?_,h⟩
    rcases List.mem_cons.1 hq with rfl | hq
    ·exact hpx
    ·exact ht _ _ _ hpx (h2.1 q hq)
theorem lP {p:α} : ∀ {P:List α} {k:Nat},k<=P.length->(∀(j:Nat) q,j<k->P[j]? =some q->lt q p=true)->(∀q,P[k]? =some q->lt q p=false)->ge lt P p=if P[k]? =some p then P else P.take k++[p]++P.drop k
 | [],k,hk,_,_=>by
  have:k=0:=by simpa using hk
  subst this;simp[ge]
 | x::P,0,_,_,h2=>by
  have:=h2 x rfl;simp only[ge,this]
  by_cases hx:x=p
  ·simp[hx]
  ·simp[hx]
 | x::P,k+1,hk,h1,h2=>by
  have hx:=h1 0 x (by omega) rfl;simp only[ge,hx,if_true];rw[lP (P:=P) (k:=k) (by simpa using hk) (fun j q hj hq=>h1 (j+1) q (by omega) (by simpa using hq)) (fun q hq=>h2 q (by simpa using hq))];simp only[List.getElem?_cons_succ,List.take_succ_cons,List.drop_succ_cons]
  split<;> simp
theorem rm (ht: ∀a b c,lt a b=true->lt b c=true->lt a c=true) (hc: ∀a b,lt a b=false->a≠b->lt b a=true): ∀(l P:List α),P.Pairwise (fun a b=>lt a b=true)->(l.foldl (ge lt) P).Pairwise (fun a b=>lt a b=true)
 | [],_P,h=>h
 | _x::l,_P,h=>rm ht hc l _ (rj ht hc h)
theorem uF {q:α} : ∀(l P:List α),q∈l.foldl (ge lt) P<->q∈P\/q∈l
 | [],P=>by simp
 | x::l,P=>by
  rw[List.foldl_cons,uF l,mO,List.mem_cons]
  constructor
  ·rintro((h | h) | h)<;> simp[h]
  ·rintro(h | h | h)<;> simp[h]
end
theorem je {p:ByteArray} :p.size=0<->bl p=[]:=by rw[am]; exact List.length_eq_zero_iff
def u8V (b:UInt8):Value:= .int .u8 (b.toNat:Int)
def bU (S:Nat->Prop) (w:World) (v:Value) (bs:List UInt8):Prop:=aD S w 1 v bs.length (bs.map u8V)
theorem bU.below {S:Nat->Prop} {w w':World} {v:Value} {bs:List UInt8} (h:bU S w v bs) (hb:Below w.heap.size w w'):bU S w' v bs:=aD.below h (by omega) hb
theorem bU.nil (S:Nat->Prop) (w:World):bU S w (.slice none 0 0) []:=aD.nil _ _ _
def mF (v:Value) (e:bi):Value:= .agg #[.string e.path, .int .i64 e.kind, .int .i64 e.mode, .int .i64 e.time,v, .string e.link]
def gD (v:Value) (e:bi):List Value:=[.string e.path, .int .i64 e.kind, .int .i64 e.mode, .int .i64 e.time,v, .string e.link]
structure ic (e : bi) : Prop where
 pth:e.path.size<=maxLen
 lnk:e.link.size<=maxLen
 knd:(Lit.int .i64 e.kind).wf=true
 mde:(Lit.int .i64 e.mode).wf=true
 tim:(Lit.int .i64 e.time).wf=true
def jx (S:Nat->Prop) (w:World) (c:List Value) (e:bi):Prop:= ∃v,c=gD v e/\bU S w v e.data/\ic e
theorem jx.len {S:Nat->Prop} {w:World} (c:List Value) (e:bi) (h:jx S w c e):c.length=6:=by obtain⟨v,rfl,_⟩:=h; rfl
theorem jx.below {S:Nat->Prop} {w w':World} {c:List Value} {e:bi} (h:jx S w c e) (hb:Below w.heap.size w w'):jx S w' c e:=by
 obtain⟨v,h1,h2,h3⟩:=h;exact⟨v,h1,h2.below hb,h3⟩
def bG (S:Nat->Prop) (w:World) (v:Value) (l:List bi):Prop:=aP S w 6 (jx S w) v l
theorem bG.below {S:Nat->Prop} {w w':World} {v:Value} {l:List bi} (h:bG S w v l) (hb:Below w.heap.size w w'):bG S w' v l:=
 aP.below h (by omega) hb (fun _ _ _ hr=>hr.below hb)
theorem bG.nil (S:Nat->Prop) (w:World):bG S w (.slice none 0 0) []:=aP.nil
theorem gE {S:Nat->Prop} {w:World} {a:Option Addr} {n cap:Nat} {l:List bi} (hv:bG S w (.slice a n cap) l) {k:Nat} {e:bi} (hr:l[k]? =some e):
  ∃b o v,a=some ⟨b,o,none⟩/\S b/\b<w.heap.size/\bU S w v e.data/\ic e/\n=l.length/\w.cell? ⟨b,o+k*6,none⟩=some (.string e.path)/\w.cell? ⟨b,o+k*6+1,none⟩=some (.int .i64 e.kind)/\w.cell? ⟨b,o+k*6+2,none⟩=some (.int .i64 e.mode)/\w.cell? ⟨b,o+k*6+3,none⟩=some (.int .i64 e.time)/\w.cell? ⟨b,o+k*6+4,none⟩=some v/\w.cell? ⟨b,o+k*6+5,none⟩=some (.string e.link):=by
 obtain⟨a',cap',he,hn,hm,hat⟩:=aP.shape hv jx.len;simp only[Value.slice.injEq]at he;obtain⟨rfl,rfl,rfl⟩:=he;obtain⟨b,o,c,ha,hb,⟨v,hc,hd,hok⟩,hl,hj⟩:=hat k e hr;subst hc;have hc0:=hj 0 (by omega);exact⟨b,o,v,ha,hb,ay (hc0.trans rfl),hd,hok,rfl,hc0,by have h:=hj 1 (by omega); rwa [<-Nat.add_assoc]at h,by have h:=hj 2 (by omega); rwa [<-Nat.add_assoc]at h,by have h:=hj 3 (by omega); rwa [<-Nat.add_assoc]at h,by have h:=hj 4 (by omega); rwa [<-Nat.add_assoc]at h,by have h:=hj 5 (by omega); rwa [<-Nat.add_assoc]at h⟩
open Go Go.RowKit
structure di (p : aY) : Prop where
 sm:p.sum.size<=maxLen
 sz:(Lit.int .i64 p.size).wf=true
def lr (p:aY):List Value:=[.string p.sum, .int .i64 p.size]
def lu (p:aY):Value:= .agg #[.string p.sum, .int .i64 p.size]
def dk (c:List Value) (p:aY):Prop:=c=lr p/\di p
theorem dk.len (c:List Value) (p:aY) (h:dk c p):c.length=2:=by rw[h.1]; rfl
def aE (S:Nat->Prop) (w:World) (v:Value) (l:List aY):Prop:=aP S w 2 dk v l
theorem aE.below {S:Nat->Prop} {w w':World} {v:Value} {l:List aY} (h:aE S w v l) (hb:Below w.heap.size w w'):aE S w' v l:=aP.below h (by omega) hb (fun _ _ _ h=>h)
theorem dN {S:Nat->Prop} {w w':World} {a:Option Addr} {n cap:Nat} {l:List aY} (hv:aE S w (.slice a n cap) l) (hb:Below w.heap.size w w') {k:Nat} {p:aY} (hr:l[k]? =some p):
  ∃b o,a=some ⟨b,o,none⟩/\S b/\b<w.heap.size/\di p/\w'.cell? ⟨b,o+k*2,none⟩=some (.string p.sum)/\w'.cell? ⟨b,o+k*2+1,none⟩=some (.int .i64 p.size):=by
 obtain⟨a',cap',hv',_,_,hx⟩:=aP.shape hv dk.len
 cases hv'
 obtain⟨b,o,c,rfl,hS,⟨rfl,hok⟩,_,hcl⟩:=hx k p hr;have q0:=hcl 0 (by omega);have q1:=hcl 1 (by omega);have hlt:b<w.heap.size:=ay (a:=⟨b,o+(k*2+0),none⟩) (v:= .string p.sum) q0;refine⟨b,o,rfl,hS,hlt,hok, ?_, ?_⟩
 ·exact(hb.cell (p:=⟨b,o+k*2,none⟩) hlt).trans q0
 ·rw[Nat.add_assoc]; exact(hb.cell (p:=⟨b,o+(k*2+1),none⟩) hlt).trans q1
structure cS (f : au) : Prop where
 pth:f.path.size<=maxLen
 lnk:f.link.size<=maxLen
 knd:(Lit.int .i64 f.kind).wf=true
 mde:(Lit.int .i64 f.mode).wf=true
 tim:(Lit.int .i64 f.time).wf=true
 siz:(Lit.int .i64 f.size).wf=true
def bI (v:Value) (f:au):List Value:=[.string f.path, .int .i64 f.kind, .int .i64 f.mode, .int .i64 f.time, .int .i64 f.size, .string f.link,v]
def dC (v:Value) (f:au):Value:= .agg #[.string f.path, .int .i64 f.kind, .int .i64 f.mode, .int .i64 f.time, .int .i64 f.size, .string f.link,v]
def dB (S:Nat->Prop) (w:World) (c:List Value) (f:au):Prop:= ∃v,c=bI v f/\aE S w v f.parts/\cS f
theorem dB.len {S:Nat->Prop} {w:World} (c:List Value) (f:au) (h:dB S w c f):c.length=7:=by obtain⟨v,rfl,_⟩:=h; rfl
def aM (S:Nat->Prop) (w:World) (v:Value) (l:List au):Prop:=aP S w 7 (dB S w) v l
theorem aM.below {S:Nat->Prop} {w w':World} {v:Value} {l:List au} (h:aM S w v l) (hb:Below w.heap.size w w'):aM S w' v l:=
 aP.below h (by omega) hb (fun _ _ _ ⟨v,h1,h2,h3⟩=>⟨v,h1,h2.below hb,h3⟩)
theorem aM.nil (S:Nat->Prop) (w:World):aM S w (.slice none 0 0) []:=aP.nil
theorem cW {S:Nat->Prop} {w w':World} {a:Option Addr} {n cap:Nat} {l:List au} (hv:aM S w (.slice a n cap) l) (hb:Below w.heap.size w w') {k:Nat} {f:au} (hr:l[k]? =some f):
  ∃b o pa pc,a=some ⟨b,o,none⟩/\cS f/\aE S w' (.slice pa f.parts.length pc) f.parts/\b<w.heap.size/\S b/\ ∀j,j<7->w'.cell? ⟨b,o+k*7+j,none⟩=(bI (.slice pa f.parts.length pc) f)[j]? :=by
 obtain⟨a',cap',hv',_,_,hx⟩:=aP.shape hv dB.len
 cases hv'
 obtain⟨b,o,c,rfl,hS,⟨cv,rfl,hrf,hok⟩,_,hcl⟩:=hx k f hr;have q0:=hcl 0 (by omega);have hlt:b<w.heap.size:=ay (a:=⟨b,o+(k*7+0),none⟩) (v:= .string f.path) q0;obtain⟨ca,cc,rfl,_,_,_⟩:=aP.shape hrf dk.len;refine⟨b,o,ca,cc,rfl,hok,aE.below hrf hb,hlt,hS,fun j hj=> ?_⟩;rw[Nat.add_assoc];exact(hb.cell (p:=⟨b,o+(k*7+j),none⟩) hlt).trans (hcl j hj)
theorem oW {S:Nat->Prop} {w:World} {a:Option Addr} {n c:Nat} {l:List aY} (h:aE S w (.slice a n c) l):n=l.length/\n<=c/\c<=maxLen:=by
 obtain⟨a',cap',hv',h1,h2,_⟩:=aP.shape h dk.len
 cases hv'
 exact⟨rfl,h1,h2⟩
theorem qR {S:Nat->Prop} {w:World} {v:Value} {l:List au} (h:aM S w v l): ∀f∈l,cS f:=by
 intro f hf;obtain⟨a,cap,rfl,-,-,-⟩:=aP.shape h dB.len;obtain⟨k,hk⟩:=List.getElem?_of_mem hf;obtain⟨_,_,_,_,_,h1,_⟩:=cW h (Below.refl _ _) hk;exact h1
theorem rF {S:Nat->Prop} {w:World} {v:Value} {l:List aY} (h:aE S w v l): ∀p∈l,di p:=by
 intro f hf;obtain⟨a,cap,rfl,-,-,-⟩:=aP.shape h dk.len;obtain⟨k,hk⟩:=List.getElem?_of_mem hf;obtain⟨_,_,_,_,_,h1,_⟩:=dN h (Below.refl _ _) hk;exact h1
theorem xN {f:au} (h:cS f):ic (fj f):=⟨h.pth,h.lnk,h.knd,h.mde,h.tim⟩
def dY (v:Value) (tm:Int):Value:= .agg #[.int .i64 tm,v]
theorem oh (S:Nat->Prop) (f:au) (pv:Value) (w:World) (hp:aE S w pv f.parts):Calls Tryz.prog 33 #[dC pv f] w fun e w'=>e= .returned (.bool (cr f))/\Below w.heap.size w w':=by
 obtain⟨a,cap,rfl,hc,hm,-⟩:=aP.shape hp dk.len;unfold maxLen at hm;have HP:=aa hp;clear hp;unfold dC
 by_cases hk:f.kind=1
 ·have HK:=aa hk;have hk2:(f.kind == 1)=true:=by simp[hk]
  obtain⟨kd,hkd⟩: ∃kd,kd=f.kind:=⟨_,rfl⟩;rw[<-hkd]at hk2 hk ⊢;clear hkd;subst hk;obtain⟨n,hn⟩: ∃n,n=f.parts.length:=⟨_,rfl⟩;rw[<-hn]at hc HP ⊢;have HN:=aa hn;clear hn
  go_enter Tryz.func33,Tryz.ntmps33
  go_wp2_with fail;obtain⟨W,hW⟩: ∃W,W=w.alloc (.cells #[.string f.path, .int .i64 1, .int .i64 f.mode, .int .i64 f.time, .int .i64 f.size, .string f.link, .slice a n cap] 27):=⟨_,rfl⟩;rw[<-hW];have HBW:=aa (show Below w.heap.size w W by rw[hW]; exact(Below.refl _ _).alloc (Nat.le_refl _) _);have HBX:=aa (show W.heap[w.heap.size]? =some (.cells #[.string f.path, .int .i64 1, .int .i64 f.mode, .int .i64 f.time, .int .i64 f.size, .string f.link, .slice a n cap] 27 (0,0)) by rw[hW]; exact heap_alloc_new w _)
  have HV:=aa (show aE S W (.slice a n cap) f.parts from aE.below HP.out HBW.out);have hsz:W.heap.size=w.heap.size+1:=by rw[hW]; simp
  have HSZ:=aa hsz;clear hW hsz
  go_loopw [3,21] (fun t i wr=> ∃k:Nat,k<=n/\i= .int .i64 k/\t= .int .i64 (ia (f.parts.take k))/\(f.parts.take k).all fP=true/\Below W.heap.size W wr) (fun _ i _=>n-(intOf i).toNat)
  case atStart=>exact⟨0,Nat.zero_le _,rfl,rfl,rfl,Below.refl _ _⟩
  case round=>
   obtain⟨k,hk,rfl,rfl,hal,hb⟩:=hrel;have HB:=aa hb;have HA:=aa hal;clear hb hal
   by_cases hlt:k<n
   ·obtain⟨p,hp⟩: ∃p,f.parts[k]? =some p:=⟨_,List.getElem?_eq_getElem (show k<f.parts.length by rw[<-HN.out]; exact hlt)⟩;obtain⟨b,o,rfl,-,-,hok,q0,q1⟩:=dN HV.out HB.out hp;have HR:=aa hp;have HO:=aa hok;have hsum:=hok.sm;unfold maxLen at hsum;clear hp hok
    by_cases hv:fP p=true
    ·obtain⟨h1,h2,h3⟩:=(show p.sum.size=32/\1<=p.size/\p.size<=32768 by unfold fP at hv; simpa [and_assoc]using hv);have HVP:=aa hv;have hn2: ¬p.size<1:=by omega
     have hn3: ¬32768<p.size:=by omega
     clear hv;go_wp2_with fail
     go_roundw
     case rel=>
      refine⟨k+1,by omega,rfl, ?_,il HA.out HR.out HVP.out,ac HB.out ((Below.refl _ _).alloc (Nat.le_refl _) _)⟩;rw[aS HR.out,pn]
     case measure=>simp only[intOf,Int.toNat_natCast]; omega
    ·have HF:=aa (show cr f=false by
      unfold cr;rw[if_pos HK.out,gz HR.out (by simpa using hv)]; rfl)
     have hv2:p.sum.size=32->1<=p.size-> ¬p.size<=32768:=fun h1 h2 h3=>hv (by unfold fP; simp[h1,h2,h3])
     have HV2:=aa hv2;have HE:=aa (show Below w.heap.size w (wr.alloc (.cells #[.string p.sum, .int .i64 p.size] 62))from HBW.out.trans ((ac HB.out ((Below.refl _ _).alloc (Nat.le_refl _) _)).mono (by have:=HSZ.out; omega)));clear hv hv2
     by_cases h1:p.sum.size=32
     ·by_cases h2:p.size<1
      ·go_wp2_with fail;go_ret;exact⟨ak (by rw[HF.out]),HE.out⟩
      ·have h3:32768<p.size:=by have:=HV2.out h1 (by omega); omega
       go_wp2_with fail;go_ret;exact⟨ak (by rw[HF.out]),HE.out⟩
     ·have h1': ¬(p.sum.size:Int)=32:=by omega
      go_wp2_with fail;go_ret;exact⟨ak (by rw[HF.out]),HE.out⟩
   ·have hall:f.parts.all fP=true:=by
     have:=HA.out
     rwa [List.take_of_length_le (by rw[<-HN.out]; omega)]at this
    have htk:f.parts.take k=f.parts:=List.take_of_length_le (by rw[<-HN.out]; omega);rw[htk];have HALL:=aa hall;have HBXr:=aa ((HB.out.block w.heap.size (by have:=HSZ.out; omega)).trans HBX.out);have c4:=af (k:=4) HBXr.out;simp only[eX]at c4;obtain⟨t,ht⟩: ∃t,t=ia f.parts:=⟨_,rfl⟩;rw[<-ht];have HT:=aa ht;have HEND:=aa (show Below w.heap.size w wr from HBW.out.trans (HB.out.mono (by have:=HSZ.out; omega)))
    clear hall htk ht
    by_cases he:f.size=t
    ·have HE:=aa he;have he1:(f.size == t)=true:=by simp[he]
     go_wp2_with fail;go_ret;refine⟨ak ?_,HEND.out⟩;unfold cr;rw[if_pos HK.out,HALL.out,<-HT.out];simp[HE.out]
    ·have HE:=aa he;have he1:(f.size == t)=false:=by simp[he]
     go_wp2_with fail;go_ret;refine⟨ak ?_,HEND.out⟩;unfold cr;rw[if_pos HK.out,HALL.out,<-HT.out];simp[HE.out]
 ·have HK:=aa hk;have hk2:(f.kind == 1)=false:=by simp[hk]
  go_enter Tryz.func33,Tryz.ntmps33
  by_cases hs:f.size=0
  ·have hs2:(f.size == 0)=true:=by simp[hs]
   go_wp2_with fail;go_ret;refine⟨ak ?_,(Below.refl _ _).alloc (Nat.le_refl _) _⟩;unfold cr;rw[if_neg HK.out]
   cases f.parts with
   | nil=>simp[hs]
   | cons p l=>simp[hs]; omega
  ·have hs2:(f.size == 0)=false:=by simp[hs]
   go_wp2_with fail;go_ret;refine⟨ak ?_,(Below.refl _ _).alloc (Nat.le_refl _) _⟩;unfold cr;rw[if_neg HK.out];simp[hs]
theorem sr (S:Nat->Prop) (tm:Int) (f:au) (pv dv:Value) (e:bi) (w:World) (hf:cS f) (hp:aE S w pv f.parts) (hd:bU S w dv e.data) (he:ic e):
  Calls Tryz.prog 15 #[.int .i64 tm,dC pv f,mF dv e] w fun x w'=>x= .returned (.bool (eZ tm f e))/\Below w.heap.size w w':=by
 obtain⟨pa,pc,rfl,-,-,-⟩:=aP.shape hp dk.len;obtain⟨_,da,dc,rfl,hdc,hdm,-⟩:=hd;unfold maxLen at hdm;have h1:=hf.pth;have h2:=he.pth;unfold maxLen at h1 h2;obtain⟨n,hn⟩: ∃n,n=e.data.length:=⟨_,rfl⟩;unfold dC mF eZ;rw[<-hn]at hdc ⊢;clear hn hp
 go_enter Tryz.func15,Tryz.ntmps15
 by_cases e1:f.path=e.path
 ·by_cases e2:f.kind=1
  ·by_cases e3:e.kind=1
   ·by_cases e4:f.time=e.time
    ·by_cases e5:f.size=(n:Int)
     all_goals
      simp only[e1,e2,e3,e4,e5,decide_true,decide_false,Bool.true_and,Bool.false_and,Bool.and_false,Bool.and_true];go_wp2_with fail;go_ret;exact⟨rfl,((Below.refl _ _).alloc (Nat.le_refl _) _).alloc (by simp) _⟩
    ·simp only[e1,e2,e3,e4,decide_true,decide_false,Bool.false_and,Bool.and_false,Bool.and_true];go_wp2_with fail;go_ret;exact⟨rfl,((Below.refl _ _).alloc (Nat.le_refl _) _).alloc (by simp) _⟩
   ·simp only[e1,e2,e3,decide_true,decide_false,Bool.false_and,Bool.and_false,Bool.and_true];go_wp2_with fail;go_ret;exact⟨rfl,((Below.refl _ _).alloc (Nat.le_refl _) _).alloc (by simp) _⟩
  ·simp only[e1,e2,decide_true,decide_false,Bool.false_and,Bool.and_false];go_wp2_with fail;go_ret;exact⟨rfl,((Below.refl _ _).alloc (Nat.le_refl _) _).alloc (by simp) _⟩
 ·have e1t: ¬f.path.toList=e.path.toList:=fun h=>e1 (fC (by rw[<-aX,<-aX,h]))
  simp only[e1,decide_false,Bool.false_and];go_wp2_with fail;go_ret;exact⟨rfl,((Below.refl _ _).alloc (Nat.le_refl _) _).alloc (by simp) _⟩
open Go Go.RowKit Go.Maps Go.MapKept
open Go.ChangeMaps (modify_eq_set map_eraseIdx)
def dw (P:Program) (k:TypeId) (w:World) (b:Nat) (m:List (Value×Value)):Prop:=
 ∃es clock,w.heap[b]? =some (.map es clock)/\es.toList.map (fun e=>(e.key,e.val))=m/\Stamped es clock/\ ∀p∈m,∃l,keyOf P k p.1=some l
section
variable {P : Program} {k t e : TypeId} {w w' : World} {b : Nat} {m : List (Value × Value)} {key val z : Value}
theorem nW {es:Array MapEntry} {clock:Nat} (h:Stamped es clock):((es.toList.map (fun e=>(e.key,e.val))).map Prod.fst).Nodup:=by
 rw[List.map_map];have:=((stamped_iff es clock).1 h).2.2;unfold List.Nodup;rw[List.pairwise_map];exact this
theorem dw.is (h:dw P k w b m):dJ P k w b m:=by
 obtain⟨es,clock,hb,he,hs,hk⟩:=h;exact⟨es,clock,hb,he,by rw[<-he]; exact nW hs,hk⟩
theorem dw.lt (h:dw P k w b m):b<w.heap.size:=h.is.lt
theorem dw.same (h:dw P k w b m) (hs:w'.heap[b]? =w.heap[b]?):dw P k w' b m:=by
 obtain⟨es,clock,hb,h2⟩:=h;exact⟨es,clock,hs.trans hb,h2⟩
theorem dw.made (w:World):dw P k (w.alloc (.map #[] 0)) w.heap.size []:=⟨#[],0,(MapKept.heap_alloc w _).1,rfl,stamped_empty 0,by simp⟩
theorem dw.nodup (h:dw P k w b m):(m.map Prod.fst).Nodup:=by obtain⟨_,_,_,_,hn,_⟩:=h.is; exact hn
theorem ix {w:World} {b:Nat} {x:Obj} (hb:w.heap[b]? =some x) (o:Obj):w.grownBy (ChangeMaps.setBlock w b o) (some b):=
 ⟨rfl,rfl,rfl,by simp[ChangeMaps.setBlock],fun i _ hi=>oL hb _ (fun e=>hi (by rw[e]))⟩
theorem dw.put (h:dw P k w b m) (K:Keyed P k) (ht:P.underlying t=some (.map k e)) (hkey: ∃l,keyOf P k key=some l) (hm: ∀p∈m,p.1≠key) (val:Value):
  ∃w',(Instr.mapUpdate t (.map (some b)) key val).run P w= .ok () w'/\dw P k w' b (m++[(key,val)])/\w.grownBy w' (some b):=by
 obtain⟨es,clock,hb,he,hst,hk⟩:=h;obtain⟨kl,hkl⟩:=hkey
 rcases K.find w hkl es.toList (dJ.keys he hk)with⟨h1,h2⟩ | ⟨j,e0,h1,h2,h3⟩
 ·refine⟨ChangeMaps.setBlock w b (.map (es.push ⟨key,val,clock⟩) (clock+1)), ?_,⟨_,_,mL hb _, ?_,stamped_push hst h2, ?_⟩,ix hb _⟩
  ·simp[Instr.mapUpdate,run_underlying ht,MapKept.run_getObj_map hb,K.check w false hkl,h1,MapKept.run_setObj_map _ hb,Result.andThen,ChangeMaps.setBlock]
  ·simp[<-he]
  ·intro p hp
   rcases List.mem_append.1 hp with hp | hp
   ·exact hk p hp
   ·simp only[List.mem_singleton]at hp;subst hp;exact⟨kl,hkl⟩
 ·exact absurd h3 (hm (e0.key,e0.val) (by rw[<-he]; exact List.mem_map.2 ⟨e0,List.mem_of_getElem? h2,rfl⟩))
theorem dw.over {m1 m2:List (Value×Value)} {old:Value} (h:dw P k w b (m1++(key,old)::m2)) (K:Keyed P k) (ht:P.underlying t=some (.map k e)) (val:Value):
  ∃w',(Instr.mapUpdate t (.map (some b)) key val).run P w= .ok () w'/\dw P k w' b (m1++(key,val)::m2)/\w.grownBy w' (some b):=by
 have hnd:=h.nodup;obtain⟨es,clock,hb,he,hst,hk⟩:=h;obtain⟨kl,hkl⟩:=hk (key,old) (by simp)
 rcases K.find w hkl es.toList (dJ.keys he hk)with⟨h1,h2⟩ | ⟨j,e0,h1,h2,h3⟩
 ·exfalso
  have:(key,old)∈es.toList.map (fun e=>(e.key,e.val)):=by rw[he]; simp
  obtain⟨x,hx,hxe⟩:=List.mem_map.1 this;exact h2 x hx (congrArg Prod.fst hxe)
 ·have hj:es[j]? =some e0:=by simpa using h2
  have hlist:(es.modify j (fun e'=> {e' with key:=key,val:=val})).toList=es.toList.set j {e0 with key:=key,val:=val} :=by rw[Array.toList_modify,modify_eq_set _ _ _ _ h2]
  have hjm:j=m1.length:=by
   have h4:(m1++(key,old)::m2)[j]? =some (e0.key,e0.val):=by rw[<-he,List.getElem?_map,h2]; rfl
   have h5:((m1++(key,old)::m2).map Prod.fst)[j]? =some key:=by rw[List.getElem?_map,h4]; simp[h3]
   have h6:((m1++(key,old)::m2).map Prod.fst)[m1.length]? =some key:=by simp
   have hjl:=(List.getElem?_eq_some_iff.1 h5).1;exact(List.getElem?_inj hjl hnd).1 (h5.trans h6.symm)
  refine⟨ChangeMaps.setBlock w b (.map (es.modify j (fun e'=> {e' with key:=key,val:=val})) clock), ?_,⟨_,_,mL hb _, ?_, ?_, ?_⟩,ix hb _⟩
  ·simp[Instr.mapUpdate,run_underlying ht,MapKept.run_getObj_map hb,K.check w false hkl,h1,hj,h3,K.stays w hkl,MapKept.run_setObj_map _ hb,Result.andThen,ChangeMaps.setBlock]
  ·rw[hlist,List.map_set,he,hjm];simp
  ·exact stamped_modify hst j _ (fun _ _=>rfl) (fun e' _ he'=>by rw[hj]at he'; cases he'; exact h3.symm)
  ·intro p hp
   rcases List.mem_append.1 hp with hp | hp
   ·exact hk p (by simp[hp])
   ·rcases List.mem_cons.1 hp with rfl | hp
    ·exact⟨kl,hkl⟩
    ·exact hk p (by simp[hp])
theorem dw.len (h:dw P k w b m) (ht:P.underlying t=some (.map k e)) (ty:TypeId):(Builtin.len_ #[t] ty #[.map (some b)]).run P w= .ok (.int .i64 (m.length:Int)) w:=by
 obtain⟨es,clock,hb,he,_⟩:=h;have:es.size=m.length:=by rw[<-he]; simp
 simp[Builtin.len_,run_underlying ht,MapKept.run_getObj_map hb,goInt,Result.andThen,this]
def kB (P:Program) (k:TypeId) (w:World) (b r:Nat) (m vis:List (Value×Value)):Prop:=
 ∃es clock since seen c0,w.heap[b]? =some (.map es clock)/\es.toList.map (fun e=>(e.key,e.val))=m/\Stamped es clock/\(∀p∈m,∃l,keyOf P k p.1=some l)/\
  w.heap[r]? =some (.mapIter (some b) since seen c0)/\(∀x∈es.toList,x.born<since)/\since<=c0/\since<=clock/\vis.Perm ((es.toList.filter fun x=>seen.contains x.born).map (fun e=>(e.key,e.val)))
theorem kB.map {r:Nat} {vis:List (Value×Value)} (h:kB P k w b r m vis):dw P k w b m:=by
 obtain⟨es,clock,_,_,_,hb,he,hs,hk,_⟩:=h;exact⟨es,clock,hb,he,hs,hk⟩
theorem kB.same {r:Nat} {vis:List (Value×Value)} (h:kB P k w b r m vis) (h1:w'.heap[b]? =w.heap[b]?) (h2:w'.heap[r]? =w.heap[r]?):kB P k w' b r m vis:=by
 obtain⟨es,clock,since,seen,c0,hb,he,hs,hk,hr,h3⟩:=h;exact⟨es,clock,since,seen,c0,h1.trans hb,he,hs,hk,h2.trans hr,h3⟩
theorem kB.ne {r:Nat} {vis:List (Value×Value)} (h:kB P k w b r m vis):r≠b:=by
 obtain⟨es,clock,since,seen,c0,hb,_,_,_,hr,_⟩:=h;intro e1;subst e1;rw[hb]at hr
 cases hr
theorem kg {α:Type} (p:α->Bool): ∀(l:List α),(l.filter p).length+(l.filter fun x=> !p x).length=l.length
 | []=>rfl
 | a::l=>by
  have:=kg p l
  cases h:p a<;> simp[h]<;> omega
theorem kB.left {r:Nat} {vis:List (Value×Value)} (h:kB P k w b r m vis):w.rangeLeft b r+vis.length=m.length:=by
 obtain⟨es,clock,since,seen,c0,hb,he,hs,hk,hr,_,_,_,hv⟩:=h;have h1:w.rangeLeft b r=(leftOf es seen).size:=by simp only[World.rangeLeft,hb,hr]
 have h2:(leftOf es seen).size=(es.toList.filter fun x=> !seen.contains x.born).length:=by
  unfold leftOf;rw[<-Array.toList_filter,Array.length_toList]
 have h3:=kg (fun x:MapEntry=>seen.contains x.born) es.toList;rw[h1,h2,hv.length_eq,List.length_map,<-he,List.length_map];omega
theorem dw.range (h:dw P k w b m) (ht:P.underlying t=some (.map k e)):
  ∃w',(Instr.range t (.map (some b))).run P w= .ok (.pointer (some ⟨w.heap.size,0,none⟩)) w'/\kB P k w' b w.heap.size m []/\Below w.heap.size w w'/\w'.heap.size=w.heap.size+1:=by
 have hlt:=h.lt;obtain⟨es,clock,hb,he,hs,hk⟩:=h;refine⟨_,run_range_map w t k e b es clock ht hb,⟨es,clock,clock, #[],clock,((MapKept.heap_alloc w _).2 b hlt).trans hb,he,hs,hk,(MapKept.heap_alloc w _).1,((stamped_iff es clock).1 hs).1,Nat.le_refl _,Nat.le_refl _, ?_⟩,(Below.refl _ _).alloc (Nat.le_refl _) _,by simp⟩;simp
theorem zo {es:Array MapEntry} {clock:Nat} (hs:Stamped es clock) {x y:MapEntry} (hx:x∈es.toList) (hy:y∈es.toList) (h:x.born=y.born):x=y:=born_inj ((stamped_iff es clock).1 hs).2.1 hx hy h
theorem vO {es:List MapEntry} {seen:Array Nat} {e0:MapEntry} (hn:es.Nodup) (hinj: ∀x∈es,x.born=e0.born->x=e0) (he:e0∈es) (h0:seen.contains e0.born=false):
  ((es.filter fun x=>seen.contains x.born)++[e0]).Perm (es.filter fun x=>(seen.push e0.born).contains x.born):=by
 refine(List.perm_ext_iff_of_nodup ?_ (hn.filter _)).2 (fun x=> ?_)
 ·rw[List.nodup_append];refine⟨hn.filter _,by simp,fun a ha c hc=> ?_⟩;simp only[List.mem_singleton]at hc;subst hc;rintro rfl;rw[List.mem_filter]at ha;rw[ha.2]at h0
  cases h0
 ·simp only[List.mem_append,List.mem_filter,List.mem_singleton,contains_push,Bool.or_eq_true,beq_iff_eq]
  constructor
  ·rintro(⟨h1,h2⟩ | rfl)
   ·exact⟨h1, .inl h2⟩
   ·exact⟨he, .inr rfl⟩
  ·rintro⟨h1,h2 | h2⟩
   ·exact .inl ⟨h1,h2⟩
   ·exact .inr (hinj x h1 h2)
theorem kB.next {r:Nat} {vis:List (Value×Value)} (h:kB P k w b r m vis) (ty:TypeId):
  (vis.Perm m/\(Instr.next (.pointer (some ⟨r,0,none⟩)) false ty).run P w= .ok (.tuple #[.bool false]) w)\/
  ∃key v w',(key,v)∈m/\(∀p∈vis,p.1≠key)/\(Instr.next (.pointer (some ⟨r,0,none⟩)) false ty).run P w= .ok (.tuple #[.bool true,key,v]) w'/\
   kB P k w' b r m (vis++[(key,v)])/\w.grownBy w' (some r)/\w'.heap.size=w.heap.size/\(Instr.entry (.pointer (some ⟨r,0,none⟩))).run P w'= .ok (.tuple #[key,v]) w':=by
 have hne:=h.ne;obtain⟨es,clock,since,seen,c0,hb,he,hs,hk,hr,hold,hsc,hsk,hv⟩:=h;have hsi:=(stamped_iff es clock).1 hs
 rcases run_next_at (P:=P) w ty r b since c0 seen es clock hr hb hold hsc with⟨h0,hrun⟩ | ⟨e0,he0,w1,hal,hrun⟩
 ·refine Or.inl ⟨?_,hrun⟩;have:(es.toList.filter fun x=>seen.contains x.born)=es.toList:=by
   rw[List.filter_eq_self];intro x hx;exact all_seen es seen h0 x hx
  rw[this,he]at hv;exact hv
 ·obtain⟨hem,hes⟩:=mem_left he0;have hr1:w1.heap[r]? =some (.mapIter (some b) since seen c0):=by rcases hal with rfl | rfl<;> exact hr
  have hb1:w1.heap[b]? =some (.map es clock):=by rcases hal with rfl | rfl<;> exact hb
  have hset:=heap_set (o':= .mapIter (some b) since (seen.push e0.born) clock) hr1;have hb':(ChangeMaps.setBlock w1 r (.mapIter (some b) since (seen.push e0.born) clock)).heap[b]? =some (.map es clock):=(hset.2 b (fun e1=>hne e1.symm)).trans hb1;have hnd:es.toList.Nodup:=by
   have:=hsi.2.1;unfold List.Nodup at this;rw[List.pairwise_map]at this;exact this.imp (fun h e=>h (by rw[e]))
  have hinj: ∀x∈es.toList,x.born=e0.born->x=e0:=fun x hx hxb=>zo hs hx hem hxb
  have hpp:=vO hnd hinj hem hes;refine Or.inr ⟨e0.key,e0.val,_,by rw[<-he]; exact List.mem_map.2 ⟨e0,hem,rfl⟩,fun p hp hpk=> ?_,hrun,⟨es,clock,since,seen.push e0.born,clock,hb',he,hs,hk,hset.1,hold,hsk,hsk, ?_⟩, ?_, ?_,
   run_entry_at _ r b since seen es clock e0 hset.1 hb' hem hsi.2.1⟩
  ·obtain⟨x,hx,rfl⟩:=List.mem_map.1 (hv.subset hp);obtain⟨hx1,hx2⟩:=List.mem_filter.1 hx;have:x=e0:=entry_eq_of_key hsi.2.2 hx1 hem hpk;subst this;rw[hx2]at hes
   cases hes
  ·refine(hv.append_right _).trans ?_;have:=hpp.map (fun e:MapEntry=>(e.key,e.val));rw[List.map_append]at this;exact this
  ·rcases hal with rfl | rfl<;> exact⟨rfl,rfl,rfl,by simp[ChangeMaps.setBlock],fun i _ hi=>hset.2 i (fun e1=>hi (by rw[e1]))⟩
  ·rcases hal with rfl | rfl<;> simp[ChangeMaps.setBlock]
end
section
variable {P : Program} {w : World} {ops : Array Oper} {rest : List Oper} {o : Oper} {a : Act} {Q : Exit → Act → World → Prop} {k e : TypeId}
theorem eS (K:Keyed P k) (hg:o.guard=none) (mo x v:Operand) (t:TypeId) (hop:o.op=Op.mapUpdate t mo x v) (ht:P.underlying t=some (.map k e)) (b:Nat) (m:List (Value×Value)) (h:dw P k w b m) (hmo:a.eval mo= .map (some b)) (key val:Value) (hx:a.eval x=key) (hv:a.eval v=val) (hkey: ∃l,keyOf P k key=some l) (hnew: ∀p∈m,p.1≠key)
  (hK: ∀w',dw P k w' b (m++[(key,val)])->w.grownBy w' (some b)->wpList P ops Q rest (a.put o.dst undef) w'):wpList P ops Q (o::rest) a w:=by
 refine wpList_plain hg fun K' hK'=> ?_
 obtain⟨w',hrun,r1,r2⟩:=h.put K ht hkey hnew val;unfold Oper.wp;simp[execOp,hop,hmo,hx,hv,hrun,Result.andThen];exact hK' _ _ (hK w' r1 r2)
end
end Go.Proofs.YtnjkpcalgoefhaaGreatDoor
namespace Go.Proofs.YtnjkpcalgoefhaaGreatDoor
open Go Go.RowKit Go.Maps
abbrev sG :=Value×bi
theorem cD :Keyed Tryz.prog 9:=string_keyed Tryz.underlying9
theorem cO {n:ByteArray} (h:n.size<=maxLen): ∃l,keyOf Tryz.prog 9 (.string n)=some l:=⟨.string n.data.toList,by simp[keyOf,mapKey,Tryz.underlying9,h]⟩
section
variable {S S' : Nat → Prop} {w w' : World} {mb : Nat} {xs : List sG}
end
def Br :Value:= .agg #[.string ByteArray.empty, .int .i64 0, .int .i64 0, .int .i64 0, .slice none 0 0, .string ByteArray.empty]
section
variable {S S' : Nat → Prop} {w w' : World} {tb mb : Nat} {L : List bi}
end
section
variable {S S' : Nat → Prop} {w w' : World} {tb mb : Nat} {L : List bi} {xs : List sG} {t : TypeId}
end
section
variable {P : Program} {w : World} {ops : Array Oper} {rest : List Oper} {o : Oper} {a : Act} {Q : Exit → Act → World → Prop}
theorem jv {Φ:World->Prop} (hg:o.guard=none) (mo x v:Operand) (t:TypeId) (hop:o.op=Op.mapUpdate t mo x v) (mv key val:Value) (hmo:a.eval mo=mv) (hx:a.eval x=key) (hv:a.eval v=val) (hrun: ∃w',(Instr.mapUpdate t mv key val).run P w= .ok () w'/\Φ w')
  (hK: ∀w',Φ w'->wpList P ops Q rest (a.put o.dst undef) w'):wpList P ops Q (o::rest) a w:=by
 refine wpList_plain hg fun K' hK'=> ?_
 obtain⟨w',hr,h2⟩:=hrun;unfold Oper.wp;simp[execOp,hop,hmo,hx,hv,hr,Result.andThen];exact hK' _ _ (hK w' h2)
end
end Go.Proofs.YtnjkpcalgoefhaaGreatDoor
namespace Go.Proofs.YtnjkpcalgoefhaaGreatDoor
open Go.RowKit
theorem ah {w:World} {b k:Nat} {cs:Array Value} {t:TypeId} {x:Nat×Nat} (h:w.heap[b]? =some (.cells cs t x)):w.cell? ⟨b,k,none⟩=cs[k]? :=by simp[World.cell?,h]
theorem ri (s:ByteArray) (w:World):Calls Tryz.prog 128 #[.string s, .int .u8 0] w fun e w'=>e= .returned (.int .i64 (Lib.indexByte (bl s) 0))/\w=w':=
 (Tryz.strings_IndexByte s 0 w).mono fun _ _ ⟨he,hw⟩=>⟨he,hw.symm⟩
theorem og (s:ByteArray) (w:World) (hs:s.size<=maxLen):Calls Tryz.prog 99 #[.string s] w fun e w'=>e= .returned (.bool (iO (bl s)))/\w=w':=by
 unfold maxLen at hs;have HX:=aa (show iO (bl s)=(decide (1<=s.size) && decide (s.size<=512) && !(bl s).contains 0) by unfold iO; rw[am]);have HI:=aa (fH (bl s) 0)
 go_enter Tryz.func99,Tryz.ntmps99
 go_wp2_with (go_at_call 128; refine(ri s _).mono ?_; rintro e w3 ⟨rfl,rfl⟩)
 ·go_ret;refine⟨ak ?_,rfl⟩;have z1:decide (1<=s.size)=true:=by simp; omega
  have z2:decide (s.size<=512)=true:=by simp; omega
  rw[HX.out,z1,z2,<-HI.out];rw[Bool.eq_iff_iff];simp
 ·go_ret;refine⟨ak ?_,rfl⟩;have z2:decide (s.size<=512)=false:=by simp; omega
  rw[HX.out,z2];simp
 ·go_ret;refine⟨ak ?_,rfl⟩;have z1:decide (1<=s.size)=false:=decide_eq_false (by omega);rw[HX.out,z1];simp
theorem jN (s:ByteArray) (b:Bool) (w:World) (he:ie w) (h:bv (bl s)=b):Calls Tryz.prog 98 #[.string s] w fun e w'=>e= .returned (.bool b)/\Below w.heap.size w w':=by
 rw[<-h]; exact pu s w he
theorem ue (S:Nat->Prop) (en:bi) (v:Value) (w:World) (hd:bU S w v en.data) (hok:ic en) (henv:ie w):Calls Tryz.prog 64 #[mF v en] w fun e w'=>e= .returned (.bool (bR en))/\Below w.heap.size w w':=by
 obtain⟨_,a,cap,rfl,hc,hm,-⟩:=hd;unfold maxLen at hm;have HE:=aa henv;have HO:=aa hok;have hq1:=hok.pth;have hq2:=hok.lnk;unfold maxLen at hq1 hq2;have HL:=aa (show en.link.toList.isEmpty=decide (en.link.size=0) by rw[aX,am,Bool.eq_iff_iff]; simp);clear henv hok;unfold mF
 cases hv:bv (bl en.path)
 ·have HVP:=aa hv;clear hv
  go_enter Tryz.func64,Tryz.ntmps64
  go_wp2_with fail;obtain⟨W,hW⟩: ∃W,W=w.alloc (.cells #[.string en.path, .int .i64 en.kind, .int .i64 en.mode, .int .i64 en.time, .slice a en.data.length cap, .string en.link] 30):=⟨_,rfl⟩;rw[<-hW];have HBW:=aa (show Below w.heap.size w W by rw[hW]; exact(Below.refl _ _).alloc (Nat.le_refl _) _);have HBX:=aa (show W.heap[w.heap.size]? =some (.cells #[.string en.path, .int .i64 en.kind, .int .i64 en.mode, .int .i64 en.time, .slice a en.data.length cap, .string en.link] 30 (0,0)) by rw[hW]; exact heap_alloc_new w _)
  clear hW;refine(jN en.path false _ (HE.out.below HBW.out) HVP.out).mono ?_;rintro e w1 ⟨rfl,hb1⟩;have HB1:=aa (ac HBW.out hb1);clear hb1;go_wp2_with fail;go_ret;exact⟨ak (by simp[bR,HVP.out]),HB1.out⟩
 ·have HVP:=aa hv;clear hv
  by_cases hmt:0<=en.mode/\en.mode<=511/\0<=en.time
  ·have HH:=aa (show bR en=dQ en by obtain⟨x1,x2,x3⟩:=hmt; unfold bR gL; rw[HVP.out]; simp[x1,x2,x3]);obtain⟨hm1,hm2,hm3⟩:=hmt
   go_enter Tryz.func64,Tryz.ntmps64
   go_wp2_with fail;obtain⟨W,hW⟩: ∃W,W=w.alloc (.cells #[.string en.path, .int .i64 en.kind, .int .i64 en.mode, .int .i64 en.time, .slice a en.data.length cap, .string en.link] 30):=⟨_,rfl⟩;rw[<-hW];have HBW:=aa (show Below w.heap.size w W by rw[hW]; exact(Below.refl _ _).alloc (Nat.le_refl _) _);have HBX:=aa (show W.heap[w.heap.size]? =some (.cells #[.string en.path, .int .i64 en.kind, .int .i64 en.mode, .int .i64 en.time, .slice a en.data.length cap, .string en.link] 30 (0,0)) by rw[hW]; exact heap_alloc_new w _)
   clear hW;refine(jN en.path true _ (HE.out.below HBW.out) HVP.out).mono ?_;rintro e w1 ⟨rfl,hb1⟩;have HBXr:=aa ((hb1.block w.heap.size ((Array.getElem?_eq_some_iff.1 HBX.out).1)).trans HBX.out);have HB1:=aa (ac HBW.out hb1);have hlt1:w.heap.size<w1.heap.size:=(Array.getElem?_eq_some_iff.1 HBXr.out).1;have c0:=ah (k:=0) HBXr.out;have c1:=ah (k:=1) HBXr.out
   have c2:=ah (k:=2) HBXr.out;have c3:=ah (k:=3) HBXr.out;have c4:=ah (k:=4) HBXr.out;have c5:=ah (k:=5) HBXr.out;simp only[eX]at c0 c1 c2 c3 c4 c5;clear hb1 HBX
   by_cases hk1:en.kind=1
   ·have e1:(en.kind == 1)=true:=by simp[hk1]
    have HK:=aa (show dQ en=(decide (en.data.length<=1048576) && decide (en.link.size=0)) by unfold dQ; rw[if_pos hk1]);clear hk1;go_wp2_with fail
    ·go_ret;refine⟨ak ?_,HB1.out⟩;rw[HH.out,HK.out,HL.out,decide_eq_true (p:=en.data.length<=1048576) (by omega)]
     rfl
    ·go_ret;refine⟨ak ?_,HB1.out⟩;rw[HH.out,HK.out,decide_eq_false (p:=en.data.length<=1048576) (by omega)]
     rfl
   ·have e1:(en.kind == 1)=false:=by simp[hk1]
    by_cases hk2:en.kind=2
    ·have e2:(en.kind == 2)=true:=by simp[hk2]
     have HK:=aa (show dQ en=(decide (en.data.length=0) && decide (en.link.size=0)) by unfold dQ; rw[if_neg hk1,if_pos hk2]);clear hk1 hk2;go_wp2_with fail
     ·go_ret;refine⟨ak ?_,HB1.out⟩;rw[HH.out,HK.out,HL.out,decide_eq_true (p:=en.data.length=0) (by rw[show en.data=[] by assumption]; rfl)]
      rfl
     ·go_ret;refine⟨ak ?_,HB1.out⟩;rw[HH.out,HK.out,decide_eq_false (p:=en.data.length=0) (fun h=>absurd (List.eq_nil_of_length_eq_zero h) (by assumption))]
      rfl
    ·have e2:(en.kind == 2)=false:=by simp[hk2]
     by_cases hk3:en.kind=3
     ·have e3:(en.kind == 3)=true:=by simp[hk3]
      have HK:=aa (show dQ en=(decide (en.data.length=0) && iO (bl en.link)) by unfold dQ; rw[if_neg hk1,if_neg hk2,if_pos hk3]);clear hk1 hk2 hk3;go_wp2_with (go_at_call 99; refine(og en.link _ HO.out.lnk).mono ?_; rintro e w3 ⟨rfl,rfl⟩)
      ·go_ret;refine⟨ak ?_,HB1.out⟩;rw[HH.out,HK.out,decide_eq_true (p:=en.data.length=0) (by rw[show en.data=[] by assumption]; rfl)]
       rfl
      ·go_ret;refine⟨ak ?_,HB1.out⟩;rw[HH.out,HK.out,decide_eq_false (p:=en.data.length=0) (fun h=>absurd (List.eq_nil_of_length_eq_zero h) (by assumption))]
       rfl
     ·have e3:(en.kind == 3)=false:=by simp[hk3]
      have HK:=aa (show dQ en=false by unfold dQ; rw[if_neg hk1,if_neg hk2,if_neg hk3]);clear hk1 hk2 hk3;go_wp2_with fail;go_ret;exact⟨ak (by rw[HH.out,HK.out]),HB1.out⟩
  ·have HF:=aa (show bR en=false by
    have:gL en=false:=by
     unfold gL; rw[Bool.eq_false_iff]; simp; omega
    unfold bR; rw[this]; simp)
   go_enter Tryz.func64,Tryz.ntmps64
   go_wp2_with fail;obtain⟨W,hW⟩: ∃W,W=w.alloc (.cells #[.string en.path, .int .i64 en.kind, .int .i64 en.mode, .int .i64 en.time, .slice a en.data.length cap, .string en.link] 30):=⟨_,rfl⟩;rw[<-hW];have HBW:=aa (show Below w.heap.size w W by rw[hW]; exact(Below.refl _ _).alloc (Nat.le_refl _) _);have HBX:=aa (show W.heap[w.heap.size]? =some (.cells #[.string en.path, .int .i64 en.kind, .int .i64 en.mode, .int .i64 en.time, .slice a en.data.length cap, .string en.link] 30 (0,0)) by rw[hW]; exact heap_alloc_new w _)
   clear hW;refine(jN en.path true _ (HE.out.below HBW.out) HVP.out).mono ?_;rintro e w1 ⟨rfl,hb1⟩;have HBXr:=aa ((hb1.block w.heap.size ((Array.getElem?_eq_some_iff.1 HBX.out).1)).trans HBX.out);have HB1:=aa (ac HBW.out hb1);have hlt1:w.heap.size<w1.heap.size:=(Array.getElem?_eq_some_iff.1 HBXr.out).1;have c0:=ah (k:=0) HBXr.out;have c1:=ah (k:=1) HBXr.out
   have c2:=ah (k:=2) HBXr.out;have c3:=ah (k:=3) HBXr.out;have c4:=ah (k:=4) HBXr.out;have c5:=ah (k:=5) HBXr.out;simp only[eX]at c0 c1 c2 c3 c4 c5;clear hb1 HBX;go_wp2_with fail
   all_goals first
    | (exfalso; omega)
    | (go_ret; exact⟨ak (by rw[HF.out]),HB1.out⟩)
theorem vk (S:Nat->Prop) (v:Value) (bs:List UInt8) (w:World) (hd:bU S w v bs) (hl:bs.length<=140737488355328):Calls Tryz.prog 146 #[v] w fun e w'=> ∃v',e= .returned v'/\w'.ownsRow w.heap.size 5 1 v' bs.length (bs.map u8V)/\Below w.heap.size w w':=by
 obtain⟨_,a,cap,rfl,hn,hm,h0⟩:=hd
 cases a with
 | none=>
  have hz:bs.length=0:=by
   rcases h0 with h0 | ⟨b,o,ha,_⟩
   ·exact h0
   ·cases ha
  obtain rfl:=List.eq_nil_of_length_eq_zero hz;refine(Any.bytes_Clone_nil Tryz.laysClone _ _ w).mono ?_;rintro e w' ⟨rfl,rfl⟩;exact⟨_,rfl,World.ownsRow_nil _ _ _ _,Below.refl _ _⟩
 | some a=>
  refine(Any.bytes_Clone_at Tryz.laysClone a bs.length cap (bs.map fun b=>(b.toNat:Int)) w (by simp) hl ?_).mono ?_
  ·intro i hi
   rcases h0 with h0 | ⟨b,o,ha,_,hc⟩
   ·omega
   ·cases ha
    rw[pF];refine hc i _ ?_;simp[hi,u8V]
  ·rintro e w' ⟨v',rfl,h1,_,h2⟩;refine⟨v',rfl, ?_,h2⟩;rw[List.map_map]at h1;exact h1
theorem bz {w:World} {base base' size n:Nat} {e:TypeId} {v:Value} {xs:List Value} (h:w.ownsRow base e size v n xs) (hb:base'<=base):w.ownsRow base' e size v n xs:=
 ⟨h.1,h.2.imp id (fun⟨g,cap,cur,e1,h1,h2⟩=>⟨g,cap,cur,e1,Nat.le_trans hb h1,h2⟩)⟩
theorem qU {w:World} {b k:Nat} {cs:Array Value} {t:TypeId} (h:w.heap[b]? =some (.cells cs t (0,0))):w.frozen? ⟨b,k,none⟩=false:=by simp[World.frozen?,h]
theorem AA {w:World} {b k:Nat} {cs:Array Value} {t:TypeId} (h:w.heap[b]? =some (.cells cs t (0,0))) (x:Value):(w.setCell ⟨b,k,none⟩ x).heap[b]? =some (.cells (cs.setIfInBounds k x) t (0,0)):=by
 simp only[World.setCell,Array.getElem?_modify,if_true,h,Option.map_some]; rfl
theorem nz {w:World} {b c k:Nat} {o:Obj} (h:w.heap[b]? =some o) (hne:b≠c) (x:Value):(w.setCell ⟨c,k,none⟩ x).heap[b]? =some o:=by
 rw[Below.heap_setCell _ _ _ _ hne]; exact h
theorem fh {w:World} {b:Nat} {o:Obj} (h:w.heap[b]? =some o) (x:Obj):(w.alloc x).heap[b]? =some o:=by
 have hlt:=(Array.getElem?_eq_some_iff.1 h).1;rw[Below.heap_alloc _ _ _ hlt]; exact h
theorem cX (w:World) (x:Obj):(w.alloc x).heap[w.heap.size]? =some x:=by show(w.heap.push x)[w.heap.size]? =some x; simp
theorem tp (w:World) (x y:Obj):((w.alloc x).alloc y).heap[w.heap.size+1]? =some y:=by
 have:=cX (w.alloc x) y
 rwa [show(w.alloc x).heap.size=w.heap.size+1 by show(w.heap.push x).size=_; simp]at this
theorem dM {w:World} {b:Nat} {o:Obj} (h:w.heap[b]? =some o):b<w.heap.size:=(Array.getElem?_eq_some_iff.1 h).1
theorem qF (a:Option Addr) (c:Nat) (w:World):(convert 28 9 (.slice a 0 c)).run Tryz.prog w= .ok (.string ⟨#[]⟩) w:=by cases a<;> kernel_rfl
theorem vl {S:Nat->Prop} {w:World} {v:Value} {bs:List UInt8} (hd:bU S w v bs):(convert 28 9 v).run Tryz.prog w= .ok (.string (strOfNums (bs.map fun b=>(b.toNat:Int)))) w:=by
 obtain⟨_,a,cap,rfl,hn,hm,h0⟩:=hd
 rcases h0 with h0 | ⟨b,o,rfl,_,hc⟩
 ·obtain rfl:=List.eq_nil_of_length_eq_zero h0;exact qF a cap w
 ·exact run_convert_bytes_arg (P:=Tryz.prog) w 28 5 Tryz.underlying28 Tryz.underlying5 b o bs.length cap (bs.map fun b=>(b.toNat:Int)) (by simp) (fun i hi=>by
   rw[hc i (u8V bs[i]) (by simp[hi])];simp[u8V,List.getD,hi]) 9 Tryz.underlying9
open Go.RowKit Go.Maps
theorem eO (p q:ByteArray) (w:World) (he:ie w) (hv:bv (bl p)=true) (hq:q=⟨(aL (bl p)).toArray⟩):
  Calls Tryz.prog 66 #[.string p] w fun e w'=>e= .returned (.tuple #[.string q, .bool true])/\Below w.heap.size w w':=by
 rw[hq]; exact tw p w he hv
theorem fT (q:ByteArray):q.toList.isEmpty=decide (bl q=[]):=by rw[aX,Bool.eq_iff_iff]; simp
theorem jg (S:Nat->Prop) (en:bi) (v:Value) (b:Bool) (w:World) (hd:bU S w v en.data) (hok:ic en) (henv:ie w) (h:bR en=b):Calls Tryz.prog 64 #[mF v en] w fun e w'=>e= .returned (.bool b)/\Below w.heap.size w w':=by
 rw[<-h]; exact ue S en v w hd hok henv
open Go Go.RowKit Go.Maps
theorem Tryz.appEnts :cB Tryz.prog 45 30 6 80:=cB.mk' (z:=Br) Tryz.underlying45 (by kernel_rfl) rfl (by decide) (by decide)
def jp (ys:List sG):List Value:=ys.flatMap fun y=>gD y.1 y.2
theorem jB (ys:List sG) (y:sG):jp (ys++[y])=jp ys++gD y.1 y.2:=by simp[jp]
theorem qP {a:Option Addr} {n c:Nat} {e:bi} : ∀u∈gD (.slice a n c) e,u.oneCell'=true:=by
 intro u hu;simp only[gD,List.mem_cons,List.not_mem_nil,or_false]at hu
 rcases hu with rfl | rfl | rfl | rfl | rfl | rfl<;> rfl
theorem mG {S:Nat->Prop} {w:World} : ∀ {ys:List sG},(∀y∈ys,bU S w y.1 y.2.data/\ic y.2)->bb (jx S w) (jp ys) (ys.map Prod.snd)
 | [],_=>rfl
 | y::ys,h=>⟨gD y.1 y.2,jp ys,by simp[jp],⟨y.1,rfl,h y (by simp)⟩,mG (fun z hz=>h z (by simp[hz]))⟩
theorem bU.slice {S:Nat->Prop} {w:World} {v:Value} {bs:List UInt8} (h:bU S w v bs): ∃a c,v= .slice a bs.length c/\bs.length<=c/\c<=maxLen:=by
 obtain⟨_,a,c,rfl,h1,h2,_⟩:=h;exact⟨a,c,rfl,h1,h2⟩
theorem aK {w w':World} {B n sz:Nat} {e:TypeId} {v:Value} {xs:List Value} (h:w.ownsRow B e sz v n xs) (hb:Below w.heap.size w w'):w'.ownsRow B e sz v n xs:=by
 refine h.kept (row:=none) ⟨hb.os,hb.tape,hb.output,hb.size,fun k hk _=>hb.block k hk⟩ ?_
 cases hv:v.ownBlock
 ·exact .inl rfl
 ·exact .inr (by simp)
end Go.Proofs.YtnjkpcalgoefhaaGreatDoor
namespace Go.Proofs.YtnjkpcalgoefhaaGreatDoor
open Go.RowKit Go.Maps
theorem ow : ∀ {m pre:List bi} (r:List bi),Tr (pre++m)->gc pre (m++r)=gc (pre++m) r
 | [],pre,r,_=>by simp
 | e::m,pre,r,h=>by
  have h1:Tr (pre++[e]):=Tr.pre (M:=m) (by simpa using h);have h2:=(io h1.pre e).2 h1;have h3:=ow (m:=m) (pre:=pre++[e]) r (by simpa using h);rw[List.cons_append,gc,if_pos h2,h3];simp
theorem qx {L:List bi} (hl:L.length<=4096) {k:Nat} (h:Tr (L.take k)):bL L=gc (L.take k) (L.drop k):=by
 have h1:=ow (m:=L.take k) (pre:=[]) (L.drop k) (by simpa using h);rw[List.take_append_drop,List.nil_append]at h1;unfold bL;rw[if_neg (by omega),h1]
theorem ez {α:Type} {L:List α} {k:Nat} {e:α} (h:L[k]? =some e):L.drop k=e::L.drop (k+1):=by
 obtain⟨h1,h2⟩:=List.getElem?_eq_some_iff.1 h;rw[List.drop_eq_getElem_cons h1,h2]
theorem cI {L:List bi} (hl:L.length<=4096) {k:Nat} (h:Tr (L.take k)) {e:bi} (he:L[k]? =some e) {x:Int} (hx:bC (L.take k) e=x) (h0:x≠0):bL L=x:=by
 rw[qx hl h,ez he,gc,hx,if_neg h0]
theorem ey {L:List bi} {k:Nat} (h:Tr (L.take k)) {e:bi} (he:L[k]? =some e) (hx:bC (L.take k) e=0):Tr (L.take (k+1)):=by
 rw[List.take_add_one,he];exact(io h e).1 hx
theorem mf {L:List bi} (hl:L.length<=4096) (h:Tr (L.take L.length)):bL L=0:=by
 rw[qx hl h,List.drop_length]; rfl
theorem ox {L:List bi} (hl:4096<L.length):bL L=2:=by unfold bL; rw[if_pos hl]
def mP (e:bi):Value×Value:=(.string e.path, .int .i64 e.kind)
theorem gu :Tryz.prog.underlying 131=some (.map 9 3):=Tryz.underlying131
theorem tn (w:World) (n:Nat) (hn:n<=4096):(Instr.makeMap 131 (some (.int .i64 (n:Int)))).run Tryz.prog w= .ok (.map (some w.heap.size)) (w.alloc (.map #[] 0)):=by
 have h1:IntKind.i64.wrap (n:Int)=n:=by rw[IntKind.wrap_i64]; omega
 simp[Instr.makeMap,asInt,asIntOf]
theorem iY {w:World} {mb:Nat} {M:List bi} (h:dw Tryz.prog 9 w mb (M.map mP)) {p:ByteArray} (hp:p.size<=maxLen) {f:bi} (hf:dD M p=some f):
  (Instr.lookup 131 (.map (some mb)) (.string p) true).run Tryz.prog w= .ok (.tuple #[.int .i64 f.kind, .bool true]) w:=by
 obtain⟨h1,h2⟩:=jC hf;have h3:(Value.string p,Value.int .i64 f.kind)∈M.map mP:=List.mem_map.2 ⟨f,h1,by rw[<-h2]; rfl⟩;have:=h.is.hit cD gu (cO hp) h3 true
 simpa only[if_true]using this
theorem mQ {w:World} {mb:Nat} {M:List bi} (h:dw Tryz.prog 9 w mb (M.map mP)) {p:ByteArray} (hp:p.size<=maxLen) (hf:dD M p=none):
  (Instr.lookup 131 (.map (some mb)) (.string p) true).run Tryz.prog w= .ok (.tuple #[.int .i64 0, .bool false]) w:=by
 have hz:(zeroValue 3).run Tryz.prog w= .ok (.int .i64 0) w:=by kernel_rfl
 have:=h.is.miss cD gu hz (cO hp) (fun q hq e=>by
  obtain⟨x,hx,rfl⟩:=List.mem_map.1 hq;simp only[mP,Value.string.injEq]at e;exact mI hf x hx e) true
 simpa only[if_true]using this
theorem iZ {M:List bi} {e:bi} (h:Tr (M++[e])): ∀q∈M.map mP,q.1≠Value.string e.path:=by
 intro q hq hc;obtain⟨x,hx,rfl⟩:=List.mem_map.1 hq;simp only[mP,Value.string.injEq]at hc;have hn:=h.ord.nodup;rw[List.map_append,List.nodup_append]at hn;exact hn.2.2 x.path (List.mem_map.2 ⟨x,hx,rfl⟩) e.path (by simp) hc
theorem go (a b:ByteArray) (o:Int) (w:World) (ha:a.size<=maxLen) (h:bH (bl a) (bl b)=o):Calls Tryz.prog 65 #[.string a, .string b] w fun e w'=>e= .returned (.int .i64 o)/\Below w.heap.size w w':=by
 rw[<-h]; exact qD a b w (by unfold maxLen at ha; omega)
theorem qm {L:List bi} {k:Nat} {f e:bi} (hf:L[k]? =some f):fw (L.take (k+1)) e=decide (bH (bl f.path) (bl e.path)<0):=by
 have:(L.take (k+1)).getLast? =some f:=by rw[List.take_add_one,hf]; simp
 unfold fw;rw[this]; rfl
end Go.Proofs.YtnjkpcalgoefhaaGreatDoor
