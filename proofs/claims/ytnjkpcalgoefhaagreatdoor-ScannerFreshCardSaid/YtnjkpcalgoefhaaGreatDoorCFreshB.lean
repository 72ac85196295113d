/- Texts of this proof, one after the other: ShaF, Built, RollP, ChkP, RollA, RollB, HmacA, HmacB, MarkA, MarkB, MarkC, ScnP, ScnQ, ScnC, FrsP, Ent, ScnM, ScnV, MapS, TreeM, TreeN, FtA, FtB, FtC, FtD, FtE, OwnE, FtP, FtQ, AwQ. -/
import Derived.Test.YtnjkpcalgoefhaaGreatDoorCFreshA
set_option maxRecDepth 100000
set_option maxHeartbeats 8000000
namespace Go.Proofs.YtnjkpcalgoefhaaGreatDoor
open Go Go.RowKit
theorem xG (v:V8) {buf:List UInt8} (h:buf.length=64) (n:Nat):(aQ v buf n).toArray.size=73:=by rw[List.size_toArray,gm v h]
theorem zd (v:V8) (buf:List UInt8) (n:Nat): ∀x∈aQ v buf n,x.oneCell'=true:=by
 intro x hx;unfold aQ at hx
 rcases List.mem_append.1 hx with hx | hx
 ·obtain⟨y,_,rfl⟩:=List.mem_map.1 hx; rfl
 ·rcases List.mem_append.1 hx with hx | hx
  ·obtain⟨y,_,rfl⟩:=List.mem_map.1 hx; rfl
  ·rw[List.mem_singleton.1 hx]; rfl
theorem vq {w:World} {sb:Nat} {v:V8} {buf:List UInt8} {n:Nat} {rest:List Value} {ty:TypeId} (h:w.heap[sb]? =some (.cells (aQ v buf n++rest).toArray ty (0,0))):w.rangeAt sb 0 (aQ v buf n):=by
 intro j x hj;rw[cell_of_row w _ _ _ _ _ h,Nat.zero_add,List.getElem?_toArray,List.getElem?_append_left (List.getElem?_eq_some_iff.1 hj).1];exact hj
theorem ph : ∀l:List Nat,(l.flatMap ox).length=4*l.length
 | []=>rfl
 | x::l=>by rw[List.flatMap_cons,List.length_append,ph l,sX,List.length_cons]; omega
theorem Ag (v:V8) {k:Nat} (h:k<8):v.list.take (k+1)=v.list.take k++[v.list.getD k 0]:=by
 have hc:k=0\/k=1\/k=2\/k=3\/k=4\/k=5\/k=6\/k=7:=by omega
 rcases hc with rfl | rfl | rfl | rfl | rfl | rfl | rfl | rfl<;> rfl
theorem mO {w w':World} (h:w.grownBy w' none):Below w.heap.size w w':=⟨h.os,h.tape,h.output,h.size,fun k hk=>h.block k hk (by simp)⟩
def ld (z:Nat):List UInt8:=128::List.replicate z 0
theorem uz (z:Nat):ld (z+1)=ld z++[0]:=by unfold ld; rw[List.replicate_succ',List.cons_append]
theorem lZ (z:Nat):(ld z).length=z+1:=by simp[ld]
structure lr (w W1 wr : World) (v : Value) (pad : List UInt8) : Prop where
 row:wr.ownsRow (w.heap.size+1) 5 1 v pad.length (pad.map aC)
 below:Below W1.heap.size W1 wr
theorem lr.app {w W1 wr w':World} {v v':Value} {pad:List UInt8} {x:UInt8} {n:Nat} {cs:List Value} (h:lr w W1 wr v pad) (hs:W1.heap.size=w.heap.size+1) (h1:w'.ownsRow (w.heap.size+1) 5 1 v' (n+1) cs) (h2:wr.grownBy w' v.ownBlock) (hn:n=pad.length:=by simp[lZ]) (hc:cs=pad.map aC++[aC x]:=by rfl):lr w W1 w' v' (pad++[x]):=by
 subst hn hc;refine⟨by simpa using h1,aP h.below h.row h2 (by omega) (by have:=h.below.size; omega)⟩
theorem yk (c:Nat) {k s:Nat} (h:k<8) (hs:s=56-8*k):(eU c).getD k 0=UInt8.ofNat (c/2^s):=by
 subst hs;have hc:k=0\/k=1\/k=2\/k=3\/k=4\/k=5\/k=6\/k=7:=by omega
 rcases hc with rfl | rfl | rfl | rfl | rfl | rfl | rfl | rfl
 case inr.inr.inr.inr.inr.inr.inr=>simp[eU]
 all_goals rfl
theorem we (c:Nat) {k:Nat} (h:k<8):(eU c)[k]? =some ((eU c).getD k 0):=by
 have:k<(eU c).length:=h;simp[List.getD_eq_getElem?_getD,this]
theorem fM (y:Nat) (v:Int) (h:v=(y:Int)):Value.int .u8 (v%256)=aC (UInt8.ofNat y):=by
 subst h;unfold aC;rw[UInt8.toNat_ofNat'];simp
theorem sy (sb:Nat) (ty:TypeId) (rest:List Value) (data:List UInt8) (w:World) (h:jn w sb ty rest data) (hlen:data.length<576460752303423488) (hK:eP w) (hKlt:4<w.heap.size):
  Calls Tryz.prog 149 #[.pointer (some ⟨sb,0,none⟩)] w fun e w'=>e= .returned (.string ⟨(jP data).toArray⟩)/\Below w.heap.size w w':=by
 obtain⟨buf,hb64,htl,hbox⟩:=h;have HBX:=aa hbox;have HTL:=aa htl;have HK:=aa hK;have HL64:=aa hb64;have hsl:=lt_of_block hbox;obtain⟨n,hn⟩: ∃n,n=data.length:=⟨_,rfl⟩;have c72:=(cell_of_row w _ 72 _ _ _ HBX.out).trans (nU _ hb64 data.length rest);rw[<-hn]at c72 hlen;have HN:=aa hn;clear hbox htl hK hb64 hn;have HSZ:=aa (xG (cT data (data.length/64)) HL64.out data.length)
 have HONE:=aa (all_oneCell_toArray (zd (cT data (data.length/64)) buf data.length));have HI73:=aa (show(Tryz.prog.info? 248).map (·.size)=some (aQ (cT data (data.length/64)) buf data.length).length by rw[gm _ HL64.out]; kernel_rfl);have HI73b:=aa (show(Tryz.prog.info? 248).map (·.size)=some (aQ (cT data (data.length/64)) buf data.length).toArray.size by rw[HSZ.out]; kernel_rfl)
 have HRG:=aa (vq HBX.out)
 go_enter Tryz.func149,Tryz.ntmps149
 go_wp2_with (first | (refine wpList_load_mid rfl 248 _ rfl sb 0 rfl (aQ (cT data (data.length/64)) buf data.length) _ HRG.out Tryz.underlying248 rfl HI73.out ?_) | (refine wpList_store_row rfl 248 _ _ rfl w.heap.size _ rfl rfl _ _ (heap_alloc_new w _) HI73b.out (HSZ.out.symm) HONE.out ?_));obtain⟨W1,hW1⟩: ∃W1,W1=(w.alloc (.cells Tryz.zeroCells248 248)).setRow w.heap.size (aQ (cT data (data.length/64)) buf data.length).toArray:=⟨_,rfl⟩
 rw[<-hW1];have hsz1:W1.heap.size=w.heap.size+1:=by rw[hW1]; simp
 have HBW:=aa (show Below w.heap.size w W1 by rw[hW1]; exact below_setRow ((Below.refl _ _).alloc (Nat.le_refl _) _) (Nat.le_refl _) _);have HPB:=aa (show jn W1 w.heap.size 248 [] data from⟨buf,HL64.out,HTL.out,by rw[hW1,List.append_nil]; exact setRow_heap _ _ _ _ _ _ (heap_alloc_new w _)⟩);clear hW1;rw[<-hsz1];obtain⟨W2,hW2⟩: ∃W2,W2=W1.alloc (.cells #[.int .u8 128] 5):=⟨_,rfl⟩
 have HP0:=aa (show lr w W1 W2 (.slice (some ⟨W1.heap.size,0,none⟩) 1 1) (ld 0)from⟨by
  rw[hW2];exact World.ownsRow_lit (e:=5) (size:=1) (base:=w.heap.size+1) W1 #[.int .u8 128] 1 (by omega) (by decide) (by simp),by rw[hW2]; exact(Below.refl _ _).alloc (Nat.le_refl _) _⟩)
 rw[<-hW2];clear hW2;have HSZ1:=aa hsz1;clear hsz1;have hzn:bU n<64:=by unfold bU; omega
 go_loopw [4] (fun x wr=> ∃z:Nat,z<=bU n/\lr w W1 wr x (ld z)) (fun x _=>64-yI x)
 case atStart=>exact⟨0,by omega,HP0.out⟩
 case round=>
  obtain⟨z,hz,hpad⟩:=hrel;obtain⟨ao,co,rfl,h1,h2⟩:=aj hpad.row;have hl:(ld z).length=z+1:=lZ z;have hpd:=hpad;rw[hl]at hpd;have HPD:=aa hpd;clear hpd;rw[hl]at h1 ⊢;have HROW:=aa (show wr.ownsRow (w.heap.size+1) 5 1 (.slice ao (z+1) co) (z+1) ((ld z).map aC) by have:=hpad.row; rw[hl]at this; exact this);have hbz:=hpad.below.size;clear hpad HP0
  have c72r:=(HPD.out.below.cell (p:=⟨sb,72,none⟩) (by have:=HSZ1.out; show sb<_; omega)).trans ((HBW.out.cell (p:=⟨sb,72,none⟩) hsl).trans c72)
  by_cases hzz:z<bU n
  ·have hne: ¬((n:Int)+((z:Int)+1))%64=56:=by unfold bU at hzz; omega
   have HZ:=aa (show ∀u∈[(Value.int .u8 0)],u.oneCell'=true by simp[Value.oneCell']);have hzb:z+1+1<1099511627775:=by omega
   have hzc:w.heap.size+1<=wr.heap.size:=by have:=HSZ1.out; omega
   go_wp2_with (at_builtin; (refine io rfl _ _ rfl (w.heap.size+1) (.slice ao (z+1) co) (z+1) 1 ((ld z).map aC) rfl wr [.int .u8 0] _ rfl rfl HZ.out HROW.out hzb hzc ?_); intro v' wc hown' hgrow'; have HP3:=aa (HPD.out.app (x:=0) HSZ1.out hown' hgrow' hl.symm rfl); obtain⟨ae,ce,rfl,-,-⟩:=aj hown'; clear hown' hgrow')
   go_roundw
   case rel=>exact⟨z+1,by omega,by rw[uz]; exact HP3.out⟩
   case measure=>simp[yI]; omega
  ·have hez:z=bU n:=by omega
   have heq:((n:Int)+((z:Int)+1))%64=56:=by rw[hez]; unfold bU; omega
   have HZE:=aa hez
   go_upto_region 6 with(fail)
   rename ((_ != _)=false)=>hcond
   clear hcond heq hez hzz;obtain⟨pz,hpz⟩: ∃pz,pz=ld z:=⟨_,rfl⟩;have HPZ:=aa hpz;have HQ0:=aa (show lr w W1 wr (.slice ao (z+1) co) (pz++(eU (n*8)).take 0) by rw[List.take_zero,List.append_nil,hpz]; exact HPD.out);clear hpz;go_wp2_with fail
   go_loopw [4,6] (fun x s wr=> ∃k:Nat,k<=8/\s= .int .i64 (56-8*(k:Int))/\lr w W1 wr x (pz++(eU (n*8)).take k)) (fun _ s _=>(intOf s+8).toNat)
   case atStart=>exact⟨0,by omega,rfl,HQ0.out⟩
   case round=>
    obtain⟨k,hk,rfl,hpad⟩:=hrel;obtain⟨aq,cq,rfl,h1q,h2q⟩:=aj hpad.row;obtain⟨pl,hpl⟩: ∃pl,pl=(pz++(eU (n*8)).take k).length:=⟨_,rfl⟩;rw[<-hpl]at hpad h1q ⊢;have HQD:=aa hpad;have HROW2:=aa (show wr.ownsRow (w.heap.size+1) 5 1 (.slice aq pl cq) pl ((pz++(eU (n*8)).take k).map aC) by have:=hpad.row; rw[<-hpl]at this; exact this);have HPL:=aa hpl
    have hplb:pl<=72:=by rw[hpl,List.length_append,HPZ.out,lZ]; have:=List.length_take_le k (eU (n*8)); have:(eU (n*8)).length=8:=rfl; omega
    have hbz2:=hpad.below.size;have hbz3:=HSZ1.out▸hbz2;clear hpad hpl
    by_cases hk8:k<8
    ·obtain⟨sN,hsN⟩: ∃sN:Nat,56-8*(k:Int)=(sN:Int):=⟨56-8*k,by omega⟩;rw[hsN];have hsl2:(sN:Int)<=56:=by omega
     have hmin:min sN 64=sN:=by omega
     obtain⟨x,hx⟩: ∃x,x=(eU (n*8)).getD k 0:=⟨_,rfl⟩;have HV:=aa (show Value.int .u8 ((n:Int)*8/2^sN%256)=aC x by rw[hx,yk _ hk8 (by omega:sN=56-8*k)]; exact fM _ _ rfl);have HTK:=aa (show(eU (n*8)).take (k+1)=(eU (n*8)).take k++[x] by rw[hx,List.take_add_one,we _ hk8]; rfl);have HSN:=aa hsN;have hsn8: -8<=(sN:Int)-8:=by omega
     clear hx hsN;have HZ:=aa (show ∀u∈[(Value.int .u8 ((n:Int)*8/2^sN%256))],u.oneCell'=true by simp[Value.oneCell']);have hzb:pl+1<1099511627775:=by omega
     have hzc:w.heap.size+1<=wr.heap.size:=by have:=HSZ1.out; omega
     go_wp2_with (at_builtin; go_loud (refine io rfl _ _ rfl (w.heap.size+1) (.slice aq pl cq) pl 1 ((pz++(eU (n*8)).take k).map aC) rfl wr [.int .u8 ((n:Int)*8/2^sN%256)] _ rfl rfl HZ.out HROW2.out hzb hzc ?_); intro v' wc hown' hgrow'; go_loud (have HP3:=aa (HQD.out.app (x:=x) HSZ1.out hown' hgrow' HPL.out (by rw[HV.out]))); obtain⟨ae,ce,rfl,-,-⟩:=aj hown'; clear hown' hgrow')
     go_roundw
     case rel=>exact⟨k+1,by omega,by have:=HSN.out; congr 1; omega,by rw[HTK.out,<-List.append_assoc]; exact HP3.out⟩
     case measure=>simp[intOf]; omega
    ·obtain rfl:k=8:=by omega
     have hpp:pz++(eU (n*8)).take 8=fU data.length:=by
      rw[HPZ.out,HZE.out,<-HN.out,List.take_of_length_le (show(eU (n*8)).length<=8 from Nat.le_refl _)];unfold fU ld;rw[Nat.mod_eq_of_lt (by omega)]
     have hby:aR (· ≠w.heap.size) wr (.slice aq pl cq) (fU data.length):=by
      have h9:=bu HROW2.out;rw[hpp]at h9;have h10:pl=(fU data.length).length:=by rw[<-hpp]; exact HPL.out
      rw[h10]at h9 ⊢;exact h9.weak (fun j hj=>by show j≠w.heap.size; have:=hj.1; omega)
     have HBY:=aa hby
     have HPP:=aa hpp;clear hby hpp;have hpl2:(fU data.length).length<=80:=by rw[lY]; unfold bU; omega
     go_wp2_with fail;refine(jQ w.heap.size 248 [] data (fU data.length) (.slice aq pl cq) wr ?_ HBY.out (by have:=HN.out; omega) ?_ (by have:=HSZ1.out; omega) (by omega)).mono ?_
     ·obtain⟨b1,b2,b3,b4⟩:=HPB.out;exact⟨b1,b2,b3,(HQD.out.below.block _ (lt_of_block b4)).trans b4⟩
     ·intro j x hj;rw[<-HK.out j x hj];exact World.cell?_of_block ((HQD.out.below.block _ (by have:=HSZ1.out; show 4<_; omega)).trans (HBW.out.block _ hKlt))
     ·rintro e w3 ⟨rfl,hsha,hg3⟩;obtain⟨buf2,hb1,hb2,hb3⟩:=hsha;obtain⟨vv,hvv⟩: ∃vv,vv=cT (data++fU data.length) ((data++fU data.length).length/64):=⟨_,rfl⟩;rw[<-hvv,cQ]at hb3;have HB3:=aa hb3;have HVV:=aa hvv;have hz3:=hg3.size;have HBL3:=aa (show Below w.heap.size w w3 from((HBW.out.trans (HQD.out.below.mono HBW.out.size)).grown hg3 (by have:=HSZ1.out; omega) (fun k hk=>by cases hk; exact Nat.le_refl _)))
      have hzz3:w.heap.size+1<=w3.heap.size:=by have:=HSZ1.out; omega
      clear hb1 hb2 hb3 hvv hg3;obtain⟨ht9,⟨i9,z9,h91,h92,h93,h94,h95⟩,-,-⟩:=Tryz.appBytes;have hb32:i9.bytes*32<=281474976710656:=by rw[h94]; decide
      have H9:=aa (And.intro h91 (And.intro h92 (And.intro h93 hb32)));clear h91 h92 h93 h94 h95 hb32
      go_upto_region 12 with(refine wpList_make_own _ rfl _ _ 28 rfl (w.heap.size+1) 5 i9 z9 1 Tryz.underlying28 H9.out.1 H9.out.2.1 H9.out.2.2.1 .i64 .i64 32 32 rfl rfl rfl H9.out.2.2.2 (by decide) hzz3 ?_; intro w4 hown4 hg4; have HO4:=aa hown4; have HG4:=aa hg4; clear hown4 hg4)
      have HBL4:=aa (HBL3.out.trans ((mO HG4.out).mono HBL3.out.size));have HB4:=aa ((HG4.out.block _ (lt_of_block HB3.out) (by simp)).trans HB3.out);have HR4:=aa (kT HB4.out);have hzz4:w.heap.size+1<=w4.heap.size:=by have:=HG4.out.size; omega
      have HO5:=aa (show w4.ownsRow (w.heap.size+1) 5 1 (.slice (some ⟨w3.heap.size,0,none⟩) 0 32) (((vv.list.take 0).flatMap ox).length) (((vv.list.take 0).flatMap ox).map aC)from HO4.out);go_wp2_with (refine wpList_load_mid rfl 101 _ rfl w.heap.size 0 rfl [.int .u32 (vv.a:Int), .int .u32 (vv.b:Int), .int .u32 (vv.c:Int), .int .u32 (vv.d:Int), .int .u32 (vv.e:Int), .int .u32 (vv.f:Int), .int .u32 (vv.g:Int), .int .u32 (vv.h:Int)] _ HR4.out Tryz.underlying101 rfl (by kernel_rfl) ?_)
      go_loopw [7,48] (fun x i wr=> ∃k:Nat,k<=8/\i= .int .i64 (k:Int)/\wr.ownsRow (w.heap.size+1) 5 1 x (((vv.list.take k).flatMap ox).length) (((vv.list.take k).flatMap ox).map aC)/\Below w.heap.size w wr/\w.heap.size+1<=wr.heap.size) (fun _ i _=>8-(intOf i).toNat)
      case atStart=>exact⟨0,by omega,rfl,HO5.out,HBL4.out,hzz4⟩
      case round=>
       obtain⟨k,hk,rfl,hown,hbel,hzz5⟩:=hrel;obtain⟨asx,csx,rfl,h1s,h2s⟩:=aj hown;obtain⟨sl,hsl5⟩: ∃sl,sl=((vv.list.take k).flatMap ox).length:=⟨_,rfl⟩;rw[<-hsl5]at hown h1s ⊢;have HSL:=aa hsl5;have HOW:=aa hown;have HBE:=aa hbel;have hslb:sl<=32:=by rw[hsl5,ph,List.length_take]; omega
       clear hsl5 hown hbel
       by_cases hk8:k<8
       ·have hI: ∀w,(Instr.index 101 (.agg #[.int .u32 (vv.a:Int), .int .u32 (vv.b:Int), .int .u32 (vv.c:Int), .int .u32 (vv.d:Int), .int .u32 (vv.e:Int), .int .u32 (vv.f:Int), .int .u32 (vv.g:Int), .int .u32 (vv.h:Int)]) (.int .i64 (k:Int))).run Tryz.prog w= .ok (.int .u32 ((vv.list.getD k 0:Nat):Int)) w:=wU vv hk8;obtain⟨y,hy⟩: ∃y,y=vv.list.getD k 0:=⟨_,rfl⟩
        rw[<-hy]at hI;have HTK:=aa (show(vv.list.take (k+1)).flatMap ox=(vv.list.take k).flatMap ox++ox y by rw[hy,Ag vv hk8,List.flatMap_append]; simp);have HZ:=aa (show ∀u∈[(Value.int .u8 ((y:Int)/16777216%256)), .int .u8 ((y:Int)/65536%256), .int .u8 ((y:Int)/256%256), .int .u8 ((y:Int)%256)],u.oneCell'=true by simp[Value.oneCell']);have HV:=aa (show [(Value.int .u8 ((y:Int)/16777216%256)), .int .u8 ((y:Int)/65536%256), .int .u8 ((y:Int)/256%256), .int .u8 ((y:Int)%256)]=(ox y).map aC by
         rw[fM (y/2^24) _ (by simp),fM (y/2^16) _ (by simp),fM (y/2^8) _ (by simp),fM y _ rfl]; rfl)
        have hk8i:(k:Int)<8:=by omega
        have hslb2:sl+4<1099511627775:=by omega
        clear hy;go_wp2_with (at_builtin; go_loud (refine io rfl _ _ rfl (w.heap.size+1) (.slice asx sl csx) sl 4 (((vv.list.take k).flatMap ox).map aC) rfl wr [.int .u8 ((y:Int)/16777216%256), .int .u8 ((y:Int)/65536%256), .int .u8 ((y:Int)/256%256), .int .u8 ((y:Int)%256)] _ rfl rfl HZ.out HOW.out hslb2 hzz5 ?_); intro v' wc hown' hgrow'; have HO6:=aa hown'; have HG6:=aa hgrow'; obtain⟨ae,ce,rfl,-,-⟩:=aj hown'; clear hown' hgrow')
        go_roundw
        case rel=>
         refine⟨k+1,by omega,by simp, ?_,aP HBE.out HOW.out HG6.out (by omega) (by omega),by have:=HG6.out.size; omega⟩;rw[HTK.out,List.length_append,sX,List.map_append,<-HV.out,<-HSL.out];exact HO6.out
        case measure=>simp[intOf]; omega
       ·obtain rfl:k=8:=by omega
        have hout:(vv.list.take 8).flatMap ox=jP data:=by
         unfold jP V8.out;rw[<-HVV.out]; rfl
        have hb8:aR (fun _=>True) wr (.slice asx sl csx) (jP data):=by
         have h9:=bu HOW.out;have h10:=HSL.out;rw[hout]at h9 h10;rw[h10]at h9 ⊢;exact h9.weak (fun _ _=>trivial)
        have hcv:=zD hb8;have HBE2:=aa HBE.out;clear hb8 hout;go_wp2_with fail;go_ret;exact⟨rfl,HBE2.out⟩
theorem pM (off:Nat): ∀(xs:List Value) (k:Nat) (cs:Array Value),off+k+xs.length<=cs.size->
  ((xs.zipIdx k).foldl (fun cs p=>cs.setIfInBounds (off+p.2) p.1) cs).toList=cs.toList.take (off+k)++(xs++cs.toList.drop (off+k+xs.length))
 | [],k,cs,_=>by simp
 | x::xs,k,cs,h=>by
  rw[List.length_cons]at h;rw[List.zipIdx_cons,List.foldl_cons,pM off xs (k+1) _ (by simp; omega),Array.toList_setIfInBounds];have h1:off+k<cs.toList.length:=by simp; omega
  have h2:((cs.toList.set (off+k) x).take (off+(k+1)))=cs.toList.take (off+k)++[x]:=by
   rw[show off+(k+1)=off+k+1 by omega,List.take_add_one,List.take_set_of_le (Nat.le_refl _),List.getElem?_set_self h1]; rfl
  have h3:(cs.toList.set (off+k) x).drop (off+(k+1)+xs.length)=cs.toList.drop (off+k+(xs.length+1)):=by
   rw[List.drop_set_of_lt (by omega),show off+(k+1)+xs.length=off+k+(xs.length+1) by omega]
  rw[h2,h3,List.length_cons]; simp
theorem nA {place:Nat->Option (Nat×Nat)} {cells:Array Value} {i off size:Nat} {a:Array Value} {rest:List (Nat×Value)} (hp:place i=some (off,size)) (ha:a.size=size) (hf:off+size<=cells.size):
  Instr.fill place cells ((i, .agg a)::rest)=Instr.fill place (splice cells.toList off a.toList).toArray rest:=by
 subst ha;have hc:(Value.agg a).cells=a:=rfl;rw[Instr.fill,hp];simp only[hc];rw[if_neg (by simp; omega)]
 congr 1
 apply Array.ext'
 have h:=pM off a.toList 0 cells (by simpa using hf);have e:(a.zipIdx.foldl (fun cs (p:Value×Nat)=>cs.setIfInBounds (off+p.2) p.1) cells)=((a.toList.zipIdx 0).foldl (fun cs (p:Value×Nat)=>cs.setIfInBounds (off+p.2) p.1) cells):=by
  rw[<-Array.foldl_toList,Array.toList_zipIdx]
 show(a.zipIdx.foldl (fun cs (p:Value×Nat)=>cs.setIfInBounds (off+p.2) p.1) cells).toList=_
 rw[e,h];simp[splice]
end Go.Proofs.YtnjkpcalgoefhaaGreatDoor
namespace Go.Proofs.YtnjkpcalgoefhaaGreatDoor
def cM (x k:Nat):Nat:=(x*2^k%18446744073709551616) ||| (x/2^(64-k))
def lf :Nat->Nat->Nat
 | 0,x=>x
 | n+1,x=>cM (lf n x) 1
theorem ej {x k:Nat} (_hk:k<=64) (i:Nat):(cM x k).testBit i=((decide (i<64) && decide (k<=i) && x.testBit (i-k)) || x.testBit (64-k+i)):=by
 unfold cM;rw[Nat.testBit_or,show(18446744073709551616:Nat)=2^64 from rfl,Nat.testBit_mod_two_pow,Nat.testBit_mul_two_pow,Nat.testBit_div_two_pow,Nat.add_comm i (64-k),Bool.and_assoc]
theorem eV {x:Nat} (hx:x<18446744073709551616) {i:Nat} (h:64<=i):x.testBit i=false:=
 Nat.testBit_lt_two_pow (Nat.lt_of_lt_of_le hx (Nat.pow_le_pow_right (by decide) h:2^64<=2^i))
theorem fX {x:Nat} (k:Nat) (hx:x<18446744073709551616):cM x k<18446744073709551616:=
 Nat.or_lt_two_pow (n:=64) (Nat.mod_lt _ (by decide)) (Nat.lt_of_le_of_lt (Nat.div_le_self _ _) hx)
theorem tG : ∀(n:Nat) {x:Nat},x<18446744073709551616->lf n x<18446744073709551616
 | 0,_,h=>h
 | n+1,_,h=>fX 1 (tG n h)
theorem ml {x:Nat} (hx:x<18446744073709551616):cM x 0=x:=by
 unfold cM;rw[show(2:Nat)^(64-0)=18446744073709551616 by decide,Nat.div_eq_of_lt hx,Nat.or_zero,Nat.pow_zero,Nat.mul_one,Nat.mod_eq_of_lt hx]
theorem rV {x k:Nat} (hx:x<18446744073709551616) (hk:k<64):cM (cM x k) 1=cM x (k+1):=by
 apply Nat.eq_of_testBit_eq
 intro i;rw[ej (by decide),ej (by omega),ej (by omega),ej (by omega)]
 by_cases h64:i<64
 ·by_cases h0:i=0
  ·subst h0;have e1:x.testBit (64-k+(64-1+0))=false:=eV hx (by omega);have e2:64-1+0-k=64-(k+1)+0:=by omega
   have e3:x.testBit (64-0+0-k+64)=false:=eV hx (by omega);simp only[e1,e2];simp;omega
  ·have e1:x.testBit (64-k+(64-1+i))=false:=eV hx (by omega);have e2:(64-1+i<64)=False:=by simp; omega
   have e3:i-1-k=i-(k+1):=by omega
   have e4:64-k+(i-1)=64-(k+1)+i:=by omega
   have e5:(decide (k<=i-1))=decide (k+1<=i):=by rw[decide_eq_decide]; omega
   have e6:decide (1<=i)=true:=by simp; omega
   have e7:decide (i-1<64)=true:=by simp; omega
   have e8:decide (i<64)=true:=by simp; omega
   have e9:decide (64-1+i<64)=false:=by simp; omega
   simp only[e1,e3,e4,e5,e6,e7,e8,e9,Bool.true_and,Bool.false_and,Bool.or_false]
 ·have e1:x.testBit (64-k+(64-1+i))=false:=eV hx (by omega);have e2:x.testBit (64-(k+1)+i)=false:=eV hx (by omega);have e8:decide (i<64)=false:=by simp; omega
  have e9:decide (64-1+i<64)=false:=by simp; omega
  simp only[e1,e2,e8,e9,Bool.false_and,Bool.or_false]
theorem ln {x:Nat} (hx:x<18446744073709551616): ∀ {k:Nat},k<=64->lf k x=cM x k
 | 0,_=>(ml hx).symm
 | k+1,h=>by rw[lf,ln hx (k:=k) (by omega),rV hx (by omega)]
theorem uW {x:Nat} (hx:x<18446744073709551616):lf 64 x=x:=by
 rw[ln hx (by decide)];unfold cM;rw[show(2:Nat)^64=18446744073709551616 by decide,Nat.mul_mod_left,Nat.zero_or];simp
theorem yU {x y:Nat} (hx:x<18446744073709551616) (hy:y<18446744073709551616) {k:Nat} (hk:k<=64):cM (x^^^y) k=cM x k^^^cM y k:=by
 apply Nat.eq_of_testBit_eq
 intro i;rw[Nat.testBit_xor,ej hk,ej hk,ej hk,Nat.testBit_xor,Nat.testBit_xor]
 by_cases h:i<64/\k<=i
 ·have e:decide (i<64)=true/\decide (k<=i)=true:=by simpa using h
  rw[e.1,e.2,eV hx (i:=64-k+i) (by omega),eV hy (i:=64-k+i) (by omega)];simp
 ·have e:(decide (i<64) && decide (k<=i))=false:=by simp; omega
  rw[e]; simp
theorem jV {x y:Nat} (hx:x<18446744073709551616) (hy:y<18446744073709551616):x^^^y<18446744073709551616:=Nat.xor_lt_two_pow (n:=64) hx hy
def wY (z:Nat):Nat:=((z^^^(z/2^30))*13787848793156543929)%18446744073709551616
def wZ (z:Nat):Nat:=((z^^^(z/2^27))*10723151780598845931)%18446744073709551616
def zN (z:Nat):Nat:=z^^^(z/2^31)
def qu (seed i:Nat):Nat:=(seed+(i+1)*11400714819323198485%18446744073709551616)%18446744073709551616
def oQ (seed i:Nat):Nat:=zN (wZ (wY (qu seed i)))
theorem ll (seed i:Nat):oQ seed i<18446744073709551616:=by
 unfold oQ zN;have h:wZ (wY (qu seed i))<18446744073709551616:=Nat.mod_lt _ (by decide);exact jV h (Nat.lt_of_le_of_lt (Nat.div_le_self _ _) h)
theorem pS {M:List UInt8->Prop} (h0:M []) (h1: ∀l b,M l->M (l++[b])) (l:List UInt8):M l:=by
 have: ∀r:List UInt8,M r.reverse:=by
  intro r
  induction r with
  | nil=>exact h0
  | cons b r ih=>rw[List.reverse_cons]; exact h1 _ _ ih
 have h:=this l.reverse;rw[List.reverse_reverse]at h; exact h
section
variable (T : Nat → Nat)
def dy (l:List UInt8):Nat:=l.foldl (fun s b=>cM s 1^^^T b.toNat) 0
theorem fb (l:List UInt8) (b:UInt8):dy T (l++[b])=cM (dy T l) 1^^^T b.toNat:=by
 unfold dy; rw[List.foldl_append,List.foldl_cons,List.foldl_nil]
theorem nD :dy T []=0:=rfl
theorem uf (x:UInt8):dy T [x]=T x.toNat:=by
 unfold dy; rw[List.foldl_cons,List.foldl_nil,show cM 0 1=0 by decide,Nat.zero_xor]
variable {T}
theorem pR (hT: ∀i,T i<18446744073709551616) (l:List UInt8):dy T l<18446744073709551616:=by
 refine pS (M:=fun l=>dy T l<18446744073709551616) ?_ (fun l b ih=> ?_) l
 ·show dy T []<_
  rw[nD]; decide
 ·show dy T (l++[b])<_
  rw[fb]; exact jV (fX 1 ih) (hT _)
theorem ru (hT: ∀i,T i<18446744073709551616) (x:UInt8) (l:List UInt8):dy T (x::l)=lf l.length (T x.toNat)^^^dy T l:=by
 refine pS (M:=fun l=>dy T (x::l)=lf l.length (T x.toNat)^^^dy T l) ?_ (fun l b ih=> ?_) l
 ·show dy T [x]=lf 0 (T x.toNat)^^^dy T []
  rw[uf,nD,Nat.xor_zero,lf]
 ·show dy T (x::(l++[b]))=lf (l++[b]).length (T x.toNat)^^^dy T (l++[b])
  rw[<-List.cons_append,fb,fb,List.length_append,List.length_singleton,lf,ih,yU (tG _ (hT _)) (pR hT _) (by decide),Nat.xor_assoc]
theorem ry (hT: ∀i,T i<18446744073709551616) (x b:UInt8) (l:List UInt8) (h:l.length+1<=64):(cM (dy T (x::l)) 1^^^T b.toNat)^^^cM (T x.toNat) (l.length+1)=dy T (l++[b]):=by
 rw[<-fb,List.cons_append,ru hT,List.length_append,List.length_singleton,<-ln (hT _) h,Nat.xor_comm (lf _ _),Nat.xor_assoc,Nat.xor_self,Nat.xor_zero]
end
def kK (seed:Nat) (l:List UInt8):Nat:=dy (oQ seed) l
theorem pQ (seed:Nat) (l:List UInt8):kK seed l<18446744073709551616:=pR (ll seed) l
def ga (W:Nat) (d:List UInt8):List UInt8:=d.drop (d.length-W)
theorem il (W:Nat) (d:List UInt8):(ga W d).length=min W d.length:=by unfold ga; rw[List.length_drop]; omega
theorem oc {W:Nat} {d:List UInt8} (h:d.length<W) (b:UInt8):ga W (d++[b])=ga W d++[b]:=by
 unfold ga;rw[List.length_append,List.length_singleton,show d.length+1-W=0 by omega,show d.length-W=0 by omega]; rfl
theorem od {W:Nat} {d:List UInt8} (hW:1<=W) (h:W<=d.length) (b:UInt8):ga W (d++[b])=(ga W d).tail++[b]:=by
 unfold ga;rw[List.length_append,List.length_singleton,List.tail_drop,List.drop_append_of_le_length (by omega)]
 congr 2; omega
def zq (seed W bits:Nat) (d:List UInt8):Bool:=decide (W<=d.length) && decide (bits<=Lib.ctz 64 (kK seed (ga W d)))
section
variable (mk : Nat → Bool) (mn mx len : Nat)
def gy :Nat->Int
 | 0=> -(mn:Int)
 | p+1=>if mk (p+1)then((p+1:Nat):Int)else gy p
def mj :Nat->Bool
 | 0=>false
 | p+1=>mk (p+1) && decide ((mn:Int)<=((p+1:Nat):Int)-gy mk mn p)
def eA (l:List Nat):Nat:=l.getLast?.getD 0
def fj (s q:Nat):Bool:=mj mk mn q || decide (s+mx<=q) || decide (len<=q)
def dr :Nat->List Nat
 | 0=>[]
 | p+1=>if fj mk mn mx len (eA (dr p)) (p+1)then dr p++[p+1]else dr p
def pG :List Nat:=dr mk mn mx len len
end
section
variable {mk : Nat → Bool} {mn mx len : Nat}
theorem eh (l:List Nat) (p:Nat):eA (l++[p])=p:=by simp[eA]
theorem rF (p:Nat):(gy mk mn p= -(mn:Int)/\ ∀q,1<=q->q<=p->mk q=false)\/ ∃L,gy mk mn p=((L:Nat):Int)/\1<=L/\L<=p/\mk L=true/\ ∀q,L<q->q<=p->mk q=false:=by
 induction p with
 | zero=>exact .inl ⟨rfl,fun q h1 h2=>by omega⟩
 | succ p ih=>
  rw[gy]
  by_cases h:mk (p+1)=true
  ·rw[if_pos h];exact .inr ⟨p+1,rfl,by omega,by omega,h,fun q h1 h2=>by omega⟩
  ·rw[if_neg h];have h0:mk (p+1)=false:=by simpa using h
   rcases ih with⟨h1,h2⟩ | ⟨L,h1,h2,h3,h4,h5⟩
   ·exact .inl ⟨h1,fun q hq1 hq2=>by
     by_cases e:q=p+1
     ·rw[e]; exact h0
     ·exact h2 q hq1 (by omega)⟩
   ·exact .inr ⟨L,h1,h2,by omega,h4,fun q hq1 hq2=>by
     by_cases e:q=p+1
     ·rw[e]; exact h0
     ·exact h5 q hq1 (by omega)⟩
def zz (mk:Nat->Bool) (mn mx len s q:Nat):Prop:=s<q/\q<=len/\fj mk mn mx len s q=true/\ ∀r,s<r->r<q->fj mk mn mx len s r=false
inductive vR (mk : Nat → Bool) (mn mx len : Nat) : List Nat → Nat → Prop
 | nil:vR mk mn mx len [] 0
 | snoc {l:List Nat} {s q:Nat} :vR mk mn mx len l s->zz mk mn mx len s q->vR mk mn mx len (l++[q]) q
theorem vR.last {l:List Nat} {s:Nat} (h:vR mk mn mx len l s):eA l=s:=by
 cases h with
 | nil=>rfl
 | snoc _ _=>exact eh _ _
theorem vR.le {l:List Nat} {s:Nat} (h:vR mk mn mx len l s):s<=len:=by
 cases h with
 | nil=>omega
 | snoc _ h=>exact h.2.1
theorem lN : ∀ {p:Nat},p<=len-> ∃s,vR mk mn mx len (dr mk mn mx len p) s/\s<=p/\ ∀r,s<r->r<=p->fj mk mn mx len s r=false
 | 0,_=>⟨0, .nil,by omega,fun r h1 h2=>by omega⟩
 | p+1,hp=>by
  obtain⟨s,h1,h2,h3⟩:=lN (p:=p) (by omega);rw[dr,h1.last]
  by_cases h:fj mk mn mx len s (p+1)=true
  ·rw[if_pos h];exact⟨p+1,h1.snoc ⟨by omega,hp,h,fun r hr1 hr2=>h3 r hr1 (by omega)⟩,by omega,fun r hr1 hr2=>by omega⟩
  ·rw[if_neg h];exact⟨s,h1,by omega,fun r hr1 hr2=>by
    by_cases e:r=p+1
    ·rw[e]; simpa using h
    ·exact h3 r hr1 (by omega)⟩
theorem nz :vR mk mn mx len (pG mk mn mx len) len:=by
 obtain⟨s,h1,h2,h3⟩:=lN (mk:=mk) (mn:=mn) (mx:=mx) (len:=len) (Nat.le_refl len)
 by_cases e:s=len
 ·rw[e]at h1; exact h1
 ·have:=h3 len (by omega) (by omega);simp[fj]at this
theorem zz.reach {s q:Nat} (hm:1<=mx) (h:zz mk mn mx len s q):q<=s+mx:=by
 by_cases h1:s+mx<q
 ·have h2:=h.2.2.2 (s+mx) (by omega) h1;simp[fj]at h2
 ·omega
def dQ (data:List UInt8) (s e:Nat):List UInt8:=(data.drop s).take (e-s)
def di (data:List UInt8):Nat->List Nat->List (List UInt8)
 | _,[]=>[]
 | s,e::l=>dQ data s e::di data e l
theorem eL (data:List UInt8): ∀(l:List Nat) (s e:Nat),di data s (l++[e])=di data s l++[dQ data (l.getLast?.getD s) e]
 | [],_,_=>rfl
 | x::l,s,e=>by
  rw[List.cons_append,di,eL data l x e,di,List.cons_append]
  congr 3
  rw[List.getLast?_cons]; rfl
theorem qk {data:List UInt8} {l:List Nat} {s:Nat} (h:vR mk mn mx data.length l s):(di data 0 l).flatten=data.take s:=by
 induction h with
 | nil=>simp[di]
 | snoc h1 h2 ih=>
  rename_i l s q;rw[eL,List.flatten_append,ih];have:=h1.last;unfold eA at this;rw[this,List.flatten_cons,List.flatten_nil,List.append_nil];unfold dQ;have h3:=h2.1;rw[show q=s+(q-s) by omega,List.take_add,show s+(q-s)-s=q-s by omega]
theorem mi {data:List UInt8} :(di data 0 (pG mk mn mx data.length)).flatten=data:=by
 rw[qk nz,List.take_length]
theorem uG {data:List UInt8} {l:List Nat} {s:Nat} (hm:1<=mx) (h:vR mk mn mx data.length l s): ∀c∈di data 0 l,1<=c.length/\c.length<=mx:=by
 induction h with
 | nil=>simp[di]
 | snoc h1 h2 ih=>
  rename_i l s q;rw[eL];intro c hc
  rcases List.mem_append.1 hc with hc | hc
  ·exact ih c hc
  ·rw[List.mem_singleton.1 hc];have:=h1.last;unfold eA at this;rw[this];unfold dQ;rw[List.length_take,List.length_drop];have h3:=h2.reach hm;have h4:=h2.1;have h5:=h2.2.1;omega
end
open Go Go.RowKit
theorem uX {x s:Nat} (hx:x<18446744073709551616):bits .or .u64 ((x:Int)*2^s%18446744073709551616) ((x:Int)/2^(64-s))=((cM x s:Nat):Int):=by
 have e1:((x:Int)*2^s%18446744073709551616)=((x*2^s%18446744073709551616:Nat):Int):=by simp
 have e2:((x:Int)/2^(64-s))=((x/2^(64-s):Nat):Int):=by simp
 rw[e1,e2,u64_or_nat _ _ (Nat.mod_lt _ (by decide)) (Nat.lt_of_le_of_lt (Nat.div_le_self _ _) hx)]
 rfl
theorem nO (x k:Nat) (w:World) (hx:x<18446744073709551616) (hk:k<=64):Calls Tryz.prog 205 #[.int .u64 (x:Int), .int .i64 (k:Int)] w fun e w'=>e= .returned (.int .u64 ((cM x k:Nat):Int))/\w=w':=by
 obtain⟨s,hs⟩: ∃s,s=k%64:=⟨_,rfl⟩;have h1:bits BinOp.and IntKind.u64 (k:Int) 63=(s:Int):=by
  rw[show(63:Int)=((63:Nat):Int)from rfl,u64_and_nat _ _ (by omega) (by decide),nat_mask6,hs]
 have hs64:s<64:=by omega
 have hmin:min s 64=s:=by omega
 have hmin2:min (64-s) 64=64-s:=by omega
 have HR:=aa (show cM x s=cM x k by
  by_cases h:k=64
  ·have e:s=0:=by rw[hs,h]
   rw[e,h,ml hx,<-ln hx (Nat.le_refl 64),uW hx]
  ·rw[show s=k by omega])
 clear hs
 go_enter Tryz.func205,Tryz.ntmps205
 go_wp2_with fail;go_ret;refine⟨?_,rfl⟩;rw[<-HR.out,<-uX hx,IntKind.wrap_u64]
 rfl
theorem zO (a c:Nat):((a:Int)*(c:Int))%18446744073709551616=((a*c%18446744073709551616:Nat):Int):=by simp
theorem mL (z d:Nat) (hz:z<18446744073709551616):bits BinOp.xor IntKind.u64 (z:Int) ((z:Int)/(d:Int))=((z^^^(z/d):Nat):Int):=by
 rw[show((z:Int)/(d:Int))=((z/d:Nat):Int) by simp,u64_xor_nat _ _ hz (Nat.lt_of_le_of_lt (Nat.div_le_self _ _) hz)]
theorem uo (z:Nat) (hz:z<18446744073709551616):(bits BinOp.xor IntKind.u64 (z:Int) ((z:Int)/1073741824)*13787848793156543929)%18446744073709551616=((wY z:Nat):Int):=by
 have h:=mL z 1073741824 hz;rw[show((1073741824:Nat):Int)=1073741824 from rfl]at h;rw[h];exact zO (z^^^(z/1073741824)) 13787848793156543929
theorem ur (z:Nat) (hz:z<18446744073709551616):(bits BinOp.xor IntKind.u64 (z:Int) ((z:Int)/134217728)*10723151780598845931)%18446744073709551616=((wZ z:Nat):Int):=by
 have h:=mL z 134217728 hz;rw[show((134217728:Nat):Int)=134217728 from rfl]at h;rw[h];exact zO (z^^^(z/134217728)) 10723151780598845931
theorem uu (z:Nat) (hz:z<18446744073709551616):bits BinOp.xor IntKind.u64 (z:Int) ((z:Int)/2147483648)=((zN z:Nat):Int):=by
 have h:=mL z 2147483648 hz;rw[show((2147483648:Nat):Int)=2147483648 from rfl]at h;exact h
theorem vm (s k:Nat):IntKind.u64.wrap ((s:Int)+IntKind.u64.wrap (((k:Int)+1)*11400714819323198485))=((qu s k:Nat):Int):=by
 rw[IntKind.wrap_u64,IntKind.wrap_u64,show((k:Int)+1)=((k+1:Nat):Int) by omega,show(11400714819323198485:Int)=((11400714819323198485:Nat):Int)from rfl,zO];unfold qu;omega
theorem uq (z:Nat) (hz:z<18446744073709551616):IntKind.u64.wrap (bits BinOp.xor IntKind.u64 (z:Int) ((z:Int)/1073741824)*13787848793156543929)=((wY z:Nat):Int):=by rw[IntKind.wrap_u64,uo z hz]
theorem ut (z:Nat) (hz:z<18446744073709551616):IntKind.u64.wrap (bits BinOp.xor IntKind.u64 (z:Int) ((z:Int)/134217728)*10723151780598845931)=((wZ z:Nat):Int):=by rw[IntKind.wrap_u64,ur z hz]
theorem yN (z:Nat):wY z<18446744073709551616:=Nat.mod_lt _ (by decide)
theorem yO (z:Nat):wZ z<18446744073709551616:=Nat.mod_lt _ (by decide)
theorem xD (s i:Nat):qu s i<18446744073709551616:=Nat.mod_lt _ (by decide)
def vF (x:Nat):Value:= .int .u64 (x:Int)
structure fE (w : World) (seed k : Nat) (wr : World) : Prop where
 box:wr.heap[w.heap.size]? =some (.cells ((List.range k).map (fun i=>vF (oQ seed i))++List.replicate (256-k) (vF 0)).toArray 46 (0,0))
 below:Below w.heap.size w wr
theorem fE.here {w wr:World} {seed k:Nat} (h:fE w seed k wr) (hk:k<256):wr.cell? ⟨w.heap.size,k,none⟩=some (.int .u64 0):=by
 rw[cell_of_row wr _ _ _ _ _ h.box,List.getElem?_toArray,List.getElem?_append_right (by simp)];rw[List.length_map,List.length_range,Nat.sub_self,show 256-k=(256-(k+1))+1 by omega,List.replicate_succ]
 rfl
theorem fE.put {w wr:World} {seed k:Nat} (h:fE w seed k wr) (hk:k<256):fE w seed (k+1) (wr.setCell ⟨w.heap.size,k,none⟩ (vF (oQ seed k))):=by
 refine⟨?_,h.below.trans ⟨rfl,rfl,rfl,by simp[World.setCell],fun j hj=>heap_setCell_other wr _ j _ (by show j≠w.heap.size; omega)⟩⟩;rw[heap_setCell_same wr _ _ _ _ _ h.box]
 congr 2
 rw[List.setIfInBounds_toArray,List.set_append_right _ _ (by simp),List.length_map,List.length_range,Nat.sub_self,show 256-k=(256-(k+1))+1 by omega,List.replicate_succ,List.range_succ,List.map_append];simp
theorem yM (w:World):(Instr.makeSlice 269 (.int .i64 256) (.int .i64 256)).run Tryz.prog w= .ok (.slice (some ⟨w.heap.size,0,none⟩) 256 256) (w.alloc (.cells (List.replicate 256 (vF 0)).toArray 46)):=by kernel_rfl
theorem vD (seed:Nat) (w:World):Calls Tryz.prog 204 #[.int .u64 (seed:Int)] w fun e w'=>e= .returned (.slice (some ⟨w.heap.size,0,none⟩) 256 256)/\fE w seed 256 w':=by
 have hmk:=yM
 go_enter Tryz.func204,Tryz.ntmps204
 go_wp2_with fail;have HT0:=aa (show fE w seed 0 (w.alloc (.cells (List.replicate 256 (vF 0)).toArray 46))from⟨by rw[heap_alloc_new]; rfl,(Below.refl _ _).alloc (Nat.le_refl _) _⟩);clear hmk
 go_loopw [9] (fun i wr=> ∃k:Nat,k<=256/\i= .int .i64 (k:Int)/\fE w seed k wr) (fun i _=>256-(intOf i).toNat)
 case atStart=>exact⟨0,by omega,rfl,HT0.out⟩
 case round=>
  obtain⟨k,hk,rfl,ht⟩:=hrel;have HT:=aa ht;have hz:=ht.below.size;clear ht
  by_cases h256:k<256
  ·have ch:=HT.out.here h256;have cf:=frozen_of_row wr _ k _ _ HT.out.box;have hki:(k:Int)<256:=by omega
   go_wp2_with fail
   go_roundw
   case rel=>
    rw[vm,uq _ (xD _ _),ut _ (yN _),uu _ (yO _)];exact⟨k+1,by omega,by simp,HT.out.put h256⟩
   case measure=>simp[intOf]; omega
  ·obtain rfl:k=256:=by omega
   go_wp2_with fail;go_ret;exact⟨rfl,HT.out⟩
def kv (seed:Nat):List Value:=(List.range 256).map fun i=>vF (oQ seed i)
theorem jR (seed:Nat):(kv seed).length=256:=by simp[kv]
def dz (seed:Nat) (ring:List UInt8) (W s n h:Nat):List Value:=kv seed++(ring.map aC++[.int .i64 (W:Int), .int .i64 (s:Int), .int .i64 (n:Int), .int .u64 (h:Int)])
theorem fE.full {w wr:World} {seed:Nat} (h:fE w seed 256 wr):wr.heap[w.heap.size]? =some (.cells (kv seed).toArray 46 (0,0)):=by
 rw[h.box,Nat.sub_self,List.replicate_zero,List.append_nil]; rfl
def iq (W:Nat):List Value:=List.replicate 256 (.int .u64 0)++((List.replicate 64 (0:UInt8)).map aC++[.int .i64 (W:Int), .int .i64 0, .int .i64 0, .int .u64 0])
theorem qq (seed W:Nat) (w:World) (hW:1<=W) (hW2:W<=64):Calls Tryz.prog 194 #[.int .u64 (seed:Int), .int .i64 (W:Int)] w fun e w'=> ∃rb,e= .returned (.pointer (some ⟨rb,0,none⟩))/\w.heap.size<=rb/\
  w'.heap[rb]? =some (.cells (dz seed (List.replicate 64 0) W 0 0 0).toArray 242 (0,0))/\Below w.heap.size w w':=by
 have hmax:max (W:Int) 1=(W:Int):=by omega
 have hmin:min (W:Int) 64=(W:Int):=by omega
 go_enter Tryz.func194,Tryz.ntmps194
 go_wp2_with fail;obtain⟨w1,hw1⟩: ∃w1,w1=w.alloc (.cells (Tryz.zeroCells242.setIfInBounds 320 (.int .i64 (W:Int))) 242):=⟨_,rfl⟩;rw[<-hw1];have HX1:=aa (show w1.heap[w.heap.size]? =some (.cells (iq W).toArray 242 (0,0)) by rw[hw1,heap_alloc_new,show Tryz.zeroCells242.setIfInBounds 320 (.int .i64 (W:Int))=(iq W).toArray by kernel_rfl]);have HB1:=aa (show Below w.heap.size w w1 by rw[hw1]; exact(Below.refl _ _).alloc (Nat.le_refl _) _)
 clear hw1 hmax hmin;refine fR (fun _=>True) (by kernel_rfl) ?_;obtain⟨V,hV⟩: ∃V:World,V=w1.drew:=⟨_,rfl⟩;rw[<-hV];have HXV:=aa (show V.heap[w.heap.size]? =some (.cells (iq W).toArray 242 (0,0)) by rw[hV]; exact HX1.out);have HBV:=aa (show Below w.heap.size w V by rw[hV]; exact HB1.out.trans (Below.refl _ _).drew);clear hV;refine ac 0 rfl (by kernel_rfl) (by kernel_rfl) (by kernel_rfl) (fun _ _ _ h=>h) rfl trivial (by intro w' hw1; go_simp; rfl) ?_
 simp only[Act.put,aD,aE,aF];refine ac 1 rfl (by kernel_rfl) (by kernel_rfl) (by kernel_rfl) (fun _ _ _ h=>h) rfl trivial (by intro w' hw1; go_simp; rfl) ?_;simp only[Act.put,aD,aE,aF];refine ac 2 rfl (by kernel_rfl) (by kernel_rfl) (by kernel_rfl) (fun _ _ _ h=>h) rfl trivial (by intro w' hw1; go_simp; rfl) ?_;simp only[Act.put,aD,aE,aF];refine ac 3 rfl (by kernel_rfl) (by kernel_rfl) (by kernel_rfl) (fun _ _ _ h=>h) rfl trivial (by intro w' hw1; go_simp; rfl) ?_
 simp only[Act.put,aD,aE,aF];refine ac 4 rfl (by kernel_rfl) (by kernel_rfl) (by kernel_rfl) (fun _ _ _ h=>h) rfl trivial (by intro w' hw1; go_simp; rfl) ?_;simp only[Act.put,aD,aE,aF];refine bc 5 rfl (by kernel_rfl) rfl (fun K hK=> ?_);go_wp2_with fail;refine(vD seed V).mono ?_;rintro e w2 ⟨rfl,ht⟩;have HTF:=aa ht.full;have HB2:=aa (ag HBV.out ht.below)
 have HX2:=aa ((ht.below.block _ (lt_of_block HXV.out)).trans HXV.out);have HLT:=aa (lt_of_block HXV.out);clear ht;go_wp2_with fail
 try refine⟨trivial, ?_⟩
 refine bc 6 rfl (by kernel_rfl) rfl (fun K hK=> ?_);have HSRC:=aa (show ∀j v,(kv seed)[j]? =some v->w2.cell? ((⟨V.heap.size,0,none⟩:Addr).add j)=some v from fun j v hj=>by rw[Addr.add_mid,Nat.zero_add,cell_of_row w2 _ _ _ _ _ HTF.out,List.getElem?_toArray]; exact hj);have HFIT:=aa (show 0+(kv seed).length<=(iq W).toArray.size by rw[jR,List.size_toArray]; simp[iq])
 have HONE:=aa (show ∀v∈kv seed,v.oneCell'=true from fun v hv=>by obtain⟨x,_,rfl⟩:=List.mem_map.1 hv; rfl);go_wp2_with (refine wpList_copy_own rfl _ _ 269 269 rfl 46 Tryz.underlying269 (by kernel_rfl) w.heap.size 0 256 256 ⟨V.heap.size,0,none⟩ 256 256 rfl rfl (iq W).toArray 242 HX2.out (kv seed) rfl HSRC.out HFIT.out HONE.out ?_);simp only[Act.put,aD,aE,aF];obtain⟨w3,hw3⟩: ∃w3,w3=w2.setRow w.heap.size (List.take 0 (iq W)++(kv seed++List.drop (0+(kv seed).length) (iq W))).toArray:=⟨_,rfl⟩
 have HX3:=aa (show w3.heap[w.heap.size]? =some (.cells (dz seed (List.replicate 64 0) W 0 0 0).toArray 242 (0,0)) by
  rw[hw3,setRow_heap w2 _ _ _ _ _ HX2.out,List.take_zero,List.nil_append,Nat.zero_add,jR]
  congr 3)
 have HB3:=aa (show Below w.heap.size w w3 by rw[hw3]; exact below_setRow HB2.out (Nat.le_refl _) _);refine⟨trivial, ?_⟩;refine bO (by kernel_rfl) ?_
 change Exit.then _ _ _ _ (w2.setRow w.heap.size (List.take 0 (iq W)++(kv seed++List.drop (0+(kv seed).length) (iq W))).toArray)
 rw[<-hw3];clear hw3;go_wp2_with fail;go_ret;exact⟨_,rfl,Nat.le_refl _,HX3.out,HB3.out⟩
theorem jn.below {w w':World} {sb:Nat} {ty:TypeId} {rest:List Value} {data:List UInt8} (h:jn w sb ty rest data) (hb:Below w.heap.size w w'):jn w' sb ty rest data:=by
 obtain⟨b,h1,h2,h3⟩:=h;exact⟨b,h1,h2,(hb.block _ (lt_of_block h3)).trans h3⟩
theorem eP.below {w w':World} (h:eP w) (hb:Below w.heap.size w w') (hlt:4<w.heap.size):eP w':=by
 intro j x hj;rw[<-h j x hj];exact World.cell?_of_block (hb.block _ hlt)
theorem gE.below {w0 w w':World} (h:gE w) (hb:Below w0.heap.size w w') (hlt:1<w0.heap.size):gE w':=by
 intro j x hj;rw[<-h j x hj];exact World.cell?_of_block (hb.block _ hlt)
theorem fZ {w:World} {sb:Nat} {cs:List Value} {ty:TypeId} (h:w.heap[sb]? =some (.cells cs.toArray ty (0,0))):w.rangeAt sb 0 cs:=by
 intro j x hj;rw[cell_of_row w _ _ _ _ _ h,Nat.zero_add,List.getElem?_toArray];exact hj
theorem dT {ops:Array Oper} {rest:List Oper} {o:Oper} {a:Act} {w:World} {Q:Exit->Act->World->Prop} (hg:o.guard=none) (t:TypeId) (parts:Array (Nat×Operand)) (ho:o.op= .build t parts) (vs:List (Nat×Value))
  (hv:(parts.map fun(i,x)=>(i,a.eval x)).toList=vs) (c:Array Value) (hb:Tryz.prog.built t vs=some c) (h:wpList Tryz.prog ops Q rest (a.put o.dst (.agg c)) w):wpList Tryz.prog ops Q (o::rest) a w:=by
 subst hv;exact wpList_build hg t parts ho (by rw[hb]; rfl) (by rw[hb]; exact h)
structure cR where
 mn:Int
 mx:Int
 win:Int
 bits:Int
 seed:Nat
def bR (c:cR):List Value:=[.int .i64 c.mn, .int .i64 c.mx, .int .i64 c.win, .int .i64 c.bits, .int .u64 (c.seed:Int)]
def ed (c:cR):Value:= .agg #[.int .i64 c.mn, .int .i64 c.mx, .int .i64 c.win, .int .i64 c.bits, .int .u64 (c.seed:Int)]
def dA (c:cR):Bool:=decide (1<=c.win) && decide (c.win<=64) && decide (c.win<=c.mn) && decide (c.mn<=c.mx) && decide (c.mx<=32768) && decide (0<=c.bits) && decide (c.bits<=20)
theorem dB {c:cR} :dA c=true<->1<=c.win/\c.win<=64/\c.win<=c.mn/\c.mn<=c.mx/\c.mx<=32768/\0<=c.bits/\c.bits<=20:=by unfold dA; simp[and_assoc]
theorem oG (c:cR) (w:World):Calls Tryz.prog 36 #[ed c] w fun e w'=>e= .returned (.bool (dA c))/\Below w.heap.size w w':=by
 unfold ed
 go_enter Tryz.func36,Tryz.ntmps36
 go_wp2_with fail
 all_goals (go_ret; refine⟨al ?_,(Below.refl _ _).alloc (Nat.le_refl _) _⟩; rw[Bool.eq_iff_iff,dB]; simp; try omega)
theorem wN {place:Nat->Option (Nat×Nat)} {cells:Array Value} {i off:Nat} {v:Value} {rest:List (Nat×Value)} (hp:place i=some (off,1)) (hv:v.cells= #[v]) (hf:off<cells.size):
  Instr.fill place cells ((i,v)::rest)=Instr.fill place (cells.setIfInBounds off v) rest:=by
 rw[Instr.fill,hp];simp only[hv];rw[if_neg (by simp; omega)]
 rfl
def xV :List Value:=iq 0++([.int .i64 0, .int .i64 0, .int .i64 0, .int .i64 0, .int .u64 0]++[.int .i64 0, .int .i64 0])
theorem vJ :xV.length=331:=by kernel_rfl
theorem ko (seed:Nat) {ring:List UInt8} (h:ring.length=64) (W s n x:Nat):(dz seed ring W s n x).length=324:=by unfold dz; rw[List.length_append,jR,List.length_append,List.length_map,h]; rfl
theorem qY (r:List Value) (c:cR) (l:Int) (hr:r.length=324):Tryz.prog.built 244 [(0, .agg r.toArray),(1,ed c),(3, .int .i64 l)]=some (r++(bR c++[Value.int .i64 0,Value.int .i64 l])).toArray:=by
 have h: ∀parts,Tryz.prog.built 244 parts=Instr.fill (fun i=>(#[(0,324),(324,5),(329,1),(330,1)]:Array (Nat×Nat))[i]?) xV.toArray parts:=fun parts=>by kernel_rfl
 have e0:splice xV 0 r=r++([.int .i64 0, .int .i64 0, .int .i64 0, .int .i64 0, .int .u64 0]++[.int .i64 0, .int .i64 0]):=by
  unfold splice;rw[List.take_zero,List.nil_append,Nat.zero_add,hr]
  congr 1
 rw[h,nA (off:=0) (size:=324) rfl (by simpa using hr) (by rw[List.size_toArray,vJ]; decide)];simp only;rw[e0];unfold ed;rw[nA (off:=324) (size:=5) rfl rfl (by rw[List.size_toArray,List.length_append,hr]; decide),wN (off:=330) rfl rfl (by rw[List.size_toArray,length_splice _ _ _ (by rw[List.length_append,hr]; show 324+5<=324+7; decide),List.length_append,hr]; show 330<324+7; decide)]
 simp only[Instr.fill]
 congr 1
 unfold splice;rw[List.setIfInBounds_toArray]
 congr 1
 rw[List.take_append_of_le_length (by omega),List.take_of_length_le (by omega),List.drop_append,List.drop_eq_nil_of_le (by rw[hr]; show 324<=324+5; decide),List.set_append_right _ _ (by omega),hr]
 rfl
def iP (c:cR) (roll:List Value) (pos last:Int):List Value:=roll++(bR c++[Value.int .i64 pos,Value.int .i64 last])
theorem ki (c:cR) {roll:List Value} (h:roll.length=324) (p l:Int):(iP c roll p l).length=331:=by unfold iP; rw[List.length_append,h]; rfl
theorem uL (seed:Nat) (ring:List UInt8) (W s n x:Nat): ∀v∈dz seed ring W s n x,v.oneCell'=true:=by
 intro v hv;unfold dz at hv
 rcases List.mem_append.1 hv with hv | hv
 ·obtain⟨y,_,rfl⟩:=List.mem_map.1 hv; rfl
 ·rcases List.mem_append.1 hv with hv | hv
  ·obtain⟨y,_,rfl⟩:=List.mem_map.1 hv; rfl
  ·simp only[List.mem_cons,List.not_mem_nil,or_false]at hv
   rcases hv with rfl | rfl | rfl | rfl<;> rfl
theorem nI (c:cR) (seed:Nat) (W:Nat) (l:Int): ∀v∈dz seed (List.replicate 64 0) W 0 0 0++(bR c++[Value.int .i64 0,Value.int .i64 l]),v.oneCell'=true:=by
 intro v hv
 rcases List.mem_append.1 hv with hv | hv
 ·exact uL _ _ _ _ _ _ v hv
 ·simp only[bR,List.mem_append,List.mem_cons,List.not_mem_nil,or_false]at hv
  rcases hv with(rfl | rfl | rfl | rfl | rfl) | rfl | rfl<;> rfl
theorem rU (seed W:Nat) (wi:Int) (w:World) (hwi:wi=(W:Int)) (hW:1<=W) (hW2:W<=64):Calls Tryz.prog 194 #[.int .u64 (seed:Int), .int .i64 wi] w fun e w'=> ∃rb,e= .returned (.pointer (some ⟨rb,0,none⟩))/\w.heap.size<=rb/\
  w'.heap[rb]? =some (.cells (dz seed (List.replicate 64 0) W 0 0 0).toArray 242 (0,0))/\Below w.heap.size w w':=by
 subst hwi; exact qq seed W w hW hW2
theorem mY (c:cR) (W:Nat) (w:World) (_hs:c.seed<18446744073709551616) (hW:c.win=(W:Int)) (h1:1<=W) (h2:W<=64) (hm:0<=c.mn/\c.mn<=32768):
  Calls Tryz.prog 175 #[ed c] w fun e w'=>e= .returned (.agg (iP c (dz c.seed (List.replicate 64 0) W 0 0 0) 0 (-c.mn)).toArray)/\Below w.heap.size w w':=by
 have HW:=aa hW;have hneg:IntKind.i64.wrap (-c.mn)= -c.mn:=by rw[IntKind.wrap_i64]; omega
 clear hW;unfold ed
 go_enter Tryz.func175,Tryz.ntmps175
 go_wp2_with fail;obtain⟨w1,hw1⟩: ∃w1,w1=(w.alloc (.cells #[.int .i64 c.mn, .int .i64 c.mx, .int .i64 c.win, .int .i64 c.bits, .int .u64 (c.seed:Int)] 48)).alloc (.cells Tryz.zeroCells244 244):=⟨_,rfl⟩;rw[<-hw1];have HX1:=aa (show w1.heap[w.heap.size]? =some (.cells (bR c).toArray 48 (0,0)) by rw[hw1]; exact heap_alloc2_old w _ _);have HZ1:=aa (show w1.heap[w.heap.size+1]? =some (.cells Tryz.zeroCells244 244 (0,0)) by rw[hw1]; exact heap_alloc2_new w _ _)
 have HB1:=aa (show Below w.heap.size w w1 by rw[hw1]; exact((Below.refl _ _).alloc (Nat.le_refl _) _).alloc (by simp) _);clear hw1;refine fR (fun w'=>w'.cell? ⟨w.heap.size,0,none⟩=some (.int .i64 c.mn)/\w'.cell? ⟨w.heap.size,1,none⟩=some (.int .i64 c.mx)/\w'.cell? ⟨w.heap.size,2,none⟩=some (.int .i64 c.win)/\w'.cell? ⟨w.heap.size,3,none⟩=some (.int .i64 c.bits)/\w'.cell? ⟨w.heap.size,4,none⟩=some (.int .u64 (c.seed:Int))) (by kernel_rfl) ?_
 obtain⟨V,hV⟩: ∃V:World,V=w1.drew:=⟨_,rfl⟩;rw[<-hV];have HXV:=aa (show V.heap[w.heap.size]? =some (.cells (bR c).toArray 48 (0,0)) by rw[hV]; exact HX1.out);have HZV:=aa (show V.heap[w.heap.size+1]? =some (.cells Tryz.zeroCells244 244 (0,0)) by rw[hV]; exact HZ1.out);have HBV:=aa (show Below w.heap.size w V by rw[hV]; exact HB1.out.trans (Below.refl _ _).drew);clear hV
 have c0:V.cell? ⟨w.heap.size,0,none⟩=some (.int .i64 c.mn):=(cell_of_row V _ _ _ _ _ HXV.out).trans rfl;have c1:V.cell? ⟨w.heap.size,1,none⟩=some (.int .i64 c.mx):=(cell_of_row V _ _ _ _ _ HXV.out).trans rfl;have c2:V.cell? ⟨w.heap.size,2,none⟩=some (.int .i64 c.win):=(cell_of_row V _ _ _ _ _ HXV.out).trans rfl;have c3:V.cell? ⟨w.heap.size,3,none⟩=some (.int .i64 c.bits):=(cell_of_row V _ _ _ _ _ HXV.out).trans rfl
 have c4:V.cell? ⟨w.heap.size,4,none⟩=some (.int .u64 (c.seed:Int)):=(cell_of_row V _ _ _ _ _ HXV.out).trans rfl;refine ac 0 rfl (by kernel_rfl) (by kernel_rfl) (by kernel_rfl) (fun _ _ _ h=>h) rfl ⟨c0,c1,c2,c3,c4⟩ (by rintro w' ⟨hw1,hw2,hw3,hw4,hw5⟩; go_simp; rfl) ?_;simp only[Act.put,aD,aE,aF];refine ac 1 rfl (by kernel_rfl) (by kernel_rfl) (by kernel_rfl) (fun _ _ _ h=>h) rfl ⟨c0,c1,c2,c3,c4⟩ (by rintro w' ⟨hw1,hw2,hw3,hw4,hw5⟩; go_simp; rfl) ?_
 simp only[Act.put,aD,aE,aF];refine ac 2 rfl (by kernel_rfl) (by kernel_rfl) (by kernel_rfl) (fun _ _ _ h=>h) rfl ⟨c0,c1,c2,c3,c4⟩ (by rintro w' ⟨hw1,hw2,hw3,hw4,hw5⟩; go_simp; rfl) ?_;simp only[Act.put,aD,aE,aF];refine ac 3 rfl (by kernel_rfl) (by kernel_rfl) (by kernel_rfl) (fun _ _ _ h=>h) rfl ⟨c0,c1,c2,c3,c4⟩ (by rintro w' ⟨hw1,hw2,hw3,hw4,hw5⟩; go_simp; rfl) ?_
 simp only[Act.put,aD,aE,aF];refine ac 7 rfl (by kernel_rfl) (by kernel_rfl) (by kernel_rfl) (fun _ _ _ h=>h) rfl ⟨c0,c1,c2,c3,c4⟩ (by rintro w' ⟨hw1,hw2,hw3,hw4,hw5⟩; go_simp; rfl) ?_;simp only[Act.put,aD,aE,aF];refine ac 8 rfl (by kernel_rfl) (by kernel_rfl) (by kernel_rfl) (fun _ _ _ h=>h) rfl ⟨c0,c1,c2,c3,c4⟩ (by rintro w' ⟨hw1,hw2,hw3,hw4,hw5⟩; go_simp; rfl) ?_
 simp only[Act.put,aD,aE,aF];refine ac 9 rfl (by kernel_rfl) (by kernel_rfl) (by kernel_rfl) (fun _ _ _ h=>h) rfl ⟨c0,c1,c2,c3,c4⟩ (by rintro w' ⟨hw1,hw2,hw3,hw4,hw5⟩; go_simp; rfl) ?_;simp only[Act.put,aD,aE,aF];refine ac 10 rfl (by kernel_rfl) (by kernel_rfl) (by kernel_rfl) (fun _ _ _ h=>h) rfl ⟨c0,c1,c2,c3,c4⟩ (by rintro w' ⟨hw1,hw2,hw3,hw4,hw5⟩; go_simp; rfl) ?_
 simp only[Act.put,aD,aE,aF];refine bc 4 rfl (by kernel_rfl) rfl (fun K hK=> ?_);go_wp2_with fail;refine(rU c.seed W c.win V HW.out h1 h2).mono ?_;rintro e w2 ⟨rb,rfl,hrb,hbx,hb2⟩;have HB2:=aa (ag HBV.out hb2);have HX2:=aa ((hb2.block _ (lt_of_block HXV.out)).trans HXV.out);have HZ2:=aa ((hb2.block _ (lt_of_block HZV.out)).trans HZV.out);have HRB:=aa hbx
 clear c0 c1 c2 c3 c4 hb2 hbx;have c0:w2.cell? ⟨w.heap.size,0,none⟩=some (.int .i64 c.mn):=(cell_of_row w2 _ _ _ _ _ HX2.out).trans rfl;have c1:w2.cell? ⟨w.heap.size,1,none⟩=some (.int .i64 c.mx):=(cell_of_row w2 _ _ _ _ _ HX2.out).trans rfl;have c2:w2.cell? ⟨w.heap.size,2,none⟩=some (.int .i64 c.win):=(cell_of_row w2 _ _ _ _ _ HX2.out).trans rfl;have c3:w2.cell? ⟨w.heap.size,3,none⟩=some (.int .i64 c.bits):=(cell_of_row w2 _ _ _ _ _ HX2.out).trans rfl
 have c4:w2.cell? ⟨w.heap.size,4,none⟩=some (.int .u64 (c.seed:Int)):=(cell_of_row w2 _ _ _ _ _ HX2.out).trans rfl;go_wp2_with fail;refine⟨⟨c0,c1,c2,c3,c4⟩, ?_⟩;refine ac 5 rfl (by kernel_rfl) (by kernel_rfl) (by kernel_rfl) (fun _ _ _ h=>h) rfl ⟨c0,c1,c2,c3,c4⟩ (by rintro w' ⟨hw1,hw2,hw3,hw4,hw5⟩; go_simp; rfl) ?_;simp only[Act.put,aD,aE,aF];obtain⟨rc,hrc⟩: ∃rc,rc=dz c.seed (List.replicate 64 0) W 0 0 0:=⟨_,rfl⟩
 have hrl:rc.length=324:=by rw[hrc]; exact ko _ (by simp) _ _ _ _
 rw[<-hrc]at HRB;have HRC:=aa hrc;clear hrc;have HI324:=aa (show(Tryz.prog.info? 242).map (·.size)=some rc.length by rw[hrl]; kernel_rfl);have HRG:=aa (fZ HRB.out);have HBM:=aa (qY rc c (-c.mn) hrl);have HRL:=aa hrl;clear hrl;refine bc 6 rfl (by kernel_rfl) rfl (fun K hK=> ?_);go_wp2_with (refine wpList_load_mid rfl 242 _ rfl rb 0 rfl rc _ HRG.out Tryz.underlying242 rfl HI324.out ?_)
 refine⟨⟨c0,c1,c2,c3,c4⟩, ?_⟩;simp only[Act.put,aD,aE,aF];refine bc 11 rfl (by kernel_rfl) rfl (fun K hK=> ?_);go_wp2_with (go_loud (refine dT rfl 244 _ rfl [(0, .agg rc.toArray),(1,ed c),(3, .int .i64 (-c.mn))] (by kernel_rfl) _ HBM.out ?_));refine⟨⟨c0,c1,c2,c3,c4⟩, ?_⟩;simp only[Act.put,aD,aE,aF];refine bc 12 rfl (by kernel_rfl) rfl (fun K hK=> ?_)
 obtain⟨mc,hmc⟩: ∃mc,mc=rc++(bR c++[Value.int .i64 0,Value.int .i64 (-c.mn)]):=⟨_,rfl⟩;have hml:mc.length=331:=by rw[hmc]; exact ki c HRL.out 0 (-c.mn)
 rw[<-hmc];have HMC:=aa hmc;have HI331:=aa (show(Tryz.prog.info? 244).map (·.size)=some mc.toArray.size by rw[List.size_toArray,hml]; kernel_rfl);have HOLD:=aa (show Tryz.zeroCells244.size=mc.toArray.size by rw[show mc.toArray.size=331 from by rw[List.size_toArray]; exact hml]; kernel_rfl);have HONE:=aa (show mc.toArray.all (·.oneCell')=true from all_oneCell_toArray (by
  rw[hmc,HRC.out];exact nI c _ _ _))
 clear hml hmc;go_wp2_with (go_loud (refine wpList_store_row rfl 244 _ _ rfl (w.heap.size+1) _ rfl rfl _ _ HZ2.out HI331.out HOLD.out HONE.out ?_));simp only[Act.put];obtain⟨w3,hw3⟩: ∃w3,w3=w2.setRow (w.heap.size+1) mc.toArray:=⟨_,rfl⟩;rw[<-hw3];have hX3:w3.heap[w.heap.size]? =some (.cells (bR c).toArray 48 (0,0)):=by rw[hw3,setRow_other w2 _ _ _ (by omega)]; exact HX2.out
 have HM3:=aa (show w3.heap[w.heap.size+1]? =some (.cells mc.toArray 244 (0,0)) by rw[hw3]; exact setRow_heap w2 _ _ _ _ _ HZ2.out);have HB3:=aa (show Below w.heap.size w w3 by rw[hw3]; exact below_setRow HB2.out (by omega) _);clear hw3;refine⟨⟨(cell_of_row w3 _ _ _ _ _ hX3).trans rfl,(cell_of_row w3 _ _ _ _ _ hX3).trans rfl,(cell_of_row w3 _ _ _ _ _ hX3).trans rfl,(cell_of_row w3 _ _ _ _ _ hX3).trans rfl,(cell_of_row w3 _ _ _ _ _ hX3).trans rfl⟩, ?_⟩
 refine bO (by kernel_rfl) ?_;clear c0 c1 c2 c3 c4 hX3;have HFIN:=aa (show Ending.returned (.agg mc.toArray)=Ending.returned (.agg (iP c (dz c.seed (List.replicate 64 0) W 0 0 0) 0 (-c.mn)).toArray) by rw[HMC.out,HRC.out]; rfl);go_wp2_with fail;refine bodyPost_ret (results_cell_row rfl _ _ (w.heap.size+1) _ _ _ _ rfl HM3.out Tryz.underlying244 rfl HI331.out) rfl ?_;exact⟨HFIN.out,HB3.out⟩
structure iJ (seed W : Nat) (d : List UInt8) (cs : List Value) : Prop where
 tab: ∀i,i<256->cs[i]? =some (.int .u64 ((oQ seed i:Nat):Int))
 rng: ∀j,j<64-> ∃b,cs[256+j]? =some (aC b)
 win:cs[320]? =some (.int .i64 (W:Int))
 st: ∃s,s<64/\cs[321]? =some (.int .i64 (s:Int))/\ ∀j b,(ga W d)[j]? =some b->cs[256+(s+j)%64]? =some (aC b)
 len:cs[322]? =some (.int .i64 ((min W d.length:Nat):Int))
 sum:cs[323]? =some (.int .u64 ((kK seed (ga W d):Nat):Int))
theorem iJ.lt {seed W:Nat} {d:List UInt8} {cs:List Value} (h:iJ seed W d cs):323<cs.length:=(List.getElem?_eq_some_iff.1 h.sum).1
theorem tM {x y:Nat} (hx:x<18446744073709551616) (hy:y<18446744073709551616):bits BinOp.xor IntKind.u64 (x:Int) (y:Int)=((x^^^y:Nat):Int):=u64_xor_nat x y hx hy
theorem aZ {w:World} {b k:Nat} {cs:List Value} {ty:TypeId} (h:w.heap[b]? =some (.cells cs.toArray ty (0,0))):w.cell? ⟨b,k,none⟩=cs[k]? :=by rw[cell_of_row w _ _ _ _ _ h,List.getElem?_toArray]
theorem em {w:World} {b k:Nat} {cs:List Value} {ty:TypeId} (h:w.heap[b]? =some (.cells cs.toArray ty (0,0))) (v:Value):(w.setCell ⟨b,k,none⟩ v).heap[b]? =some (.cells (cs.set k v).toArray ty (0,0)):=by
 rw[heap_setCell_same w _ _ _ _ _ h,List.setIfInBounds_toArray]
theorem bv {w V:World} {rb:Nat} (h:w.grownBy V (some rb)) (k:Nat) (v:Value):w.grownBy (V.setCell ⟨rb,k,none⟩ v) (some rb):=h.trans (be _ _ _ _)
theorem gO {w V:World} {rb:Nat} (h:w.grownBy V (some rb)):w.grownBy V.drew (some rb):=h.trans ⟨rfl,rfl,rfl,Nat.le_refl _,fun _ _ _=>rfl⟩
theorem ft {w V:World} {rb:Nat} (h:w.grownBy V (some rb)) (n:Nat):w.grownBy (V.drewN n) (some rb):=h.trans ⟨rfl,rfl,rfl,Nat.le_refl _,fun _ _ _=>rfl⟩
theorem iJ.push {seed W:Nat} {d:List UInt8} {cs cs2:List Value} (h:iJ seed W d cs) {b:UInt8} {q:List UInt8} {s2 n2:Nat} (heq: ∀i,i<321->cs2[i]? =cs[i]?) (hs:cs2[321]? =some (.int .i64 (s2:Int))) (hs2:s2<64) (hl:323<cs2.length)
  (hsum:cs2[323]? =some (.int .u64 ((kK seed (ga W (d++[b])):Nat):Int))) (hq:ga W (d++[b])=q++[b]) (hqn:q.length=n2) (hn:n2<W) (hW:W<=64) (hring: ∀(j:Nat) (c:UInt8),q[j]? =some c->cs2[256+(s2+j)%64]? =some (aC c)):
  iJ seed W (d++[b]) ((cs2.set (256+(s2+n2)%64) (aC b)).set 322 (.int .i64 ((n2+1:Nat):Int))) where
 tab i hi:=by rw[List.getElem?_set_ne (by omega),List.getElem?_set_ne (by omega),heq i (by omega)]; exact h.tab i hi
 rng j hj:=by
  rw[List.getElem?_set_ne (by omega)]
  by_cases e:(s2+n2)%64=j
  ·rw[e,List.getElem?_set_self (by omega)]; exact⟨b,rfl⟩
  ·rw[List.getElem?_set_ne (by omega),heq _ (by omega)]; exact h.rng j hj
 win:=by rw[List.getElem?_set_ne (by omega),List.getElem?_set_ne (by omega),heq _ (by omega)]; exact h.win
 st:=by
  refine⟨s2,hs2,by rw[List.getElem?_set_ne (by omega),List.getElem?_set_ne (by omega)]; exact hs,fun j c hc=> ?_⟩;rw[hq]at hc;rw[List.getElem?_set_ne (by omega)]
  rcases Nat.lt_trichotomy j n2 with hj | hj | hj
  ·rw[List.getElem?_append_left (by omega)]at hc;rw[List.getElem?_set_ne (by omega)];exact hring j c hc
  ·subst hj;rw[List.getElem?_append_right (by omega),hqn,Nat.sub_self,List.getElem?_cons_zero]at hc
   cases hc
   rw[List.getElem?_set_self (by omega)]
  ·rw[List.getElem?_eq_none (by simp; omega)]at hc; cases hc
 len:=by
  rw[List.getElem?_set_self (by simpa using by omega)];have:=il W (d++[b]);rw[hq]at this;simp only[List.length_append,List.length_cons,List.length_nil]at this ⊢;rw[<-this,hqn]
 sum:=by rw[List.getElem?_set_ne (by omega),List.getElem?_set_ne (by omega)]; exact hsum
theorem xo (rb:Nat) (ty:TypeId) (seed W:Nat) (d:List UInt8) (b:UInt8) (cs:List Value) (w:World) (hb:w.heap[rb]? =some (.cells cs.toArray ty (0,0))) (hr:iJ seed W d cs) (hW:1<=W) (hW2:W<=64):
  Calls Tryz.prog 195 #[.pointer (some ⟨rb,0,none⟩), .int .u8 (b.toNat:Int)] w fun e w'=>e= .returned (.tuple #[])/\(∃cs',w'.heap[rb]? =some (.cells cs'.toArray ty (0,0))/\iJ seed W (d++[b]) cs'/\cs'.length=cs.length/\ ∀i,324<=i->cs'[i]? =cs[i]?)/\w.grownBy w' (some rb):=by
 have HB:=aa hb;have HR:=aa hr;clear hb hr;have hbt:=b.toNat_lt;have hbti:(b.toNat:Int)<256:=by omega
 obtain⟨t,ht⟩: ∃t,t=oQ seed b.toNat:=⟨_,rfl⟩;obtain⟨h,hh⟩: ∃h,h=kK seed (ga W d):=⟨_,rfl⟩;have htl:t<18446744073709551616:=by rw[ht]; exact ll _ _
 have hhl:h<18446744073709551616:=by rw[hh]; exact pQ _ _
 have c323:w.cell? ⟨rb,323,none⟩=some (.int .u64 (h:Int)):=by rw[aZ HB.out,HR.out.sum,hh]
 have ct:w.cell? ⟨rb,b.toNat,none⟩=some (.int .u64 (t:Int)):=by rw[aZ HB.out,HR.out.tab _ hbt,ht]
 have HT:=aa (And.intro ht hh);clear ht hh
 go_enter Tryz.func195,Tryz.ntmps195
 go_wp2_with fail;refine cN (fun w'=>w'.cell? ⟨rb,323,none⟩=some (.int .u64 (h:Int))/\w'.cell? ⟨rb,b.toNat,none⟩=some (.int .u64 (t:Int))) (by kernel_rfl) (by kernel_rfl) ?_;simp only[List.dropLast_cons_cons,List.dropLast_singleton,List.length_cons,List.length_nil,Nat.reduceAdd,Nat.reduceSub];obtain⟨V,hV⟩: ∃V:World,V=w.drew:=⟨_,rfl⟩;rw[<-hV];have HBV:=aa (show V.heap[rb]? =some (.cells cs.toArray ty (0,0)) by rw[hV]; exact HB.out)
 have HGV:=aa (show w.grownBy V (some rb) by rw[hV]; exact⟨rfl,rfl,rfl,Nat.le_refl _,fun _ _ _=>rfl⟩);clear c323 ct;have c323:V.cell? ⟨rb,323,none⟩=some (.int .u64 (h:Int)):=by rw[aZ HBV.out,HR.out.sum,HT.out.2]
 have ct:V.cell? ⟨rb,b.toNat,none⟩=some (.int .u64 (t:Int)):=by rw[aZ HBV.out,HR.out.tab _ hbt,HT.out.1]
 clear hV;refine ac 0 rfl (by kernel_rfl) (by kernel_rfl) (by kernel_rfl) (fun _ _ _ h=>h) rfl ⟨c323,ct⟩ (by rintro w' ⟨hw1,hw2⟩; go_simp; rfl) ?_;simp only[Act.put,aD,aE,aF];refine ac 1 rfl (by kernel_rfl) (by kernel_rfl) (by kernel_rfl) (fun _ _ _ h=>h) rfl ⟨c323,ct⟩ (by rintro w' ⟨hw1,hw2⟩; go_simp; rfl) ?_;simp only[Act.put,aD,aE,aF];refine ac 2 rfl (by kernel_rfl) (by kernel_rfl) (by kernel_rfl) (fun _ _ _ h=>h) rfl ⟨c323,ct⟩ (by rintro w' ⟨hw1,hw2⟩; go_simp; rfl) ?_
 simp only[Act.put,aD,aE,aF];refine ac 3 rfl (by kernel_rfl) (by kernel_rfl) (by kernel_rfl) (fun _ _ _ h=>h) rfl ⟨c323,ct⟩ (by rintro w' ⟨hw1,hw2⟩; go_simp; rfl) ?_;simp only[Act.put,aD,aE,aF];refine ac 4 rfl (by kernel_rfl) (by kernel_rfl) (by kernel_rfl) (fun _ _ _ h=>h) rfl ⟨c323,ct⟩ (by rintro w' ⟨hw1,hw2⟩; go_simp; rfl) ?_;simp only[Act.put,aD,aE,aF];refine ac 6 rfl (by kernel_rfl) (by kernel_rfl) (by kernel_rfl) (fun _ _ _ h=>h) rfl ⟨c323,ct⟩ (by rintro w' ⟨hw1,hw2⟩; go_simp; rfl) ?_
 simp only[Act.put,aD,aE,aF];refine ac 7 rfl (by kernel_rfl) (by kernel_rfl) (by kernel_rfl) (fun _ _ _ h=>h) rfl ⟨c323,ct⟩ (by rintro w' ⟨hw1,hw2⟩; go_simp; rfl) ?_;simp only[Act.put,aD,aE,aF];refine ac 8 rfl (by kernel_rfl) (by kernel_rfl) (by kernel_rfl) (fun _ _ _ h=>h) rfl ⟨c323,ct⟩ (by rintro w' ⟨hw1,hw2⟩; go_simp; rfl) ?_;simp only[Act.put,aD,aE,aF];refine ac 9 rfl (by kernel_rfl) (by kernel_rfl) (by kernel_rfl) (fun _ _ _ h=>h) rfl ⟨c323,ct⟩ (by rintro w' ⟨hw1,hw2⟩; go_simp; rfl) ?_
 simp only[Act.put,aD,aE,aF];refine ac 10 rfl (by kernel_rfl) (by kernel_rfl) (by kernel_rfl) (fun _ _ _ h=>h) rfl ⟨c323,ct⟩ (by rintro w' ⟨hw1,hw2⟩; go_simp; rfl) ?_;simp only[Act.put,aD,aE,aF];refine ac 11 rfl (by kernel_rfl) (by kernel_rfl) (by kernel_rfl) (fun _ _ _ h=>h) rfl ⟨c323,ct⟩ (by rintro w' ⟨hw1,hw2⟩; go_simp; rfl) ?_;simp only[Act.put,aD,aE,aF]
 refine bc 5 rfl (by kernel_rfl) rfl (fun K hK=> ?_);go_wp2_with fail;refine(nO h 1 V hhl (by decide)).mono ?_;rintro e w1 ⟨rfl,rfl⟩;go_wp2_with fail;refine⟨⟨c323,ct⟩, ?_⟩;refine ac 12 rfl (by kernel_rfl) (by kernel_rfl) (by kernel_rfl) (fun _ _ _ h=>h) rfl ⟨c323,ct⟩ (by rintro w' ⟨hw1,hw2⟩; go_simp; rfl) ?_;simp only[Act.put,aD,aE,aF];refine ac 13 rfl (by kernel_rfl) (by kernel_rfl) (by kernel_rfl) (fun _ _ _ h=>h) rfl ⟨c323,ct⟩ (by rintro w' ⟨hw1,hw2⟩; go_simp; rfl) ?_
 simp only[Act.put,aD,aE,aF];refine ac 14 rfl (by kernel_rfl) (by kernel_rfl) (by kernel_rfl) (fun _ _ _ h=>h) rfl ⟨c323,ct⟩ (by rintro w' ⟨hw1,hw2⟩; go_simp; rfl) ?_;simp only[Act.put,aD,aE,aF];rw[tM (fX 1 hhl) htl];obtain⟨h1,hh1⟩: ∃h1,h1=cM h 1^^^t:=⟨_,rfl⟩;rw[<-hh1];have hh1l:h1<18446744073709551616:=by rw[hh1]; exact jV (fX 1 hhl) htl
 have HH1:=aa hh1;clear hh1;have cf:V.frozen? ⟨rb,323,none⟩=false:=frozen_of_row V _ _ _ _ HBV.out;refine bO (by kernel_rfl) ?_;refine cZ rfl rfl (fun K hK=> ?_);go_wp2_with fail;obtain⟨U,hU⟩: ∃U:World,U=V.setCell ⟨rb,323,none⟩ (.int .u64 (h1:Int)):=⟨_,rfl⟩;rw[<-hU];obtain⟨cs1,hc1⟩: ∃cs1,cs1=cs.set 323 (.int .u64 (h1:Int)):=⟨_,rfl⟩;have HBU:=aa (show U.heap[rb]? =some (.cells cs1.toArray ty (0,0)) by rw[hU,hc1]; exact em HBV.out _)
 have HGU:=aa (show w.grownBy U (some rb) by rw[hU]; exact bv HGV.out _ _);have HC1:=aa hc1;clear hU c323 ct cf hc1;obtain⟨n,hn⟩: ∃n,n=min W d.length:=⟨_,rfl⟩;obtain⟨s,hs,hsc,hsw⟩:=HR.out.st;have hl:=HR.out.lt;have c322:U.cell? ⟨rb,322,none⟩=some (.int .i64 (n:Int)):=by rw[aZ HBU.out,HC1.out,List.getElem?_set_ne (by decide),HR.out.len,hn]
 have c320:U.cell? ⟨rb,320,none⟩=some (.int .i64 (W:Int)):=by rw[aZ HBU.out,HC1.out,List.getElem?_set_ne (by decide),HR.out.win]
 have c321:U.cell? ⟨rb,321,none⟩=some (.int .i64 (s:Int)):=by rw[aZ HBU.out,HC1.out,List.getElem?_set_ne (by decide),hsc]
 have HLN:=aa (show cs[322]? =some (.int .i64 (n:Int)) by rw[HR.out.len,hn]);have HN:=aa hn;have HSC:=aa hsc;clear hn hsc;have HSW:=aa hsw;clear hsw
 go_quiet (fail)
 have HBU1:=aa (show(U.drewN nq).heap[rb]? =some (.cells cs1.toArray ty (0,0))from HBU.out);have HGU1:=aa (show w.grownBy (U.drewN nq) (some rb)from ft HGU.out _);clear HBU HGU c322 c320 c321
 generalize U.drewN nq=U1 at *
 by_cases hf:n=W
 ·obtain⟨x,l,hxl⟩: ∃x l,ga W d=x::l:=by
   cases hw:ga W d with
   | nil=>have:=il W d; rw[hw,<-HN.out,hf]at this; simp at this; omega
   | cons x l=>exact⟨x,l,rfl⟩
  have hll:l.length+1=W:=by have:=il W d; rw[hxl,<-HN.out,hf]at this; simpa using this
  have hx:=HSW.out 0 x (by rw[hxl]; rfl);rw[Nat.add_zero,Nat.mod_eq_of_lt hs]at hx;have hxt:=x.toNat_lt;have hxti:(x.toNat:Int)<256:=by omega
  have hsi:(s:Int)<64:=by omega
  obtain⟨tx,htx⟩: ∃tx,tx=oQ seed x.toNat:=⟨_,rfl⟩;have htxl:tx<18446744073709551616:=by rw[htx]; exact ll _ _
  have cx:=HR.out.tab _ hxt;rw[<-htx]at cx;have HX:=aa (And.intro hxl (And.intro hx (And.intro htx cx)));clear hxl hx htx cx;subst hf;go_wp2_with fail;refine cN (fun w'=>w'.cell? ⟨rb,323,none⟩=some (.int .u64 (h1:Int))/\w'.cell? ⟨rb,321,none⟩=some (.int .i64 (s:Int))/\w'.cell? ⟨rb,256+s,none⟩=some (.int .u8 (x.toNat:Int))/\w'.cell? ⟨rb,x.toNat,none⟩=some (.int .u64 (tx:Int))/\w'.cell? ⟨rb,320,none⟩=some (.int .i64 (n:Int))) (by kernel_rfl) (by kernel_rfl) ?_
  simp only[List.dropLast_cons_cons,List.dropLast_singleton,List.length_cons,List.length_nil,Nat.reduceAdd,Nat.reduceSub];obtain⟨V2,hV2⟩: ∃V2:World,V2=U1.drew:=⟨_,rfl⟩;rw[<-hV2];have HBV2:=aa (show V2.heap[rb]? =some (.cells cs1.toArray ty (0,0)) by rw[hV2]; exact HBU1.out);have HGV2:=aa (show w.grownBy V2 (some rb) by rw[hV2]; exact gO HGU1.out);clear hV2;have c323:V2.cell? ⟨rb,323,none⟩=some (.int .u64 (h1:Int)):=by rw[aZ HBV2.out,HC1.out,List.getElem?_set_self (by omega)]
  have c320:V2.cell? ⟨rb,320,none⟩=some (.int .i64 (n:Int)):=by rw[aZ HBV2.out,HC1.out,List.getElem?_set_ne (by decide),HR.out.win]
  have c321:V2.cell? ⟨rb,321,none⟩=some (.int .i64 (s:Int)):=by rw[aZ HBV2.out,HC1.out,List.getElem?_set_ne (by decide),HSC.out]
  have cx1:V2.cell? ⟨rb,256+s,none⟩=some (.int .u8 (x.toNat:Int)):=by rw[aZ HBV2.out,HC1.out,List.getElem?_set_ne (by omega),HX.out.2.1]; rfl
  have ct1:V2.cell? ⟨rb,x.toNat,none⟩=some (.int .u64 (tx:Int)):=by rw[aZ HBV2.out,HC1.out,List.getElem?_set_ne (by omega),HX.out.2.2.2]
  refine ac 0 rfl (by kernel_rfl) (by kernel_rfl) (by kernel_rfl) (fun _ _ _ h=>h) rfl ⟨c323,c321,cx1,ct1,c320⟩ (by rintro w' ⟨hw1,hw2,hw3,hw4,hw5⟩; go_simp; rfl) ?_;simp only[Act.put,aD,aE,aF];refine ac 1 rfl (by kernel_rfl) (by kernel_rfl) (by kernel_rfl) (fun _ _ _ h=>h) rfl ⟨c323,c321,cx1,ct1,c320⟩ (by rintro w' ⟨hw1,hw2,hw3,hw4,hw5⟩; go_simp; rfl) ?_;simp only[Act.put,aD,aE,aF]
  refine ac 2 rfl (by kernel_rfl) (by kernel_rfl) (by kernel_rfl) (fun _ _ _ h=>h) rfl ⟨c323,c321,cx1,ct1,c320⟩ (by rintro w' ⟨hw1,hw2,hw3,hw4,hw5⟩; go_simp; rfl) ?_;simp only[Act.put,aD,aE,aF];refine ac 3 rfl (by kernel_rfl) (by kernel_rfl) (by kernel_rfl) (fun _ _ _ h=>h) rfl ⟨c323,c321,cx1,ct1,c320⟩ (by rintro w' ⟨hw1,hw2,hw3,hw4,hw5⟩; go_simp; rfl) ?_;simp only[Act.put,aD,aE,aF]
  refine ac 4 rfl (by kernel_rfl) (by kernel_rfl) (by kernel_rfl) (fun _ _ _ h=>h) rfl ⟨c323,c321,cx1,ct1,c320⟩ (by rintro w' ⟨hw1,hw2,hw3,hw4,hw5⟩; go_simp; rfl) ?_;simp only[Act.put,aD,aE,aF];refine ac 5 rfl (by kernel_rfl) (by kernel_rfl) (by kernel_rfl) (fun _ _ _ h=>h) rfl ⟨c323,c321,cx1,ct1,c320⟩ (by rintro w' ⟨hw1,hw2,hw3,hw4,hw5⟩; go_simp; rfl) ?_;simp only[Act.put,aD,aE,aF]
  refine ac 6 rfl (by kernel_rfl) (by kernel_rfl) (by kernel_rfl) (fun _ _ _ h=>h) rfl ⟨c323,c321,cx1,ct1,c320⟩ (by rintro w' ⟨hw1,hw2,hw3,hw4,hw5⟩; go_simp; rfl) ?_;simp only[Act.put,aD,aE,aF];refine ac 7 rfl (by kernel_rfl) (by kernel_rfl) (by kernel_rfl) (fun _ _ _ h=>h) rfl ⟨c323,c321,cx1,ct1,c320⟩ (by rintro w' ⟨hw1,hw2,hw3,hw4,hw5⟩; go_simp; rfl) ?_;simp only[Act.put,aD,aE,aF]
  refine ac 8 rfl (by kernel_rfl) (by kernel_rfl) (by kernel_rfl) (fun _ _ _ h=>h) rfl ⟨c323,c321,cx1,ct1,c320⟩ (by rintro w' ⟨hw1,hw2,hw3,hw4,hw5⟩; go_simp; rfl) ?_;simp only[Act.put,aD,aE,aF];refine ac 9 rfl (by kernel_rfl) (by kernel_rfl) (by kernel_rfl) (fun _ _ _ h=>h) rfl ⟨c323,c321,cx1,ct1,c320⟩ (by rintro w' ⟨hw1,hw2,hw3,hw4,hw5⟩; go_simp; rfl) ?_;simp only[Act.put,aD,aE,aF]
  refine ac 10 rfl (by kernel_rfl) (by kernel_rfl) (by kernel_rfl) (fun _ _ _ h=>h) rfl ⟨c323,c321,cx1,ct1,c320⟩ (by rintro w' ⟨hw1,hw2,hw3,hw4,hw5⟩; go_simp; rfl) ?_;simp only[Act.put,aD,aE,aF];refine ac 11 rfl (by kernel_rfl) (by kernel_rfl) (by kernel_rfl) (fun _ _ _ h=>h) rfl ⟨c323,c321,cx1,ct1,c320⟩ (by rintro w' ⟨hw1,hw2,hw3,hw4,hw5⟩; go_simp; rfl) ?_;simp only[Act.put,aD,aE,aF]
  refine ac 12 rfl (by kernel_rfl) (by kernel_rfl) (by kernel_rfl) (fun _ _ _ h=>h) rfl ⟨c323,c321,cx1,ct1,c320⟩ (by rintro w' ⟨hw1,hw2,hw3,hw4,hw5⟩; go_simp; rfl) ?_;simp only[Act.put,aD,aE,aF];refine ac 13 rfl (by kernel_rfl) (by kernel_rfl) (by kernel_rfl) (fun _ _ _ h=>h) rfl ⟨c323,c321,cx1,ct1,c320⟩ (by rintro w' ⟨hw1,hw2,hw3,hw4,hw5⟩; go_simp; rfl) ?_;simp only[Act.put,aD,aE,aF]
  refine ac 14 rfl (by kernel_rfl) (by kernel_rfl) (by kernel_rfl) (fun _ _ _ h=>h) rfl ⟨c323,c321,cx1,ct1,c320⟩ (by rintro w' ⟨hw1,hw2,hw3,hw4,hw5⟩; go_simp; rfl) ?_;simp only[Act.put,aD,aE,aF];refine ac 15 rfl (by kernel_rfl) (by kernel_rfl) (by kernel_rfl) (fun _ _ _ h=>h) rfl ⟨c323,c321,cx1,ct1,c320⟩ (by rintro w' ⟨hw1,hw2,hw3,hw4,hw5⟩; go_simp; rfl) ?_;simp only[Act.put,aD,aE,aF]
  refine ac 16 rfl (by kernel_rfl) (by kernel_rfl) (by kernel_rfl) (fun _ _ _ h=>h) rfl ⟨c323,c321,cx1,ct1,c320⟩ (by rintro w' ⟨hw1,hw2,hw3,hw4,hw5⟩; go_simp; rfl) ?_;simp only[Act.put,aD,aE,aF];refine ac 17 rfl (by kernel_rfl) (by kernel_rfl) (by kernel_rfl) (fun _ _ _ h=>h) rfl ⟨c323,c321,cx1,ct1,c320⟩ (by rintro w' ⟨hw1,hw2,hw3,hw4,hw5⟩; go_simp; rfl) ?_;simp only[Act.put,aD,aE,aF]
  refine ac 18 rfl (by kernel_rfl) (by kernel_rfl) (by kernel_rfl) (fun _ _ _ h=>h) rfl ⟨c323,c321,cx1,ct1,c320⟩ (by rintro w' ⟨hw1,hw2,hw3,hw4,hw5⟩; go_simp; rfl) ?_;simp only[Act.put,aD,aE,aF];refine ac 19 rfl (by kernel_rfl) (by kernel_rfl) (by kernel_rfl) (fun _ _ _ h=>h) rfl ⟨c323,c321,cx1,ct1,c320⟩ (by rintro w' ⟨hw1,hw2,hw3,hw4,hw5⟩; go_simp; rfl) ?_;simp only[Act.put,aD,aE,aF]
  refine ac 20 rfl (by kernel_rfl) (by kernel_rfl) (by kernel_rfl) (fun _ _ _ h=>h) rfl ⟨c323,c321,cx1,ct1,c320⟩ (by rintro w' ⟨hw1,hw2,hw3,hw4,hw5⟩; go_simp; rfl) ?_;simp only[Act.put,aD,aE,aF];refine ac 21 rfl (by kernel_rfl) (by kernel_rfl) (by kernel_rfl) (fun _ _ _ h=>h) rfl ⟨c323,c321,cx1,ct1,c320⟩ (by rintro w' ⟨hw1,hw2,hw3,hw4,hw5⟩; go_simp; rfl) ?_;simp only[Act.put,aD,aE,aF]
  refine bc 22 rfl (by kernel_rfl) rfl (fun K hK=> ?_);go_wp2_with fail;refine(nO tx n V2 htxl hW2).mono ?_;rintro e w1 ⟨rfl,rfl⟩;go_wp2_with fail;refine⟨⟨c323,c321,cx1,ct1,c320⟩, ?_⟩;refine ac 23 rfl (by kernel_rfl) (by kernel_rfl) (by kernel_rfl) (fun _ _ _ h=>h) rfl ⟨c323,c321,cx1,ct1,c320⟩ (by rintro w' ⟨hw1,hw2,hw3,hw4,hw5⟩; go_simp; rfl) ?_;simp only[Act.put,aD,aE,aF]
  refine ac 24 rfl (by kernel_rfl) (by kernel_rfl) (by kernel_rfl) (fun _ _ _ h=>h) rfl ⟨c323,c321,cx1,ct1,c320⟩ (by rintro w' ⟨hw1,hw2,hw3,hw4,hw5⟩; go_simp; rfl) ?_;simp only[Act.put,aD,aE,aF];refine ac 25 rfl (by kernel_rfl) (by kernel_rfl) (by kernel_rfl) (fun _ _ _ h=>h) rfl ⟨c323,c321,cx1,ct1,c320⟩ (by rintro w' ⟨hw1,hw2,hw3,hw4,hw5⟩; go_simp; rfl) ?_;simp only[Act.put,aD,aE,aF]
  rw[tM hh1l (fX n htxl)];obtain⟨h2,hh2⟩: ∃h2,h2=h1^^^cM tx n:=⟨_,rfl⟩;rw[<-hh2];have hh2l:h2<18446744073709551616:=by rw[hh2]; exact jV hh1l (fX n htxl)
  have HH2:=aa hh2;have cf:V2.frozen? ⟨rb,323,none⟩=false:=frozen_of_row V2 _ _ _ _ HBV2.out;have cf1:V2.frozen? ⟨rb,321,none⟩=false:=frozen_of_row V2 _ _ _ _ HBV2.out;have cf2:V2.frozen? ⟨rb,322,none⟩=false:=frozen_of_row V2 _ _ _ _ HBV2.out;have c322:V2.cell? ⟨rb,322,none⟩=some (.int .i64 (n:Int)):=by rw[aZ HBV2.out,HC1.out,List.getElem?_set_ne (by decide),HLN.out]
  obtain⟨s2,hs2⟩: ∃s2,s2=(s+1)%64:=⟨_,rfl⟩;obtain⟨n2,hn2⟩: ∃n2,n2=n-1:=⟨_,rfl⟩;have hsa:IntKind.i64.wrap ((s:Int)+1)=((s+1:Nat):Int):=by rw[IntKind.wrap_i64]; omega
  have hsb:((s:Int)+1)%64=(s2:Int):=by omega
  have hna:IntKind.i64.wrap ((n:Int)-1)=(n2:Int):=by rw[IntKind.wrap_i64]; omega
  have hs264:s2<64:=by omega
  have hn264:n2<64:=by omega
  have HS2:=aa hs2;have HN2:=aa hn2;clear hh2 hs2 hn2;refine bO (by kernel_rfl) ?_;refine cZ rfl rfl (fun K hK=> ?_);go_wp2_with fail;obtain⟨X,hX⟩: ∃X:World,X=((V2.setCell ⟨rb,323,none⟩ (.int .u64 (h2:Int))).setCell ⟨rb,321,none⟩ (.int .i64 (s2:Int))).setCell ⟨rb,322,none⟩ (.int .i64 (n2:Int)):=⟨_,rfl⟩;rw[<-hX];have HBX:=aa (show X.heap[rb]? =some (.cells (((cs1.set 323 (.int .u64 (h2:Int))).set 321 (.int .i64 (s2:Int))).set 322 (.int .i64 (n2:Int))).toArray ty (0,0)) by rw[hX]; exact em (em (em HBV2.out _) _) _)
  have HGX:=aa (show w.grownBy X (some rb) by rw[hX]; exact bv (bv (bv HGV2.out _ _) _ _) _ _);have HCX:=aa (show(((cs1.set 323 (.int .u64 (h2:Int))).set 321 (.int .i64 (s2:Int))).set 322 (.int .i64 (n2:Int)))[321]? =some (.int .i64 (s2:Int))/\(((cs1.set 323 (.int .u64 (h2:Int))).set 321 (.int .i64 (s2:Int))).set 322 (.int .i64 (n2:Int)))[322]? =some (.int .i64 (n2:Int))from⟨by rw[List.getElem?_set_ne (by decide),List.getElem?_set_self (by rw[HC1.out]; simp; omega)],by rw[List.getElem?_set_self (by rw[HC1.out]; simp; omega)]⟩)
  have HRX:=aa (show ∀j,j<64-> ∃c,(((cs1.set 323 (.int .u64 (h2:Int))).set 321 (.int .i64 (s2:Int))).set 322 (.int .i64 (n2:Int)))[256+j]? =some (aC c)from fun j hj=>by
   rw[List.getElem?_set_ne (by omega),List.getElem?_set_ne (by omega),List.getElem?_set_ne (by omega),HC1.out,List.getElem?_set_ne (by omega)];exact HR.out.rng j hj)
  clear hX c323 c320 c321 cx1 ct1 cf cf1 cf2 c322;have hbt2:=hbt;obtain⟨j2,hj2⟩: ∃j2,j2=(s2+n2)%64:=⟨_,rfl⟩;have hj64:j2<64:=by omega
  have hj64i:(j2:Int)<64:=by omega
  have hadd:IntKind.i64.wrap ((s2:Int)+(n2:Int))=(s2:Int)+(n2:Int):=by rw[IntKind.wrap_i64]; omega
  have hmod:((s2:Int)+(n2:Int))%64=(j2:Int):=by omega
  have hmod2:Int.tmod ((s2:Int)+(n2:Int)) 64=(j2:Int):=by rw[Int.tmod_eq_emod_of_nonneg (by omega)]; omega
  have hmod3:IntKind.i64.wrap (j2:Int)=(j2:Int):=by rw[IntKind.wrap_i64]; omega
  have hinc:IntKind.i64.wrap ((n2:Int)+1)=((n2+1:Nat):Int):=by rw[IntKind.wrap_i64]; omega
  have c321:X.cell? ⟨rb,321,none⟩=some (.int .i64 (s2:Int)):=by rw[aZ HBX.out,HCX.out.1]
  have c322:X.cell? ⟨rb,322,none⟩=some (.int .i64 (n2:Int)):=by rw[aZ HBX.out,HCX.out.2]
  have cf1:X.frozen? ⟨rb,256+j2,none⟩=false:=frozen_of_row X _ _ _ _ HBX.out;have cf2:X.frozen? ⟨rb,322,none⟩=false:=frozen_of_row X _ _ _ _ HBX.out;obtain⟨bj,hbj⟩:=HRX.out j2 hj64;have cbj:X.cell? ⟨rb,256+j2,none⟩=some (aC bj):=by rw[aZ HBX.out,hbj]
  clear hbj;have hne1: ¬(256+j2=322):=by omega
  have hne2: ¬(322=256+j2):=by omega
  have HJ2:=aa hj2;clear hj2;refine ak [some 15,none] (by kernel_rfl) (by kernel_rfl) (by kernel_rfl) ?_;simp only[bb,List.take_succ_cons,List.take_zero,List.drop_succ_cons,List.drop_zero]
  repeat (first | (refine am rfl ?_; simp only[Act.put,aD,aE,aF]) | (refine aA rfl (fun K hK=> ?_); go_simp; refine hK _ ?_; clear hK K))
  refine az ?_;refine bt rfl (fun K hK=> ?_);go_wp2_with fail
  go_end0
  refine⟨rfl,⟨_,em (em (show X.drew.heap[rb]? =_ from HBX.out) _) _, ?_, ?_, ?_⟩,bv (bv (gO HGX.out) _ _) _ _⟩
  ·rw[HJ2.out];have hlen:=(il n d).symm;refine HR.out.push (b:=b) (q:=l) (s2:=s2) (n2:=n2) ?_ ?_ hs264 ?_ ?_ ?_ ?_ ?_ hW2 ?_
   ·intro i hi;rw[List.getElem?_set_ne (by omega),List.getElem?_set_ne (by omega),List.getElem?_set_ne (by omega),HC1.out,List.getElem?_set_ne (by omega)]
   ·exact HCX.out.1
   ·rw[HC1.out]; simp; omega
   ·rw[List.getElem?_set_ne (by omega),List.getElem?_set_ne (by omega),List.getElem?_set_self (by rw[HC1.out]; simp; omega),HH2.out,HH1.out,HT.out.1,HT.out.2,HX.out.2.2.1,od hW (by have:=HN.out; omega),HX.out.1];have:=ry (ll seed) x b l (by omega);rw[hll]at this;unfold kK;rw[this]
    rfl
   ·rw[od hW (by have:=HN.out; omega),HX.out.1]; rfl
   ·have:=HN2.out; omega
   ·have:=HN2.out; omega
   ·intro j c hc;have hjl:=(List.getElem?_eq_some_iff.1 hc).1;rw[List.getElem?_set_ne (by omega),List.getElem?_set_ne (by omega),List.getElem?_set_ne (by omega),HC1.out,List.getElem?_set_ne (by omega)];have:=HSW.out (j+1) c (by rw[HX.out.1]; exact hc);rw[show(s2+j)%64=(s+(j+1))%64 by have:=HS2.out; omega];exact this
  ·rw[HC1.out]; simp
  ·intro i hi;have:=HJ2.out;rw[List.getElem?_set_ne (by omega),List.getElem?_set_ne (by omega),List.getElem?_set_ne (by omega),List.getElem?_set_ne (by omega),List.getElem?_set_ne (by omega),HC1.out,List.getElem?_set_ne (by omega)]
 ·go_wp2_with fail;obtain⟨X,hX⟩: ∃X:World,X=U1:=⟨_,rfl⟩;rw[<-hX];obtain⟨s2,hs2⟩: ∃s2,s2=s:=⟨_,rfl⟩;obtain⟨n2,hn2⟩: ∃n2,n2=n:=⟨_,rfl⟩;have HBX:=aa (show X.heap[rb]? =some (.cells cs1.toArray ty (0,0)) by rw[hX]; exact HBU1.out);have HGX:=aa (show w.grownBy X (some rb) by rw[hX]; exact HGU1.out);have HCX:=aa (show cs1[321]? =some (.int .i64 (s2:Int))/\cs1[322]? =some (.int .i64 (n2:Int))from⟨by rw[HC1.out,List.getElem?_set_ne (by decide),HSC.out,hs2],by rw[HC1.out,List.getElem?_set_ne (by decide),HLN.out,hn2]⟩)
  have HRX:=aa (show ∀j,j<64-> ∃c,cs1[256+j]? =some (aC c)from fun j hj=>by
   rw[HC1.out,List.getElem?_set_ne (by omega)];exact HR.out.rng j hj)
  have hs264:s2<64:=by omega
  have hn264:n2<64:=by have:=HN.out; omega
  have HS2:=aa hs2;have HN2:=aa hn2;clear hX hs2 hn2;have hbt2:=hbt;obtain⟨j2,hj2⟩: ∃j2,j2=(s2+n2)%64:=⟨_,rfl⟩;have hj64:j2<64:=by omega
  have hj64i:(j2:Int)<64:=by omega
  have hadd:IntKind.i64.wrap ((s2:Int)+(n2:Int))=(s2:Int)+(n2:Int):=by rw[IntKind.wrap_i64]; omega
  have hmod:((s2:Int)+(n2:Int))%64=(j2:Int):=by omega
  have hmod2:Int.tmod ((s2:Int)+(n2:Int)) 64=(j2:Int):=by rw[Int.tmod_eq_emod_of_nonneg (by omega)]; omega
  have hmod3:IntKind.i64.wrap (j2:Int)=(j2:Int):=by rw[IntKind.wrap_i64]; omega
  have hinc:IntKind.i64.wrap ((n2:Int)+1)=((n2+1:Nat):Int):=by rw[IntKind.wrap_i64]; omega
  have c321:X.cell? ⟨rb,321,none⟩=some (.int .i64 (s2:Int)):=by rw[aZ HBX.out,HCX.out.1]
  have c322:X.cell? ⟨rb,322,none⟩=some (.int .i64 (n2:Int)):=by rw[aZ HBX.out,HCX.out.2]
  have cf1:X.frozen? ⟨rb,256+j2,none⟩=false:=frozen_of_row X _ _ _ _ HBX.out;have cf2:X.frozen? ⟨rb,322,none⟩=false:=frozen_of_row X _ _ _ _ HBX.out;obtain⟨bj,hbj⟩:=HRX.out j2 hj64;have cbj:X.cell? ⟨rb,256+j2,none⟩=some (aC bj):=by rw[aZ HBX.out,hbj]
  clear hbj;have hne1: ¬(256+j2=322):=by omega
  have hne2: ¬(322=256+j2):=by omega
  have HJ2:=aa hj2;clear hj2;refine ak [some 15,none] (by kernel_rfl) (by kernel_rfl) (by kernel_rfl) ?_;simp only[bb,List.take_succ_cons,List.take_zero,List.drop_succ_cons,List.drop_zero]
  repeat (first | (refine am rfl ?_; simp only[Act.put,aD,aE,aF]) | (refine aA rfl (fun K hK=> ?_); go_simp; refine hK _ ?_; clear hK K))
  refine az ?_;refine bt rfl (fun K hK=> ?_);go_wp2_with fail
  go_end0
  have hdl:d.length<W:=by have:=HN.out; omega
  refine⟨rfl,⟨_,em (em (show X.drew.heap[rb]? =_ from HBX.out) _) _, ?_, ?_, ?_⟩,bv (bv (gO HGX.out) _ _) _ _⟩
  ·rw[HJ2.out];refine HR.out.push (b:=b) (q:=ga W d) (s2:=s2) (n2:=n2) ?_ ?_ hs264 ?_ ?_ (oc hdl b) ?_ ?_ hW2 ?_
   ·intro i hi;rw[HC1.out,List.getElem?_set_ne (by omega)]
   ·exact HCX.out.1
   ·rw[HC1.out]; simp; omega
   ·rw[HC1.out,List.getElem?_set_self (by omega),HH1.out,HT.out.1,HT.out.2,oc hdl];unfold kK;rw[fb]
   ·rw[il,<-HN.out,HN2.out]
   ·have:=HN2.out; have:=HN.out; omega
   ·intro j c hc;rw[HC1.out,List.getElem?_set_ne (by omega),HS2.out];exact HSW.out j c hc
  ·rw[HC1.out]; simp
  ·intro i hi;have:=HJ2.out;rw[List.getElem?_set_ne (by omega),List.getElem?_set_ne (by omega),HC1.out,List.getElem?_set_ne (by omega)]
structure pd (w : World) : Prop where
 tab:TabAt 5 Lib.deBruijn64tab w
 lt:5<w.heap.size
theorem pd.block {w w':World} (h:pd w) (hb:w'.heap[5]? =w.heap[5]?) (hs:w.heap.size<=w'.heap.size):pd w':=
 ⟨fun j hj=>by rw[<-h.tab j hj]; exact World.cell?_of_block hb,Nat.lt_of_lt_of_le h.lt hs⟩
theorem pd.below {w0 w w':World} (h:pd w) (hb:Below w0.heap.size w w') (hlt:5<w0.heap.size):pd w':=h.block (hb.block _ hlt) hb.size
theorem pd.grown {w w':World} {r:Option Nat} (h:pd w) (hg:w.grownBy w' r) (hr:r≠some 5):pd w':=h.block (hg.block _ h.lt (fun e=>hr e.symm)) hg.size
theorem gW (rb n:Nat) (w:World) (h:w.cell? ⟨rb,322,none⟩=some (.int .i64 (n:Int))):Calls Tryz.prog 196 #[.pointer (some ⟨rb,0,none⟩)] w fun e w'=>e= .returned (.int .i64 (n:Int))/\w=w':=by
 go_enter Tryz.func196,Tryz.ntmps196
 go_wp2_with fail;go_ret;exact⟨rfl,rfl⟩
theorem gX (rb n:Nat) (w:World) (h:w.cell? ⟨rb,323,none⟩=some (.int .u64 (n:Int))):Calls Tryz.prog 198 #[.pointer (some ⟨rb,0,none⟩)] w fun e w'=>e= .returned (.int .u64 (n:Int))/\w=w':=by
 go_enter Tryz.func198,Tryz.ntmps198
 go_wp2_with fail;go_ret;exact⟨rfl,rfl⟩
theorem vK (x:Nat) (w:World) (hx:x<18446744073709551616) (hT:pd w):Calls Tryz.prog 197 #[.int .u64 (x:Int)] w fun e w'=>e= .returned (.int .i64 ((Lib.ctz 64 x:Nat):Int))/\w=w':=by
 go_enter Tryz.func197,Tryz.ntmps197
 go_wp2_with fail;refine(Tryz.bits_TrailingZeros64 x hx w (fun _=>hT.tab)).mono ?_;rintro e w' ⟨rfl,rfl⟩;go_wp2_with fail;go_ret;exact⟨rfl,rfl⟩
def oO (c:cR) (data:List UInt8) (p:Nat):Bool:=zq c.seed c.win.toNat c.bits.toNat (data.take p)
structure kz (c : cR) (data : List UInt8) (p : Nat) (cs : List Value) : Prop where
 roll:iJ c.seed c.win.toNat (data.take p) cs
 len:cs.length=331
 cut: ∀i,i<5->cs[324+i]? =(bR c)[i]?
 pos:cs[329]? =some (.int .i64 (p:Int))
 last:cs[330]? =some (.int .i64 (gy (oO c data) c.mn.toNat p))
theorem qf (mk:Nat->Bool) (mn p:Nat): -(mn:Int)<=gy mk mn p/\gy mk mn p<=(p:Int):=by
 rcases rF (mk:=mk) (mn:=mn) p with⟨h,_⟩ | ⟨L,h,h1,h2,_⟩<;> rw[h]<;> omega
theorem xI (c:cR) (data:List UInt8) (p:Nat) (b:UInt8) (mb:Nat) (ty:TypeId) (cs:List Value) (w:World) (hc:dA c=true) (hb:data[p]? =some b) (hp:data.length<=1048576) (hbox:w.heap[mb]? =some (.cells cs.toArray ty (0,0))) (hm:kz c data p cs) (hT:pd w) (hmb:mb≠5):
  Calls Tryz.prog 176 #[.pointer (some ⟨mb,0,none⟩), .int .u8 (b.toNat:Int)] w fun e w'=>e= .returned (.bool (mj (oO c data) c.mn.toNat (p+1)))/\(∃cs',w'.heap[mb]? =some (.cells cs'.toArray ty (0,0))/\kz c data (p+1) cs')/\w.grownBy w' (some mb):=by
 have hv:=dB.1 hc;have HV:=aa hv;have HM:=aa hm;have HBX:=aa hbox;have HT:=aa hT;have hpl:=(List.getElem?_eq_some_iff.1 hb).1;have htk:data.take (p+1)=data.take p++[b]:=by rw[List.take_add_one,hb]; rfl
 have HTK:=aa htk;obtain⟨W,hW⟩: ∃W,W=c.win.toNat:=⟨_,rfl⟩;obtain⟨B,hB⟩: ∃B,B=c.bits.toNat:=⟨_,rfl⟩;obtain⟨mn,hmn⟩: ∃mn,mn=c.mn.toNat:=⟨_,rfl⟩;have hWi:c.win=(W:Int):=by omega
 have hBi:c.bits=(B:Int):=by omega
 have hmi:c.mn=(mn:Int):=by omega
 have hW1:1<=W:=by omega
 have hW2:W<=64:=by omega
 have HI:=aa (And.intro hW (And.intro hB (And.intro hmn (And.intro hWi (And.intro hBi hmi)))));clear hc hm hbox hT hb htk hv hW hB hmn hWi hBi hmi
 go_enter Tryz.func176,Tryz.ntmps176
 go_wp2_with fail;refine(xo mb ty c.seed W (data.take p) b cs w HBX.out (by have:=HM.out.roll; rw[<-HI.out.1]at this; exact this) hW1 hW2).mono ?_;rintro e w1 ⟨rfl,⟨cs1,hb1,hr1,hl1,hk1⟩,hg1⟩;have HB1:=aa hb1;have HR1:=aa hr1;have HK1:=aa hk1;have HL1:=aa (hl1.trans HM.out.len);have HG1:=aa hg1;have HT1:=aa (HT.out.grown hg1 (fun e=>hmb (Option.some.inj e)));clear hb1 hr1 hk1 hl1 hg1
 have c329:w1.cell? ⟨mb,329,none⟩=some (.int .i64 (p:Int)):=by rw[aZ HB1.out,HK1.out _ (by decide),HM.out.pos]
 have cf:w1.frozen? ⟨mb,329,none⟩=false:=frozen_of_row w1 _ _ _ _ HB1.out;have hinc:IntKind.i64.wrap ((p:Int)+1)=((p+1:Nat):Int):=by rw[IntKind.wrap_i64]; omega
 go_wp2_with fail;obtain⟨cs2,hcs2⟩: ∃cs2,cs2=cs1.set 329 (.int .i64 (((p:Nat):Int)+1)):=⟨_,rfl⟩;obtain⟨U,hU⟩: ∃U:World,U=w1.setCell ⟨mb,329,none⟩ (.int .i64 (((p:Nat):Int)+1)):=⟨_,rfl⟩;rw[<-hU];have HBU:=aa (show U.heap[mb]? =some (.cells cs2.toArray ty (0,0)) by rw[hU,hcs2]; exact em HB1.out _);have HGU:=aa (show w.grownBy U (some mb) by rw[hU]; exact bv HG1.out _ _)
 have HTU:=aa (show pd U by rw[hU]; exact HT1.out.grown (be _ _ _ _) (fun e=>hmb (Option.some.inj e)));have HC2:=aa hcs2;have HL2:=aa (show cs2.length=331 by rw[hcs2,List.length_set]; exact HL1.out);clear hU hcs2 c329 cf hinc;obtain⟨n,hn⟩: ∃n,n=min W (p+1):=⟨_,rfl⟩;obtain⟨h,hh⟩: ∃h,h=kK c.seed (ga W (data.take (p+1))):=⟨_,rfl⟩;have hhl:h<18446744073709551616:=by rw[hh]; exact pQ _ _
 obtain⟨z,hz⟩: ∃z,z=Lib.ctz 64 h:=⟨_,rfl⟩;obtain⟨la,hla⟩: ∃la,la=gy (oO c data) mn p:=⟨_,rfl⟩;have hlr: -(mn:Int)<=la/\la<=(p:Int):=by rw[hla]; exact qf _ _ _
 have c322:U.cell? ⟨mb,322,none⟩=some (.int .i64 (n:Int)):=by
  rw[aZ HBU.out,HC2.out,List.getElem?_set_ne (by decide),HR1.out.len,hn,List.length_append,List.length_take,List.length_cons,List.length_nil,Nat.min_eq_left (by omega:p<=data.length)]
 have c323:U.cell? ⟨mb,323,none⟩=some (.int .u64 (h:Int)):=by
  rw[aZ HBU.out,HC2.out,List.getElem?_set_ne (by decide),HR1.out.sum,hh,HTK.out]
 have c324:U.cell? ⟨mb,324,none⟩=some (.int .i64 (mn:Int)):=by
  rw[aZ HBU.out,HC2.out,List.getElem?_set_ne (by decide),HK1.out _ (by decide),HM.out.cut 0 (by decide),<-HI.out.2.2.2.2.2]; rfl
 have c326:U.cell? ⟨mb,326,none⟩=some (.int .i64 (W:Int)):=by
  rw[aZ HBU.out,HC2.out,List.getElem?_set_ne (by decide),HK1.out _ (by decide),HM.out.cut 2 (by decide),<-HI.out.2.2.2.1]; rfl
 have c327:U.cell? ⟨mb,327,none⟩=some (.int .i64 (B:Int)):=by
  rw[aZ HBU.out,HC2.out,List.getElem?_set_ne (by decide),HK1.out _ (by decide),HM.out.cut 3 (by decide),<-HI.out.2.2.2.2.1]; rfl
 have c329:U.cell? ⟨mb,329,none⟩=some (.int .i64 ((p:Int)+1)):=by
  rw[aZ HBU.out,HC2.out,List.getElem?_set_self (by rw[HL1.out]; decide)]
 have c330:U.cell? ⟨mb,330,none⟩=some (.int .i64 la):=by
  rw[aZ HBU.out,HC2.out,List.getElem?_set_ne (by decide),HK1.out _ (by decide),HM.out.last,hla,HI.out.2.2.1]
 have hmk:oO c data (p+1)=(decide (W<=n) && decide (B<=z)):=by
  unfold oO zq;rw[<-HI.out.1,<-HI.out.2.1,hz,hh]
  congr 1
  rw[decide_eq_decide,List.length_take]; omega
 have HMK:=aa hmk;have HH:=aa (And.intro hn (And.intro hh (And.intro hz hla)));have HDQ:=aa (show ∀n,pd (U.drewN n)from fun n=>HTU.out.block rfl (Nat.le_refl _));clear hn hh hz hla hmk;have HZ:=aa (show ∀m,Calls Tryz.prog 197 #[.int .u64 (h:Int)] (U.drewN m) fun e w'=>e= .returned (.int .i64 (z:Int))/\U.drewN m=w' from fun m=>by rw[HH.out.2.2.1]; exact vK h (U.drewN m) hhl (HDQ.out m))
 have HRO:=aa (show iJ c.seed c.win.toNat (data.take (p+1)) cs2 by
  rw[<-HI.out.1,HTK.out,HC2.out];have h:=HR1.out;refine⟨fun i hi=> ?_,fun j hj=> ?_, ?_, ?_, ?_, ?_⟩
  ·rw[List.getElem?_set_ne (by omega)]; exact h.tab i hi
  ·rw[List.getElem?_set_ne (by omega)]; exact h.rng j hj
  ·rw[List.getElem?_set_ne (by omega)]; exact h.win
  ·obtain⟨s,h1,h2,h3⟩:=h.st;refine⟨s,h1,by rw[List.getElem?_set_ne (by omega)]; exact h2,fun j b hb=>by rw[List.getElem?_set_ne (by omega)]; exact h3 j b hb⟩
  ·rw[List.getElem?_set_ne (by omega)]; exact h.len
  ·rw[List.getElem?_set_ne (by omega)]; exact h.sum)
 have HCU:=aa (show ∀i,i<5->cs2[324+i]? =(bR c)[i]? from fun i hi=>by
  rw[HC2.out,List.getElem?_set_ne (by omega),HK1.out _ (by omega)]; exact HM.out.cut i hi)
 have HPO:=aa (show cs2[329]? =some (.int .i64 ((p+1:Nat):Int)) by rw[HC2.out,List.getElem?_set_self (by rw[HL1.out]; decide)]; rfl);have HLA:=aa (show cs2[330]? =some (.int .i64 la) by rw[HC2.out,List.getElem?_set_ne (by decide),HK1.out _ (by decide),HM.out.last,HH.out.2.2.2,HI.out.2.2.1]);have HNO:=aa (show oO c data (p+1)=false->(mj (oO c data) c.mn.toNat (p+1)=false/\kz c data (p+1) cs2)from fun h0=>⟨by rw[mj,h0]; rfl,{
  roll:=HRO.out
  len:=HL2.out
  cut:=HCU.out
  pos:=HPO.out
  last:=by rw[gy,if_neg (by rw[h0]; decide),<-HI.out.2.2.1,<-HH.out.2.2.2]; exact HLA.out}⟩)
 by_cases h1:n<W
 ·have h1i:(n:Int)<(W:Int):=by omega
  go_quiet ((first | (go_at_call 196; refine fg (gW mb n _ c322)) | (go_at_call 198; refine fg (gX mb h _ c323)) | (go_at_call 197; refine fg (HZ.out _))))
  go_wp2_with fail;go_ret;have hno:=HNO.out (by rw[HMK.out,decide_eq_false (by omega)]; rfl);exact⟨al hno.1.symm,⟨cs2,HBU.out,hno.2⟩,ft HGU.out _⟩
 ·have h1i:(W:Int)<=(n:Int):=by omega
  have h1j: ¬(n:Int)<(W:Int):=by omega
  by_cases h2:z<B
  ·have h2i:(z:Int)<(B:Int):=by omega
   go_quiet ((first | (go_at_call 196; refine fg (gW mb n _ c322)) | (go_at_call 198; refine fg (gX mb h _ c323)) | (go_at_call 197; refine fg (HZ.out _))))
   go_wp2_with fail;go_ret;have hno:=HNO.out (by rw[HMK.out,decide_eq_false (by omega: ¬B<=z),Bool.and_false]);exact⟨al hno.1.symm,⟨cs2,HBU.out,hno.2⟩,ft HGU.out _⟩
  ·have h2i:(B:Int)<=(z:Int):=by omega
   have h2j: ¬(z:Int)<(B:Int):=by omega
   go_quiet ((first | (go_at_call 196; refine fg (gW mb n _ c322)) | (go_at_call 198; refine fg (gX mb h _ c323)) | (go_at_call 197; refine fg (HZ.out _))))
   go_wp2_with fail;have cf:U.frozen? ⟨mb,330,none⟩=false:=frozen_of_row U _ _ _ _ HBU.out;have hsub:IntKind.i64.wrap ((p:Int)+1-la)=(p:Int)+1-la:=by have:=HV.out; have:=HI.out; rw[IntKind.wrap_i64]; omega
   go_quiet (fail)
   go_wp2_with fail;go_ret;have hyes:oO c data (p+1)=true:=by rw[HMK.out,decide_eq_true (by omega:W<=n),decide_eq_true (by omega:B<=z)]; rfl
   refine⟨al ?_,⟨cs2.set 330 (.int .i64 ((p:Int)+1)),em (show(U.drewN _).heap[mb]? =_ from HBU.out) _, ?_⟩,bv (ft HGU.out _) _ _⟩
   ·rw[mj,hyes,Bool.true_and,<-HI.out.2.2.1,<-HH.out.2.2.2,decide_eq_decide]; simp
   ·have h:=HRO.out;have hcu:=HCU.out;refine⟨⟨fun i hi=> ?_,fun j hj=> ?_, ?_, ?_, ?_, ?_⟩,by rw[List.length_set]; exact HL2.out,fun i hi=> ?_, ?_, ?_⟩
    ·rw[List.getElem?_set_ne (by omega)]; exact h.tab i hi
    ·rw[List.getElem?_set_ne (by omega)]; exact h.rng j hj
    ·rw[List.getElem?_set_ne (by omega)]; exact h.win
    ·obtain⟨s,h1,h2,h3⟩:=h.st;refine⟨s,h1,by rw[List.getElem?_set_ne (by omega)]; exact h2,fun j b hb=>by rw[List.getElem?_set_ne (by omega)]; exact h3 j b hb⟩
    ·rw[List.getElem?_set_ne (by omega)]; exact h.len
    ·rw[List.getElem?_set_ne (by omega)]; exact h.sum
    ·rw[List.getElem?_set_ne (by omega)]; exact hcu i hi
    ·rw[List.getElem?_set_ne (by omega)]; exact HPO.out
    ·rw[List.getElem?_set_self (by rw[HL2.out]; decide),gy,if_pos hyes]; rfl
end Go.Proofs.YtnjkpcalgoefhaaGreatDoor
namespace Go.Proofs.YtnjkpcalgoefhaaGreatDoor
open Go.RowKit
structure bq where
 sum:ByteArray
 size:Int
deriving DecidableEq
structure au where
 path:ByteArray
 kind:Int
 mode:Int
 time:Int
 size:Int
 link:ByteArray
 parts:List bq
deriving DecidableEq
structure gF where
 tm:Int
 files:List au
def kh (f:au):aX:=⟨f.path,f.kind,f.mode,f.time,[],f.link⟩
def kx (l:List bq):Int:=l.foldl (fun a p=>wrap64 (a+p.size)) 0
theorem vE (l:List bq) (p:bq):kx (l++[p])=wrap64 (kx l+p.size):=by unfold kx; rw[List.foldl_append]; rfl
def jT (p:bq):Bool:=decide (p.sum.size=32) && decide (1<=p.size) && decide (p.size<=32768)
def dS (f:au):Bool:=if f.kind=1 then f.parts.all jT && (decide (f.size=kx f.parts) && decide (kx f.parts<=1048576))else decide (f.size=0) && decide (f.parts=[])
def fm (x:gF):Bool:=decide (0<=x.tm) && decide (x.files.length<=4096) && x.files.all dS && decide (cj (x.files.map kh)=0)
def gC (c:List UInt8):ByteArray:=⟨(jP c).toArray⟩
def bd (c:List UInt8):bq:=⟨gC c,(c.length:Int)⟩
def eG (tm:Int) (f:au) (e:aX):Bool:=decide (f.path=e.path) && decide (f.kind=1) && decide (e.kind=1) && (decide (f.time=e.time) && decide (f.size=(e.data.length:Int)) && decide (e.time<tm))
def dx (l:List au) (p:ByteArray):Option au:=l.find? fun f=>decide (f.path=p)
def jS (tm:Int) (prev:List au) (e:aX):Bool:=decide (e.kind=1) && (match dx prev e.path with | some f=>eG tm f e | none=>false)
def lm (tm:Int) (prev:List au) (e:aX):Bool:=decide (e.kind=1) && !jS tm prev e
def bF (c:cR) (data:List UInt8):List (List UInt8):=di data 0 (pG (oO c data) c.mn.toNat c.mx.toNat data.length)
def cV (tm:Int) (prev:List au) (c:cR) (e:aX):List bq:=
 if e.kind=1 then(match dx prev e.path with | some f=>if eG tm f e=true then f.parts else(bF c e.data).map bd | none=>(bF c e.data).map bd)else []
def dw (tm:Int) (prev:List au) (c:cR) (e:aX):au:=⟨e.path,e.kind,e.mode,e.time,(e.data.length:Int),e.link,cV tm prev c e⟩
instance decMemB (x : ByteArray) (l : List ByteArray) : Decidable (x ∈ l) := decidable_of_iff (∃ y ∈ l, y = x) ⟨fun ⟨_, h, e⟩ => e ▸ h, fun h => ⟨x, h, rfl⟩⟩
def pY (l:List ByteArray) (x:ByteArray):List ByteArray:=if x∈l then l else l++[x]
def nt (fs:List au):List ByteArray:=(fs.flatMap au.parts).foldl (fun l p=>pY l p.sum) []
def bo (s:List ByteArray×List (List UInt8)) (c:List UInt8):List ByteArray×List (List UInt8):=if gC c∈s.1 then s else(s.1++[gC c],s.2++[c])
def kZ (rs:List aJ) (e:aX):Bool:=(cy rs (bl e.path) (decide (e.kind=2))).1
def bJ (rs:List aJ) (T:List aX):List aX:=T.filter fun e=> !kZ rs e
structure iH where
 files:List au
 known:List ByteArray
 news:List (List UInt8)
 read:Nat
 kept:Nat
def bZ (tm:Int) (prev:List au) (c:cR) (K:List aX):iH:=
 ⟨K.map (dw tm prev c),(((K.filter (lm tm prev)).flatMap fun e=>bF c e.data).foldl bo (nt prev,[])).1,(((K.filter (lm tm prev)).flatMap fun e=>bF c e.data).foldl bo (nt prev,[])).2,(K.filter (lm tm prev)).length,(K.filter (jS tm prev)).length⟩
def eX (f g:au):Int:=if f.kind=g.kind/\f.link=g.link/\f.parts=g.parts then(if f.mode=g.mode/\f.time=g.time then 0 else 3)else 2
def fN :Nat->List au->List au->List (ByteArray×Int)
 | 0,_,_=>[]
 | _+1,[],[]=>[]
 | n+1,a::ar,[]=>(a.path,4)::fN n ar []
 | n+1,[],b::br=>(b.path,1)::fN n [] br
 | n+1,a::ar,b::br=>
  if bG (bl a.path) (bl b.path)<0 then(a.path,4)::fN n ar (b::br)
  else if 0<bG (bl a.path) (bl b.path)then(b.path,1)::fN n (a::ar) br
  else if eX a b=0 then fN n ar br else(b.path,eX a b)::fN n ar br
def kV (a b:List au):List (ByteArray×Int):=fN (a.length+b.length) a b
structure sU where
 idx:gF
 chg:List (ByteArray×Int)
 news:List (List UInt8)
 read:Nat
 kept:Nat
def dm (prev:gF) (at':Int) (tree:List aX) (rules:List UInt8) (c:cR):Except Int sU:=
 if fm prev=true/\prev.tm<=at'/\dA c=true then
  (if(bH rules).2.2=0 then
   (if cj tree=0 then
    .ok ⟨⟨at',(bZ prev.tm prev.files c (bJ (bH rules).1 tree)).files⟩,kV prev.files (bZ prev.tm prev.files c (bJ (bH rules).1 tree)).files,
     (bZ prev.tm prev.files c (bJ (bH rules).1 tree)).news,(bZ prev.tm prev.files c (bJ (bH rules).1 tree)).read,(bZ prev.tm prev.files c (bJ (bH rules).1 tree)).kept⟩
   else .error (cj tree))
  else .error (bH rules).2.2)
 else .error 1
theorem xO {tm:Int} {prev:List au} {e:aX} (h:jS tm prev e=true):lm tm prev e=false:=by unfold lm; rw[h]; simp
theorem vj {tm:Int} {prev:List au} {c:cR} {K:List aX} {e:aX} (h:jS tm prev e=true):
  bZ tm prev c (K++[e])=⟨(bZ tm prev c K).files++[dw tm prev c e],(bZ tm prev c K).known,(bZ tm prev c K).news,(bZ tm prev c K).read,(bZ tm prev c K).kept+1⟩:=by
 simp[bZ,List.filter_append,h,xO h]
theorem vl {tm:Int} {prev:List au} {c:cR} {K:List aX} {e:aX} (h:lm tm prev e=true):
  bZ tm prev c (K++[e])=⟨(bZ tm prev c K).files++[dw tm prev c e],((bF c e.data).foldl bo ((bZ tm prev c K).known,(bZ tm prev c K).news)).1,((bF c e.data).foldl bo ((bZ tm prev c K).known,(bZ tm prev c K).news)).2,(bZ tm prev c K).read+1,(bZ tm prev c K).kept⟩:=by
 have h2:jS tm prev e=false:=by
  unfold lm at h; rw[Bool.and_eq_true]at h; simpa using h.2
 simp[bZ,List.filter_append,h,h2,List.foldl_append]
theorem vk {tm:Int} {prev:List au} {c:cR} {K:List aX} {e:aX} (h:e.kind≠1):
  bZ tm prev c (K++[e])=⟨(bZ tm prev c K).files++[dw tm prev c e],(bZ tm prev c K).known,(bZ tm prev c K).news,(bZ tm prev c K).read,(bZ tm prev c K).kept⟩:=by
 have h1:lm tm prev e=false:=by unfold lm; simp[h]
 have h2:jS tm prev e=false:=by unfold jS; simp[h]
 simp[bZ,List.filter_append,h1,h2]
theorem uj {rs:List aJ} {T:List aX} {e:aX} (h:kZ rs e=true):bJ rs (T++[e])=bJ rs T:=by simp[bJ,List.filter_append,h]
theorem uk {rs:List aJ} {T:List aX} {e:aX} (h:kZ rs e=false):bJ rs (T++[e])=bJ rs T++[e]:=by simp[bJ,List.filter_append,h]
theorem yG {l:List ByteArray} {x y:ByteArray} :y∈pY l x<->y∈l\/y=x:=by
 unfold pY; split
 ·rename_i h;exact⟨.inl,fun h2=>h2.elim id (fun e=>by rw[e]; exact h)⟩
 ·simp
theorem fP {l:List au} {p:ByteArray} {f:au} (h:dx l p=some f):f∈l/\f.path=p:=
 ⟨List.mem_of_find?_eq_some h,by have:=List.find?_some h; simpa using this⟩
theorem zi {tm:Int} {prev:List au} {e:aX} :jS tm prev e=true<->e.kind=1/\ ∃f,dx prev e.path=some f/\f.kind=1/\f.time=e.time/\f.size=(e.data.length:Int)/\e.time<tm:=by
 unfold jS eG
 cases h:dx prev e.path with
 | none=>simp
 | some f=>
  have:=(fP h).2;simp[this,and_assoc];exact fun h _ _ _ _=>h
theorem xj {tm:Int} {prev:List au} {c:cR} {e:aX} (h:jS tm prev e=true): ∃f,dx prev e.path=some f/\cV tm prev c e=f.parts/\f.kind=1/\f.size=(e.data.length:Int):=by
 obtain⟨h1,f,h2,h3,h4,h5,h6⟩:=zi.1 h;refine⟨f,h2, ?_,h3,h5⟩;unfold cV eG;rw[if_pos h1,h2];simp[(fP h2).2,h1,h3,h4,h5,h6]
theorem mh {tm:Int} {prev:List au} {c:cR} {e:aX} (h:lm tm prev e=true):cV tm prev c e=(bF c e.data).map bd:=by
 unfold lm at h;rw[Bool.and_eq_true,decide_eq_true_eq]at h;have h2:=h.2;unfold jS at h2;unfold cV;rw[if_pos h.1]
 cases hf:dx prev e.path with
 | none=>rfl
 | some f=>
  rw[hf]at h2;simp[h.1]at h2;simp[h2]
theorem yH {tm:Int} {prev:List au} {e:aX} (h:e.kind=1):jS tm prev e=true\/lm tm prev e=true:=by
 unfold lm
 cases jS tm prev e<;> simp[h]
theorem vI {n:Int} (h0:0<=n) (h1:n<=9223372036854775807):wrap64 n=n:=IntWalk.wrap64_in n ⟨by omega,h1⟩
theorem kk : ∀(ls:List (List UInt8)) (i:Nat) (acc rs:List aJ) (n:Int),acc.length<=256->cr ls i acc=(rs,n,0)->rs.length<=256
 | [],i,acc,rs,n,ha,h=>by
  simp only[cr,Prod.mk.injEq]at h;rw[<-h.1]; exact ha
 | l::ls,i,acc,rs,n,ha,h=>by
  simp only[cr]at h
  split at h
  ·exact kk ls _ _ _ _ ha h
  ·split at h
   ·simp at h
   ·split at h
    ·simp at h
    ·rename_i hne;exact kk ls _ _ _ _ (by simp; omega) h
theorem rM {l:List UInt8} {rs:List aJ} {n:Int} (h:bH l=(rs,n,0)):rs.length<=256:=by
 unfold bH at h
 split at h
 ·simp at h
 ·exact kk _ _ _ _ _ (by simp) h
theorem wT {l:List UInt8} {rs:List aJ} {n:Int} (h:bH l=(rs,n,0)): ∃us,aL rs=some us/\ ∀p d,bz p=true->cy rs p d=(bE d (aw 47 p) us (aw 47 p).length 1,0):=by
 obtain⟨⟨us,hu⟩,_⟩:=qj h;refine⟨us,hu,fun p d hp=> ?_⟩;have h2:=rM h;unfold cy;rw[if_neg (by rw[hp]; simp; omega),hu]
theorem zL {rs:List aJ} {us:List (aJ×List aG)} (hi: ∀p d,bz p=true->cy rs p d=(bE d (aw 47 p) us (aw 47 p).length 1,0)) {e f:aX} (he:bz (bl e.path)=true) (hp:aM (bl e.path)≠[]) (hf:bl f.path=aM (bl e.path)) (hk:f.kind=2) (hn:kZ rs e=false):kZ rs f=false:=by
 rcases uB he with⟨h1,_⟩ | ⟨_,h2,h3⟩
 ·exact absurd h1 hp
 ·unfold kZ at *;rw[hi _ _ he]at hn;rw[hf,hi _ _ h2,h3,hk]
  cases hx:bE true (aw 47 (bl e.path)).dropLast us (aw 47 (bl e.path)).dropLast.length 1
  ·simpa using hx
  ·have:=wg (dir:=decide (e.kind=2)) (parts:=aw 47 (bl e.path)) (us:=us) hx;simp only at hn;rw[this]at hn; cases hn
theorem nZ : ∀(cs:List (List UInt8)) (a:Int),0<=a->a+(cs.flatten.length:Int)<=9223372036854775807->(cs.map bd).foldl (fun a p=>wrap64 (a+p.size)) a=a+(cs.flatten.length:Int)
 | [],a,_,_=>by simp
 | c::cs,a,h0,h=>by
  rw[List.flatten_cons,List.length_append]at h ⊢;rw[List.map_cons,List.foldl_cons];have e:wrap64 (a+(bd c).size)=a+(c.length:Int):=vI (by show 0<=a+(c.length:Int); omega) (by show a+(c.length:Int)<=_; omega);rw[e,nZ cs _ (by omega) (by omega)];omega
theorem lI (c:cR) (data:List UInt8):(bF c data).flatten=data:=mi
theorem zh {c:cR} {data:List UInt8} (h:data.length<=1048576):kx ((bF c data).map bd)=(data.length:Int):=by
 unfold kx;rw[nZ _ 0 (by omega) (by rw[lI]; omega),lI]; omega
theorem iE (c:List UInt8):(gC c).size=32:=xF c
theorem kf {c:cR} (hc:dA c=true) (data:List UInt8): ∀y∈bF c data,1<=y.length/\y.length<=c.mx.toNat:=by
 have hv:=dB.1 hc;exact fun y hy=>uG (mx:=c.mx.toNat) (by omega) (nz) y hy
theorem wB {c:cR} (hc:dA c=true) (data:List UInt8):((bF c data).map bd).all jT=true:=by
 have hv:=dB.1 hc;rw[List.all_eq_true];intro p hp;obtain⟨y,hy,rfl⟩:=List.mem_map.1 hp;have:=kf hc data y hy
 show(decide ((gC y).size=32) && decide ((1:Int)<=(y.length:Int)) && decide ((y.length:Int)<=32768))=true
 rw[iE];simp;omega
def yi (e:aX):aX:= {e with data:=[]}
theorem yj {e:aX} (h:dC e=true):dC (yi e)=true:=by
 obtain⟨pa,kd,md,tm,da,li⟩:=e
 show dC ⟨pa,kd,md,tm,[],li⟩=true
 unfold dC mG gA at *;simp only[Bool.and_eq_true]at *;refine⟨h.1, ?_⟩;have h2:=h.2
 split at h2<;> rename_i hk
 ·rw[if_pos hk]; simp only[Bool.and_eq_true,decide_eq_true_eq,List.length_nil]at *; exact⟨by omega,h2.2⟩
 ·rw[if_neg hk]
  split at h2<;> rename_i hk2
  ·rw[if_pos hk2]; simp only[Bool.and_eq_true,decide_eq_true_eq,List.length_nil]at *; exact⟨trivial,h2.2⟩
  ·rw[if_neg hk2]
   split at h2<;> rename_i hk3
   ·rw[if_pos hk3]; simp only[Bool.and_eq_true,decide_eq_true_eq,List.length_nil]at *; exact⟨trivial,h2.2⟩
   ·cases h2
theorem jG {rs:List aJ} {T:List aX} {e:aX} (h:e∈bJ rs T):e∈T/\kZ rs e=false:=by
 unfold bJ at h;rw[List.mem_filter]at h;exact⟨h.1,by simpa using h.2⟩
theorem qZ {rules:List UInt8} {rs:List aJ} {n:Int} {T:List aX} (hr:bH rules=(rs,n,0)) (hT:cj T=0):cj ((bJ rs T).map yi)=0:=by
 obtain⟨us,hu,hi⟩:=wT hr;have hT:=dZ.1 hT;have hs:cK ((bJ rs T).map yi):=by
  unfold cK;rw[List.pairwise_map];exact hT.ord.filter _
 refine dZ.2 (zg hs (fun e he=> ?_) (fun e he=> ?_) ?_)
 ·obtain⟨x,hx,rfl⟩:=List.mem_map.1 he;exact yj (hT.val x (jG hx).1)
 ·obtain⟨x,hx,rfl⟩:=List.mem_map.1 he;obtain⟨h1,h2⟩:=jG hx
  rcases hT.has h1 with h | ⟨f,h3,h4,h5⟩
  ·exact .inl h
  ·by_cases hp:aM (bl x.path)=[]
   ·exact .inl hp
   ·refine .inr ⟨yi f,List.mem_map_of_mem ?_,h4,h5⟩;unfold bJ;rw[List.mem_filter];exact⟨h3,by rw[zL hi (bL (hT.val x h1)) hp h4 h5 h2]; rfl⟩
 ·rw[List.length_map];exact Nat.le_trans (List.length_filter_le _ _) hT.len
theorem eZ {e:aX} (h:dC e=true):(e.kind=1->e.data.length<=1048576)/\(e.kind≠1->e.data=[]):=by
 unfold dC gA at h;simp only[Bool.and_eq_true]at h;have h2:=h.2;refine⟨fun hk=> ?_,fun hk=> ?_⟩
 ·rw[if_pos hk]at h2; simp only[Bool.and_eq_true,decide_eq_true_eq]at h2; exact h2.1
 ·rw[if_neg hk]at h2
  split at h2
  ·simp only[Bool.and_eq_true,decide_eq_true_eq]at h2; exact List.length_eq_zero_iff.1 h2.1
  ·split at h2
   ·simp only[Bool.and_eq_true,decide_eq_true_eq]at h2; exact List.length_eq_zero_iff.1 h2.1
   ·cases h2
theorem mI {f:au} (h:f.kind=1):dS f=(f.parts.all jT && (decide (f.size=kx f.parts) && decide (kx f.parts<=1048576))):=by unfold dS; rw[if_pos h]
theorem qG {f:au} (h: ¬f.kind=1):dS f=(decide (f.size=0) && decide (f.parts=[])):=by unfold dS; rw[if_neg h]
theorem yC {tm:Int} {prev:List au} {c:cR} {e:aX} (hv:prev.all dS=true) (hc:dA c=true) (he:dC e=true):dS (dw tm prev c e)=true:=by
 obtain⟨h1,h2⟩:=eZ he
 by_cases hk:e.kind=1
 ·have hd:=h1 hk;rw[mI (show(dw tm prev c e).kind=1 from hk)]
  show((cV tm prev c e).all jT && (decide ((e.data.length:Int)=kx (cV tm prev c e)) && decide (kx (cV tm prev c e)<=1048576)))=true
  rcases yH (tm:=tm) (prev:=prev) hk with h | h
  ·obtain⟨f,h3,h4,h5,h6⟩:=xj (c:=c) h;have h7:=List.all_eq_true.1 hv f (fP h3).1;rw[mI h5]at h7;rw[h4,<-h6];exact h7
  ·rw[mh h,wB hc,zh hd]
   simp; omega
 ·rw[qG (show ¬(dw tm prev c e).kind=1 from hk)];have hp:cV tm prev c e=[]:=by unfold cV; rw[if_neg hk]
  show(decide ((e.data.length:Int)=0) && decide (cV tm prev c e=[]))=true
  rw[hp,h2 hk]; rfl
theorem zK {rules:List UInt8} {rs:List aJ} {n:Int} {T:List aX} {prev:gF} {tm:Int} {c:cR} (hr:bH rules=(rs,n,0)) (hT:cj T=0) (hv:fm prev=true) (ht:prev.tm<=tm) (hc:dA c=true):
  fm ⟨tm,(bJ rs T).map (dw prev.tm prev.files c)⟩=true:=by
 have hb:=qZ hr hT;have hT:=dZ.1 hT;unfold fm at *;simp only[Bool.and_eq_true,decide_eq_true_eq]at *;refine⟨⟨⟨by omega, ?_⟩, ?_⟩, ?_⟩
 ·rw[List.length_map]; exact Nat.le_trans (List.length_filter_le _ _) hT.len
 ·rw[List.all_eq_true];intro f hf;obtain⟨e,he,rfl⟩:=List.mem_map.1 hf;exact yC hv.1.2 hc (hT.val e (jG he).1)
 ·rw[List.map_map];exact hb
theorem ud (f:au):eX f f=0:=by simp[eX]
theorem pw : ∀(n:Nat) (l:List au),fN n l l=[]
 | 0,l=>by simp[fN]
 | n+1,[]=>by simp[fN]
 | n+1,a::l=>by
  have h:bG (bl a.path) (bl a.path)=0:=(jt _ _).2 rfl;simp[fN,h,ud,pw n l]
section
variable {tm later' : Int} {prev : List au} {c : cR} {K : List aX}
theorem yW (tm:Int) (prev:List au) (c:cR) (K:List aX):(bZ tm prev c K).read+(bZ tm prev c K).kept=(K.filter fun e=>decide (e.kind=1)).length:=by
 show(K.filter _).length+(K.filter _).length=_
 induction K with
 | nil=>rfl
 | cons e K ih=>
  simp only[List.filter_cons]
  by_cases hk:e.kind=1
  ·cases ht:jS tm prev e
   ·have:lm tm prev e=true:=by unfold lm; rw[ht]; simp[hk]
    simp[this,hk]; omega
   ·rw[xO ht]; simp[hk]; omega
  ·have h1:lm tm prev e=false:=by unfold lm; simp[hk]
   have h2:jS tm prev e=false:=by unfold jS; simp[hk]
   simp[h1,h2,hk]; exact ih
end
def zQ (l:List au):Prop:=l.Pairwise fun f g=>bG (bl f.path) (bl g.path)<0
theorem Ab {a b:ByteArray} (h:bG (bl a) (bl b)<0):a≠b:=by
 rintro rfl;rw[(jt _ _).2 rfl]at h; omega
theorem yE {x:gF} (h:fm x=true):zQ x.files:=by
 unfold fm at h;simp only[Bool.and_eq_true,decide_eq_true_eq]at h;have:=(dZ.1 h.2).ord;unfold cK at this;rw[List.pairwise_map]at this;exact this
section
variable {α : Type} [DecidableEq α] {lt : α → α → Bool}
end
theorem kL (d:Bool) (ps:List (List UInt8)): ∀(f n:Nat),bE d ps [] f n=false
 | 0,_=>rfl
 | f+1,n=>by rw[bE,kL d ps f]; rfl
theorem wS (e:aX):kZ [] e=false:=by
 unfold kZ cy
 split
 ·rfl
 ·show(bE _ _ [] _ _,(0:Int)).1=false
  exact kL _ _ _ _
theorem jF (T:List aX):bJ [] T=T:=by
 unfold bJ;rw[List.filter_eq_self];intro e _;rw[wS]; rfl
theorem dh :bH []=([],0,0):=by kernel_rfl
theorem pu : ∀(n:Nat) (l:List au),l.length<=n->fN n [] l=l.map fun f=>(f.path,1)
 | 0,[],_=>rfl
 | 0,_::_,h=>by simp at h
 | n+1,[],_=>rfl
 | n+1,b::br,h=>by rw[fN,pu n br (by simpa using h)]; rfl
theorem zj (tm:Int) (e:aX):jS tm [] e=false:=by unfold jS dx; simp
def kn (c:cR) (e:aX):List bq:=if e.kind=1 then(bF c e.data).map bd else []
def kH (c:cR) (e:aX):au:=⟨e.path,e.kind,e.mode,e.time,(e.data.length:Int),e.link,kn c e⟩
theorem rm (tm:Int) (c:cR) (e:aX):dw tm [] c e=kH c e:=by
 unfold dw kH cV kn dx
 rfl
theorem ro {tm:Int} {tree:List aX} {c:cR} {r:sU} (h:dm ⟨0,[]⟩ tm tree [] c= .ok r):
  r.idx.files=tree.map (kH c)/\r.kept=0/\r.read=(tree.filter fun e=>decide (e.kind=1)).length/\r.chg=tree.map (fun e=>(e.path,(1:Int)))/\(∀e∈tree,dC e=true):=by
 unfold dm at h;rw[dh]at h
 split at h
 ·split at h
  ·split at h
   ·rename_i hc
    cases h
    have hk:(bZ 0 [] c tree).kept=0:=by
     show(tree.filter (jS 0 [])).length=0
     rw[List.length_eq_zero_iff,List.filter_eq_nil_iff];intro e _;rw[zj]; simp
    have hf:(bZ 0 [] c tree).files=tree.map (kH c):=by
     show tree.map (dw 0 [] c)=_
     exact List.map_congr_left fun e _=>rm 0 c e
    refine⟨?_, ?_, ?_, ?_,(dZ.1 hc).val⟩
    ·show(bZ 0 [] c (bJ [] tree)).files=_
     rw[jF,hf]
    ·show(bZ 0 [] c (bJ [] tree)).kept=0
     rw[jF,hk]
    ·show(bZ 0 [] c (bJ [] tree)).read=_
     rw[jF];have:=yW 0 [] c tree;omega
    ·show kV [] (bZ 0 [] c (bJ [] tree)).files=_
     rw[jF,hf];unfold kV;rw[pu _ _ (by simp),List.map_map]
     rfl
   ·cases h
  ·cases h
 ·cases h
theorem xm {cs:List (List UInt8)} {data y:List UInt8} {k:Nat} (hf:cs.flatten=data) (hk:cs[k]? =some y):((cs.take k).flatten.length)+y.length<=data.length/\(data.take ((cs.take k).flatten.length+y.length)).drop (cs.take k).flatten.length=y/\(cs.take (k+1)).flatten.length=(cs.take k).flatten.length+y.length:=by
 obtain⟨hlt,he⟩:=List.getElem?_eq_some_iff.1 hk;have h1:cs.take (k+1)=cs.take k++[y]:=by rw[List.take_add_one,hk]; rfl
 have h2:data=(cs.take k).flatten++(y++(cs.drop (k+1)).flatten):=by
  rw[<-hf]
  conv=>lhs; rw[<-List.take_append_drop (k+1) cs,h1]
  simp
 refine⟨by rw[h2]; simp only[List.length_append]; omega, ?_,by rw[h1]; simp⟩;rw[List.drop_take,h2,List.drop_left,Nat.add_sub_cancel_left,List.take_left]
theorem ri {e:aX} (h:dC e=true) (hk:e.kind≠1):e.data=[]:=(eZ h).2 hk
theorem yx {e:aX} (h:dC e=true):e.data.length<=1048576:=by
 by_cases hk:e.kind=1
 ·exact(eZ h).1 hk
 ·rw[(eZ h).2 hk]; simp
def u8V (b:UInt8):Value:= .int .u8 (b.toNat:Int)
def bP (S:Nat->Prop) (w:World) (v:Value) (bs:List UInt8):Prop:=aB S w 1 v bs.length (bs.map u8V)
theorem bP.below {S:Nat->Prop} {w w':World} {v:Value} {bs:List UInt8} (h:bP S w v bs) (hb:Below w.heap.size w w'):bP S w' v bs:=aB.below h (by omega) hb
theorem bP.nil (S:Nat->Prop) (w:World):bP S w (.slice none 0 0) []:=aB.nil _ _ _
def pH (v:Value) (e:aX):Value:= .agg #[.string e.path, .int .i64 e.kind, .int .i64 e.mode, .int .i64 e.time,v, .string e.link]
def jB (v:Value) (e:aX):List Value:=[.string e.path, .int .i64 e.kind, .int .i64 e.mode, .int .i64 e.time,v, .string e.link]
structure jl (e : aX) : Prop where
 pth:e.path.size<=maxLen
 lnk:e.link.size<=maxLen
 knd:(Lit.int .i64 e.kind).wf=true
 mde:(Lit.int .i64 e.mode).wf=true
 tim:(Lit.int .i64 e.time).wf=true
def iV (S:Nat->Prop) (w:World) (c:List Value) (e:aX):Prop:= ∃v,c=jB v e/\bP S w v e.data/\jl e
theorem iV.len {S:Nat->Prop} {w:World} (c:List Value) (e:aX) (h:iV S w c e):c.length=6:=by obtain⟨v,rfl,_⟩:=h; rfl
theorem iV.below {S:Nat->Prop} {w w':World} {c:List Value} {e:aX} (h:iV S w c e) (hb:Below w.heap.size w w'):iV S w' c e:=by
 obtain⟨v,h1,h2,h3⟩:=h;exact⟨v,h1,h2.below hb,h3⟩
def bM (S:Nat->Prop) (w:World) (v:Value) (l:List aX):Prop:=aT S w 6 (iV S w) v l
theorem bM.below {S:Nat->Prop} {w w':World} {v:Value} {l:List aX} (h:bM S w v l) (hb:Below w.heap.size w w'):bM S w' v l:=
 aT.below h (by omega) hb (fun _ _ _ hr=>hr.below hb)
theorem bM.nil (S:Nat->Prop) (w:World):bM S w (.slice none 0 0) []:=aT.nil
theorem iw {S:Nat->Prop} {w:World} {a:Option Addr} {n cap:Nat} {l:List aX} (hv:bM S w (.slice a n cap) l) {k:Nat} {e:aX} (hr:l[k]? =some e):
  ∃b o v,a=some ⟨b,o,none⟩/\S b/\b<w.heap.size/\bP S w v e.data/\jl e/\n=l.length/\w.cell? ⟨b,o+k*6,none⟩=some (.string e.path)/\w.cell? ⟨b,o+k*6+1,none⟩=some (.int .i64 e.kind)/\w.cell? ⟨b,o+k*6+2,none⟩=some (.int .i64 e.mode)/\w.cell? ⟨b,o+k*6+3,none⟩=some (.int .i64 e.time)/\w.cell? ⟨b,o+k*6+4,none⟩=some v/\w.cell? ⟨b,o+k*6+5,none⟩=some (.string e.link):=by
 obtain⟨a',cap',he,hn,hm,hat⟩:=aT.shape hv iV.len;simp only[Value.slice.injEq]at he;obtain⟨rfl,rfl,rfl⟩:=he;obtain⟨b,o,c,ha,hb,⟨v,hc,hd,hok⟩,hl,hj⟩:=hat k e hr;subst hc;have hc0:=hj 0 (by omega);exact⟨b,o,v,ha,hb,ax (hc0.trans rfl),hd,hok,rfl,hc0,by have h:=hj 1 (by omega); rwa [<-Nat.add_assoc]at h,by have h:=hj 2 (by omega); rwa [<-Nat.add_assoc]at h,by have h:=hj 3 (by omega); rwa [<-Nat.add_assoc]at h,by have h:=hj 4 (by omega); rwa [<-Nat.add_assoc]at h,by have h:=hj 5 (by omega); rwa [<-Nat.add_assoc]at h⟩
open Go Go.RowKit
structure dE (p : bq) : Prop where
 sm:p.sum.size<=maxLen
 sz:(Lit.int .i64 p.size).wf=true
def mf (p:bq):List Value:=[.string p.sum, .int .i64 p.size]
def gz (p:bq):Value:= .agg #[.string p.sum, .int .i64 p.size]
def dH (c:List Value) (p:bq):Prop:=c=mf p/\dE p
theorem dH.len (c:List Value) (p:bq) (h:dH c p):c.length=2:=by rw[h.1]; rfl
def ay (S:Nat->Prop) (w:World) (v:Value) (l:List bq):Prop:=aT S w 2 dH v l
theorem ay.below {S:Nat->Prop} {w w':World} {v:Value} {l:List bq} (h:ay S w v l) (hb:Below w.heap.size w w'):ay S w' v l:=aT.below h (by omega) hb (fun _ _ _ h=>h)
theorem dP {S:Nat->Prop} {w w':World} {a:Option Addr} {n cap:Nat} {l:List bq} (hv:ay S w (.slice a n cap) l) (hb:Below w.heap.size w w') {k:Nat} {p:bq} (hr:l[k]? =some p):
  ∃b o,a=some ⟨b,o,none⟩/\S b/\b<w.heap.size/\dE p/\w'.cell? ⟨b,o+k*2,none⟩=some (.string p.sum)/\w'.cell? ⟨b,o+k*2+1,none⟩=some (.int .i64 p.size):=by
 obtain⟨a',cap',hv',_,_,hx⟩:=aT.shape hv dH.len
 cases hv'
 obtain⟨b,o,c,rfl,hS,⟨rfl,hok⟩,_,hcl⟩:=hx k p hr;have q0:=hcl 0 (by omega);have q1:=hcl 1 (by omega);have hlt:b<w.heap.size:=ax (a:=⟨b,o+(k*2+0),none⟩) (v:= .string p.sum) q0;refine⟨b,o,rfl,hS,hlt,hok, ?_, ?_⟩
 ·exact(hb.cell (p:=⟨b,o+k*2,none⟩) hlt).trans q0
 ·rw[Nat.add_assoc]; exact(hb.cell (p:=⟨b,o+(k*2+1),none⟩) hlt).trans q1
structure cS (f : au) : Prop where
 pth:f.path.size<=maxLen
 lnk:f.link.size<=maxLen
 knd:(Lit.int .i64 f.kind).wf=true
 mde:(Lit.int .i64 f.mode).wf=true
 tim:(Lit.int .i64 f.time).wf=true
 siz:(Lit.int .i64 f.size).wf=true
def cu (v:Value) (f:au):List Value:=[.string f.path, .int .i64 f.kind, .int .i64 f.mode, .int .i64 f.time, .int .i64 f.size, .string f.link,v]
def dV (v:Value) (f:au):Value:= .agg #[.string f.path, .int .i64 f.kind, .int .i64 f.mode, .int .i64 f.time, .int .i64 f.size, .string f.link,v]
def fK (S:Nat->Prop) (w:World) (c:List Value) (f:au):Prop:= ∃v,c=cu v f/\ay S w v f.parts/\cS f
theorem fK.len {S:Nat->Prop} {w:World} (c:List Value) (f:au) (h:fK S w c f):c.length=7:=by obtain⟨v,rfl,_⟩:=h; rfl
def aY (S:Nat->Prop) (w:World) (v:Value) (l:List au):Prop:=aT S w 7 (fK S w) v l
theorem aY.below {S:Nat->Prop} {w w':World} {v:Value} {l:List au} (h:aY S w v l) (hb:Below w.heap.size w w'):aY S w' v l:=
 aT.below h (by omega) hb (fun _ _ _ ⟨v,h1,h2,h3⟩=>⟨v,h1,h2.below hb,h3⟩)
theorem aY.nil (S:Nat->Prop) (w:World):aY S w (.slice none 0 0) []:=aT.nil
theorem ez {S:Nat->Prop} {w w':World} {a:Option Addr} {n cap:Nat} {l:List au} (hv:aY S w (.slice a n cap) l) (hb:Below w.heap.size w w') {k:Nat} {f:au} (hr:l[k]? =some f):
  ∃b o pa pc,a=some ⟨b,o,none⟩/\cS f/\ay S w' (.slice pa f.parts.length pc) f.parts/\b<w.heap.size/\S b/\ ∀j,j<7->w'.cell? ⟨b,o+k*7+j,none⟩=(cu (.slice pa f.parts.length pc) f)[j]? :=by
 obtain⟨a',cap',hv',_,_,hx⟩:=aT.shape hv fK.len
 cases hv'
 obtain⟨b,o,c,rfl,hS,⟨cv,rfl,hrf,hok⟩,_,hcl⟩:=hx k f hr;have q0:=hcl 0 (by omega);have hlt:b<w.heap.size:=ax (a:=⟨b,o+(k*7+0),none⟩) (v:= .string f.path) q0;obtain⟨ca,cc,rfl,_,_,_⟩:=aT.shape hrf dH.len;refine⟨b,o,ca,cc,rfl,hok,ay.below hrf hb,hlt,hS,fun j hj=> ?_⟩;rw[Nat.add_assoc];exact(hb.cell (p:=⟨b,o+(k*7+j),none⟩) hlt).trans (hcl j hj)
theorem nN {S:Nat->Prop} {w:World} {a:Option Addr} {n c:Nat} {l:List bq} (h:ay S w (.slice a n c) l):n=l.length/\n<=c/\c<=maxLen:=by
 obtain⟨a',cap',hv',h1,h2,_⟩:=aT.shape h dH.len
 cases hv'
 exact⟨rfl,h1,h2⟩
theorem wL {S:Nat->Prop} {w:World} {v:Value} {l:List au} (h:aY S w v l): ∀f∈l,cS f:=by
 intro f hf;obtain⟨a,cap,rfl,-,-,-⟩:=aT.shape h fK.len;obtain⟨k,hk⟩:=List.getElem?_of_mem hf;obtain⟨_,_,_,_,_,h1,_⟩:=ez h (Below.refl _ _) hk;exact h1
theorem xi {S:Nat->Prop} {w:World} {v:Value} {l:List bq} (h:ay S w v l): ∀p∈l,dE p:=by
 intro f hf;obtain⟨a,cap,rfl,-,-,-⟩:=aT.shape h dH.len;obtain⟨k,hk⟩:=List.getElem?_of_mem hf;obtain⟨_,_,_,_,_,h1,_⟩:=dP h (Below.refl _ _) hk;exact h1
theorem zF {f:au} (h:cS f):jl (kh f):=⟨h.pth,h.lnk,h.knd,h.mde,h.tim⟩
def kY (v:Value) (tm:Int):Value:= .agg #[.int .i64 tm,v]
theorem ng (S:Nat->Prop) (f:au) (pv:Value) (w:World) (hp:ay S w pv f.parts):Calls Tryz.prog 33 #[dV pv f] w fun e w'=>e= .returned (.bool (dS f))/\Below w.heap.size w w':=by
 obtain⟨a,cap,rfl,hc,hm,-⟩:=aT.shape hp dH.len;unfold maxLen at hm;have HP:=aa hp;clear hp;unfold dV
 by_cases hk:f.kind=1
 ·have HK:=aa hk;have hk2:(f.kind == 1)=true:=by simp[hk]
  obtain⟨kd,hkd⟩: ∃kd,kd=f.kind:=⟨_,rfl⟩;rw[<-hkd]at hk2 hk ⊢;clear hkd;subst hk;obtain⟨n,hn⟩: ∃n,n=f.parts.length:=⟨_,rfl⟩;rw[<-hn]at hc HP ⊢;have HN:=aa hn;clear hn
  go_enter Tryz.func33,Tryz.ntmps33
  go_wp2_with fail;obtain⟨W,hW⟩: ∃W,W=w.alloc (.cells #[.string f.path, .int .i64 1, .int .i64 f.mode, .int .i64 f.time, .int .i64 f.size, .string f.link, .slice a n cap] 27):=⟨_,rfl⟩;rw[<-hW];have HBW:=aa (show Below w.heap.size w W by rw[hW]; exact(Below.refl _ _).alloc (Nat.le_refl _) _);have HBX:=aa (show W.heap[w.heap.size]? =some (.cells #[.string f.path, .int .i64 1, .int .i64 f.mode, .int .i64 f.time, .int .i64 f.size, .string f.link, .slice a n cap] 27 (0,0)) by rw[hW]; exact heap_alloc_new w _)
  have HV:=aa (show ay S W (.slice a n cap) f.parts from ay.below HP.out HBW.out);have hsz:W.heap.size=w.heap.size+1:=by rw[hW]; simp
  have HSZ:=aa hsz;clear hW hsz
  go_loopw [3,21] (fun t i wr=> ∃k:Nat,k<=n/\i= .int .i64 k/\t= .int .i64 (kx (f.parts.take k))/\(f.parts.take k).all jT=true/\Below W.heap.size W wr) (fun _ i _=>n-(intOf i).toNat)
  case atStart=>exact⟨0,Nat.zero_le _,rfl,rfl,rfl,Below.refl _ _⟩
  case round=>
   obtain⟨k,hk,rfl,rfl,hal,hb⟩:=hrel;have HB:=aa hb;have HA:=aa hal;clear hb hal
   by_cases hlt:k<n
   ·obtain⟨p,hp⟩: ∃p,f.parts[k]? =some p:=⟨_,List.getElem?_eq_getElem (show k<f.parts.length by rw[<-HN.out]; exact hlt)⟩;obtain⟨b,o,rfl,-,-,hok,q0,q1⟩:=dP HV.out HB.out hp;have HR:=aa hp;have HO:=aa hok;have hsum:=hok.sm;unfold maxLen at hsum;clear hp hok
    by_cases hv:jT p=true
    ·obtain⟨h1,h2,h3⟩:=(show p.sum.size=32/\1<=p.size/\p.size<=32768 by unfold jT at hv; simpa [and_assoc]using hv);have HVP:=aa hv;have hn2: ¬p.size<1:=by omega
     have hn3: ¬32768<p.size:=by omega
     clear hv;go_wp2_with fail
     go_roundw
     case rel=>
      refine⟨k+1,by omega,rfl, ?_,pg HA.out HR.out HVP.out,ag HB.out ((Below.refl _ _).alloc (Nat.le_refl _) _)⟩;rw[ba HR.out,vE]
     case measure=>simp only[intOf,Int.toNat_natCast]; omega
    ·have HF:=aa (show dS f=false by
      unfold dS;rw[if_pos HK.out,vY HR.out (by simpa using hv)]; rfl)
     have hv2:p.sum.size=32->1<=p.size-> ¬p.size<=32768:=fun h1 h2 h3=>hv (by unfold jT; simp[h1,h2,h3])
     have HV2:=aa hv2;have HE:=aa (show Below w.heap.size w (wr.alloc (.cells #[.string p.sum, .int .i64 p.size] 62))from HBW.out.trans ((ag HB.out ((Below.refl _ _).alloc (Nat.le_refl _) _)).mono (by have:=HSZ.out; omega)));clear hv hv2
     by_cases h1:p.sum.size=32
     ·by_cases h2:p.size<1
      ·go_wp2_with fail;go_ret;exact⟨al (by rw[HF.out]),HE.out⟩
      ·have h3:32768<p.size:=by have:=HV2.out h1 (by omega); omega
       go_wp2_with fail;go_ret;exact⟨al (by rw[HF.out]),HE.out⟩
     ·have h1': ¬(p.sum.size:Int)=32:=by omega
      go_wp2_with fail;go_ret;exact⟨al (by rw[HF.out]),HE.out⟩
   ·have hall:f.parts.all jT=true:=by
     have:=HA.out
     rwa [List.take_of_length_le (by rw[<-HN.out]; omega)]at this
    have htk:f.parts.take k=f.parts:=List.take_of_length_le (by rw[<-HN.out]; omega);rw[htk];have HALL:=aa hall;have HBXr:=aa ((HB.out.block w.heap.size (by have:=HSZ.out; omega)).trans HBX.out);have c4:=af (k:=4) HBXr.out;simp only[kJ]at c4;obtain⟨t,ht⟩: ∃t,t=kx f.parts:=⟨_,rfl⟩;rw[<-ht];have HT:=aa ht;have HEND:=aa (show Below w.heap.size w wr from HBW.out.trans (HB.out.mono (by have:=HSZ.out; omega)))
    clear hall htk ht
    by_cases he:f.size=t
    ·have HE:=aa he;have he1:(f.size == t)=true:=by simp[he]
     go_wp2_with fail;go_ret;refine⟨al ?_,HEND.out⟩;unfold dS;rw[if_pos HK.out,HALL.out,<-HT.out];simp[HE.out]
    ·have HE:=aa he;have he1:(f.size == t)=false:=by simp[he]
     go_wp2_with fail;go_ret;refine⟨al ?_,HEND.out⟩;unfold dS;rw[if_pos HK.out,HALL.out,<-HT.out];simp[HE.out]
 ·have HK:=aa hk;have hk2:(f.kind == 1)=false:=by simp[hk]
  go_enter Tryz.func33,Tryz.ntmps33
  by_cases hs:f.size=0
  ·have hs2:(f.size == 0)=true:=by simp[hs]
   go_wp2_with fail;go_ret;refine⟨al ?_,(Below.refl _ _).alloc (Nat.le_refl _) _⟩;unfold dS;rw[if_neg HK.out]
   cases f.parts with
   | nil=>simp[hs]
   | cons p l=>simp[hs]; omega
  ·have hs2:(f.size == 0)=false:=by simp[hs]
   go_wp2_with fail;go_ret;refine⟨al ?_,(Below.refl _ _).alloc (Nat.le_refl _) _⟩;unfold dS;rw[if_neg HK.out];simp[hs]
theorem qE (S:Nat->Prop) (tm:Int) (f:au) (pv dv:Value) (e:aX) (w:World) (hf:cS f) (hp:ay S w pv f.parts) (hd:bP S w dv e.data) (he:jl e):
  Calls Tryz.prog 15 #[.int .i64 tm,dV pv f,pH dv e] w fun x w'=>x= .returned (.bool (eG tm f e))/\Below w.heap.size w w':=by
 obtain⟨pa,pc,rfl,-,-,-⟩:=aT.shape hp dH.len;obtain⟨_,da,dc,rfl,hdc,hdm,-⟩:=hd;unfold maxLen at hdm;have h1:=hf.pth;have h2:=he.pth;unfold maxLen at h1 h2;obtain⟨n,hn⟩: ∃n,n=e.data.length:=⟨_,rfl⟩;unfold dV pH eG;rw[<-hn]at hdc ⊢;clear hn hp
 go_enter Tryz.func15,Tryz.ntmps15
 by_cases e1:f.path=e.path
 ·by_cases e2:f.kind=1
  ·by_cases e3:e.kind=1
   ·by_cases e4:f.time=e.time
    ·by_cases e5:f.size=(n:Int)
     all_goals
      simp only[e1,e2,e3,e4,e5,decide_true,decide_false,Bool.true_and,Bool.false_and,Bool.and_false,Bool.and_true];go_wp2_with fail;go_ret;exact⟨rfl,((Below.refl _ _).alloc (Nat.le_refl _) _).alloc (by simp) _⟩
    ·simp only[e1,e2,e3,e4,decide_true,decide_false,Bool.false_and,Bool.and_false,Bool.and_true];go_wp2_with fail;go_ret;exact⟨rfl,((Below.refl _ _).alloc (Nat.le_refl _) _).alloc (by simp) _⟩
   ·simp only[e1,e2,e3,decide_true,decide_false,Bool.false_and,Bool.and_false,Bool.and_true];go_wp2_with fail;go_ret;exact⟨rfl,((Below.refl _ _).alloc (Nat.le_refl _) _).alloc (by simp) _⟩
  ·simp only[e1,e2,decide_true,decide_false,Bool.false_and,Bool.and_false];go_wp2_with fail;go_ret;exact⟨rfl,((Below.refl _ _).alloc (Nat.le_refl _) _).alloc (by simp) _⟩
 ·have e1t: ¬f.path.toList=e.path.toList:=fun h=>e1 (gI (by rw[<-bw,<-bw,h]))
  simp only[e1,decide_false,Bool.false_and];go_wp2_with fail;go_ret;exact⟨rfl,((Below.refl _ _).alloc (Nat.le_refl _) _).alloc (by simp) _⟩
open Go Go.RowKit Go.Maps Go.MapKept
open Go.ChangeMaps (modify_eq_set map_eraseIdx)
def de (P:Program) (k:TypeId) (w:World) (b:Nat) (m:List (Value×Value)):Prop:=
 ∃es clock,w.heap[b]? =some (.map es clock)/\es.toList.map (fun e=>(e.key,e.val))=m/\Stamped es clock/\ ∀p∈m,∃l,keyOf P k p.1=some l
section
variable {P : Program} {k t e : TypeId} {w w' : World} {b : Nat} {m : List (Value × Value)} {key val z : Value}
theorem mW {es:Array MapEntry} {clock:Nat} (h:Stamped es clock):((es.toList.map (fun e=>(e.key,e.val))).map Prod.fst).Nodup:=by
 rw[List.map_map];have:=((stamped_iff es clock).1 h).2.2;unfold List.Nodup;rw[List.pairwise_map];exact this
theorem de.is (h:de P k w b m):dt P k w b m:=by
 obtain⟨es,clock,hb,he,hs,hk⟩:=h;exact⟨es,clock,hb,he,by rw[<-he]; exact mW hs,hk⟩
theorem de.lt (h:de P k w b m):b<w.heap.size:=h.is.lt
theorem de.same (h:de P k w b m) (hs:w'.heap[b]? =w.heap[b]?):de P k w' b m:=by
 obtain⟨es,clock,hb,h2⟩:=h;exact⟨es,clock,hs.trans hb,h2⟩
theorem de.made (w:World):de P k (w.alloc (.map #[] 0)) w.heap.size []:=⟨#[],0,(MapKept.heap_alloc w _).1,rfl,stamped_empty 0,by simp⟩
theorem de.nodup (h:de P k w b m):(m.map Prod.fst).Nodup:=by obtain⟨_,_,_,_,hn,_⟩:=h.is; exact hn
theorem gP {w:World} {b:Nat} {x:Obj} (hb:w.heap[b]? =some x) (o:Obj):w.grownBy (ChangeMaps.setBlock w b o) (some b):=
 ⟨rfl,rfl,rfl,by simp[ChangeMaps.setBlock],fun i _ hi=>nE hb _ (fun e=>hi (by rw[e]))⟩
theorem de.put (h:de P k w b m) (K:Keyed P k) (ht:P.underlying t=some (.map k e)) (hkey: ∃l,keyOf P k key=some l) (hm: ∀p∈m,p.1≠key) (val:Value):
  ∃w',(Instr.mapUpdate t (.map (some b)) key val).run P w= .ok () w'/\de P k w' b (m++[(key,val)])/\w.grownBy w' (some b):=by
 obtain⟨es,clock,hb,he,hst,hk⟩:=h;obtain⟨kl,hkl⟩:=hkey
 rcases K.find w hkl es.toList (dt.keys he hk)with⟨h1,h2⟩ | ⟨j,e0,h1,h2,h3⟩
 ·refine⟨ChangeMaps.setBlock w b (.map (es.push ⟨key,val,clock⟩) (clock+1)), ?_,⟨_,_,lS hb _, ?_,stamped_push hst h2, ?_⟩,gP hb _⟩
  ·simp[Instr.mapUpdate,run_underlying ht,MapKept.run_getObj_map hb,K.check w false hkl,h1,MapKept.run_setObj_map _ hb,Result.andThen,ChangeMaps.setBlock]
  ·simp[<-he]
  ·intro p hp
   rcases List.mem_append.1 hp with hp | hp
   ·exact hk p hp
   ·simp only[List.mem_singleton]at hp;subst hp;exact⟨kl,hkl⟩
 ·exact absurd h3 (hm (e0.key,e0.val) (by rw[<-he]; exact List.mem_map.2 ⟨e0,List.mem_of_getElem? h2,rfl⟩))
theorem de.over {m1 m2:List (Value×Value)} {old:Value} (h:de P k w b (m1++(key,old)::m2)) (K:Keyed P k) (ht:P.underlying t=some (.map k e)) (val:Value):
  ∃w',(Instr.mapUpdate t (.map (some b)) key val).run P w= .ok () w'/\de P k w' b (m1++(key,val)::m2)/\w.grownBy w' (some b):=by
 have hnd:=h.nodup;obtain⟨es,clock,hb,he,hst,hk⟩:=h;obtain⟨kl,hkl⟩:=hk (key,old) (by simp)
 rcases K.find w hkl es.toList (dt.keys he hk)with⟨h1,h2⟩ | ⟨j,e0,h1,h2,h3⟩
 ·exfalso
  have:(key,old)∈es.toList.map (fun e=>(e.key,e.val)):=by rw[he]; simp
  obtain⟨x,hx,hxe⟩:=List.mem_map.1 this;exact h2 x hx (congrArg Prod.fst hxe)
 ·have hj:es[j]? =some e0:=by simpa using h2
  have hlist:(es.modify j (fun e'=> {e' with key:=key,val:=val})).toList=es.toList.set j {e0 with key:=key,val:=val} :=by rw[Array.toList_modify,modify_eq_set _ _ _ _ h2]
  have hjm:j=m1.length:=by
   have h4:(m1++(key,old)::m2)[j]? =some (e0.key,e0.val):=by rw[<-he,List.getElem?_map,h2]; rfl
   have h5:((m1++(key,old)::m2).map Prod.fst)[j]? =some key:=by rw[List.getElem?_map,h4]; simp[h3]
   have h6:((m1++(key,old)::m2).map Prod.fst)[m1.length]? =some key:=by simp
   have hjl:=(List.getElem?_eq_some_iff.1 h5).1;exact(List.getElem?_inj hjl hnd).1 (h5.trans h6.symm)
  refine⟨ChangeMaps.setBlock w b (.map (es.modify j (fun e'=> {e' with key:=key,val:=val})) clock), ?_,⟨_,_,lS hb _, ?_, ?_, ?_⟩,gP hb _⟩
  ·simp[Instr.mapUpdate,run_underlying ht,MapKept.run_getObj_map hb,K.check w false hkl,h1,hj,h3,K.stays w hkl,MapKept.run_setObj_map _ hb,Result.andThen,ChangeMaps.setBlock]
  ·rw[hlist,List.map_set,he,hjm];simp
  ·exact stamped_modify hst j _ (fun _ _=>rfl) (fun e' _ he'=>by rw[hj]at he'; cases he'; exact h3.symm)
  ·intro p hp
   rcases List.mem_append.1 hp with hp | hp
   ·exact hk p (by simp[hp])
   ·rcases List.mem_cons.1 hp with rfl | hp
    ·exact⟨kl,hkl⟩
    ·exact hk p (by simp[hp])
theorem de.len (h:de P k w b m) (ht:P.underlying t=some (.map k e)) (ty:TypeId):(Builtin.len_ #[t] ty #[.map (some b)]).run P w= .ok (.int .i64 (m.length:Int)) w:=by
 obtain⟨es,clock,hb,he,_⟩:=h;have:es.size=m.length:=by rw[<-he]; simp
 simp[Builtin.len_,run_underlying ht,MapKept.run_getObj_map hb,goInt,Result.andThen,this]
def jW (P:Program) (k:TypeId) (w:World) (b r:Nat) (m vis:List (Value×Value)):Prop:=
 ∃es clock since seen c0,w.heap[b]? =some (.map es clock)/\es.toList.map (fun e=>(e.key,e.val))=m/\Stamped es clock/\(∀p∈m,∃l,keyOf P k p.1=some l)/\
  w.heap[r]? =some (.mapIter (some b) since seen c0)/\(∀x∈es.toList,x.born<since)/\since<=c0/\since<=clock/\vis.Perm ((es.toList.filter fun x=>seen.contains x.born).map (fun e=>(e.key,e.val)))
theorem jW.map {r:Nat} {vis:List (Value×Value)} (h:jW P k w b r m vis):de P k w b m:=by
 obtain⟨es,clock,_,_,_,hb,he,hs,hk,_⟩:=h;exact⟨es,clock,hb,he,hs,hk⟩
theorem jW.same {r:Nat} {vis:List (Value×Value)} (h:jW P k w b r m vis) (h1:w'.heap[b]? =w.heap[b]?) (h2:w'.heap[r]? =w.heap[r]?):jW P k w' b r m vis:=by
 obtain⟨es,clock,since,seen,c0,hb,he,hs,hk,hr,h3⟩:=h;exact⟨es,clock,since,seen,c0,h1.trans hb,he,hs,hk,h2.trans hr,h3⟩
theorem jW.ne {r:Nat} {vis:List (Value×Value)} (h:jW P k w b r m vis):r≠b:=by
 obtain⟨es,clock,since,seen,c0,hb,_,_,_,hr,_⟩:=h;intro e1;subst e1;rw[hb]at hr
 cases hr
theorem jC {α:Type} (p:α->Bool): ∀(l:List α),(l.filter p).length+(l.filter fun x=> !p x).length=l.length
 | []=>rfl
 | a::l=>by
  have:=jC p l
  cases h:p a<;> simp[h]<;> omega
theorem jW.left {r:Nat} {vis:List (Value×Value)} (h:jW P k w b r m vis):w.rangeLeft b r+vis.length=m.length:=by
 obtain⟨es,clock,since,seen,c0,hb,he,hs,hk,hr,_,_,_,hv⟩:=h;have h1:w.rangeLeft b r=(leftOf es seen).size:=by simp only[World.rangeLeft,hb,hr]
 have h2:(leftOf es seen).size=(es.toList.filter fun x=> !seen.contains x.born).length:=by
  unfold leftOf;rw[<-Array.toList_filter,Array.length_toList]
 have h3:=jC (fun x:MapEntry=>seen.contains x.born) es.toList;rw[h1,h2,hv.length_eq,List.length_map,<-he,List.length_map];omega
theorem de.range (h:de P k w b m) (ht:P.underlying t=some (.map k e)):
  ∃w',(Instr.range t (.map (some b))).run P w= .ok (.pointer (some ⟨w.heap.size,0,none⟩)) w'/\jW P k w' b w.heap.size m []/\Below w.heap.size w w'/\w'.heap.size=w.heap.size+1:=by
 have hlt:=h.lt;obtain⟨es,clock,hb,he,hs,hk⟩:=h;refine⟨_,run_range_map w t k e b es clock ht hb,⟨es,clock,clock, #[],clock,((MapKept.heap_alloc w _).2 b hlt).trans hb,he,hs,hk,(MapKept.heap_alloc w _).1,((stamped_iff es clock).1 hs).1,Nat.le_refl _,Nat.le_refl _, ?_⟩,(Below.refl _ _).alloc (Nat.le_refl _) _,by simp⟩;simp
theorem ym {es:Array MapEntry} {clock:Nat} (hs:Stamped es clock) {x y:MapEntry} (hx:x∈es.toList) (hy:y∈es.toList) (h:x.born=y.born):x=y:=born_inj ((stamped_iff es clock).1 hs).2.1 hx hy h
theorem uF {es:List MapEntry} {seen:Array Nat} {e0:MapEntry} (hn:es.Nodup) (hinj: ∀x∈es,x.born=e0.born->x=e0) (he:e0∈es) (h0:seen.contains e0.born=false):
  ((es.filter fun x=>seen.contains x.born)++[e0]).Perm (es.filter fun x=>(seen.push e0.born).contains x.born):=by
 refine(List.perm_ext_iff_of_nodup ?_ (hn.filter _)).2 (fun x=> ?_)
 ·rw[List.nodup_append];refine⟨hn.filter _,by simp,fun a ha c hc=> ?_⟩;simp only[List.mem_singleton]at hc;subst hc;rintro rfl;rw[List.mem_filter]at ha;rw[ha.2]at h0
  cases h0
 ·simp only[List.mem_append,List.mem_filter,List.mem_singleton,contains_push,Bool.or_eq_true,beq_iff_eq]
  constructor
  ·rintro(⟨h1,h2⟩ | rfl)
   ·exact⟨h1, .inl h2⟩
   ·exact⟨he, .inr rfl⟩
  ·rintro⟨h1,h2 | h2⟩
   ·exact .inl ⟨h1,h2⟩
   ·exact .inr (hinj x h1 h2)
theorem jW.next {r:Nat} {vis:List (Value×Value)} (h:jW P k w b r m vis) (ty:TypeId):
  (vis.Perm m/\(Instr.next (.pointer (some ⟨r,0,none⟩)) false ty).run P w= .ok (.tuple #[.bool false]) w)\/
  ∃key v w',(key,v)∈m/\(∀p∈vis,p.1≠key)/\(Instr.next (.pointer (some ⟨r,0,none⟩)) false ty).run P w= .ok (.tuple #[.bool true,key,v]) w'/\
   jW P k w' b r m (vis++[(key,v)])/\w.grownBy w' (some r)/\w'.heap.size=w.heap.size/\(Instr.entry (.pointer (some ⟨r,0,none⟩))).run P w'= .ok (.tuple #[key,v]) w':=by
 have hne:=h.ne;obtain⟨es,clock,since,seen,c0,hb,he,hs,hk,hr,hold,hsc,hsk,hv⟩:=h;have hsi:=(stamped_iff es clock).1 hs
 rcases run_next_at (P:=P) w ty r b since c0 seen es clock hr hb hold hsc with⟨h0,hrun⟩ | ⟨e0,he0,w1,hal,hrun⟩
 ·refine Or.inl ⟨?_,hrun⟩;have:(es.toList.filter fun x=>seen.contains x.born)=es.toList:=by
   rw[List.filter_eq_self];intro x hx;exact all_seen es seen h0 x hx
  rw[this,he]at hv;exact hv
 ·obtain⟨hem,hes⟩:=mem_left he0;have hr1:w1.heap[r]? =some (.mapIter (some b) since seen c0):=by rcases hal with rfl | rfl<;> exact hr
  have hb1:w1.heap[b]? =some (.map es clock):=by rcases hal with rfl | rfl<;> exact hb
  have hset:=heap_set (o':= .mapIter (some b) since (seen.push e0.born) clock) hr1;have hb':(ChangeMaps.setBlock w1 r (.mapIter (some b) since (seen.push e0.born) clock)).heap[b]? =some (.map es clock):=(hset.2 b (fun e1=>hne e1.symm)).trans hb1;have hnd:es.toList.Nodup:=by
   have:=hsi.2.1;unfold List.Nodup at this;rw[List.pairwise_map]at this;exact this.imp (fun h e=>h (by rw[e]))
  have hinj: ∀x∈es.toList,x.born=e0.born->x=e0:=fun x hx hxb=>ym hs hx hem hxb
  have hpp:=uF hnd hinj hem hes;refine Or.inr ⟨e0.key,e0.val,_,by rw[<-he]; exact List.mem_map.2 ⟨e0,hem,rfl⟩,fun p hp hpk=> ?_,hrun,⟨es,clock,since,seen.push e0.born,clock,hb',he,hs,hk,hset.1,hold,hsk,hsk, ?_⟩, ?_, ?_,
   run_entry_at _ r b since seen es clock e0 hset.1 hb' hem hsi.2.1⟩
  ·obtain⟨x,hx,rfl⟩:=List.mem_map.1 (hv.subset hp);obtain⟨hx1,hx2⟩:=List.mem_filter.1 hx;have:x=e0:=entry_eq_of_key hsi.2.2 hx1 hem hpk;subst this;rw[hx2]at hes
   cases hes
  ·refine(hv.append_right _).trans ?_;have:=hpp.map (fun e:MapEntry=>(e.key,e.val));rw[List.map_append]at this;exact this
  ·rcases hal with rfl | rfl<;> exact⟨rfl,rfl,rfl,by simp[ChangeMaps.setBlock],fun i _ hi=>hset.2 i (fun e1=>hi (by rw[e1]))⟩
  ·rcases hal with rfl | rfl<;> simp[ChangeMaps.setBlock]
end
section
variable {P : Program} {w : World} {ops : Array Oper} {rest : List Oper} {o : Oper} {a : Act} {Q : Exit → Act → World → Prop} {k e : TypeId}
theorem eC (K:Keyed P k) (hg:o.guard=none) (mo x v:Operand) (t:TypeId) (hop:o.op=Op.mapUpdate t mo x v) (ht:P.underlying t=some (.map k e)) (b:Nat) (m:List (Value×Value)) (h:de P k w b m) (hmo:a.eval mo= .map (some b)) (key val:Value) (hx:a.eval x=key) (hv:a.eval v=val) (hkey: ∃l,keyOf P k key=some l) (hnew: ∀p∈m,p.1≠key)
  (hK: ∀w',de P k w' b (m++[(key,val)])->w.grownBy w' (some b)->wpList P ops Q rest (a.put o.dst undef) w'):wpList P ops Q (o::rest) a w:=by
 refine wpList_plain hg fun K' hK'=> ?_
 obtain⟨w',hrun,r1,r2⟩:=h.put K ht hkey hnew val;unfold Oper.wp;simp[execOp,hop,hmo,hx,hv,hrun,Result.andThen];exact hK' _ _ (hK w' r1 r2)
end
end Go.Proofs.YtnjkpcalgoefhaaGreatDoor
namespace Go.Proofs.YtnjkpcalgoefhaaGreatDoor
open Go Go.RowKit Go.Maps
abbrev qS :=Value×aX
theorem cz :Keyed Tryz.prog 9:=string_keyed Tryz.underlying9
theorem cG {n:ByteArray} (h:n.size<=maxLen): ∃l,keyOf Tryz.prog 9 (.string n)=some l:=⟨.string n.data.toList,by simp[keyOf,mapKey,Tryz.underlying9,h]⟩
section
variable {S S' : Nat → Prop} {w w' : World} {mb : Nat} {xs : List qS}
end
def Ah :Value:= .agg #[.string ByteArray.empty, .int .i64 0, .int .i64 0, .int .i64 0, .slice none 0 0, .string ByteArray.empty]
section
variable {S S' : Nat → Prop} {w w' : World} {tb mb : Nat} {L : List aX}
end
section
variable {S S' : Nat → Prop} {w w' : World} {tb mb : Nat} {L : List aX} {xs : List qS} {t : TypeId}
end
section
variable {P : Program} {w : World} {ops : Array Oper} {rest : List Oper} {o : Oper} {a : Act} {Q : Exit → Act → World → Prop}
theorem iT {Φ:World->Prop} (hg:o.guard=none) (mo x v:Operand) (t:TypeId) (hop:o.op=Op.mapUpdate t mo x v) (mv key val:Value) (hmo:a.eval mo=mv) (hx:a.eval x=key) (hv:a.eval v=val) (hrun: ∃w',(Instr.mapUpdate t mv key val).run P w= .ok () w'/\Φ w')
  (hK: ∀w',Φ w'->wpList P ops Q rest (a.put o.dst undef) w'):wpList P ops Q (o::rest) a w:=by
 refine wpList_plain hg fun K' hK'=> ?_
 obtain⟨w',hr,h2⟩:=hrun;unfold Oper.wp;simp[execOp,hop,hmo,hx,hv,hr,Result.andThen];exact hK' _ _ (hK w' h2)
end
end Go.Proofs.YtnjkpcalgoefhaaGreatDoor
namespace Go.Proofs.YtnjkpcalgoefhaaGreatDoor
open Go.RowKit
theorem ai {w:World} {b k:Nat} {cs:Array Value} {t:TypeId} {x:Nat×Nat} (h:w.heap[b]? =some (.cells cs t x)):w.cell? ⟨b,k,none⟩=cs[k]? :=by simp[World.cell?,h]
theorem pX (s:ByteArray) (w:World):Calls Tryz.prog 128 #[.string s, .int .u8 0] w fun e w'=>e= .returned (.int .i64 (Lib.indexByte (bl s) 0))/\w=w':=
 (Tryz.strings_IndexByte s 0 w).mono fun _ _ ⟨he,hw⟩=>⟨he,hw.symm⟩
theorem nf (s:ByteArray) (w:World) (hs:s.size<=maxLen):Calls Tryz.prog 99 #[.string s] w fun e w'=>e= .returned (.bool (mH (bl s)))/\w=w':=by
 unfold maxLen at hs;have HX:=aa (show mH (bl s)=(decide (1<=s.size) && decide (s.size<=512) && !(bl s).contains 0) by unfold mH; rw[aN]);have HI:=aa (fd (bl s) 0)
 go_enter Tryz.func99,Tryz.ntmps99
 go_wp2_with (go_at_call 128; refine(pX s _).mono ?_; rintro e w3 ⟨rfl,rfl⟩)
 ·go_ret;refine⟨al ?_,rfl⟩;have z1:decide (1<=s.size)=true:=by simp; omega
  have z2:decide (s.size<=512)=true:=by simp; omega
  rw[HX.out,z1,z2,<-HI.out];rw[Bool.eq_iff_iff];simp
 ·go_ret;refine⟨al ?_,rfl⟩;have z2:decide (s.size<=512)=false:=by simp; omega
  rw[HX.out,z2];simp
 ·go_ret;refine⟨al ?_,rfl⟩;have z1:decide (1<=s.size)=false:=decide_eq_false (by omega);rw[HX.out,z1];simp
theorem ji (s:ByteArray) (b:Bool) (w:World) (he:iI w) (h:bz (bl s)=b):Calls Tryz.prog 98 #[.string s] w fun e w'=>e= .returned (.bool b)/\Below w.heap.size w w':=by
 rw[<-h]; exact oa s w he
theorem sM (S:Nat->Prop) (en:aX) (v:Value) (w:World) (hd:bP S w v en.data) (hok:jl en) (henv:iI w):Calls Tryz.prog 64 #[pH v en] w fun e w'=>e= .returned (.bool (dC en))/\Below w.heap.size w w':=by
 obtain⟨_,a,cap,rfl,hc,hm,-⟩:=hd;unfold maxLen at hm;have HE:=aa henv;have HO:=aa hok;have hq1:=hok.pth;have hq2:=hok.lnk;unfold maxLen at hq1 hq2;have HL:=aa (show en.link.toList.isEmpty=decide (en.link.size=0) by rw[bw,aN,Bool.eq_iff_iff]; simp);clear henv hok;unfold pH
 cases hv:bz (bl en.path)
 ·have HVP:=aa hv;clear hv
  go_enter Tryz.func64,Tryz.ntmps64
  go_wp2_with fail;obtain⟨W,hW⟩: ∃W,W=w.alloc (.cells #[.string en.path, .int .i64 en.kind, .int .i64 en.mode, .int .i64 en.time, .slice a en.data.length cap, .string en.link] 30):=⟨_,rfl⟩;rw[<-hW];have HBW:=aa (show Below w.heap.size w W by rw[hW]; exact(Below.refl _ _).alloc (Nat.le_refl _) _);have HBX:=aa (show W.heap[w.heap.size]? =some (.cells #[.string en.path, .int .i64 en.kind, .int .i64 en.mode, .int .i64 en.time, .slice a en.data.length cap, .string en.link] 30 (0,0)) by rw[hW]; exact heap_alloc_new w _)
  clear hW;refine(ji en.path false _ (HE.out.below HBW.out) HVP.out).mono ?_;rintro e w1 ⟨rfl,hb1⟩;have HB1:=aa (ag HBW.out hb1);clear hb1;go_wp2_with fail;go_ret;exact⟨al (by simp[dC,HVP.out]),HB1.out⟩
 ·have HVP:=aa hv;clear hv
  by_cases hmt:0<=en.mode/\en.mode<=511/\0<=en.time
  ·have HH:=aa (show dC en=gA en by obtain⟨x1,x2,x3⟩:=hmt; unfold dC mG; rw[HVP.out]; simp[x1,x2,x3]);obtain⟨hm1,hm2,hm3⟩:=hmt
   go_enter Tryz.func64,Tryz.ntmps64
   go_wp2_with fail;obtain⟨W,hW⟩: ∃W,W=w.alloc (.cells #[.string en.path, .int .i64 en.kind, .int .i64 en.mode, .int .i64 en.time, .slice a en.data.length cap, .string en.link] 30):=⟨_,rfl⟩;rw[<-hW];have HBW:=aa (show Below w.heap.size w W by rw[hW]; exact(Below.refl _ _).alloc (Nat.le_refl _) _);have HBX:=aa (show W.heap[w.heap.size]? =some (.cells #[.string en.path, .int .i64 en.kind, .int .i64 en.mode, .int .i64 en.time, .slice a en.data.length cap, .string en.link] 30 (0,0)) by rw[hW]; exact heap_alloc_new w _)
   clear hW;refine(ji en.path true _ (HE.out.below HBW.out) HVP.out).mono ?_;rintro e w1 ⟨rfl,hb1⟩;have HBXr:=aa ((hb1.block w.heap.size ((Array.getElem?_eq_some_iff.1 HBX.out).1)).trans HBX.out);have HB1:=aa (ag HBW.out hb1);have hlt1:w.heap.size<w1.heap.size:=(Array.getElem?_eq_some_iff.1 HBXr.out).1;have c0:=ai (k:=0) HBXr.out;have c1:=ai (k:=1) HBXr.out
   have c2:=ai (k:=2) HBXr.out;have c3:=ai (k:=3) HBXr.out;have c4:=ai (k:=4) HBXr.out;have c5:=ai (k:=5) HBXr.out;simp only[kJ]at c0 c1 c2 c3 c4 c5;clear hb1 HBX
   by_cases hk1:en.kind=1
   ·have e1:(en.kind == 1)=true:=by simp[hk1]
    have HK:=aa (show gA en=(decide (en.data.length<=1048576) && decide (en.link.size=0)) by unfold gA; rw[if_pos hk1]);clear hk1;go_wp2_with fail
    ·go_ret;refine⟨al ?_,HB1.out⟩;rw[HH.out,HK.out,HL.out,decide_eq_true (p:=en.data.length<=1048576) (by omega)]
     rfl
    ·go_ret;refine⟨al ?_,HB1.out⟩;rw[HH.out,HK.out,decide_eq_false (p:=en.data.length<=1048576) (by omega)]
     rfl
   ·have e1:(en.kind == 1)=false:=by simp[hk1]
    by_cases hk2:en.kind=2
    ·have e2:(en.kind == 2)=true:=by simp[hk2]
     have HK:=aa (show gA en=(decide (en.data.length=0) && decide (en.link.size=0)) by unfold gA; rw[if_neg hk1,if_pos hk2]);clear hk1 hk2;go_wp2_with fail
     ·go_ret;refine⟨al ?_,HB1.out⟩;rw[HH.out,HK.out,HL.out,decide_eq_true (p:=en.data.length=0) (by rw[show en.data=[] by assumption]; rfl)]
      rfl
     ·go_ret;refine⟨al ?_,HB1.out⟩;rw[HH.out,HK.out,decide_eq_false (p:=en.data.length=0) (fun h=>absurd (List.eq_nil_of_length_eq_zero h) (by assumption))]
      rfl
    ·have e2:(en.kind == 2)=false:=by simp[hk2]
     by_cases hk3:en.kind=3
     ·have e3:(en.kind == 3)=true:=by simp[hk3]
      have HK:=aa (show gA en=(decide (en.data.length=0) && mH (bl en.link)) by unfold gA; rw[if_neg hk1,if_neg hk2,if_pos hk3]);clear hk1 hk2 hk3;go_wp2_with (go_at_call 99; refine(nf en.link _ HO.out.lnk).mono ?_; rintro e w3 ⟨rfl,rfl⟩)
      ·go_ret;refine⟨al ?_,HB1.out⟩;rw[HH.out,HK.out,decide_eq_true (p:=en.data.length=0) (by rw[show en.data=[] by assumption]; rfl)]
       rfl
      ·go_ret;refine⟨al ?_,HB1.out⟩;rw[HH.out,HK.out,decide_eq_false (p:=en.data.length=0) (fun h=>absurd (List.eq_nil_of_length_eq_zero h) (by assumption))]
       rfl
     ·have e3:(en.kind == 3)=false:=by simp[hk3]
      have HK:=aa (show gA en=false by unfold gA; rw[if_neg hk1,if_neg hk2,if_neg hk3]);clear hk1 hk2 hk3;go_wp2_with fail;go_ret;exact⟨al (by rw[HH.out,HK.out]),HB1.out⟩
  ·have HF:=aa (show dC en=false by
    have:mG en=false:=by
     unfold mG; rw[Bool.eq_false_iff]; simp; omega
    unfold dC; rw[this]; simp)
   go_enter Tryz.func64,Tryz.ntmps64
   go_wp2_with fail;obtain⟨W,hW⟩: ∃W,W=w.alloc (.cells #[.string en.path, .int .i64 en.kind, .int .i64 en.mode, .int .i64 en.time, .slice a en.data.length cap, .string en.link] 30):=⟨_,rfl⟩;rw[<-hW];have HBW:=aa (show Below w.heap.size w W by rw[hW]; exact(Below.refl _ _).alloc (Nat.le_refl _) _);have HBX:=aa (show W.heap[w.heap.size]? =some (.cells #[.string en.path, .int .i64 en.kind, .int .i64 en.mode, .int .i64 en.time, .slice a en.data.length cap, .string en.link] 30 (0,0)) by rw[hW]; exact heap_alloc_new w _)
   clear hW;refine(ji en.path true _ (HE.out.below HBW.out) HVP.out).mono ?_;rintro e w1 ⟨rfl,hb1⟩;have HBXr:=aa ((hb1.block w.heap.size ((Array.getElem?_eq_some_iff.1 HBX.out).1)).trans HBX.out);have HB1:=aa (ag HBW.out hb1);have hlt1:w.heap.size<w1.heap.size:=(Array.getElem?_eq_some_iff.1 HBXr.out).1;have c0:=ai (k:=0) HBXr.out;have c1:=ai (k:=1) HBXr.out
   have c2:=ai (k:=2) HBXr.out;have c3:=ai (k:=3) HBXr.out;have c4:=ai (k:=4) HBXr.out;have c5:=ai (k:=5) HBXr.out;simp only[kJ]at c0 c1 c2 c3 c4 c5;clear hb1 HBX;go_wp2_with fail
   all_goals first
    | (exfalso; omega)
    | (go_ret; exact⟨al (by rw[HF.out]),HB1.out⟩)
theorem ua (S:Nat->Prop) (v:Value) (bs:List UInt8) (w:World) (hd:bP S w v bs) (hl:bs.length<=140737488355328):Calls Tryz.prog 146 #[v] w fun e w'=> ∃v',e= .returned v'/\w'.ownsRow w.heap.size 5 1 v' bs.length (bs.map u8V)/\Below w.heap.size w w':=by
 obtain⟨_,a,cap,rfl,hn,hm,h0⟩:=hd
 cases a with
 | none=>
  have hz:bs.length=0:=by
   rcases h0 with h0 | ⟨b,o,ha,_⟩
   ·exact h0
   ·cases ha
  obtain rfl:=List.eq_nil_of_length_eq_zero hz;refine(Any.bytes_Clone_nil Tryz.laysClone _ _ w).mono ?_;rintro e w' ⟨rfl,rfl⟩;exact⟨_,rfl,World.ownsRow_nil _ _ _ _,Below.refl _ _⟩
 | some a=>
  refine(Any.bytes_Clone_at Tryz.laysClone a bs.length cap (bs.map fun b=>(b.toNat:Int)) w (by simp) hl ?_).mono ?_
  ·intro i hi
   rcases h0 with h0 | ⟨b,o,ha,_,hc⟩
   ·omega
   ·cases ha
    rw[ow];refine hc i _ ?_;simp[hi,u8V]
  ·rintro e w' ⟨v',rfl,h1,_,h2⟩;refine⟨v',rfl, ?_,h2⟩;rw[List.map_map]at h1;exact h1
theorem bK {w:World} {base base' size n:Nat} {e:TypeId} {v:Value} {xs:List Value} (h:w.ownsRow base e size v n xs) (hb:base'<=base):w.ownsRow base' e size v n xs:=
 ⟨h.1,h.2.imp id (fun⟨g,cap,cur,e1,h1,h2⟩=>⟨g,cap,cur,e1,Nat.le_trans hb h1,h2⟩)⟩
theorem pN {w:World} {b k:Nat} {cs:Array Value} {t:TypeId} (h:w.heap[b]? =some (.cells cs t (0,0))):w.frozen? ⟨b,k,none⟩=false:=by simp[World.frozen?,h]
theorem zu {w:World} {b k:Nat} {cs:Array Value} {t:TypeId} (h:w.heap[b]? =some (.cells cs t (0,0))) (x:Value):(w.setCell ⟨b,k,none⟩ x).heap[b]? =some (.cells (cs.setIfInBounds k x) t (0,0)):=by
 simp only[World.setCell,Array.getElem?_modify,if_true,h,Option.map_some]; rfl
theorem my {w:World} {b c k:Nat} {o:Obj} (h:w.heap[b]? =some o) (hne:b≠c) (x:Value):(w.setCell ⟨c,k,none⟩ x).heap[b]? =some o:=by
 rw[Below.heap_setCell _ _ _ _ hne]; exact h
theorem eJ {w:World} {b:Nat} {o:Obj} (h:w.heap[b]? =some o) (x:Obj):(w.alloc x).heap[b]? =some o:=by
 have hlt:=(Array.getElem?_eq_some_iff.1 h).1;rw[Below.heap_alloc _ _ _ hlt]; exact h
theorem kP (w:World) (x:Obj):(w.alloc x).heap[w.heap.size]? =some x:=by show(w.heap.push x)[w.heap.size]? =some x; simp
theorem rH (w:World) (x y:Obj):((w.alloc x).alloc y).heap[w.heap.size+1]? =some y:=by
 have:=kP (w.alloc x) y
 rwa [show(w.alloc x).heap.size=w.heap.size+1 by show(w.heap.push x).size=_; simp]at this
theorem lc {w:World} {b:Nat} {o:Obj} (h:w.heap[b]? =some o):b<w.heap.size:=(Array.getElem?_eq_some_iff.1 h).1
theorem pA (a:Option Addr) (c:Nat) (w:World):(convert 28 9 (.slice a 0 c)).run Tryz.prog w= .ok (.string ⟨#[]⟩) w:=by cases a<;> kernel_rfl
theorem uc {S:Nat->Prop} {w:World} {v:Value} {bs:List UInt8} (hd:bP S w v bs):(convert 28 9 v).run Tryz.prog w= .ok (.string (strOfNums (bs.map fun b=>(b.toNat:Int)))) w:=by
 obtain⟨_,a,cap,rfl,hn,hm,h0⟩:=hd
 rcases h0 with h0 | ⟨b,o,rfl,_,hc⟩
 ·obtain rfl:=List.eq_nil_of_length_eq_zero h0;exact pA a cap w
 ·exact run_convert_bytes_arg (P:=Tryz.prog) w 28 5 Tryz.underlying28 Tryz.underlying5 b o bs.length cap (bs.map fun b=>(b.toNat:Int)) (by simp) (fun i hi=>by
   rw[hc i (u8V bs[i]) (by simp[hi])];simp[u8V,List.getD,hi]) 9 Tryz.underlying9
open Go.RowKit Go.Maps
theorem eB (p q:ByteArray) (w:World) (he:iI w) (hv:bz (bl p)=true) (hq:q=⟨(aM (bl p)).toArray⟩):
  Calls Tryz.prog 66 #[.string p] w fun e w'=>e= .returned (.tuple #[.string q, .bool true])/\Below w.heap.size w w':=by
 rw[hq]; exact rL p w he hv
theorem lk (q:ByteArray):q.toList.isEmpty=decide (bl q=[]):=by rw[bw,Bool.eq_iff_iff]; simp
theorem iG (S:Nat->Prop) (en:aX) (v:Value) (b:Bool) (w:World) (hd:bP S w v en.data) (hok:jl en) (henv:iI w) (h:dC en=b):Calls Tryz.prog 64 #[pH v en] w fun e w'=>e= .returned (.bool b)/\Below w.heap.size w w':=by
 rw[<-h]; exact sM S en v w hd hok henv
open Go Go.RowKit Go.Maps
theorem Tryz.appEnts :cX Tryz.prog 45 30 6 80:=cX.mk' (z:=Ah) Tryz.underlying45 (by kernel_rfl) rfl (by decide) (by decide)
def kG (ys:List qS):List Value:=ys.flatMap fun y=>jB y.1 y.2
theorem rj (ys:List qS) (y:qS):kG (ys++[y])=kG ys++jB y.1 y.2:=by simp[kG]
theorem wH {a:Option Addr} {n c:Nat} {e:aX} : ∀u∈jB (.slice a n c) e,u.oneCell'=true:=by
 intro u hu;simp only[jB,List.mem_cons,List.not_mem_nil,or_false]at hu
 rcases hu with rfl | rfl | rfl | rfl | rfl | rfl<;> rfl
theorem pI {S:Nat->Prop} {w:World} : ∀ {ys:List qS},(∀y∈ys,bP S w y.1 y.2.data/\jl y.2)->aV (iV S w) (kG ys) (ys.map Prod.snd)
 | [],_=>rfl
 | y::ys,h=>⟨jB y.1 y.2,kG ys,by simp[kG],⟨y.1,rfl,h y (by simp)⟩,pI (fun z hz=>h z (by simp[hz]))⟩
theorem bP.slice {S:Nat->Prop} {w:World} {v:Value} {bs:List UInt8} (h:bP S w v bs): ∃a c,v= .slice a bs.length c/\bs.length<=c/\c<=maxLen:=by
 obtain⟨_,a,c,rfl,h1,h2,_⟩:=h;exact⟨a,c,rfl,h1,h2⟩
theorem aW {w w':World} {B n sz:Nat} {e:TypeId} {v:Value} {xs:List Value} (h:w.ownsRow B e sz v n xs) (hb:Below w.heap.size w w'):w'.ownsRow B e sz v n xs:=by
 refine h.kept (row:=none) ⟨hb.os,hb.tape,hb.output,hb.size,fun k hk _=>hb.block k hk⟩ ?_
 cases hv:v.ownBlock
 ·exact .inl rfl
 ·exact .inr (by simp)
end Go.Proofs.YtnjkpcalgoefhaaGreatDoor
namespace Go.Proofs.YtnjkpcalgoefhaaGreatDoor
open Go.RowKit Go.Maps
theorem nm : ∀ {m pre:List aX} (r:List aX),Tr (pre++m)->fF pre (m++r)=fF (pre++m) r
 | [],pre,r,_=>by simp
 | e::m,pre,r,h=>by
  have h1:Tr (pre++[e]):=Tr.pre (M:=m) (by simpa using h);have h2:=(gJ h1.pre e).2 h1;have h3:=nm (m:=m) (pre:=pre++[e]) r (by simpa using h);rw[List.cons_append,fF,if_pos h2,h3];simp
theorem pq {L:List aX} (hl:L.length<=4096) {k:Nat} (h:Tr (L.take k)):cj L=fF (L.take k) (L.drop k):=by
 have h1:=nm (m:=L.take k) (pre:=[]) (L.drop k) (by simpa using h);rw[List.take_append_drop,List.nil_append]at h1;unfold cj;rw[if_neg (by omega),h1]
theorem ee {α:Type} {L:List α} {k:Nat} {e:α} (h:L[k]? =some e):L.drop k=e::L.drop (k+1):=by
 obtain⟨h1,h2⟩:=List.getElem?_eq_some_iff.1 h;rw[List.drop_eq_getElem_cons h1,h2]
theorem eb {L:List aX} (hl:L.length<=4096) {k:Nat} (h:Tr (L.take k)) {e:aX} (he:L[k]? =some e) {x:Int} (hx:cg (L.take k) e=x) (h0:x≠0):cj L=x:=by
 rw[pq hl h,ee he,fF,hx,if_neg h0]
theorem ge {L:List aX} {k:Nat} (h:Tr (L.take k)) {e:aX} (he:L[k]? =some e) (hx:cg (L.take k) e=0):Tr (L.take (k+1)):=by
 rw[List.take_add_one,he];exact(gJ h e).1 hx
theorem re {L:List aX} (hl:L.length<=4096) (h:Tr (L.take L.length)):cj L=0:=by
 rw[pq hl h,List.drop_length]; rfl
theorem tZ {L:List aX} (hl:4096<L.length):cj L=2:=by unfold cj; rw[if_pos hl]
def lV (e:aX):Value×Value:=(.string e.path, .int .i64 e.kind)
theorem fT :Tryz.prog.underlying 131=some (.map 9 3):=Tryz.underlying131
theorem rG (w:World) (n:Nat) (hn:n<=4096):(Instr.makeMap 131 (some (.int .i64 (n:Int)))).run Tryz.prog w= .ok (.map (some w.heap.size)) (w.alloc (.map #[] 0)):=by
 have h1:IntKind.i64.wrap (n:Int)=n:=by rw[IntKind.wrap_i64]; omega
 simp[Instr.makeMap,asInt,asIntOf]
theorem iA {w:World} {mb:Nat} {M:List aX} (h:de Tryz.prog 9 w mb (M.map lV)) {p:ByteArray} (hp:p.size<=maxLen) {f:aX} (hf:fr M p=some f):
  (Instr.lookup 131 (.map (some mb)) (.string p) true).run Tryz.prog w= .ok (.tuple #[.int .i64 f.kind, .bool true]) w:=by
 obtain⟨h1,h2⟩:=ja hf;have h3:(Value.string p,Value.int .i64 f.kind)∈M.map lV:=List.mem_map.2 ⟨f,h1,by rw[<-h2]; rfl⟩;have:=h.is.hit cz fT (cG hp) h3 true
 simpa only[if_true]using this
theorem lW {w:World} {mb:Nat} {M:List aX} (h:de Tryz.prog 9 w mb (M.map lV)) {p:ByteArray} (hp:p.size<=maxLen) (hf:fr M p=none):
  (Instr.lookup 131 (.map (some mb)) (.string p) true).run Tryz.prog w= .ok (.tuple #[.int .i64 0, .bool false]) w:=by
 have hz:(zeroValue 3).run Tryz.prog w= .ok (.int .i64 0) w:=by kernel_rfl
 have:=h.is.miss cz fT hz (cG hp) (fun q hq e=>by
  obtain⟨x,hx,rfl⟩:=List.mem_map.1 hq;simp only[lV,Value.string.injEq]at e;exact lP hf x hx e) true
 simpa only[if_true]using this
theorem iB {M:List aX} {e:aX} (h:Tr (M++[e])): ∀q∈M.map lV,q.1≠Value.string e.path:=by
 intro q hq hc;obtain⟨x,hx,rfl⟩:=List.mem_map.1 hq;simp only[lV,Value.string.injEq]at hc;have hn:=h.ord.nodup;rw[List.map_append,List.nodup_append]at hn;exact hn.2.2 x.path (List.mem_map.2 ⟨x,hx,rfl⟩) e.path (by simp) hc
theorem fO (a b:ByteArray) (o:Int) (w:World) (ha:a.size<=maxLen) (h:bG (bl a) (bl b)=o):Calls Tryz.prog 65 #[.string a, .string b] w fun e w'=>e= .returned (.int .i64 o)/\Below w.heap.size w w':=by
 rw[<-h]; exact py a b w (by unfold maxLen at ha; omega)
theorem vW {L:List aX} {k:Nat} {f e:aX} (hf:L[k]? =some f):gH (L.take (k+1)) e=decide (bG (bl f.path) (bl e.path)<0):=by
 have:(L.take (k+1)).getLast? =some f:=by rw[List.take_add_one,hf]; simp
 unfold gH;rw[this]; rfl
def zy (L:List aX) (mb:Nat) (w:World) (k:Nat) (wr:World):Prop:=Tr (L.take k)/\de Tryz.prog 9 wr mb ((L.take k).map lV)/\Below w.heap.size w wr
theorem tY (S:Nat->Prop) (L:List aX) (v:Value) (w:World) (hv:bM S w v L) (henv:iI w):Calls Tryz.prog 34 #[v] w fun e w'=>e= .returned (.int .i64 (cj L))/\Below w.heap.size w w':=by
 have HV:=aa hv;have HE:=aa henv;obtain⟨a,cap,rfl,hc,hm,-⟩:=aT.shape hv iV.len;unfold maxLen at hm;obtain⟨n,hn⟩: ∃n,n=L.length:=⟨_,rfl⟩;have HN:=aa hn;rw[<-hn]at hc HV ⊢;clear hv henv
 by_cases hbig:4096<n
 ·have hbi:(4096:Int)<(n:Int):=by omega
  have HC:=aa (tZ (by rw[<-hn]; exact hbig));clear hbig hn
  go_enter Tryz.func34,Tryz.ntmps34
  go_wp2_with fail;go_ret;exact⟨cC (by rw[HC.out]),Below.refl _ _⟩
 ·have hbi:(n:Int)<=(4096:Int):=by omega
  have hmk:=rG w n (by omega);have HL4:=aa (show L.length<=4096 by omega);clear hbig hn
  go_enter Tryz.func34,Tryz.ntmps34
  go_wp2_with fail;obtain⟨W0,hW0⟩: ∃W0,W0=w.alloc (.map #[] 0):=⟨_,rfl⟩;rw[<-hW0];have HM0:=aa (show de Tryz.prog 9 W0 w.heap.size [] by rw[hW0]; exact de.made w);have HB0:=aa (show Below w.heap.size w W0 by rw[hW0]; exact(Below.refl _ _).alloc (Nat.le_refl _) _);clear hW0;clear hmk
  go_loopw [18] (fun i wr=> ∃k:Nat,k<=n/\i= .int .i64 k/\zy L w.heap.size w k wr) (fun i _=>n-(intOf i).toNat)
  case atStart=>exact⟨0,Nat.zero_le _,rfl,⟨List.Pairwise.nil,by simp,by simp⟩,HM0.out,HB0.out⟩
  case round=>
   obtain⟨k,hk,rfl,htr,hkm,hbr⟩:=hrel;have HTR:=aa htr;have HKM:=aa hkm;have HBR:=aa hbr;clear htr hkm hbr
   by_cases hlt:k<n
   ·obtain⟨e,he⟩: ∃e,L[k]? =some e:=⟨L[k]'(by rw[<-HN.out]; exact hlt),by simp⟩;obtain⟨b,o,dv,rfl,-,hb,hd,hok,-,q0,q1,q2,q3,q4,q5⟩:=iw (HV.out.below HBR.out) he;have HAT:=aa he;have HD:=aa hd;have HOK:=aa hok;obtain⟨a1,cap1,rfl,hd1,hd2⟩:=hd.slice;unfold maxLen at hd2;clear he hd hok
    cases hve:dC e
    ·have HVE:=aa hve;have HCA:=aa (show cg (L.take k) e=1 by unfold cg; rw[hve]; rfl);clear hve;go_wp2_with fail;obtain⟨W,hW⟩: ∃W,W=wr.alloc (.cells #[.string e.path, .int .i64 e.kind, .int .i64 e.mode, .int .i64 e.time, .slice a1 e.data.length cap1, .string e.link] 30):=⟨_,rfl⟩;rw[<-hW];have HX:=aa (show W.heap[wr.heap.size]? =some (.cells #[.string e.path, .int .i64 e.kind, .int .i64 e.mode, .int .i64 e.time, .slice a1 e.data.length cap1, .string e.link] 30 (0,0)) by rw[hW]; exact kP wr _)
     have HWL:=aa (show Below wr.heap.size wr W by rw[hW]; exact(Below.refl _ _).alloc (Nat.le_refl _) _);have HBW:=aa (ag HBR.out HWL.out);clear hW;refine(iG S e _ false _ (HD.out.below HWL.out) HOK.out (HE.out.below HBW.out) HVE.out).mono ?_;rintro e7 w7 ⟨rfl,hb7⟩;have HB9:=aa (ag HBW.out hb7);clear hb7;go_wp2_with fail;go_ret;exact⟨cC (by rw[eb HL4.out HTR.out HAT.out (x:=1) HCA.out (by decide)]),HB9.out⟩
    ·have HVE:=aa hve;obtain⟨q,hq⟩: ∃q:ByteArray,q=⟨(aM (bl e.path)).toArray⟩:=⟨_,rfl⟩;have HBQ:=aa (show bl q=aM (bl e.path) by rw[hq]; exact kA _);have HQ:=aa hq;have HQS:=aa (show q.size<=maxLen by
      have h1:=ff (bL hve);have h2:=sO (bL hve);rw[aN,HBQ.out]; unfold maxLen; omega)
     clear hve hq
     rcases Nat.eq_zero_or_pos k with hk0 | hk0
     ·have e9:decide (0<k)=false:=by simp; omega
      have e8:(k:Int)<=0:=by omega
      have HCV:=aa (show(dC e && gH (L.take k) e)=true by rw[hk0,HVE.out]; rfl);clear hk0;go_wp2_with fail;obtain⟨W,hW⟩: ∃W,W=wr.alloc (.cells #[.string e.path, .int .i64 e.kind, .int .i64 e.mode, .int .i64 e.time, .slice a1 e.data.length cap1, .string e.link] 30):=⟨_,rfl⟩;rw[<-hW];have HX:=aa (show W.heap[wr.heap.size]? =some (.cells #[.string e.path, .int .i64 e.kind, .int .i64 e.mode, .int .i64 e.time, .slice a1 e.data.length cap1, .string e.link] 30 (0,0)) by rw[hW]; exact kP wr _)
      have HWL:=aa (show Below wr.heap.size wr W by rw[hW]; exact(Below.refl _ _).alloc (Nat.le_refl _) _);have HBW:=aa (ag HBR.out HWL.out);clear hW;refine(iG S e _ true _ (HD.out.below HWL.out) HOK.out (HE.out.below HBW.out) HVE.out).mono ?_;rintro e7 w7 ⟨rfl,hb7⟩;have HX7:=aa ((hb7.block wr.heap.size (lc HX.out)).trans HX.out);have HL7:=aa (HWL.out.trans (hb7.mono HWL.out.size))
      have c0:=ai (k:=0) HX7.out;have c1:=ai (k:=1) HX7.out;have c2:=ai (k:=2) HX7.out;have c3:=ai (k:=3) HX7.out;have c4:=ai (k:=4) HX7.out;have c5:=ai (k:=5) HX7.out;simp only[kJ]at c0 c1 c2 c3 c4 c5;clear hb7;go_wp2_with fail;refine ak [some 11,none,some 2] (by kernel_rfl) (by kernel_rfl) (by kernel_rfl) ?_;simp only[bb,List.take_succ_cons,List.take_zero,List.drop_succ_cons,List.drop_zero]
      obtain⟨wd,hwd⟩: ∃wd:World,wd=w7.drew:=⟨_,rfl⟩;rw[<-hwd];have HLD:=aa (show Below wr.heap.size wr wd by rw[hwd]; exact HL7.out.trans ((Below.refl w7.heap.size w7).drew.mono HL7.out.size));have HXD:=aa (show wd.heap[wr.heap.size]? =some (.cells #[.string e.path, .int .i64 e.kind, .int .i64 e.mode, .int .i64 e.time, .slice a1 e.data.length cap1, .string e.link] 30 (0,0)) by rw[hwd]; exact HX7.out)
      clear hwd c0 c1 c2 c3 c4 c5;have c0:=ai (k:=0) HXD.out;have c1:=ai (k:=1) HXD.out;have c2:=ai (k:=2) HXD.out;have c3:=ai (k:=3) HXD.out;have c4:=ai (k:=4) HXD.out;have c5:=ai (k:=5) HXD.out;simp only[kJ]at c0 c1 c2 c3 c4 c5
      repeat (first | (refine am rfl ?_; simp only[Act.put,aD,aE,aF]) | (refine aA rfl (fun K hK=> ?_); go_simp; refine hK _ ?_; clear hK K))
      refine az ?_;refine jp rfl ?_;simp only[Act.put,aD,aE,aF]
      repeat (first | (refine am rfl ?_; simp only[Act.put,aD,aE,aF]) | (refine aA rfl (fun K hK=> ?_); go_simp; refine hK _ ?_; clear hK K))
      refine az ?_;clear c0 c1 c2 c3 c4 c5;have HL8:=aa HLD.out;have HX8:=aa HXD.out;have HB8:=aa (ag HBR.out HLD.out);have c0:=ai (k:=0) HX8.out;have c1:=ai (k:=1) HX8.out;have c2:=ai (k:=2) HX8.out;have c3:=ai (k:=3) HX8.out;have c4:=ai (k:=4) HX8.out;have c5:=ai (k:=5) HX8.out;simp only[kJ]at c0 c1 c2 c3 c4 c5;go_wp2_with fail
      by_cases h0:aM (bl e.path)=[]
      ·have e1:q.toList.isEmpty=true:=by rw[lk,HBQ.out,decide_eq_true h0]
       have HTN:=aa (ge HTR.out HAT.out (show cg (L.take k) e=0 by unfold cg; rw[if_pos HCV.out]; unfold jz; rw[if_pos h0]));clear h0;refine(eB e.path q _ (HE.out.below HB8.out) (bL HVE.out) HQ.out).mono ?_;rintro e9 w9 ⟨rfl,hb9⟩;have HL9:=aa (HL8.out.trans (hb9.mono HL8.out.size));have HB9:=aa (ag HB8.out hb9);have HX9:=aa ((hb9.block wr.heap.size (lc HX8.out)).trans HX8.out)
       have HK9:=aa (HKM.out.same (HL9.out.block w.heap.size HKM.out.lt));clear hb9;have c0:=ai (k:=0) HX9.out;have c1:=ai (k:=1) HX9.out;have c2:=ai (k:=2) HX9.out;have c3:=ai (k:=3) HX9.out;have c4:=ai (k:=4) HX9.out;have c5:=ai (k:=5) HX9.out;simp only[kJ]at c0 c1 c2 c3 c4 c5;go_wp2_with (at_mapUpdate; go_must (refine eC cz rfl _ _ _ _ rfl fT w.heap.size _ HK9.out rfl (.string e.path) (.int .i64 e.kind) rfl rfl (cG HOK.out.pth) (iB (by have h1:=HTN.out; rw[List.take_add_one,HAT.out]at h1; exact h1)) ?_); intro w10 hm10 hg10)
       have HM10:=aa hm10;have HG10:=aa hg10;clear hm10 hg10 c0 c1 c2 c3 c4 c5;go_wp2_with fail
       go_roundw
       case rel=>
        refine⟨k+1,by omega,by go_num,HTN.out, ?_, ?_⟩
        ·rw[List.take_add_one,HAT.out,List.map_append]; exact HM10.out
        ·exact HB9.out.grown HG10.out HB9.out.size (fun k e=>by cases e; exact Nat.le_refl _)
       case measure=>simp[intOf]; omega
      ·have e1:q.toList.isEmpty=false:=by rw[lk,HBQ.out,decide_eq_false h0]
       have HDI:=aa (show ∀x,(match fr (L.take k) q with | none=>(4:Int) | some f=>if f.kind=2 then 0 else 13)=x->cg (L.take k) e=x from fun x hx=>by unfold cg; rw[if_pos HCV.out]; unfold jz; rw[if_neg h0,<-HQ.out]; exact hx);clear h0
       cases hf:fr (L.take k) q with
       | none=>
        have HF:=aa hf;have HCA:=aa (HDI.out 4 (by rw[hf]));clear hf;refine(eB e.path q _ (HE.out.below HB8.out) (bL HVE.out) HQ.out).mono ?_;rintro e9 w9 ⟨rfl,hb9⟩;have HL9:=aa (HL8.out.trans (hb9.mono HL8.out.size));have HB9:=aa (ag HB8.out hb9);have HX9:=aa ((hb9.block wr.heap.size (lc HX8.out)).trans HX8.out);have HK9:=aa (HKM.out.same (HL9.out.block w.heap.size HKM.out.lt))
        clear hb9;have c0:=ai (k:=0) HX9.out;have c1:=ai (k:=1) HX9.out;have c2:=ai (k:=2) HX9.out;have c3:=ai (k:=3) HX9.out;have c4:=ai (k:=4) HX9.out;have c5:=ai (k:=5) HX9.out;simp only[kJ]at c0 c1 c2 c3 c4 c5;have hlk:=lW HK9.out HQS.out HF.out;go_wp2_with fail;go_ret;exact⟨cC (by rw[eb HL4.out HTR.out HAT.out (x:=4) HCA.out (by decide)]),HB9.out⟩
       | some f=>
        have HF:=aa hf
        by_cases hk2:f.kind=2
        ·have e3:(f.kind != 2)=false:=by simp[hk2]
         have HTN:=aa (ge HTR.out HAT.out (HDI.out 0 (by rw[hf]; simp only[if_pos hk2])));clear hf hk2;refine(eB e.path q _ (HE.out.below HB8.out) (bL HVE.out) HQ.out).mono ?_;rintro e9 w9 ⟨rfl,hb9⟩;have HL9:=aa (HL8.out.trans (hb9.mono HL8.out.size));have HB9:=aa (ag HB8.out hb9);have HX9:=aa ((hb9.block wr.heap.size (lc HX8.out)).trans HX8.out);have HK9:=aa (HKM.out.same (HL9.out.block w.heap.size HKM.out.lt))
         clear hb9;have c0:=ai (k:=0) HX9.out;have c1:=ai (k:=1) HX9.out;have c2:=ai (k:=2) HX9.out;have c3:=ai (k:=3) HX9.out;have c4:=ai (k:=4) HX9.out;have c5:=ai (k:=5) HX9.out;simp only[kJ]at c0 c1 c2 c3 c4 c5;have hlk:=iA HK9.out HQS.out HF.out;go_wp2_with (at_mapUpdate; go_must (refine eC cz rfl _ _ _ _ rfl fT w.heap.size _ HK9.out rfl (.string e.path) (.int .i64 e.kind) rfl rfl (cG HOK.out.pth) (iB (by have h1:=HTN.out; rw[List.take_add_one,HAT.out]at h1; exact h1)) ?_); intro w10 hm10 hg10)
         have HM10:=aa hm10;have HG10:=aa hg10;clear hm10 hg10 c0 c1 c2 c3 c4 c5;go_wp2_with fail
         go_roundw
         case rel=>
          refine⟨k+1,by omega,by go_num,HTN.out, ?_, ?_⟩
          ·rw[List.take_add_one,HAT.out,List.map_append]; exact HM10.out
          ·exact HB9.out.grown HG10.out HB9.out.size (fun k e=>by cases e; exact Nat.le_refl _)
         case measure=>simp[intOf]; omega
        ·have e3:(f.kind != 2)=true:=by simp[hk2]
         have HCA:=aa (HDI.out 13 (by rw[hf]; simp only[if_neg hk2]));clear hf hk2;refine(eB e.path q _ (HE.out.below HB8.out) (bL HVE.out) HQ.out).mono ?_;rintro e9 w9 ⟨rfl,hb9⟩;have HL9:=aa (HL8.out.trans (hb9.mono HL8.out.size));have HB9:=aa (ag HB8.out hb9);have HX9:=aa ((hb9.block wr.heap.size (lc HX8.out)).trans HX8.out);have HK9:=aa (HKM.out.same (HL9.out.block w.heap.size HKM.out.lt))
         clear hb9;have c0:=ai (k:=0) HX9.out;have c1:=ai (k:=1) HX9.out;have c2:=ai (k:=2) HX9.out;have c3:=ai (k:=3) HX9.out;have c4:=ai (k:=4) HX9.out;have c5:=ai (k:=5) HX9.out;simp only[kJ]at c0 c1 c2 c3 c4 c5;have hlk:=iA HK9.out HQS.out HF.out;go_wp2_with fail;go_ret;exact⟨cC (by rw[eb HL4.out HTR.out HAT.out (x:=13) HCA.out (by decide)]),HB9.out⟩
     ·obtain⟨j,rfl⟩: ∃j,k=j+1:=⟨k-1,by omega⟩;obtain⟨f,hf⟩: ∃f,L[j]? =some f:=⟨L[j]'(by rw[<-HN.out]; omega),by simp⟩;obtain⟨b',o',dv',he',-,-,-,hokf,-,p0,-⟩:=iw (HV.out.below HBR.out) hf;simp only[Option.some.injEq,Addr.mk.injEq,and_true]at he';obtain⟨rfl,rfl⟩:=he';have HPF:=aa hokf.pth;obtain⟨c,hc⟩: ∃c,bG (bl f.path) (bl e.path)=c:=⟨_,rfl⟩
      have HC:=aa hc;have e9:decide (0<j+1)=true:=by simp
      have hjn:j<n:=by omega
      have hjn2:(j:Int)<(n:Int):=by omega
      have hjn3:decide (j<n)=true:=by simp; omega
      have hwj:IntKind.i64.wrap (j:Int)=j:=by rw[IntKind.wrap_i64]; omega
      have HAF:=aa (show gH (L.take (j+1)) e=decide (c<0) by rw[vW hf,hc]);clear hf hokf hc hk0
      by_cases hneg:c<0
      ·have HCV:=aa (show(dC e && gH (L.take (j+1)) e)=true by rw[HVE.out,HAF.out,decide_eq_true hneg]; rfl);have e8:decide (0<=c)=false:=by simp; omega
       go_wp2_with fail;obtain⟨W,hW⟩: ∃W,W=wr.alloc (.cells #[.string e.path, .int .i64 e.kind, .int .i64 e.mode, .int .i64 e.time, .slice a1 e.data.length cap1, .string e.link] 30):=⟨_,rfl⟩;rw[<-hW];have HX:=aa (show W.heap[wr.heap.size]? =some (.cells #[.string e.path, .int .i64 e.kind, .int .i64 e.mode, .int .i64 e.time, .slice a1 e.data.length cap1, .string e.link] 30 (0,0)) by rw[hW]; exact kP wr _)
       have HWL:=aa (show Below wr.heap.size wr W by rw[hW]; exact(Below.refl _ _).alloc (Nat.le_refl _) _);have HBW:=aa (ag HBR.out HWL.out);clear hW;refine(iG S e _ true _ (HD.out.below HWL.out) HOK.out (HE.out.below HBW.out) HVE.out).mono ?_;rintro e7 w7 ⟨rfl,hb7⟩;have HX7:=aa ((hb7.block wr.heap.size (lc HX.out)).trans HX.out);have HL7:=aa (HWL.out.trans (hb7.mono HWL.out.size))
       have c0:=ai (k:=0) HX7.out;have c1:=ai (k:=1) HX7.out;have c2:=ai (k:=2) HX7.out;have c3:=ai (k:=3) HX7.out;have c4:=ai (k:=4) HX7.out;have c5:=ai (k:=5) HX7.out;simp only[kJ]at c0 c1 c2 c3 c4 c5;clear hb7;go_wp2_with fail;refine ak [some 11,none,some 2] (by kernel_rfl) (by kernel_rfl) (by kernel_rfl) ?_;simp only[bb,List.take_succ_cons,List.take_zero,List.drop_succ_cons,List.drop_zero]
       obtain⟨wd,hwd⟩: ∃wd:World,wd=w7.drew:=⟨_,rfl⟩;rw[<-hwd];have HLD:=aa (show Below wr.heap.size wr wd by rw[hwd]; exact HL7.out.trans ((Below.refl w7.heap.size w7).drew.mono HL7.out.size));have HXD:=aa (show wd.heap[wr.heap.size]? =some (.cells #[.string e.path, .int .i64 e.kind, .int .i64 e.mode, .int .i64 e.time, .slice a1 e.data.length cap1, .string e.link] 30 (0,0)) by rw[hwd]; exact HX7.out)
       clear hwd c0 c1 c2 c3 c4 c5;have c0:=ai (k:=0) HXD.out;have c1:=ai (k:=1) HXD.out;have c2:=ai (k:=2) HXD.out;have c3:=ai (k:=3) HXD.out;have c4:=ai (k:=4) HXD.out;have c5:=ai (k:=5) HXD.out;simp only[kJ]at c0 c1 c2 c3 c4 c5;have y0:=(HLD.out.cell (ax p0)).trans p0
       repeat (first | (refine am rfl ?_; simp only[Act.put,aD,aE,aF]) | (refine aA rfl (fun K hK=> ?_); go_simp; refine hK _ ?_; clear hK K))
       refine az ?_;refine bt rfl (fun K hK=> ?_);go_wp2_with (go_at_call 65; refine(fO f.path e.path c _ HPF.out HC.out).mono ?_; rintro e8' w8 ⟨rfl,hb8⟩; have HL8:=aa (HLD.out.trans (hb8.mono HLD.out.size)); have HX8:=aa ((hb8.block wr.heap.size (lc HXD.out)).trans HXD.out); clear hb8 c0 c1 c2 c3 c4 c5 y0)
       repeat (first | (refine am rfl ?_; simp only[Act.put,aD,aE,aF]) | (refine aA rfl (fun K hK=> ?_); go_simp; refine hK _ ?_; clear hK K))
       refine az ?_;have HB8:=aa (ag HBR.out HL8.out);have c0:=ai (k:=0) HX8.out;have c1:=ai (k:=1) HX8.out;have c2:=ai (k:=2) HX8.out;have c3:=ai (k:=3) HX8.out;have c4:=ai (k:=4) HX8.out;have c5:=ai (k:=5) HX8.out;simp only[kJ]at c0 c1 c2 c3 c4 c5;go_wp2_with fail
       by_cases h0:aM (bl e.path)=[]
       ·have e1:q.toList.isEmpty=true:=by rw[lk,HBQ.out,decide_eq_true h0]
        have HTN:=aa (ge HTR.out HAT.out (show cg (L.take (j+1)) e=0 by unfold cg; rw[if_pos HCV.out]; unfold jz; rw[if_pos h0]));clear h0;refine(eB e.path q _ (HE.out.below HB8.out) (bL HVE.out) HQ.out).mono ?_;rintro e9 w9 ⟨rfl,hb9⟩;have HL9:=aa (HL8.out.trans (hb9.mono HL8.out.size));have HB9:=aa (ag HB8.out hb9);have HX9:=aa ((hb9.block wr.heap.size (lc HX8.out)).trans HX8.out)
        have HK9:=aa (HKM.out.same (HL9.out.block w.heap.size HKM.out.lt));clear hb9;have c0:=ai (k:=0) HX9.out;have c1:=ai (k:=1) HX9.out;have c2:=ai (k:=2) HX9.out;have c3:=ai (k:=3) HX9.out;have c4:=ai (k:=4) HX9.out;have c5:=ai (k:=5) HX9.out;simp only[kJ]at c0 c1 c2 c3 c4 c5;go_wp2_with (at_mapUpdate; go_must (refine eC cz rfl _ _ _ _ rfl fT w.heap.size _ HK9.out rfl (.string e.path) (.int .i64 e.kind) rfl rfl (cG HOK.out.pth) (iB (by have h1:=HTN.out; rw[List.take_add_one,HAT.out]at h1; exact h1)) ?_); intro w10 hm10 hg10)
        have HM10:=aa hm10;have HG10:=aa hg10;clear hm10 hg10 c0 c1 c2 c3 c4 c5;go_wp2_with fail
        go_roundw
        case rel=>
         refine⟨j+1+1,by omega,by go_num,HTN.out, ?_, ?_⟩
         ·rw[List.take_add_one,HAT.out,List.map_append]; exact HM10.out
         ·exact HB9.out.grown HG10.out HB9.out.size (fun k e=>by cases e; exact Nat.le_refl _)
        case measure=>simp[intOf]; omega
       ·have e1:q.toList.isEmpty=false:=by rw[lk,HBQ.out,decide_eq_false h0]
        have HDI:=aa (show ∀x,(match fr (L.take (j+1)) q with | none=>(4:Int) | some g=>if g.kind=2 then 0 else 13)=x->cg (L.take (j+1)) e=x from fun x hx=>by unfold cg; rw[if_pos HCV.out]; unfold jz; rw[if_neg h0,<-HQ.out]; exact hx);clear h0
        cases hf:fr (L.take (j+1)) q with
        | none=>
         have HF:=aa hf;have HCA:=aa (HDI.out 4 (by rw[hf]));clear hf;refine(eB e.path q _ (HE.out.below HB8.out) (bL HVE.out) HQ.out).mono ?_;rintro e9 w9 ⟨rfl,hb9⟩;have HL9:=aa (HL8.out.trans (hb9.mono HL8.out.size));have HB9:=aa (ag HB8.out hb9);have HX9:=aa ((hb9.block wr.heap.size (lc HX8.out)).trans HX8.out);have HK9:=aa (HKM.out.same (HL9.out.block w.heap.size HKM.out.lt))
         clear hb9;have c0:=ai (k:=0) HX9.out;have c1:=ai (k:=1) HX9.out;have c2:=ai (k:=2) HX9.out;have c3:=ai (k:=3) HX9.out;have c4:=ai (k:=4) HX9.out;have c5:=ai (k:=5) HX9.out;simp only[kJ]at c0 c1 c2 c3 c4 c5;have hlk:=lW HK9.out HQS.out HF.out;go_wp2_with fail;go_ret;exact⟨cC (by rw[eb HL4.out HTR.out HAT.out (x:=4) HCA.out (by decide)]),HB9.out⟩
        | some g=>
         have HF:=aa hf
         by_cases hk2:g.kind=2
         ·have e3:(g.kind != 2)=false:=by simp[hk2]
          have HTN:=aa (ge HTR.out HAT.out (HDI.out 0 (by rw[hf]; simp only[if_pos hk2])));clear hf hk2;refine(eB e.path q _ (HE.out.below HB8.out) (bL HVE.out) HQ.out).mono ?_;rintro e9 w9 ⟨rfl,hb9⟩;have HL9:=aa (HL8.out.trans (hb9.mono HL8.out.size));have HB9:=aa (ag HB8.out hb9);have HX9:=aa ((hb9.block wr.heap.size (lc HX8.out)).trans HX8.out);have HK9:=aa (HKM.out.same (HL9.out.block w.heap.size HKM.out.lt))
          clear hb9;have c0:=ai (k:=0) HX9.out;have c1:=ai (k:=1) HX9.out;have c2:=ai (k:=2) HX9.out;have c3:=ai (k:=3) HX9.out;have c4:=ai (k:=4) HX9.out;have c5:=ai (k:=5) HX9.out;simp only[kJ]at c0 c1 c2 c3 c4 c5;have hlk:=iA HK9.out HQS.out HF.out;go_wp2_with (at_mapUpdate; go_must (refine eC cz rfl _ _ _ _ rfl fT w.heap.size _ HK9.out rfl (.string e.path) (.int .i64 e.kind) rfl rfl (cG HOK.out.pth) (iB (by have h1:=HTN.out; rw[List.take_add_one,HAT.out]at h1; exact h1)) ?_); intro w10 hm10 hg10)
          have HM10:=aa hm10;have HG10:=aa hg10;clear hm10 hg10 c0 c1 c2 c3 c4 c5;go_wp2_with fail
          go_roundw
          case rel=>
           refine⟨j+1+1,by omega,by go_num,HTN.out, ?_, ?_⟩
           ·rw[List.take_add_one,HAT.out,List.map_append]; exact HM10.out
           ·exact HB9.out.grown HG10.out HB9.out.size (fun k e=>by cases e; exact Nat.le_refl _)
          case measure=>simp[intOf]; omega
         ·have e3:(g.kind != 2)=true:=by simp[hk2]
          have HCA:=aa (HDI.out 13 (by rw[hf]; simp only[if_neg hk2]));clear hf hk2;refine(eB e.path q _ (HE.out.below HB8.out) (bL HVE.out) HQ.out).mono ?_;rintro e9 w9 ⟨rfl,hb9⟩;have HL9:=aa (HL8.out.trans (hb9.mono HL8.out.size));have HB9:=aa (ag HB8.out hb9);have HX9:=aa ((hb9.block wr.heap.size (lc HX8.out)).trans HX8.out);have HK9:=aa (HKM.out.same (HL9.out.block w.heap.size HKM.out.lt))
          clear hb9;have c0:=ai (k:=0) HX9.out;have c1:=ai (k:=1) HX9.out;have c2:=ai (k:=2) HX9.out;have c3:=ai (k:=3) HX9.out;have c4:=ai (k:=4) HX9.out;have c5:=ai (k:=5) HX9.out;simp only[kJ]at c0 c1 c2 c3 c4 c5;have hlk:=iA HK9.out HQS.out HF.out;go_wp2_with fail;go_ret;exact⟨cC (by rw[eb HL4.out HTR.out HAT.out (x:=13) HCA.out (by decide)]),HB9.out⟩
      ·have HCA:=aa (show cg (L.take (j+1)) e=1 by unfold cg; rw[HAF.out,decide_eq_false hneg]; simp);have e8:decide (0<=c)=true:=by simp; omega
       have e7:0<=c:=by omega
       go_wp2_with fail;obtain⟨W,hW⟩: ∃W,W=wr.alloc (.cells #[.string e.path, .int .i64 e.kind, .int .i64 e.mode, .int .i64 e.time, .slice a1 e.data.length cap1, .string e.link] 30):=⟨_,rfl⟩;rw[<-hW];have HX:=aa (show W.heap[wr.heap.size]? =some (.cells #[.string e.path, .int .i64 e.kind, .int .i64 e.mode, .int .i64 e.time, .slice a1 e.data.length cap1, .string e.link] 30 (0,0)) by rw[hW]; exact kP wr _)
       have HWL:=aa (show Below wr.heap.size wr W by rw[hW]; exact(Below.refl _ _).alloc (Nat.le_refl _) _);have HBW:=aa (ag HBR.out HWL.out);clear hW;refine(iG S e _ true _ (HD.out.below HWL.out) HOK.out (HE.out.below HBW.out) HVE.out).mono ?_;rintro e7 w7 ⟨rfl,hb7⟩;have HX7:=aa ((hb7.block wr.heap.size (lc HX.out)).trans HX.out);have HL7:=aa (HWL.out.trans (hb7.mono HWL.out.size))
       have c0:=ai (k:=0) HX7.out;have c1:=ai (k:=1) HX7.out;have c2:=ai (k:=2) HX7.out;have c3:=ai (k:=3) HX7.out;have c4:=ai (k:=4) HX7.out;have c5:=ai (k:=5) HX7.out;simp only[kJ]at c0 c1 c2 c3 c4 c5;clear hb7;go_wp2_with fail;refine ak [some 11,none,some 2] (by kernel_rfl) (by kernel_rfl) (by kernel_rfl) ?_;simp only[bb,List.take_succ_cons,List.take_zero,List.drop_succ_cons,List.drop_zero]
       obtain⟨wd,hwd⟩: ∃wd:World,wd=w7.drew:=⟨_,rfl⟩;rw[<-hwd];have HLD:=aa (show Below wr.heap.size wr wd by rw[hwd]; exact HL7.out.trans ((Below.refl w7.heap.size w7).drew.mono HL7.out.size));have HXD:=aa (show wd.heap[wr.heap.size]? =some (.cells #[.string e.path, .int .i64 e.kind, .int .i64 e.mode, .int .i64 e.time, .slice a1 e.data.length cap1, .string e.link] 30 (0,0)) by rw[hwd]; exact HX7.out)
       clear hwd c0 c1 c2 c3 c4 c5;have c0:=ai (k:=0) HXD.out;have c1:=ai (k:=1) HXD.out;have c2:=ai (k:=2) HXD.out;have c3:=ai (k:=3) HXD.out;have c4:=ai (k:=4) HXD.out;have c5:=ai (k:=5) HXD.out;simp only[kJ]at c0 c1 c2 c3 c4 c5;have y0:=(HLD.out.cell (ax p0)).trans p0
       repeat (first | (refine am rfl ?_; simp only[Act.put,aD,aE,aF]) | (refine aA rfl (fun K hK=> ?_); go_simp; refine hK _ ?_; clear hK K))
       refine az ?_;refine bt rfl (fun K hK=> ?_);go_wp2_with (go_at_call 65; refine(fO f.path e.path c _ HPF.out HC.out).mono ?_; rintro e8' w8 ⟨rfl,hb8⟩; have HL8:=aa (HLD.out.trans (hb8.mono HLD.out.size)); clear hb8 c0 c1 c2 c3 c4 c5 y0)
       repeat (first | (refine am rfl ?_; simp only[Act.put,aD,aE,aF]) | (refine aA rfl (fun K hK=> ?_); go_simp; refine hK _ ?_; clear hK K))
       refine az ?_;have HB9:=aa (ag HBR.out HL8.out);go_wp2_with fail;go_ret;exact⟨cC (by rw[eb HL4.out HTR.out HAT.out (x:=1) HCA.out (by decide)]),HB9.out⟩
   ·have hk2:k=n:=by omega
    subst hk2;go_wp2_with fail;go_ret;exact⟨cC (by rw[re HL4.out (by rw[<-HN.out]; exact HTR.out)]),HBR.out⟩
open Go Go.RowKit Go.Maps
theorem fy {W:World} {b n sz:Nat} {cells:List Value} {t:TypeId} (h:W.heap[b]? =some (.cells cells.toArray t (0,0))) (hl:cells.length=n*sz) (hn:n<=maxLen):aB (fun k=>k=b) W sz (.slice (some ⟨b,0,none⟩) n n) n cells:=
 ⟨hl,some ⟨b,0,none⟩,n,rfl,Nat.le_refl _,hn, .inr ⟨b,0,rfl,rfl,fun j u hj=>by rw[af h,Nat.zero_add,List.getElem?_toArray]; exact hj⟩⟩
theorem iZ {S:Nat->Prop} {w:World} {v:Value} {bs:List UInt8} (h:aR S w v bs):(convert 28 9 v).run Tryz.prog w= .ok (.string ⟨bs.toArray⟩) w:=by
 have h1:=uc (S:=S) (w:=w) (v:=v) (bs:=bs) h;rw[qC]at h1;exact h1
end Go.Proofs.YtnjkpcalgoefhaaGreatDoor
