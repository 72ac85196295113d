/- Texts of this proof, one after the other: EncB, EncC, RdrC, Codec, CompP, CodecB, SealA, SealB, RollP, ChkP, RollA, RollB, MarkA, MarkB, MarkC, Rng, RngP, EndA, MapS, Glob, OrdP, RefP, TreeP, TreeQ, Ent, TreeM, FtA, FtB, EndB, RoundR. -/
import Derived.Test.YtpffpjbkbaleiaaGreatDoorCFilesB
set_option maxRecDepth 100000
set_option maxHeartbeats 8000000
namespace Go.Proofs.YtpffpjbkbaleiaaGreatDoor
open Go.RowKit
structure Cn where
 kind:Int
 u:Nat
 n:Int
 b:Bool
 s:ByteArray
 most:Int
theorem sH (s:ByteArray):Lib.strCells s=(bl s).map an:=rfl
theorem jA {ops:Array Oper} {rest:List Oper} {o:Oper} {a:Act} {Q:Exit->Act->World->Prop} {w:World} (hgd:o.guard=none) (sl x:Operand)
  (ho:o.op= .call {callee:= .builtin .append,args:= #[sl,x],argTypes:= #[29,9]}) (base:Nat) (v:Value) (acc:List UInt8) (hs:a.eval sl=v) (hown:w.ownsRow base 5 1 v acc.length (acc.map an)) (s:ByteArray) (hx:a.eval x= .string s)
  (hn:acc.length+s.size<1099511627775) (hbase:base<=w.heap.size)
  (h: ∀v' w',w'.ownsRow base 5 1 v' (acc.length+s.size) (acc.map an++(bl s).map an)->w.grownBy w' v.ownBlock->wpList Tryz.prog ops Q rest (a.put o.dst v') w'):wpList Tryz.prog ops Q (o::rest) a w:=by
 obtain⟨ht,⟨i,z,h11,h12,h13,h14,h15⟩,hpos,hsm⟩:=Tryz.appBytes;have hz:i.zero=some (.int .u8 0):=by
  have:(Tryz.prog.info? 5).map (fun i=>i.zero)=some (some (.int .u8 0)):=by kernel_rfl
  rw[h11]at this;exact Option.some.inj this
 refine Lib.wpList_append_own_string w hgd sl x 29 9 ho base 5 i ht Tryz.underlying9 h11 hz h13 h14 v acc.length _ hs hown s hx (by unfold maxLen; omega) (by omega) hbase fun v' w' h1 h2 _=>h v' w' ?_ h2
 rw[<-sH];exact h1
end Go.Proofs.YtpffpjbkbaleiaaGreatDoor
namespace Go.Proofs.YtpffpjbkbaleiaaGreatDoor
open Go.RowKit
theorem wrap_u64 (n:Int):IntKind.u64.wrap n=((n%18446744073709551616).toNat:Int):=by rw[IntKind.wrap_u64]; omega
end Go.Proofs.YtpffpjbkbaleiaaGreatDoor
namespace Go.Proofs.YtpffpjbkbaleiaaGreatDoor
open Go.RowKit
theorem set3 {w:World} {b:Nat} {a0 a1 a2 x0 x1 x2:Value} {t:TypeId} (h:w.heap[b]? =some (.cells #[a0,a1,a2] t (0,0))):
  (((w.setCell ⟨b,0,none⟩ x0).setCell ⟨b,1,none⟩ x1).setCell ⟨b,2,none⟩ x2).heap[b]? =some (.cells #[x0,x1,x2] t (0,0)):=cQ (cQ (cQ h x0) x1) x2
end Go.Proofs.YtpffpjbkbaleiaaGreatDoor
namespace Go.Proofs.YtpffpjbkbaleiaaGreatDoor
open Go.RowKit
theorem nj : ∀(f n j:Nat),1<=j->n<2^(7*j)->(lL f n).length<=j
 | 0,n,j,hj,_=>by simpa [lL]using hj
 | f+1,n,j,hj,h=>by
  rw[lL]
  by_cases hn:127<n
  ·rw[if_pos hn,List.length_cons];obtain⟨j,rfl⟩: ∃k,j=k+1:=⟨j-1,by omega⟩;have hj1:1<=j:=by
    rcases Nat.eq_zero_or_pos j with e | e
    ·subst e; simp at h; omega
    ·exact e
   have:=nj f (n/128) j hj1 (by
    rw[show 7*(j+1)=7*j+7 by omega,Nat.pow_add]at h;exact Nat.div_lt_of_lt_mul (by omega))
   omega
  ·rw[if_neg hn]; simpa using hj
theorem cY {n:Nat} (h:n<18446744073709551616):(aP n).length<=10:=nj 10 n 10 (by decide) (Nat.lt_trans h (by decide))
def Ok (data:List UInt8) (s:RS):Prop:=s.err=0/\s.off<=data.length
def cZ (r:aN):List UInt8:=bl r.name++(aP r.gen.toNat++aP r.size.toNat)
theorem kD {r:aN} :eA r=true<->r.name.size=32/\0<=r.gen/\r.gen<=1099511627776/\0<=r.size/\r.size<=32768:=by unfold eA; simp[and_assoc]
end Go.Proofs.YtpffpjbkbaleiaaGreatDoor
namespace Go.Proofs.YtpffpjbkbaleiaaGreatDoor
open Go.RowKit
theorem mH (l:List UInt8):cV l=(aZ l && !l.contains 47):=by
 by_cases h:(47:UInt8)∈l
 ·have h1:l.contains 47=true:=by simpa using h
  have h2:cV l=false:=by unfold cV; rw[h1]; simp
  rw[h1,h2]; simp
 ·have h1:l.contains 47=false:=by simpa using h
  rw[h1];unfold aZ;rw[dG 47 l h]
  cases hc:cV l
  ·simp[hc]
  ·have h2:l.length<=64:=by
    unfold cV at hc;simp only[Bool.and_eq_true,decide_eq_true_eq]at hc;exact hc.1.1.1.1.2
   simp[hc]; omega
end Go.Proofs.YtpffpjbkbaleiaaGreatDoor
namespace Go.Proofs.YtpffpjbkbaleiaaGreatDoor
open Go.RowKit
def kg (it:aE):List UInt8:=
 if it.kind=1 then aP it.chunks.length++it.chunks.flatMap cZ else if it.kind=2 then cZ it.node else aP it.link.size++bl it.link
def cX (it:aE):List UInt8:=aP it.name.size++(bl it.name++(aP it.kind.toNat++(aP it.mode.toNat++(aP it.time.toNat++kg it))))
def dg (l:List aE):List UInt8:=aP l.length++l.flatMap cX
structure Bg (it : aE) : Prop where
 val:aZ (bl it.name)=true
 nos:(bl it.name).contains 47=false
 md0:0<=it.mode
 md1:it.mode<=511
 tm0:0<=it.time
theorem rq {it:aE} :lF it=true<->Bg it:=by
 unfold lF
 constructor
 ·intro h;simp only[Bool.and_eq_true,decide_eq_true_eq,Bool.not_eq_true']at h;exact⟨h.1.1,h.1.2,h.2.1.1,h.2.1.2,h.2.2⟩
 ·intro h;simp only[Bool.and_eq_true,decide_eq_true_eq,Bool.not_eq_true'];exact⟨⟨h.val,h.nos⟩,⟨h.md0,h.md1⟩,h.tm0⟩
theorem gz {it:aE} (hk:it.kind=1) (h:bF it=true):it.link=⟨#[]⟩/\it.node=bq/\(∀c∈it.chunks,eA c=true/\1<=c.size)/\it.size=eK it.chunks/\it.size<=1048576:=by
 unfold bF at h;rw[if_pos hk]at h;unfold bL at h;simp only[Bool.and_eq_true,decide_eq_true_eq,List.all_eq_true]at h;refine⟨?_,h.1.2,fun c hc=> ?_,h.2.2.1,h.2.2.2⟩
 ·apply eE
  have:=h.1.1;rw[ar]at this;rw[List.eq_nil_of_length_eq_zero this]; rfl
 ·have:=h.2.1 c hc;unfold eL at this;simp only[Bool.and_eq_true,decide_eq_true_eq]at this;exact⟨this.1,by have:=this.2; omega⟩
theorem xY {it:aE} (hk:it.kind=2) (h:bF it=true):it.link=⟨#[]⟩/\it.size=0/\it.chunks=[]/\eA it.node=true:=by
 unfold bF at h;rw[if_neg (by omega),if_pos hk]at h;simp only[Bool.and_eq_true,decide_eq_true_eq]at h;refine⟨?_,h.1.1.2,List.eq_nil_of_length_eq_zero h.1.2,h.2⟩
 apply eE
 have:=h.1.1.1;rw[ar]at this;rw[List.eq_nil_of_length_eq_zero this]; rfl
theorem vy {it:aE} (hk:it.kind=3) (h:bF it=true):it.size=0/\it.chunks=[]/\it.node=bq/\1<=it.link.size/\it.link.size<=512/\(bl it.link).contains 0=false:=by
 unfold bF at h;rw[if_neg (by omega),if_neg (by omega),if_pos hk]at h;simp only[Bool.and_eq_true,decide_eq_true_eq,Bool.not_eq_true']at h;exact⟨h.1.1.1,List.eq_nil_of_length_eq_zero h.1.1.2,h.1.2,h.2.1.1,h.2.1.2,h.2.2⟩
theorem vw {it:aE} (h:bF it=true):it.kind=1\/it.kind=2\/it.kind=3:=by
 unfold bF at h
 by_cases h1:it.kind=1
 ·exact .inl h1
 ·by_cases h2:it.kind=2
  ·exact .inr (.inl h2)
  ·by_cases h3:it.kind=3
   ·exact .inr (.inr h3)
   ·rw[if_neg h1,if_neg h2,if_neg h3]at h; cases h
theorem qV {l:List UInt8} (h:aZ l=true) (h2:l.contains 47=false):l.length<=64:=by
 have:=mH l;rw[h,h2]at this;unfold cV at this;simp only[Bool.not_false,Bool.and_self,Bool.and_eq_true,decide_eq_true_eq]at this;omega
theorem nL : ∀ {l:List aE} {p:Option ByteArray},dA p l=true-> ∀it∈l,bT it=true
 | it::l,p,h,x,hx=>by
  rw[dA,Bool.and_eq_true,Bool.and_eq_true]at h
  rcases List.mem_cons.1 hx with rfl | hx
  ·exact h.1.1
  ·exact nL h.2 x hx
theorem pH {l:List aE} (h:dZ l=true):l.length<=4096/\ ∀it∈l,bT it=true:=by
 unfold dZ at h;rw[Bool.and_eq_true,decide_eq_true_eq]at h;exact⟨h.1,nL h.2⟩
end Go.Proofs.YtpffpjbkbaleiaaGreatDoor
namespace Go.Proofs.YtpffpjbkbaleiaaGreatDoor
open Go Go.RowKit
theorem Ca {x:Nat} (h:x<256):x ||| 128=x%128+128:=by
 have: ∀y:Fin 256,y.val ||| 128=y.val%128+128:=by decide
 exact this ⟨x,h⟩
theorem vC (n:Nat):Value.int .u8 (bits BinOp.or IntKind.u8 ((n:Int)%256) 128)=an (UInt8.ofNat (n%128+128)):=by
 rw[kI (by omega),show((n:Int)%256)=((n%256:Nat):Int) by omega,show(128:Int)=((128:Nat):Int)from rfl,u8_or_nat _ _ (by omega) (by decide),Ca (by omega)]
 congr 2
 omega
theorem vB {n:Nat} (h:n<256):Value.int .u8 (n:Int)=an (UInt8.ofNat n):=(kI h).symm
def fO (w:World) (base:Nat) (v:Value) (acc:List UInt8):Prop:=w.ownsRow base 5 1 v acc.length (acc.map an)
def Bh (base:Nat) (v:Value) (acc:List UInt8) (w:World) (e:Ending) (w':World):Prop:= ∃v',e= .returned v'/\fO w' base v' acc/\w.grownBy w' v.ownBlock/\(∀k,v'.ownBlock=some k->v.ownBlock=some k\/w.heap.size<=k)
structure zP (base : Nat) (v : Value) (w : World) (x : Value) (ac : List UInt8) (wr : World) : Prop where
 own:fO wr base x ac
 grown:w.grownBy wr v.ownBlock
 place: ∀k,x.ownBlock=some k->v.ownBlock=some k\/w.heap.size<=k
theorem zP.next {base:Nat} {v:Value} {w:World} {x:Value} {ac:List UInt8} {wr wc:World} {v' u:Value} {n:Nat} {b:UInt8} (h:zP base v w x ac wr) (h1:wc.ownsRow base 5 1 v' (n+1) (ac.map an++[u])) (h2:wr.grownBy wc x.ownBlock) (h3: ∀k,v'.ownBlock=some k->x.ownBlock=some k\/wr.heap.size<=k)
  (hn:n=ac.length) (hu:u=an b):zP base v w v' (ac++[b]) wc:=by
 subst hn hu;refine⟨by unfold fO; simpa using h1,⟨h2.os.trans h.grown.os,h2.tape.trans h.grown.tape,h2.output.trans h.grown.output,Nat.le_trans h.grown.size h2.size,fun k hk hne=> ?_⟩,fun k hk=> ?_⟩
 ·rw[h2.block k (Nat.lt_of_lt_of_le hk h.grown.size) (fun e=> ?_)]
  ·exact h.grown.block k hk hne
  ·rcases h.place k e.symm with e2 | e2
   ·exact hne e2.symm
   ·omega
 ·rcases h3 k hk with e | e
  ·exact h.place k e
  ·exact .inr (Nat.le_trans h.grown.size e)
theorem jI (base:Nat) (v:Value) (acc:List UInt8) (n:Nat) (w:World) (hv:fO w base v acc) (hb:base<=w.heap.size) (hl:acc.length<1099511000000) (hn:n<18446744073709551616):
  Calls Tryz.prog 100 #[v, .int .u64 (n:Int)] w (Bh base v (acc++aP n) w):=by
 have HV:=ab hv;obtain⟨a0,c0,rfl,h10,h20⟩:=aj hv;clear hv
 go_enter Tryz.func100,Tryz.ntmps100
 go_wp2_with fail
 go_loopw [0,1] (fun x y wr=> ∃(f m:Nat) (ac:List UInt8),y= .int .u64 (m:Int)/\m<18446744073709551616/\m<2^(7*f)/\ac++lL f m=acc++aP n/\zP base (.slice a0 acc.length c0) w x ac wr) (fun _ y _=>(intOf y).toNat)
 case atStart=>exact⟨10,n,acc,rfl,hn,Nat.lt_trans hn (by decide),rfl,HV.out,gU _ _,fun k hk=> .inl hk⟩
 case round=>
  obtain⟨f,m,ac,rfl,hm,hmf,henc,hinv⟩:=hrel;obtain⟨ax,cx,rfl,h1,h2⟩:=aj hinv.own;obtain⟨xl,hxl⟩: ∃xl,xl=ac.length:=⟨_,rfl⟩;rw[<-hxl]at hinv h1 ⊢;have HI:=ab hinv;have HXL:=ab hxl;have HO:=ab (show wr.ownsRow base 5 1 (.slice ax xl cx) xl (ac.map an) by have:=hinv.own; unfold fO at this; rw[<-hxl]at this; exact this);have HE:=ab henc;have HMF:=ab hmf
  have hbz:base<=wr.heap.size:=by have:=hinv.grown.size; omega
  have hlen:=congrArg List.length henc;rw[List.length_append,List.length_append]at hlen;have:=cJ n;have hxb:xl<1099511627775:=by omega
  clear hinv henc hmf hlen this hxl
  by_cases hlt:127<m
  ·have HV:=ab (vC m);have HZ:=ab (show ∀u∈[(Value.int .u8 (bits BinOp.or IntKind.u8 ((m:Int)%256) 128))],u.oneCell'=true by simp[Value.oneCell']);obtain⟨f,rfl⟩: ∃g,f=g+1:=⟨f-1,by
    cases f with
    | zero=>have:=HMF.out; simp at this; omega
    | succ g=>rfl⟩
   have HE2:=ab (show(ac++[UInt8.ofNat (m%128+128)])++lL f (m/128)=acc++aP n by rw[<-HE.out,lL,if_pos hlt]; simp);have HMF2:=ab (show m/128<2^(7*f) by
    have h3:=HMF.out;rw[show 7*(f+1)=7*f+7 by omega,Nat.pow_add]at h3;exact Nat.div_lt_of_lt_mul (by omega))
   go_wp2_with (at_builtin; go_loud (refine aH Tryz.appBytes rfl _ _ rfl base (.slice ax xl cx) xl (ac.map an) rfl wr [Value.int .u8 (bits BinOp.or IntKind.u8 ((m:Int)%256) 128)] _ rfl rfl HZ.out HO.out hxb hbz ?_); intro v' wc hown' hgrow' _ hpl'; go_loud (have HP:=ab (HI.out.next hown' hgrow' hpl' HXL.out HV.out)); obtain⟨ae,ce,rfl,-,-⟩:=aj hown'; clear hown' hgrow' hpl')
   go_roundw
   case rel=>exact⟨f,m/128,_,by simp,by omega,HMF2.out,HE2.out,HP.out⟩
   case measure=>simp[intOf]; omega
  ·have HV:=ab (vB (n:=m) (by omega));have HZ:=ab (show ∀u∈[(Value.int .u8 (m:Int))],u.oneCell'=true by simp[Value.oneCell']);have HE2:=ab (show ac++[UInt8.ofNat m]=acc++aP n by
    rw[<-HE.out]
    cases f with
    | zero=>rfl
    | succ f=>rw[lL,if_neg hlt])
   go_wp2_with (at_builtin; go_loud (refine aH Tryz.appBytes rfl _ _ rfl base (.slice ax xl cx) xl (ac.map an) rfl wr [Value.int .u8 (m:Int)] _ rfl rfl HZ.out HO.out hxb hbz ?_); intro v' wc hown' hgrow' _ hpl'; go_loud (have HP:=ab (HI.out.next hown' hgrow' hpl' HXL.out HV.out)); obtain⟨ae,ce,rfl,-,-⟩:=aj hown'; clear hown' hgrow' hpl');go_ret;rw[<-HE2.out];exact⟨_,rfl,HP.out.own,HP.out.grown,HP.out.place⟩
theorem my (n:Nat) (w:World) (hn:n<18446744073709551616):
  Calls Tryz.prog 176 #[.slice none 0 0, .int .u64 (n:Int)] w fun e w'=> ∃v,e= .returned v/\fO w' w.heap.size v (aP n)/\Below w.heap.size w w':=by
 obtain⟨ht9,⟨i9,z9,h91,h92,h93,h94,h95⟩,-,-⟩:=Tryz.appBytes;have hb32:i9.bytes*10<=281474976710656:=by rw[h94]; decide
 have H9:=ab (And.intro h91 (And.intro h92 (And.intro h93 hb32)));clear h91 h92 h93 h94 h95 hb32
 go_enter Tryz.func176,Tryz.ntmps176
 go_wp2_with (first | (refine wpList_make_own _ rfl _ _ 29 rfl w.heap.size 5 i9 z9 1 Tryz.underlying29 H9.out.1 H9.out.2.1 H9.out.2.2.1 .i64 .i64 10 10 rfl rfl rfl H9.out.2.2.2 (by decide) (Nat.le_refl _) ?_; intro w4 hown4 hg4; have HO4:=ab hown4; have HG4:=ab hg4; clear hown4 hg4));refine(jI w.heap.size _ [] n w4 HO4.out HG4.out.size (by simp) hn).mono ?_;rintro e w5 ⟨v',rfl,ho5,hg5,-⟩
 rw[List.nil_append]at ho5;have HO5:=ab ho5;have HB5:=ab ((dQ HG4.out).grown hg5 HG4.out.size (fun k hk=>by cases hk; exact Nat.le_refl _));obtain⟨a5,c5,rfl,-,-⟩:=aj ho5;clear ho5 hg5;go_wp2_with fail;go_ret;exact⟨_,rfl,HO5.out,HB5.out⟩
end Go.Proofs.YtpffpjbkbaleiaaGreatDoor
namespace Go.Proofs.YtpffpjbkbaleiaaGreatDoor
open Go Go.RowKit
structure bu where
 nm:ByteArray
 st:ByteArray
 ck:ByteArray
 ix:ByteArray
 tk:ByteArray
def bu.list (k:bu):List ByteArray:=[k.nm,k.st,k.ck,k.ix,k.tk]
def cD (k:bu):List Value:=[.string k.nm, .string k.st, .string k.ck, .string k.ix, .string k.tk]
def gD (k:bu):Value:= .agg #[.string k.nm, .string k.st, .string k.ck, .string k.ix, .string k.tk]
def eW (k:bu):Bool:=k.list.all fun s=>decide (s.size=32)
theorem vV (k:bu) {j:Nat} (h:j<5): ∃s,k.list[j]? =some s/\(cD k)[j]? =some (.string s):=by
 have hc:j=0\/j=1\/j=2\/j=3\/j=4:=by omega
 rcases hc with rfl | rfl | rfl | rfl | rfl
 ·exact⟨_,rfl,rfl⟩
 ·exact⟨_,rfl,rfl⟩
 ·exact⟨_,rfl,rfl⟩
 ·exact⟨_,rfl,rfl⟩
 ·exact⟨_,rfl,rfl⟩
theorem oq (k:bu) (w:World):Calls Tryz.prog 115 #[gD k] w fun e w'=>e= .returned (.bool (eW k))/\Below w.heap.size w w':=by
 unfold gD
 go_enter Tryz.func115,Tryz.ntmps115
 go_wp2_with fail;obtain⟨W1,hW1⟩: ∃W1,W1=(w.alloc (.cells #[.string k.nm, .string k.st, .string k.ck, .string k.ix, .string k.tk] 42)).alloc (.cells #[.string k.nm, .string k.st, .string k.ck, .string k.ix, .string k.tk] 9):=⟨_,rfl⟩;rw[<-hW1];have HB1:=ab (show Below w.heap.size w W1 by rw[hW1]; exact((Below.refl _ _).alloc (Nat.le_refl _) _).alloc (by simp) _);have HX1:=ab (show W1.heap[w.heap.size+1]? =some (.cells (cD k).toArray 9 (0,0)) by
  rw[hW1];have:=heap_alloc_new (w.alloc (.cells #[.string k.nm, .string k.st, .string k.ck, .string k.ix, .string k.tk] 42)) (.cells #[.string k.nm, .string k.st, .string k.ck, .string k.ix, .string k.tk] 9);rw[show(w.alloc (.cells #[.string k.nm, .string k.st, .string k.ck, .string k.ix, .string k.tk] 42)).heap.size=w.heap.size+1 by simp]at this;exact this)
 clear hW1
 go_loopw [17] (fun i wr=> ∃j:Nat,j<=5/\i= .int .i64 (j:Int)/\wr=W1/\(k.list.take j).all (fun s=>decide (s.size=32))=true) (fun i _=>5-(intOf i).toNat)
 case atStart=>exact⟨0,by omega,rfl,rfl,rfl⟩
 case round=>
  obtain⟨j,hj,rfl,rfl,hall⟩:=hrel;have HA:=ab hall;clear hall
  by_cases h5:j<5
  ·obtain⟨s,hs1,hs2⟩:=vV k h5;have c0:wr.cell? ⟨w.heap.size+1,j,none⟩=some (.string s):=by rw[cell_of_row wr _ _ _ _ _ HX1.out,List.getElem?_toArray]; exact hs2
   have hji:(j:Int)<5:=by omega
   have HS:=ab hs1;clear hs1 hs2
   by_cases h32:s.size=32
   ·have h32i:(s.size:Int)=32:=by omega
    go_wp2_with fail
    go_roundw
    case rel=>exact⟨j+1,by omega,by simp,trivial,by rw[List.take_add_one,HS.out,List.all_append,HA.out]; simp[h32]⟩
    case measure=>simp[intOf]; omega
   ·have h32i: ¬(s.size:Int)=32:=by omega
    go_wp2_with fail;go_ret;have hf:eW k=false:=by
     unfold eW;rw[List.all_eq_false];exact⟨s,List.mem_of_getElem? HS.out,by simpa using h32⟩
    rw[hf];exact⟨rfl,HB1.out⟩
  ·obtain rfl:j=5:=by omega
   go_wp2_with fail;go_ret;have hf:eW k=true:=HA.out;rw[hf];exact⟨rfl,HB1.out⟩
theorem ik (k:bu) (b:Bool) (w:World) (h:eW k=b):Calls Tryz.prog 115 #[gD k] w fun e w'=>e= .returned (.bool b)/\Below w.heap.size w w':=by rw[<-h]; exact oq k w
theorem pG {k:bu} (h:eW k=true):k.nm.size=32/\k.st.size=32/\k.ck.size=32/\k.ix.size=32/\k.tk.size=32:=by
 unfold eW bu.list at h;simp only[List.all_cons,List.all_nil,Bool.and_true,Bool.and_eq_true,decide_eq_true_eq]at h;exact h
def kn (k:bu) (g:Nat) (c:List UInt8):ByteArray:=⟨(sI (bl k.nm) (aP g++c)).toArray⟩
theorem jO (k:bu) (g:Nat) (c:List UInt8):(kn k g c).size=32:=by unfold kn; rw[ar,er,sJ]
theorem kz (S:Nat->Prop) (k:bu) (g:Nat) (c:List UInt8) (cv:Value) (w:World) (hk:eW k=true) (hg:g<=1099511627776) (hc:aC S w cv c) (hl:c.length<=32768) (hE:pP w):
  Calls Tryz.prog 156 #[gD k, .int .i64 (g:Int),cv] w fun e w'=>e= .returned (.tuple #[.string (kn k g c), .int .i64 0])/\Below w.heap.size w w':=by
 have HK:=ab hk;have HC:=ab hc;have HE:=ab hE;obtain⟨_,a,cap,rfl,hcap,hcm,-⟩:=id hc;obtain⟨cl,hcl⟩: ∃cl,cl=c.length:=⟨_,rfl⟩;rw[<-hcl]at hl HC ⊢;have HCL:=ab hcl;clear hk hc hE hcl hcap hcm;unfold gD
 go_enter Tryz.func156,Tryz.ntmps156
 go_wp2_with fail;obtain⟨W1,hW1⟩: ∃W1,W1=w.alloc (.cells #[.string k.nm, .string k.st, .string k.ck, .string k.ix, .string k.tk] 42):=⟨_,rfl⟩;rw[<-hW1];have HB1:=ab (show Below w.heap.size w W1 by rw[hW1]; exact(Below.refl _ _).alloc (Nat.le_refl _) _);have HX1:=ab (show W1.heap[w.heap.size]? =some (.cells (cD k).toArray 42 (0,0)) by rw[hW1]; exact heap_alloc_new w _);clear hW1
 refine(ik k true W1 HK.out).mono ?_;rintro e w1 ⟨rfl,hb1⟩;have HB2:=ab (ag HB1.out hb1);have HX2:=ab ((hb1.block _ (lt_of_block HX1.out)).trans HX1.out);clear hb1;go_wp2_with fail;refine cw (fun w'=>w'.cell? ⟨w.heap.size,0,none⟩=some (.string k.nm)) (by kernel_rfl) ?_;obtain⟨V,hV⟩: ∃V:World,V=w1.drew:=⟨_,rfl⟩;rw[<-hV];have HBV:=ab (show Below w.heap.size w V by rw[hV]; exact HB2.out.trans ((Below.refl _ _).drew))
 have HXV:=ab (show V.heap[w.heap.size]? =some (.cells (cD k).toArray 42 (0,0)) by rw[hV]; exact HX2.out);clear hV;have hSV:V.cell? ⟨w.heap.size,0,none⟩=some (.string k.nm):=(cell_of_row V _ _ _ _ _ HXV.out).trans rfl;refine af 0 rfl (by kernel_rfl) (by kernel_rfl) (by kernel_rfl) (fun _ _ _ h=>h) rfl hSV (by intro w' hw1; go_simp; rfl) ?_;simp only[Act.put,az,aA,aB]
 refine af 1 rfl (by kernel_rfl) (by kernel_rfl) (by kernel_rfl) (fun _ _ _ h=>h) rfl hSV (by intro w' hw1; go_simp; rfl) ?_;simp only[Act.put,az,aA,aB];refine af 2 rfl (by kernel_rfl) (by kernel_rfl) (by kernel_rfl) (fun _ _ _ h=>h) rfl hSV (by intro w' hw1; go_simp; rfl) ?_;simp only[Act.put,az,aA,aB];refine af 3 rfl (by kernel_rfl) (by kernel_rfl) (by kernel_rfl) (fun _ _ _ h=>h) rfl hSV (by intro w' hw1; go_simp; rfl) ?_
 simp only[Act.put,az,aA,aB];refine af 5 rfl (by kernel_rfl) (by kernel_rfl) (by kernel_rfl) (fun _ _ _ h=>h) rfl hSV (by intro w' hw1; go_simp; rfl) ?_;simp only[Act.put,az,aA,aB];refine am 4 rfl (by kernel_rfl) rfl (fun K hK=> ?_);go_wp2_with fail;refine(my g V (by omega)).mono ?_;rintro e w3 ⟨v3,rfl,ho3,hb3⟩;obtain⟨a3,c3,rfl,-,-⟩:=aj ho3
 have HB3:=ab (ag HBV.out hb3);have hS3:w3.cell? ⟨w.heap.size,0,none⟩=some (.string k.nm):=(hb3.cell (p:=⟨w.heap.size,0,none⟩) (lt_of_block HXV.out)).trans hSV;have hVs:=HBV.out.size;have HO3:=ab ho3;have HLN:=ab (cY (n:=g) (by omega));have hbase:=hb3.size;clear ho3 hb3 hSV;go_wp2_with fail;refine⟨hS3, ?_⟩;refine am 6 rfl (by kernel_rfl) rfl (fun K hK=> ?_)
 have HCB:=ab (show aC S w3 (.slice a cl cap) c from aJ.below HC.out (by omega) HB3.out);have hnl:(aP g).length+cl<1099511627775:=by have:=HLN.out; omega
 have HRW:=ab (show aJ S w3 1 (.slice a cl cap) cl (c.map an) by have h9:=HCB.out; unfold aC at h9; rw[<-HCL.out]at h9; exact h9);go_wp2_with (at_builtin; go_loud (refine dB Tryz.appBytes rfl _ _ rfl V.heap.size (.slice a3 (aP g).length c3) (aP g).length ((aP g).map an) rfl HO3.out (.slice a cl cap) cl (c.map an) rfl HRW.out (dm c) hnl hbase ?_); intro v' wc hown' hgrow'; have HO4:=ab hown'; have HG4:=ab hgrow'; obtain⟨a4,c4,rfl,-,-⟩:=aj hown'; clear hown' hgrow')
 have HB4:=ab (show Below w.heap.size w wc from dw HB3.out HO3.out HG4.out hVs HB3.out.size);have hS4:wc.cell? ⟨w.heap.size,0,none⟩=some (.string k.nm):=by
  rw[<-hS3];exact World.cell?_of_block (HG4.out.block w.heap.size (by have:=lt_of_block HXV.out; omega) (fun e=>by have h1:=(HO3.out.lt _ e.symm).1; have:=lt_of_block HXV.out; omega))
 have HBY:=ab (show aC (fun _=>True) wc (.slice a4 ((aP g).length+cl) c4) (aP g++c) by
  have h9:=bm HO4.out;rw[<-List.map_append]at h9;unfold aC;rw[List.length_append,<-HCL.out];exact h9.weak (fun _ _=>trivial))
 have hml:(aP g++c).length<281474976710656:=by rw[List.length_append,<-HCL.out]; have:=HLN.out; omega
 clear hS3;refine⟨hS4, ?_⟩;refine am 7 rfl (by kernel_rfl) rfl (fun K hK=> ?_);have hnm:=(pG HK.out).1;go_wp2_with fail;refine(lu (fun _=>True) k.nm (aP g++c) _ wc (by rw[hnm]; decide) HBY.out hml (HE.out.below HB4.out)).mono ?_;rintro e w5 ⟨rfl,hb5⟩;have HB5:=ab (ag HB4.out hb5);have hS5:w5.cell? ⟨w.heap.size,0,none⟩=some (.string k.nm):=(hb5.cell (p:=⟨w.heap.size,0,none⟩) (block_lt_of_cell hS4)).trans hS4
 clear hb5 hS4;go_wp2_with fail;refine⟨hS5, ?_⟩;refine af 8 rfl (by kernel_rfl) (by kernel_rfl) (by kernel_rfl) (fun _ _ _ h=>h) rfl hS5 (by intro w' hw1; go_simp; rfl) ?_;simp only[Act.put,az,aA,aB];refine af 9 rfl (by kernel_rfl) (by kernel_rfl) (by kernel_rfl) (fun _ _ _ h=>h) rfl hS5 (by intro w' hw1; go_simp; rfl) ?_;simp only[Act.put,az,aA,aB];refine aQ (by kernel_rfl) ?_
 go_wp2_with fail
 go_ret2
 exact⟨rfl,HB5.out⟩
theorem om (k:bu) (w:World) (hE:pP w):Calls Tryz.prog 69 #[gD k, .slice none 0 0] w fun e w'=>(∃v,e= .returned (.tuple #[v, .int .i64 (if eW k=true then 0 else 1)]))/\Below w.heap.size w w':=by
 have HE:=ab hE;clear hE;unfold gD
 by_cases hk:eW k=true
 ·rw[if_pos hk];have HK:=ab hk;clear hk
  go_enter Tryz.func69,Tryz.ntmps69
  go_wp2_with fail;obtain⟨W1,hW1⟩: ∃W1,W1=w.alloc (.cells #[.string k.nm, .string k.st, .string k.ck, .string k.ix, .string k.tk] 42):=⟨_,rfl⟩;rw[<-hW1];have HB1:=ab (show Below w.heap.size w W1 by rw[hW1]; exact(Below.refl _ _).alloc (Nat.le_refl _) _);have HX1:=ab (show W1.heap[w.heap.size]? =some (.cells (cD k).toArray 42 (0,0)) by rw[hW1]; exact heap_alloc_new w _);clear hW1
  refine(ik k true W1 HK.out).mono ?_;rintro e w1 ⟨rfl,hb1⟩;have HB2:=ab (ag HB1.out hb1);have HX2:=ab ((hb1.block _ (lt_of_block HX1.out)).trans HX1.out);have c2:w1.cell? ⟨w.heap.size,2,none⟩=some (.string k.ck):=(cell_of_row w1 _ _ _ _ _ HX2.out).trans rfl;have hck:=(pG HK.out).2.2.1;clear hb1;go_wp2_with fail;refine(lu (fun _=>True) k.ck [] _ w1 (by rw[hck]; decide) (aJ.nil _ _ _) (by decide) (HE.out.below HB2.out)).mono ?_
  rintro e w2 ⟨rfl,hb2⟩;have HB3:=ab (ag HB2.out hb2);obtain⟨t,ht⟩: ∃t:ByteArray,t=⟨(sI (bl k.ck) []).toArray⟩:=⟨_,rfl⟩;have htz:t.size=32:=by rw[ht,ar,er,sJ]
  rw[<-ht];obtain⟨W3,cp,hcv,-,hbw,-⟩:=oM (t.extract 0 16) w2 (by have:=Lib.extract_data t 0 16; rw[ByteArray.size_extract]; unfold maxLen; omega);have HB4:=ab (ag HB3.out hbw);clear hb2 ht hbw c2;go_wp2_with fail
  go_ret2
  exact⟨⟨_,rfl⟩,HB4.out⟩
 ·rw[if_neg hk];have HK:=ab (show eW k=false by simpa using hk);clear hk
  go_enter Tryz.func69,Tryz.ntmps69
  go_wp2_with fail;obtain⟨W1,hW1⟩: ∃W1,W1=w.alloc (.cells #[.string k.nm, .string k.st, .string k.ck, .string k.ix, .string k.tk] 42):=⟨_,rfl⟩;rw[<-hW1];have HB1:=ab (show Below w.heap.size w W1 by rw[hW1]; exact(Below.refl _ _).alloc (Nat.le_refl _) _);have HX1:=ab (show W1.heap[w.heap.size]? =some (.cells (cD k).toArray 42 (0,0)) by rw[hW1]; exact heap_alloc_new w _);clear hW1
  refine(ik k false W1 HK.out).mono ?_;rintro e w1 ⟨rfl,hb1⟩;have HB2:=ab (ag HB1.out hb1);clear hb1;go_wp2_with fail
  go_ret2
  exact⟨⟨_,rfl⟩,HB2.out⟩
end Go.Proofs.YtpffpjbkbaleiaaGreatDoor
namespace Go.Proofs.YtpffpjbkbaleiaaGreatDoor
def dk (x k:Nat):Nat:=(x*2^k%18446744073709551616) ||| (x/2^(64-k))
def lQ :Nat->Nat->Nat
 | 0,x=>x
 | n+1,x=>dk (lQ n x) 1
theorem eI {x k:Nat} (_hk:k<=64) (i:Nat):(dk x k).testBit i=((decide (i<64) && decide (k<=i) && x.testBit (i-k)) || x.testBit (64-k+i)):=by
 unfold dk;rw[Nat.testBit_or,show(18446744073709551616:Nat)=2^64 from rfl,Nat.testBit_mod_two_pow,Nat.testBit_mul_two_pow,Nat.testBit_div_two_pow,Nat.add_comm i (64-k),Bool.and_assoc]
theorem fC {x:Nat} (hx:x<18446744073709551616) {i:Nat} (h:64<=i):x.testBit i=false:=
 Nat.testBit_lt_two_pow (Nat.lt_of_lt_of_le hx (Nat.pow_le_pow_right (by decide) h:2^64<=2^i))
theorem gH {x:Nat} (k:Nat) (hx:x<18446744073709551616):dk x k<18446744073709551616:=
 Nat.or_lt_two_pow (n:=64) (Nat.mod_lt _ (by decide)) (Nat.lt_of_le_of_lt (Nat.div_le_self _ _) hx)
theorem vd : ∀(n:Nat) {x:Nat},x<18446744073709551616->lQ n x<18446744073709551616
 | 0,_,h=>h
 | n+1,_,h=>gH 1 (vd n h)
theorem nz {x:Nat} (hx:x<18446744073709551616):dk x 0=x:=by
 unfold dk;rw[show(2:Nat)^(64-0)=18446744073709551616 by decide,Nat.div_eq_of_lt hx,Nat.or_zero,Nat.pow_zero,Nat.mul_one,Nat.mod_eq_of_lt hx]
theorem ua {x k:Nat} (hx:x<18446744073709551616) (hk:k<64):dk (dk x k) 1=dk x (k+1):=by
 apply Nat.eq_of_testBit_eq
 intro i;rw[eI (by decide),eI (by omega),eI (by omega),eI (by omega)]
 by_cases h64:i<64
 ·by_cases h0:i=0
  ·subst h0;have e1:x.testBit (64-k+(64-1+0))=false:=fC hx (by omega);have e2:64-1+0-k=64-(k+1)+0:=by omega
   have e3:x.testBit (64-0+0-k+64)=false:=fC hx (by omega);simp only[e1,e2];simp;omega
  ·have e1:x.testBit (64-k+(64-1+i))=false:=fC hx (by omega);have e2:(64-1+i<64)=False:=by simp; omega
   have e3:i-1-k=i-(k+1):=by omega
   have e4:64-k+(i-1)=64-(k+1)+i:=by omega
   have e5:(decide (k<=i-1))=decide (k+1<=i):=by rw[decide_eq_decide]; omega
   have e6:decide (1<=i)=true:=by simp; omega
   have e7:decide (i-1<64)=true:=by simp; omega
   have e8:decide (i<64)=true:=by simp; omega
   have e9:decide (64-1+i<64)=false:=by simp; omega
   simp only[e1,e3,e4,e5,e6,e7,e8,e9,Bool.true_and,Bool.false_and,Bool.or_false]
 ·have e1:x.testBit (64-k+(64-1+i))=false:=fC hx (by omega);have e2:x.testBit (64-(k+1)+i)=false:=fC hx (by omega);have e8:decide (i<64)=false:=by simp; omega
  have e9:decide (64-1+i<64)=false:=by simp; omega
  simp only[e1,e2,e8,e9,Bool.false_and,Bool.or_false]
theorem mh {x:Nat} (hx:x<18446744073709551616): ∀ {k:Nat},k<=64->lQ k x=dk x k
 | 0,_=>(nz hx).symm
 | k+1,h=>by rw[lQ,mh hx (k:=k) (by omega),ua hx (by omega)]
theorem wZ {x:Nat} (hx:x<18446744073709551616):lQ 64 x=x:=by
 rw[mh hx (by decide)];unfold dk;rw[show(2:Nat)^64=18446744073709551616 by decide,Nat.mul_mod_left,Nat.zero_or];simp
theorem AH {x y:Nat} (hx:x<18446744073709551616) (hy:y<18446744073709551616) {k:Nat} (hk:k<=64):dk (x^^^y) k=dk x k^^^dk y k:=by
 apply Nat.eq_of_testBit_eq
 intro i;rw[Nat.testBit_xor,eI hk,eI hk,eI hk,Nat.testBit_xor,Nat.testBit_xor]
 by_cases h:i<64/\k<=i
 ·have e:decide (i<64)=true/\decide (k<=i)=true:=by simpa using h
  rw[e.1,e.2,fC hx (i:=64-k+i) (by omega),fC hy (i:=64-k+i) (by omega)];simp
 ·have e:(decide (i<64) && decide (k<=i))=false:=by simp; omega
  rw[e]; simp
theorem kG {x y:Nat} (hx:x<18446744073709551616) (hy:y<18446744073709551616):x^^^y<18446744073709551616:=Nat.xor_lt_two_pow (n:=64) hx hy
def yD (z:Nat):Nat:=((z^^^(z/2^30))*13787848793156543929)%18446744073709551616
def yE (z:Nat):Nat:=((z^^^(z/2^27))*10723151780598845931)%18446744073709551616
def BB (z:Nat):Nat:=z^^^(z/2^31)
def sA (seed i:Nat):Nat:=(seed+(i+1)*11400714819323198485%18446744073709551616)%18446744073709551616
def qn (seed i:Nat):Nat:=BB (yE (yD (sA seed i)))
theorem mg (seed i:Nat):qn seed i<18446744073709551616:=by
 unfold qn BB;have h:yE (yD (sA seed i))<18446744073709551616:=Nat.mod_lt _ (by decide);exact kG h (Nat.lt_of_le_of_lt (Nat.div_le_self _ _) h)
theorem rp {M:List UInt8->Prop} (h0:M []) (h1: ∀l b,M l->M (l++[b])) (l:List UInt8):M l:=by
 have: ∀r:List UInt8,M r.reverse:=by
  intro r
  induction r with
  | nil=>exact h0
  | cons b r ih=>rw[List.reverse_cons]; exact h1 _ _ ih
 have h:=this l.reverse;rw[List.reverse_reverse]at h; exact h
section
variable (T : Nat → Nat)
def dT (l:List UInt8):Nat:=l.foldl (fun s b=>dk s 1^^^T b.toNat) 0
theorem fE (l:List UInt8) (b:UInt8):dT T (l++[b])=dk (dT T l) 1^^^T b.toNat:=by
 unfold dT; rw[List.foldl_append,List.foldl_cons,List.foldl_nil]
theorem oV :dT T []=0:=rfl
theorem vQ (x:UInt8):dT T [x]=T x.toNat:=by
 unfold dT; rw[List.foldl_cons,List.foldl_nil,show dk 0 1=0 by decide,Nat.zero_xor]
variable {T}
theorem ro (hT: ∀i,T i<18446744073709551616) (l:List UInt8):dT T l<18446744073709551616:=by
 refine rp (M:=fun l=>dT T l<18446744073709551616) ?_ (fun l b ih=> ?_) l
 ·show dT T []<_
  rw[oV]; decide
 ·show dT T (l++[b])<_
  rw[fE]; exact kG (gH 1 ih) (hT _)
theorem tp (hT: ∀i,T i<18446744073709551616) (x:UInt8) (l:List UInt8):dT T (x::l)=lQ l.length (T x.toNat)^^^dT T l:=by
 refine rp (M:=fun l=>dT T (x::l)=lQ l.length (T x.toNat)^^^dT T l) ?_ (fun l b ih=> ?_) l
 ·show dT T [x]=lQ 0 (T x.toNat)^^^dT T []
  rw[vQ,oV,Nat.xor_zero,lQ]
 ·show dT T (x::(l++[b]))=lQ (l++[b]).length (T x.toNat)^^^dT T (l++[b])
  rw[<-List.cons_append,fE,fE,List.length_append,List.length_singleton,lQ,ih,AH (vd _ (hT _)) (ro hT _) (by decide),Nat.xor_assoc]
theorem tq (hT: ∀i,T i<18446744073709551616) (x b:UInt8) (l:List UInt8) (h:l.length+1<=64):(dk (dT T (x::l)) 1^^^T b.toNat)^^^dk (T x.toNat) (l.length+1)=dT T (l++[b]):=by
 rw[<-fE,List.cons_append,tp hT,List.length_append,List.length_singleton,<-mh (hT _) h,Nat.xor_comm (lQ _ _),Nat.xor_assoc,Nat.xor_self,Nat.xor_zero]
end
def lr (seed:Nat) (l:List UInt8):Nat:=dT (qn seed) l
theorem rm (seed:Nat) (l:List UInt8):lr seed l<18446744073709551616:=ro (mg seed) l
def gK (W:Nat) (d:List UInt8):List UInt8:=d.drop (d.length-W)
theorem jd (W:Nat) (d:List UInt8):(gK W d).length=min W d.length:=by unfold gK; rw[List.length_drop]; omega
theorem pK {W:Nat} {d:List UInt8} (h:d.length<W) (b:UInt8):gK W (d++[b])=gK W d++[b]:=by
 unfold gK;rw[List.length_append,List.length_singleton,show d.length+1-W=0 by omega,show d.length-W=0 by omega]; rfl
theorem pL {W:Nat} {d:List UInt8} (hW:1<=W) (h:W<=d.length) (b:UInt8):gK W (d++[b])=(gK W d).tail++[b]:=by
 unfold gK;rw[List.length_append,List.length_singleton,List.tail_drop,List.drop_append_of_le_length (by omega)]
 congr 2; omega
def Bc (seed W bits:Nat) (d:List UInt8):Bool:=decide (W<=d.length) && decide (bits<=Lib.ctz 64 (lr seed (gK W d)))
end Go.Proofs.YtpffpjbkbaleiaaGreatDoor
namespace Go.Proofs.YtpffpjbkbaleiaaGreatDoor
section
variable (mk : Nat → Bool) (mn mx len : Nat)
def iy :Nat->Int
 | 0=> -(mn:Int)
 | p+1=>if mk (p+1)then((p+1:Nat):Int)else iy p
def nu :Nat->Bool
 | 0=>false
 | p+1=>mk (p+1) && decide ((mn:Int)<=((p+1:Nat):Int)-iy mk mn p)
def eS (l:List Nat):Nat:=l.getLast?.getD 0
def fM (s q:Nat):Bool:=nu mk mn q || decide (s+mx<=q) || decide (len<=q)
def dO :Nat->List Nat
 | 0=>[]
 | p+1=>if fM mk mn mx len (eS (dO p)) (p+1)then dO p++[p+1]else dO p
def ri :List Nat:=dO mk mn mx len len
end
section
variable {mk : Nat → Bool} {mn mx len : Nat}
theorem eH (l:List Nat) (p:Nat):eS (l++[p])=p:=by simp[eS]
theorem tL (p:Nat):(iy mk mn p= -(mn:Int)/\ ∀q,1<=q->q<=p->mk q=false)\/ ∃L,iy mk mn p=((L:Nat):Int)/\1<=L/\L<=p/\mk L=true/\ ∀q,L<q->q<=p->mk q=false:=by
 induction p with
 | zero=>exact .inl ⟨rfl,fun q h1 h2=>by omega⟩
 | succ p ih=>
  rw[iy]
  by_cases h:mk (p+1)=true
  ·rw[if_pos h];exact .inr ⟨p+1,rfl,by omega,by omega,h,fun q h1 h2=>by omega⟩
  ·rw[if_neg h];have h0:mk (p+1)=false:=by simpa using h
   rcases ih with⟨h1,h2⟩ | ⟨L,h1,h2,h3,h4,h5⟩
   ·exact .inl ⟨h1,fun q hq1 hq2=>by
     by_cases e:q=p+1
     ·rw[e]; exact h0
     ·exact h2 q hq1 (by omega)⟩
   ·exact .inr ⟨L,h1,h2,by omega,h4,fun q hq1 hq2=>by
     by_cases e:q=p+1
     ·rw[e]; exact h0
     ·exact h5 q hq1 (by omega)⟩
def Bk (mk:Nat->Bool) (mn mx len s q:Nat):Prop:=s<q/\q<=len/\fM mk mn mx len s q=true/\ ∀r,s<r->r<q->fM mk mn mx len s r=false
inductive xK (mk : Nat → Bool) (mn mx len : Nat) : List Nat → Nat → Prop
 | nil:xK mk mn mx len [] 0
 | snoc {l:List Nat} {s q:Nat} :xK mk mn mx len l s->Bk mk mn mx len s q->xK mk mn mx len (l++[q]) q
theorem xK.last {l:List Nat} {s:Nat} (h:xK mk mn mx len l s):eS l=s:=by
 cases h with
 | nil=>rfl
 | snoc _ _=>exact eH _ _
theorem xK.le {l:List Nat} {s:Nat} (h:xK mk mn mx len l s):s<=len:=by
 cases h with
 | nil=>omega
 | snoc _ h=>exact h.2.1
theorem mQ : ∀ {p:Nat},p<=len-> ∃s,xK mk mn mx len (dO mk mn mx len p) s/\s<=p/\ ∀r,s<r->r<=p->fM mk mn mx len s r=false
 | 0,_=>⟨0, .nil,by omega,fun r h1 h2=>by omega⟩
 | p+1,hp=>by
  obtain⟨s,h1,h2,h3⟩:=mQ (p:=p) (by omega);rw[dO,h1.last]
  by_cases h:fM mk mn mx len s (p+1)=true
  ·rw[if_pos h];exact⟨p+1,h1.snoc ⟨by omega,hp,h,fun r hr1 hr2=>h3 r hr1 (by omega)⟩,by omega,fun r hr1 hr2=>by omega⟩
  ·rw[if_neg h];exact⟨s,h1,by omega,fun r hr1 hr2=>by
    by_cases e:r=p+1
    ·rw[e]; simpa using h
    ·exact h3 r hr1 (by omega)⟩
theorem oS :xK mk mn mx len (ri mk mn mx len) len:=by
 obtain⟨s,h1,h2,h3⟩:=mQ (mk:=mk) (mn:=mn) (mx:=mx) (len:=len) (Nat.le_refl len)
 by_cases e:s=len
 ·rw[e]at h1; exact h1
 ·have:=h3 len (by omega) (by omega);simp[fM]at this
theorem Bk.reach {s q:Nat} (hm:1<=mx) (h:Bk mk mn mx len s q):q<=s+mx:=by
 by_cases h1:s+mx<q
 ·have h2:=h.2.2.2 (s+mx) (by omega) h1;simp[fM]at h2
 ·omega
def fc (data:List UInt8) (s e:Nat):List UInt8:=(data.drop s).take (e-s)
def dF (data:List UInt8):Nat->List Nat->List (List UInt8)
 | _,[]=>[]
 | s,e::l=>fc data s e::dF data e l
theorem fo (data:List UInt8): ∀(l:List Nat) (s e:Nat),dF data s (l++[e])=dF data s l++[fc data (l.getLast?.getD s) e]
 | [],_,_=>rfl
 | x::l,s,e=>by
  rw[List.cons_append,dF,fo data l x e,dF,List.cons_append]
  congr 3
  rw[List.getLast?_cons]; rfl
theorem rW {data:List UInt8} {l:List Nat} {s:Nat} (h:xK mk mn mx data.length l s):(dF data 0 l).flatten=data.take s:=by
 induction h with
 | nil=>simp[dF]
 | snoc h1 h2 ih=>
  rename_i l s q;rw[fo,List.flatten_append,ih];have:=h1.last;unfold eS at this;rw[this,List.flatten_cons,List.flatten_nil,List.append_nil];unfold fc;have h3:=h2.1;rw[show q=s+(q-s) by omega,List.take_add,show s+(q-s)-s=q-s by omega]
theorem tU {data:List UInt8} :(dF data 0 (ri mk mn mx data.length)).flatten=data:=by
 rw[rW oS,List.take_length]
theorem wG {data:List UInt8} {l:List Nat} {s:Nat} (hm:1<=mx) (h:xK mk mn mx data.length l s): ∀c∈dF data 0 l,1<=c.length/\c.length<=mx:=by
 induction h with
 | nil=>simp[dF]
 | snoc h1 h2 ih=>
  rename_i l s q;rw[fo];intro c hc
  rcases List.mem_append.1 hc with hc | hc
  ·exact ih c hc
  ·rw[List.mem_singleton.1 hc];have:=h1.last;unfold eS at this;rw[this];unfold fc;rw[List.length_take,List.length_drop];have h3:=h2.reach hm;have h4:=h2.1;have h5:=h2.2.1;omega
end
end Go.Proofs.YtpffpjbkbaleiaaGreatDoor
namespace Go.Proofs.YtpffpjbkbaleiaaGreatDoor
open Go Go.RowKit
theorem xa {x s:Nat} (hx:x<18446744073709551616):bits .or .u64 ((x:Int)*2^s%18446744073709551616) ((x:Int)/2^(64-s))=((dk x s:Nat):Int):=by
 have e1:((x:Int)*2^s%18446744073709551616)=((x*2^s%18446744073709551616:Nat):Int):=by simp
 have e2:((x:Int)/2^(64-s))=((x/2^(64-s):Nat):Int):=by simp
 rw[e1,e2,u64_or_nat _ _ (Nat.mod_lt _ (by decide)) (Nat.lt_of_le_of_lt (Nat.div_le_self _ _) hx)]
 rfl
theorem pA (x k:Nat) (w:World) (hx:x<18446744073709551616) (hk:k<=64):Calls Tryz.prog 211 #[.int .u64 (x:Int), .int .i64 (k:Int)] w fun e w'=>e= .returned (.int .u64 ((dk x k:Nat):Int))/\w=w':=by
 obtain⟨s,hs⟩: ∃s,s=k%64:=⟨_,rfl⟩;have h1:bits BinOp.and IntKind.u64 (k:Int) 63=(s:Int):=by
  rw[show(63:Int)=((63:Nat):Int)from rfl,u64_and_nat _ _ (by omega) (by decide),nat_mask6,hs]
 have hs64:s<64:=by omega
 have hmin:min s 64=s:=by omega
 have hmin2:min (64-s) 64=64-s:=by omega
 have HR:=ab (show dk x s=dk x k by
  by_cases h:k=64
  ·have e:s=0:=by rw[hs,h]
   rw[e,h,nz hx,<-mh hx (Nat.le_refl 64),wZ hx]
  ·rw[show s=k by omega])
 clear hs
 go_enter Tryz.func211,Tryz.ntmps211
 go_wp2_with fail;go_ret;refine⟨?_,rfl⟩;rw[<-HR.out,<-xa hx,IntKind.wrap_u64]
 rfl
theorem BC (a c:Nat):((a:Int)*(c:Int))%18446744073709551616=((a*c%18446744073709551616:Nat):Int):=by simp
theorem nP (z d:Nat) (hz:z<18446744073709551616):bits BinOp.xor IntKind.u64 (z:Int) ((z:Int)/(d:Int))=((z^^^(z/d):Nat):Int):=by
 rw[show((z:Int)/(d:Int))=((z/d:Nat):Int) by simp,u64_xor_nat _ _ hz (Nat.lt_of_le_of_lt (Nat.div_le_self _ _) hz)]
theorem wh (z:Nat) (hz:z<18446744073709551616):(bits BinOp.xor IntKind.u64 (z:Int) ((z:Int)/1073741824)*13787848793156543929)%18446744073709551616=((yD z:Nat):Int):=by
 have h:=nP z 1073741824 hz;rw[show((1073741824:Nat):Int)=1073741824 from rfl]at h;rw[h];exact BC (z^^^(z/1073741824)) 13787848793156543929
theorem wl (z:Nat) (hz:z<18446744073709551616):(bits BinOp.xor IntKind.u64 (z:Int) ((z:Int)/134217728)*10723151780598845931)%18446744073709551616=((yE z:Nat):Int):=by
 have h:=nP z 134217728 hz;rw[show((134217728:Nat):Int)=134217728 from rfl]at h;rw[h];exact BC (z^^^(z/134217728)) 10723151780598845931
theorem wn (z:Nat) (hz:z<18446744073709551616):bits BinOp.xor IntKind.u64 (z:Int) ((z:Int)/2147483648)=((BB z:Nat):Int):=by
 have h:=nP z 2147483648 hz;rw[show((2147483648:Nat):Int)=2147483648 from rfl]at h;exact h
theorem xe (s k:Nat):IntKind.u64.wrap ((s:Int)+IntKind.u64.wrap (((k:Int)+1)*11400714819323198485))=((sA s k:Nat):Int):=by
 rw[IntKind.wrap_u64,IntKind.wrap_u64,show((k:Int)+1)=((k+1:Nat):Int) by omega,show(11400714819323198485:Int)=((11400714819323198485:Nat):Int)from rfl,BC];unfold sA;omega
theorem wj (z:Nat) (hz:z<18446744073709551616):IntKind.u64.wrap (bits BinOp.xor IntKind.u64 (z:Int) ((z:Int)/1073741824)*13787848793156543929)=((yD z:Nat):Int):=by rw[IntKind.wrap_u64,wh z hz]
theorem wm (z:Nat) (hz:z<18446744073709551616):IntKind.u64.wrap (bits BinOp.xor IntKind.u64 (z:Int) ((z:Int)/134217728)*10723151780598845931)=((yE z:Nat):Int):=by rw[IntKind.wrap_u64,wl z hz]
theorem Aq (z:Nat):yD z<18446744073709551616:=Nat.mod_lt _ (by decide)
theorem Ar (z:Nat):yE z<18446744073709551616:=Nat.mod_lt _ (by decide)
theorem yZ (s i:Nat):sA s i<18446744073709551616:=Nat.mod_lt _ (by decide)
def xx (x:Nat):Value:= .int .u64 (x:Int)
structure gk (w : World) (seed k : Nat) (wr : World) : Prop where
 box:wr.heap[w.heap.size]? =some (.cells ((List.range k).map (fun i=>xx (qn seed i))++List.replicate (256-k) (xx 0)).toArray 43 (0,0))
 below:Below w.heap.size w wr
theorem gk.here {w wr:World} {seed k:Nat} (h:gk w seed k wr) (hk:k<256):wr.cell? ⟨w.heap.size,k,none⟩=some (.int .u64 0):=by
 rw[cell_of_row wr _ _ _ _ _ h.box,List.getElem?_toArray,List.getElem?_append_right (by simp)];rw[List.length_map,List.length_range,Nat.sub_self,show 256-k=(256-(k+1))+1 by omega,List.replicate_succ]
 rfl
theorem gk.put {w wr:World} {seed k:Nat} (h:gk w seed k wr) (hk:k<256):gk w seed (k+1) (wr.setCell ⟨w.heap.size,k,none⟩ (xx (qn seed k))):=by
 refine⟨?_,h.below.trans ⟨rfl,rfl,rfl,by simp[World.setCell],fun j hj=>heap_setCell_other wr _ j _ (by show j≠w.heap.size; omega)⟩⟩;rw[heap_setCell_same wr _ _ _ _ _ h.box]
 congr 2
 rw[List.setIfInBounds_toArray,List.set_append_right _ _ (by simp),List.length_map,List.length_range,Nat.sub_self,show 256-k=(256-(k+1))+1 by omega,List.replicate_succ,List.range_succ,List.map_append];simp
theorem Ap (w:World):(Instr.makeSlice 262 (.int .i64 256) (.int .i64 256)).run Tryz.prog w= .ok (.slice (some ⟨w.heap.size,0,none⟩) 256 256) (w.alloc (.cells (List.replicate 256 (xx 0)).toArray 43)):=by kernel_rfl
theorem xu (seed:Nat) (w:World):Calls Tryz.prog 210 #[.int .u64 (seed:Int)] w fun e w'=>e= .returned (.slice (some ⟨w.heap.size,0,none⟩) 256 256)/\gk w seed 256 w':=by
 have hmk:=Ap
 go_enter Tryz.func210,Tryz.ntmps210
 go_wp2_with fail;have HT0:=ab (show gk w seed 0 (w.alloc (.cells (List.replicate 256 (xx 0)).toArray 43))from⟨by rw[heap_alloc_new]; rfl,(Below.refl _ _).alloc (Nat.le_refl _) _⟩);clear hmk
 go_loopw [9] (fun i wr=> ∃k:Nat,k<=256/\i= .int .i64 (k:Int)/\gk w seed k wr) (fun i _=>256-(intOf i).toNat)
 case atStart=>exact⟨0,by omega,rfl,HT0.out⟩
 case round=>
  obtain⟨k,hk,rfl,ht⟩:=hrel;have HT:=ab ht;have hz:=ht.below.size;clear ht
  by_cases h256:k<256
  ·have ch:=HT.out.here h256;have cf:=frozen_of_row wr _ k _ _ HT.out.box;have hki:(k:Int)<256:=by omega
   go_wp2_with fail
   go_roundw
   case rel=>
    rw[xe,wj _ (yZ _ _),wm _ (Aq _),wn _ (Ar _)];exact⟨k+1,by omega,by simp,HT.out.put h256⟩
   case measure=>simp[intOf]; omega
  ·obtain rfl:k=256:=by omega
   go_wp2_with fail;go_ret;exact⟨rfl,HT.out⟩
end Go.Proofs.YtpffpjbkbaleiaaGreatDoor
namespace Go.Proofs.YtpffpjbkbaleiaaGreatDoor
open Go Go.RowKit
def kU (seed:Nat):List Value:=(List.range 256).map fun i=>xx (qn seed i)
theorem kB (seed:Nat):(kU seed).length=256:=by simp[kU]
def dX (seed:Nat) (ring:List UInt8) (W s n h:Nat):List Value:=kU seed++(ring.map an++[.int .i64 (W:Int), .int .i64 (s:Int), .int .i64 (n:Int), .int .u64 (h:Int)])
theorem gk.full {w wr:World} {seed:Nat} (h:gk w seed 256 wr):wr.heap[w.heap.size]? =some (.cells (kU seed).toArray 43 (0,0)):=by
 rw[h.box,Nat.sub_self,List.replicate_zero,List.append_nil]; rfl
def jg (W:Nat):List Value:=List.replicate 256 (.int .u64 0)++((List.replicate 64 (0:UInt8)).map an++[.int .i64 (W:Int), .int .i64 0, .int .i64 0, .int .u64 0])
theorem ss (seed W:Nat) (w:World) (hW:1<=W) (hW2:W<=64):Calls Tryz.prog 199 #[.int .u64 (seed:Int), .int .i64 (W:Int)] w fun e w'=> ∃rb,e= .returned (.pointer (some ⟨rb,0,none⟩))/\w.heap.size<=rb/\
  w'.heap[rb]? =some (.cells (dX seed (List.replicate 64 0) W 0 0 0).toArray 237 (0,0))/\Below w.heap.size w w':=by
 have hmax:max (W:Int) 1=(W:Int):=by omega
 have hmin:min (W:Int) 64=(W:Int):=by omega
 go_enter Tryz.func199,Tryz.ntmps199
 go_wp2_with fail;obtain⟨w1,hw1⟩: ∃w1,w1=w.alloc (.cells (Tryz.zeroCells237.setIfInBounds 320 (.int .i64 (W:Int))) 237):=⟨_,rfl⟩;rw[<-hw1];have HX1:=ab (show w1.heap[w.heap.size]? =some (.cells (jg W).toArray 237 (0,0)) by rw[hw1,heap_alloc_new,show Tryz.zeroCells237.setIfInBounds 320 (.int .i64 (W:Int))=(jg W).toArray by kernel_rfl]);have HB1:=ab (show Below w.heap.size w w1 by rw[hw1]; exact(Below.refl _ _).alloc (Nat.le_refl _) _)
 clear hw1 hmax hmin;refine cw (fun _=>True) (by kernel_rfl) ?_;obtain⟨V,hV⟩: ∃V:World,V=w1.drew:=⟨_,rfl⟩;rw[<-hV];have HXV:=ab (show V.heap[w.heap.size]? =some (.cells (jg W).toArray 237 (0,0)) by rw[hV]; exact HX1.out);have HBV:=ab (show Below w.heap.size w V by rw[hV]; exact HB1.out.trans (Below.refl _ _).drew);clear hV;refine af 0 rfl (by kernel_rfl) (by kernel_rfl) (by kernel_rfl) (fun _ _ _ h=>h) rfl trivial (by intro w' hw1; go_simp; rfl) ?_
 simp only[Act.put,az,aA,aB];refine af 1 rfl (by kernel_rfl) (by kernel_rfl) (by kernel_rfl) (fun _ _ _ h=>h) rfl trivial (by intro w' hw1; go_simp; rfl) ?_;simp only[Act.put,az,aA,aB];refine af 2 rfl (by kernel_rfl) (by kernel_rfl) (by kernel_rfl) (fun _ _ _ h=>h) rfl trivial (by intro w' hw1; go_simp; rfl) ?_;simp only[Act.put,az,aA,aB];refine af 3 rfl (by kernel_rfl) (by kernel_rfl) (by kernel_rfl) (fun _ _ _ h=>h) rfl trivial (by intro w' hw1; go_simp; rfl) ?_
 simp only[Act.put,az,aA,aB];refine af 4 rfl (by kernel_rfl) (by kernel_rfl) (by kernel_rfl) (fun _ _ _ h=>h) rfl trivial (by intro w' hw1; go_simp; rfl) ?_;simp only[Act.put,az,aA,aB];refine am 5 rfl (by kernel_rfl) rfl (fun K hK=> ?_);go_wp2_with fail;refine(xu seed V).mono ?_;rintro e w2 ⟨rfl,ht⟩;have HTF:=ab ht.full;have HB2:=ab (ag HBV.out ht.below)
 have HX2:=ab ((ht.below.block _ (lt_of_block HXV.out)).trans HXV.out);have HLT:=ab (lt_of_block HXV.out);clear ht;go_wp2_with fail
 try refine⟨trivial, ?_⟩
 refine am 6 rfl (by kernel_rfl) rfl (fun K hK=> ?_);have HSRC:=ab (show ∀j v,(kU seed)[j]? =some v->w2.cell? ((⟨V.heap.size,0,none⟩:Addr).add j)=some v from fun j v hj=>by rw[Addr.add_mid,Nat.zero_add,cell_of_row w2 _ _ _ _ _ HTF.out,List.getElem?_toArray]; exact hj);have HFIT:=ab (show 0+(kU seed).length<=(jg W).toArray.size by rw[kB,List.size_toArray]; simp[jg])
 have HONE:=ab (show ∀v∈kU seed,v.oneCell'=true from fun v hv=>by obtain⟨x,_,rfl⟩:=List.mem_map.1 hv; rfl);go_wp2_with (refine wpList_copy_own rfl _ _ 262 262 rfl 43 Tryz.underlying262 (by kernel_rfl) w.heap.size 0 256 256 ⟨V.heap.size,0,none⟩ 256 256 rfl rfl (jg W).toArray 237 HX2.out (kU seed) rfl HSRC.out HFIT.out HONE.out ?_);simp only[Act.put,az,aA,aB];obtain⟨w3,hw3⟩: ∃w3,w3=w2.setRow w.heap.size (List.take 0 (jg W)++(kU seed++List.drop (0+(kU seed).length) (jg W))).toArray:=⟨_,rfl⟩
 have HX3:=ab (show w3.heap[w.heap.size]? =some (.cells (dX seed (List.replicate 64 0) W 0 0 0).toArray 237 (0,0)) by
  rw[hw3,setRow_heap w2 _ _ _ _ _ HX2.out,List.take_zero,List.nil_append,Nat.zero_add,kB]
  congr 3)
 have HB3:=ab (show Below w.heap.size w w3 by rw[hw3]; exact below_setRow HB2.out (Nat.le_refl _) _);refine⟨trivial, ?_⟩;refine aQ (by kernel_rfl) ?_
 change Exit.then _ _ _ _ (w2.setRow w.heap.size (List.take 0 (jg W)++(kU seed++List.drop (0+(kU seed).length) (jg W))).toArray)
 rw[<-hw3];clear hw3;go_wp2_with fail;go_ret;exact⟨_,rfl,Nat.le_refl _,HX3.out,HB3.out⟩
end Go.Proofs.YtpffpjbkbaleiaaGreatDoor
namespace Go.Proofs.YtpffpjbkbaleiaaGreatDoor
open Go Go.RowKit
structure de where
 mn:Int
 mx:Int
 win:Int
 bits:Int
 seed:Nat
def cR (c:de):List Value:=[.int .i64 c.mn, .int .i64 c.mx, .int .i64 c.win, .int .i64 c.bits, .int .u64 (c.seed:Int)]
def eQ (c:de):Value:= .agg #[.int .i64 c.mn, .int .i64 c.mx, .int .i64 c.win, .int .i64 c.bits, .int .u64 (c.seed:Int)]
def gp (c:de):Bool:=decide (1<=c.win) && decide (c.win<=64) && decide (c.win<=c.mn) && decide (c.mn<=c.mx) && decide (c.mx<=32768) && decide (0<=c.bits) && decide (c.bits<=20)
theorem jb {c:de} :gp c=true<->1<=c.win/\c.win<=64/\c.win<=c.mn/\c.mn<=c.mx/\c.mx<=32768/\0<=c.bits/\c.bits<=20:=by unfold gp; simp[and_assoc]
theorem qd (c:de) (w:World):Calls Tryz.prog 70 #[eQ c] w fun e w'=>e= .returned (.bool (gp c))/\Below w.heap.size w w':=by
 unfold eQ
 go_enter Tryz.func70,Tryz.ntmps70
 go_wp2_with fail
 all_goals (go_ret; refine⟨ak ?_,(Below.refl _ _).alloc (Nat.le_refl _) _⟩; rw[Bool.eq_iff_iff,jb]; simp; try omega)
theorem yo {place:Nat->Option (Nat×Nat)} {cells:Array Value} {i off:Nat} {v:Value} {rest:List (Nat×Value)} (hp:place i=some (off,1)) (hv:v.cells= #[v]) (hf:off<cells.size):
  Instr.fill place cells ((i,v)::rest)=Instr.fill place (cells.setIfInBounds off v) rest:=by
 rw[Instr.fill,hp];simp only[hv];rw[if_neg (by simp; omega)]
 rfl
def zH :List Value:=jg 0++([.int .i64 0, .int .i64 0, .int .i64 0, .int .i64 0, .int .u64 0]++[.int .i64 0, .int .i64 0])
theorem xC :zH.length=331:=by kernel_rfl
theorem kQ (seed:Nat) {ring:List UInt8} (h:ring.length=64) (W s n x:Nat):(dX seed ring W s n x).length=324:=by unfold dX; rw[List.length_append,kB,List.length_append,List.length_map,h]; rfl
theorem sX (r:List Value) (c:de) (l:Int) (hr:r.length=324):Tryz.prog.built 239 [(0, .agg r.toArray),(1,eQ c),(3, .int .i64 l)]=some (r++(cR c++[Value.int .i64 0,Value.int .i64 l])).toArray:=by
 have h: ∀parts,Tryz.prog.built 239 parts=Instr.fill (fun i=>(#[(0,324),(324,5),(329,1),(330,1)]:Array (Nat×Nat))[i]?) zH.toArray parts:=fun parts=>by kernel_rfl
 have e0:splice zH 0 r=r++([.int .i64 0, .int .i64 0, .int .i64 0, .int .i64 0, .int .u64 0]++[.int .i64 0, .int .i64 0]):=by
  unfold splice;rw[List.take_zero,List.nil_append,Nat.zero_add,hr]
  congr 1
 rw[h,gC (off:=0) (size:=324) rfl (by simpa using hr) (by rw[List.size_toArray,xC]; decide)];simp only;rw[e0];unfold eQ;rw[gC (off:=324) (size:=5) rfl rfl (by rw[List.size_toArray,List.length_append,hr]; decide),yo (off:=330) rfl rfl (by rw[List.size_toArray,length_splice _ _ _ (by rw[List.length_append,hr]; show 324+5<=324+7; decide),List.length_append,hr]; show 330<324+7; decide)]
 simp only[Instr.fill]
 congr 1
 unfold splice;rw[List.setIfInBounds_toArray]
 congr 1
 rw[List.take_append_of_le_length (by omega),List.take_of_length_le (by omega),List.drop_append,List.drop_eq_nil_of_le (by rw[hr]; show 324<=324+5; decide),List.set_append_right _ _ (by omega),hr]
 rfl
def jz (c:de) (roll:List Value) (pos last:Int):List Value:=roll++(cR c++[Value.int .i64 pos,Value.int .i64 last])
theorem kO (c:de) {roll:List Value} (h:roll.length=324) (p l:Int):(jz c roll p l).length=331:=by unfold jz; rw[List.length_append,h]; rfl
theorem wO (seed:Nat) (ring:List UInt8) (W s n x:Nat): ∀v∈dX seed ring W s n x,v.oneCell'=true:=by
 intro v hv;unfold dX at hv
 rcases List.mem_append.1 hv with hv | hv
 ·obtain⟨y,_,rfl⟩:=List.mem_map.1 hv; rfl
 ·rcases List.mem_append.1 hv with hv | hv
  ·obtain⟨y,_,rfl⟩:=List.mem_map.1 hv; rfl
  ·simp only[List.mem_cons,List.not_mem_nil,or_false]at hv
   rcases hv with rfl | rfl | rfl | rfl<;> rfl
theorem pm (c:de) (seed:Nat) (W:Nat) (l:Int): ∀v∈dX seed (List.replicate 64 0) W 0 0 0++(cR c++[Value.int .i64 0,Value.int .i64 l]),v.oneCell'=true:=by
 intro v hv
 rcases List.mem_append.1 hv with hv | hv
 ·exact wO _ _ _ _ _ _ v hv
 ·simp only[cR,List.mem_append,List.mem_cons,List.not_mem_nil,or_false]at hv
  rcases hv with(rfl | rfl | rfl | rfl | rfl) | rfl | rfl<;> rfl
theorem tZ (seed W:Nat) (wi:Int) (w:World) (hwi:wi=(W:Int)) (hW:1<=W) (hW2:W<=64):Calls Tryz.prog 199 #[.int .u64 (seed:Int), .int .i64 wi] w fun e w'=> ∃rb,e= .returned (.pointer (some ⟨rb,0,none⟩))/\w.heap.size<=rb/\
  w'.heap[rb]? =some (.cells (dX seed (List.replicate 64 0) W 0 0 0).toArray 237 (0,0))/\Below w.heap.size w w':=by
 subst hwi; exact ss seed W w hW hW2
theorem ob (c:de) (W:Nat) (w:World) (_hs:c.seed<18446744073709551616) (hW:c.win=(W:Int)) (h1:1<=W) (h2:W<=64) (hm:0<=c.mn/\c.mn<=32768):
  Calls Tryz.prog 187 #[eQ c] w fun e w'=>e= .returned (.agg (jz c (dX c.seed (List.replicate 64 0) W 0 0 0) 0 (-c.mn)).toArray)/\Below w.heap.size w w':=by
 have HW:=ab hW;have hneg:IntKind.i64.wrap (-c.mn)= -c.mn:=by rw[IntKind.wrap_i64]; omega
 clear hW;unfold eQ
 go_enter Tryz.func187,Tryz.ntmps187
 go_wp2_with fail;obtain⟨w1,hw1⟩: ∃w1,w1=(w.alloc (.cells #[.int .i64 c.mn, .int .i64 c.mx, .int .i64 c.win, .int .i64 c.bits, .int .u64 (c.seed:Int)] 45)).alloc (.cells Tryz.zeroCells239 239):=⟨_,rfl⟩;rw[<-hw1];have HX1:=ab (show w1.heap[w.heap.size]? =some (.cells (cR c).toArray 45 (0,0)) by rw[hw1]; exact heap_alloc2_old w _ _);have HZ1:=ab (show w1.heap[w.heap.size+1]? =some (.cells Tryz.zeroCells239 239 (0,0)) by rw[hw1]; exact heap_alloc2_new w _ _)
 have HB1:=ab (show Below w.heap.size w w1 by rw[hw1]; exact((Below.refl _ _).alloc (Nat.le_refl _) _).alloc (by simp) _);clear hw1;refine cw (fun w'=>w'.cell? ⟨w.heap.size,0,none⟩=some (.int .i64 c.mn)/\w'.cell? ⟨w.heap.size,1,none⟩=some (.int .i64 c.mx)/\w'.cell? ⟨w.heap.size,2,none⟩=some (.int .i64 c.win)/\w'.cell? ⟨w.heap.size,3,none⟩=some (.int .i64 c.bits)/\w'.cell? ⟨w.heap.size,4,none⟩=some (.int .u64 (c.seed:Int))) (by kernel_rfl) ?_
 obtain⟨V,hV⟩: ∃V:World,V=w1.drew:=⟨_,rfl⟩;rw[<-hV];have HXV:=ab (show V.heap[w.heap.size]? =some (.cells (cR c).toArray 45 (0,0)) by rw[hV]; exact HX1.out);have HZV:=ab (show V.heap[w.heap.size+1]? =some (.cells Tryz.zeroCells239 239 (0,0)) by rw[hV]; exact HZ1.out);have HBV:=ab (show Below w.heap.size w V by rw[hV]; exact HB1.out.trans (Below.refl _ _).drew);clear hV
 have c0:V.cell? ⟨w.heap.size,0,none⟩=some (.int .i64 c.mn):=(cell_of_row V _ _ _ _ _ HXV.out).trans rfl;have c1:V.cell? ⟨w.heap.size,1,none⟩=some (.int .i64 c.mx):=(cell_of_row V _ _ _ _ _ HXV.out).trans rfl;have c2:V.cell? ⟨w.heap.size,2,none⟩=some (.int .i64 c.win):=(cell_of_row V _ _ _ _ _ HXV.out).trans rfl;have c3:V.cell? ⟨w.heap.size,3,none⟩=some (.int .i64 c.bits):=(cell_of_row V _ _ _ _ _ HXV.out).trans rfl
 have c4:V.cell? ⟨w.heap.size,4,none⟩=some (.int .u64 (c.seed:Int)):=(cell_of_row V _ _ _ _ _ HXV.out).trans rfl;refine af 0 rfl (by kernel_rfl) (by kernel_rfl) (by kernel_rfl) (fun _ _ _ h=>h) rfl ⟨c0,c1,c2,c3,c4⟩ (by rintro w' ⟨hw1,hw2,hw3,hw4,hw5⟩; go_simp; rfl) ?_;simp only[Act.put,az,aA,aB];refine af 1 rfl (by kernel_rfl) (by kernel_rfl) (by kernel_rfl) (fun _ _ _ h=>h) rfl ⟨c0,c1,c2,c3,c4⟩ (by rintro w' ⟨hw1,hw2,hw3,hw4,hw5⟩; go_simp; rfl) ?_
 simp only[Act.put,az,aA,aB];refine af 2 rfl (by kernel_rfl) (by kernel_rfl) (by kernel_rfl) (fun _ _ _ h=>h) rfl ⟨c0,c1,c2,c3,c4⟩ (by rintro w' ⟨hw1,hw2,hw3,hw4,hw5⟩; go_simp; rfl) ?_;simp only[Act.put,az,aA,aB];refine af 3 rfl (by kernel_rfl) (by kernel_rfl) (by kernel_rfl) (fun _ _ _ h=>h) rfl ⟨c0,c1,c2,c3,c4⟩ (by rintro w' ⟨hw1,hw2,hw3,hw4,hw5⟩; go_simp; rfl) ?_
 simp only[Act.put,az,aA,aB];refine af 7 rfl (by kernel_rfl) (by kernel_rfl) (by kernel_rfl) (fun _ _ _ h=>h) rfl ⟨c0,c1,c2,c3,c4⟩ (by rintro w' ⟨hw1,hw2,hw3,hw4,hw5⟩; go_simp; rfl) ?_;simp only[Act.put,az,aA,aB];refine af 8 rfl (by kernel_rfl) (by kernel_rfl) (by kernel_rfl) (fun _ _ _ h=>h) rfl ⟨c0,c1,c2,c3,c4⟩ (by rintro w' ⟨hw1,hw2,hw3,hw4,hw5⟩; go_simp; rfl) ?_
 simp only[Act.put,az,aA,aB];refine af 9 rfl (by kernel_rfl) (by kernel_rfl) (by kernel_rfl) (fun _ _ _ h=>h) rfl ⟨c0,c1,c2,c3,c4⟩ (by rintro w' ⟨hw1,hw2,hw3,hw4,hw5⟩; go_simp; rfl) ?_;simp only[Act.put,az,aA,aB];refine af 10 rfl (by kernel_rfl) (by kernel_rfl) (by kernel_rfl) (fun _ _ _ h=>h) rfl ⟨c0,c1,c2,c3,c4⟩ (by rintro w' ⟨hw1,hw2,hw3,hw4,hw5⟩; go_simp; rfl) ?_
 simp only[Act.put,az,aA,aB];refine am 4 rfl (by kernel_rfl) rfl (fun K hK=> ?_);go_wp2_with fail;refine(tZ c.seed W c.win V HW.out h1 h2).mono ?_;rintro e w2 ⟨rb,rfl,hrb,hbx,hb2⟩;have HB2:=ab (ag HBV.out hb2);have HX2:=ab ((hb2.block _ (lt_of_block HXV.out)).trans HXV.out);have HZ2:=ab ((hb2.block _ (lt_of_block HZV.out)).trans HZV.out);have HRB:=ab hbx
 clear c0 c1 c2 c3 c4 hb2 hbx;have c0:w2.cell? ⟨w.heap.size,0,none⟩=some (.int .i64 c.mn):=(cell_of_row w2 _ _ _ _ _ HX2.out).trans rfl;have c1:w2.cell? ⟨w.heap.size,1,none⟩=some (.int .i64 c.mx):=(cell_of_row w2 _ _ _ _ _ HX2.out).trans rfl;have c2:w2.cell? ⟨w.heap.size,2,none⟩=some (.int .i64 c.win):=(cell_of_row w2 _ _ _ _ _ HX2.out).trans rfl;have c3:w2.cell? ⟨w.heap.size,3,none⟩=some (.int .i64 c.bits):=(cell_of_row w2 _ _ _ _ _ HX2.out).trans rfl
 have c4:w2.cell? ⟨w.heap.size,4,none⟩=some (.int .u64 (c.seed:Int)):=(cell_of_row w2 _ _ _ _ _ HX2.out).trans rfl;go_wp2_with fail;refine⟨⟨c0,c1,c2,c3,c4⟩, ?_⟩;refine af 5 rfl (by kernel_rfl) (by kernel_rfl) (by kernel_rfl) (fun _ _ _ h=>h) rfl ⟨c0,c1,c2,c3,c4⟩ (by rintro w' ⟨hw1,hw2,hw3,hw4,hw5⟩; go_simp; rfl) ?_;simp only[Act.put,az,aA,aB];obtain⟨rc,hrc⟩: ∃rc,rc=dX c.seed (List.replicate 64 0) W 0 0 0:=⟨_,rfl⟩
 have hrl:rc.length=324:=by rw[hrc]; exact kQ _ (by simp) _ _ _ _
 rw[<-hrc]at HRB;have HRC:=ab hrc;clear hrc;have HI324:=ab (show(Tryz.prog.info? 237).map (·.size)=some rc.length by rw[hrl]; kernel_rfl);have HRG:=ab (jr HRB.out);have HBM:=ab (sX rc c (-c.mn) hrl);have HRL:=ab hrl;clear hrl;refine am 6 rfl (by kernel_rfl) rfl (fun K hK=> ?_);go_wp2_with (refine wpList_load_mid rfl 237 _ rfl rb 0 rfl rc _ HRG.out Tryz.underlying237 rfl HI324.out ?_)
 refine⟨⟨c0,c1,c2,c3,c4⟩, ?_⟩;simp only[Act.put,az,aA,aB];refine am 11 rfl (by kernel_rfl) rfl (fun K hK=> ?_);go_wp2_with (go_loud (refine eB rfl 239 _ rfl [(0, .agg rc.toArray),(1,eQ c),(3, .int .i64 (-c.mn))] (by kernel_rfl) _ HBM.out ?_));refine⟨⟨c0,c1,c2,c3,c4⟩, ?_⟩;simp only[Act.put,az,aA,aB];refine am 12 rfl (by kernel_rfl) rfl (fun K hK=> ?_)
 obtain⟨mc,hmc⟩: ∃mc,mc=rc++(cR c++[Value.int .i64 0,Value.int .i64 (-c.mn)]):=⟨_,rfl⟩;have hml:mc.length=331:=by rw[hmc]; exact kO c HRL.out 0 (-c.mn)
 rw[<-hmc];have HMC:=ab hmc;have HI331:=ab (show(Tryz.prog.info? 239).map (·.size)=some mc.toArray.size by rw[List.size_toArray,hml]; kernel_rfl);have HOLD:=ab (show Tryz.zeroCells239.size=mc.toArray.size by rw[show mc.toArray.size=331 from by rw[List.size_toArray]; exact hml]; kernel_rfl);have HONE:=ab (show mc.toArray.all (·.oneCell')=true from all_oneCell_toArray (by
  rw[hmc,HRC.out];exact pm c _ _ _))
 clear hml hmc;go_wp2_with (go_loud (refine wpList_store_row rfl 239 _ _ rfl (w.heap.size+1) _ rfl rfl _ _ HZ2.out HI331.out HOLD.out HONE.out ?_));simp only[Act.put];obtain⟨w3,hw3⟩: ∃w3,w3=w2.setRow (w.heap.size+1) mc.toArray:=⟨_,rfl⟩;rw[<-hw3];have hX3:w3.heap[w.heap.size]? =some (.cells (cR c).toArray 45 (0,0)):=by rw[hw3,setRow_other w2 _ _ _ (by omega)]; exact HX2.out
 have HM3:=ab (show w3.heap[w.heap.size+1]? =some (.cells mc.toArray 239 (0,0)) by rw[hw3]; exact setRow_heap w2 _ _ _ _ _ HZ2.out);have HB3:=ab (show Below w.heap.size w w3 by rw[hw3]; exact below_setRow HB2.out (by omega) _);clear hw3;refine⟨⟨(cell_of_row w3 _ _ _ _ _ hX3).trans rfl,(cell_of_row w3 _ _ _ _ _ hX3).trans rfl,(cell_of_row w3 _ _ _ _ _ hX3).trans rfl,(cell_of_row w3 _ _ _ _ _ hX3).trans rfl,(cell_of_row w3 _ _ _ _ _ hX3).trans rfl⟩, ?_⟩
 refine aQ (by kernel_rfl) ?_;clear c0 c1 c2 c3 c4 hX3;have HFIN:=ab (show Ending.returned (.agg mc.toArray)=Ending.returned (.agg (jz c (dX c.seed (List.replicate 64 0) W 0 0 0) 0 (-c.mn)).toArray) by rw[HMC.out,HRC.out]; rfl);go_wp2_with fail;refine bodyPost_ret (results_cell_row rfl _ _ (w.heap.size+1) _ _ _ _ rfl HM3.out Tryz.underlying239 rfl HI331.out) rfl ?_;exact⟨HFIN.out,HB3.out⟩
end Go.Proofs.YtpffpjbkbaleiaaGreatDoor
namespace Go.Proofs.YtpffpjbkbaleiaaGreatDoor
open Go Go.RowKit
structure jv (seed W : Nat) (d : List UInt8) (cs : List Value) : Prop where
 tab: ∀i,i<256->cs[i]? =some (.int .u64 ((qn seed i:Nat):Int))
 rng: ∀j,j<64-> ∃b,cs[256+j]? =some (an b)
 win:cs[320]? =some (.int .i64 (W:Int))
 st: ∃s,s<64/\cs[321]? =some (.int .i64 (s:Int))/\ ∀j b,(gK W d)[j]? =some b->cs[256+(s+j)%64]? =some (an b)
 len:cs[322]? =some (.int .i64 ((min W d.length:Nat):Int))
 sum:cs[323]? =some (.int .u64 ((lr seed (gK W d):Nat):Int))
theorem jv.lt {seed W:Nat} {d:List UInt8} {cs:List Value} (h:jv seed W d cs):323<cs.length:=(List.getElem?_eq_some_iff.1 h.sum).1
theorem vj {x y:Nat} (hx:x<18446744073709551616) (hy:y<18446744073709551616):bits BinOp.xor IntKind.u64 (x:Int) (y:Int)=((x^^^y:Nat):Int):=u64_xor_nat x y hx hy
theorem bc {w:World} {b k:Nat} {cs:List Value} {ty:TypeId} (h:w.heap[b]? =some (.cells cs.toArray ty (0,0))):w.cell? ⟨b,k,none⟩=cs[k]? :=by rw[cell_of_row w _ _ _ _ _ h,List.getElem?_toArray]
theorem eM {w:World} {b k:Nat} {cs:List Value} {ty:TypeId} (h:w.heap[b]? =some (.cells cs.toArray ty (0,0))) (v:Value):(w.setCell ⟨b,k,none⟩ v).heap[b]? =some (.cells (cs.set k v).toArray ty (0,0)):=by
 rw[heap_setCell_same w _ _ _ _ _ h,List.setIfInBounds_toArray]
theorem bp {w V:World} {rb:Nat} (h:w.grownBy V (some rb)) (k:Nat) (v:Value):w.grownBy (V.setCell ⟨rb,k,none⟩ v) (some rb):=h.trans (aD _ _ _ _)
theorem jL {w V:World} {rb:Nat} (h:w.grownBy V (some rb)):w.grownBy V.drew (some rb):=h.trans ⟨rfl,rfl,rfl,Nat.le_refl _,fun _ _ _=>rfl⟩
theorem fW {w V:World} {rb:Nat} (h:w.grownBy V (some rb)) (n:Nat):w.grownBy (V.drewN n) (some rb):=h.trans ⟨rfl,rfl,rfl,Nat.le_refl _,fun _ _ _=>rfl⟩
theorem jv.push {seed W:Nat} {d:List UInt8} {cs cs2:List Value} (h:jv seed W d cs) {b:UInt8} {q:List UInt8} {s2 n2:Nat} (heq: ∀i,i<321->cs2[i]? =cs[i]?) (hs:cs2[321]? =some (.int .i64 (s2:Int))) (hs2:s2<64) (hl:323<cs2.length)
  (hsum:cs2[323]? =some (.int .u64 ((lr seed (gK W (d++[b])):Nat):Int))) (hq:gK W (d++[b])=q++[b]) (hqn:q.length=n2) (hn:n2<W) (hW:W<=64) (hring: ∀(j:Nat) (c:UInt8),q[j]? =some c->cs2[256+(s2+j)%64]? =some (an c)):
  jv seed W (d++[b]) ((cs2.set (256+(s2+n2)%64) (an b)).set 322 (.int .i64 ((n2+1:Nat):Int))) where
 tab i hi:=by rw[List.getElem?_set_ne (by omega),List.getElem?_set_ne (by omega),heq i (by omega)]; exact h.tab i hi
 rng j hj:=by
  rw[List.getElem?_set_ne (by omega)]
  by_cases e:(s2+n2)%64=j
  ·rw[e,List.getElem?_set_self (by omega)]; exact⟨b,rfl⟩
  ·rw[List.getElem?_set_ne (by omega),heq _ (by omega)]; exact h.rng j hj
 win:=by rw[List.getElem?_set_ne (by omega),List.getElem?_set_ne (by omega),heq _ (by omega)]; exact h.win
 st:=by
  refine⟨s2,hs2,by rw[List.getElem?_set_ne (by omega),List.getElem?_set_ne (by omega)]; exact hs,fun j c hc=> ?_⟩;rw[hq]at hc;rw[List.getElem?_set_ne (by omega)]
  rcases Nat.lt_trichotomy j n2 with hj | hj | hj
  ·rw[List.getElem?_append_left (by omega)]at hc;rw[List.getElem?_set_ne (by omega)];exact hring j c hc
  ·subst hj;rw[List.getElem?_append_right (by omega),hqn,Nat.sub_self,List.getElem?_cons_zero]at hc
   cases hc
   rw[List.getElem?_set_self (by omega)]
  ·rw[List.getElem?_eq_none (by simp; omega)]at hc; cases hc
 len:=by
  rw[List.getElem?_set_self (by simpa using by omega)];have:=jd W (d++[b]);rw[hq]at this;simp only[List.length_append,List.length_cons,List.length_nil]at this ⊢;rw[<-this,hqn]
 sum:=by rw[List.getElem?_set_ne (by omega),List.getElem?_set_ne (by omega)]; exact hsum
theorem yQ (rb:Nat) (ty:TypeId) (seed W:Nat) (d:List UInt8) (b:UInt8) (cs:List Value) (w:World) (hb:w.heap[rb]? =some (.cells cs.toArray ty (0,0))) (hr:jv seed W d cs) (hW:1<=W) (hW2:W<=64):
  Calls Tryz.prog 200 #[.pointer (some ⟨rb,0,none⟩), .int .u8 (b.toNat:Int)] w fun e w'=>e= .returned (.tuple #[])/\(∃cs',w'.heap[rb]? =some (.cells cs'.toArray ty (0,0))/\jv seed W (d++[b]) cs'/\cs'.length=cs.length/\ ∀i,324<=i->cs'[i]? =cs[i]?)/\w.grownBy w' (some rb):=by
 have HB:=ab hb;have HR:=ab hr;clear hb hr;have hbt:=b.toNat_lt;have hbti:(b.toNat:Int)<256:=by omega
 obtain⟨t,ht⟩: ∃t,t=qn seed b.toNat:=⟨_,rfl⟩;obtain⟨h,hh⟩: ∃h,h=lr seed (gK W d):=⟨_,rfl⟩;have htl:t<18446744073709551616:=by rw[ht]; exact mg _ _
 have hhl:h<18446744073709551616:=by rw[hh]; exact rm _ _
 have c323:w.cell? ⟨rb,323,none⟩=some (.int .u64 (h:Int)):=by rw[bc HB.out,HR.out.sum,hh]
 have ct:w.cell? ⟨rb,b.toNat,none⟩=some (.int .u64 (t:Int)):=by rw[bc HB.out,HR.out.tab _ hbt,ht]
 have HT:=ab (And.intro ht hh);clear ht hh
 go_enter Tryz.func200,Tryz.ntmps200
 go_wp2_with fail;refine bH (fun w'=>w'.cell? ⟨rb,323,none⟩=some (.int .u64 (h:Int))/\w'.cell? ⟨rb,b.toNat,none⟩=some (.int .u64 (t:Int))) (by kernel_rfl) (by kernel_rfl) ?_;simp only[List.dropLast_cons_cons,List.dropLast_singleton,List.length_cons,List.length_nil,Nat.reduceAdd,Nat.reduceSub];obtain⟨V,hV⟩: ∃V:World,V=w.drew:=⟨_,rfl⟩;rw[<-hV];have HBV:=ab (show V.heap[rb]? =some (.cells cs.toArray ty (0,0)) by rw[hV]; exact HB.out)
 have HGV:=ab (show w.grownBy V (some rb) by rw[hV]; exact⟨rfl,rfl,rfl,Nat.le_refl _,fun _ _ _=>rfl⟩);clear c323 ct;have c323:V.cell? ⟨rb,323,none⟩=some (.int .u64 (h:Int)):=by rw[bc HBV.out,HR.out.sum,HT.out.2]
 have ct:V.cell? ⟨rb,b.toNat,none⟩=some (.int .u64 (t:Int)):=by rw[bc HBV.out,HR.out.tab _ hbt,HT.out.1]
 clear hV;refine af 0 rfl (by kernel_rfl) (by kernel_rfl) (by kernel_rfl) (fun _ _ _ h=>h) rfl ⟨c323,ct⟩ (by rintro w' ⟨hw1,hw2⟩; go_simp; rfl) ?_;simp only[Act.put,az,aA,aB];refine af 1 rfl (by kernel_rfl) (by kernel_rfl) (by kernel_rfl) (fun _ _ _ h=>h) rfl ⟨c323,ct⟩ (by rintro w' ⟨hw1,hw2⟩; go_simp; rfl) ?_;simp only[Act.put,az,aA,aB];refine af 2 rfl (by kernel_rfl) (by kernel_rfl) (by kernel_rfl) (fun _ _ _ h=>h) rfl ⟨c323,ct⟩ (by rintro w' ⟨hw1,hw2⟩; go_simp; rfl) ?_
 simp only[Act.put,az,aA,aB];refine af 3 rfl (by kernel_rfl) (by kernel_rfl) (by kernel_rfl) (fun _ _ _ h=>h) rfl ⟨c323,ct⟩ (by rintro w' ⟨hw1,hw2⟩; go_simp; rfl) ?_;simp only[Act.put,az,aA,aB];refine af 4 rfl (by kernel_rfl) (by kernel_rfl) (by kernel_rfl) (fun _ _ _ h=>h) rfl ⟨c323,ct⟩ (by rintro w' ⟨hw1,hw2⟩; go_simp; rfl) ?_;simp only[Act.put,az,aA,aB];refine af 6 rfl (by kernel_rfl) (by kernel_rfl) (by kernel_rfl) (fun _ _ _ h=>h) rfl ⟨c323,ct⟩ (by rintro w' ⟨hw1,hw2⟩; go_simp; rfl) ?_
 simp only[Act.put,az,aA,aB];refine af 7 rfl (by kernel_rfl) (by kernel_rfl) (by kernel_rfl) (fun _ _ _ h=>h) rfl ⟨c323,ct⟩ (by rintro w' ⟨hw1,hw2⟩; go_simp; rfl) ?_;simp only[Act.put,az,aA,aB];refine af 8 rfl (by kernel_rfl) (by kernel_rfl) (by kernel_rfl) (fun _ _ _ h=>h) rfl ⟨c323,ct⟩ (by rintro w' ⟨hw1,hw2⟩; go_simp; rfl) ?_;simp only[Act.put,az,aA,aB];refine af 9 rfl (by kernel_rfl) (by kernel_rfl) (by kernel_rfl) (fun _ _ _ h=>h) rfl ⟨c323,ct⟩ (by rintro w' ⟨hw1,hw2⟩; go_simp; rfl) ?_
 simp only[Act.put,az,aA,aB];refine af 10 rfl (by kernel_rfl) (by kernel_rfl) (by kernel_rfl) (fun _ _ _ h=>h) rfl ⟨c323,ct⟩ (by rintro w' ⟨hw1,hw2⟩; go_simp; rfl) ?_;simp only[Act.put,az,aA,aB];refine af 11 rfl (by kernel_rfl) (by kernel_rfl) (by kernel_rfl) (fun _ _ _ h=>h) rfl ⟨c323,ct⟩ (by rintro w' ⟨hw1,hw2⟩; go_simp; rfl) ?_;simp only[Act.put,az,aA,aB]
 refine am 5 rfl (by kernel_rfl) rfl (fun K hK=> ?_);go_wp2_with fail;refine(pA h 1 V hhl (by decide)).mono ?_;rintro e w1 ⟨rfl,rfl⟩;go_wp2_with fail;refine⟨⟨c323,ct⟩, ?_⟩;refine af 12 rfl (by kernel_rfl) (by kernel_rfl) (by kernel_rfl) (fun _ _ _ h=>h) rfl ⟨c323,ct⟩ (by rintro w' ⟨hw1,hw2⟩; go_simp; rfl) ?_;simp only[Act.put,az,aA,aB];refine af 13 rfl (by kernel_rfl) (by kernel_rfl) (by kernel_rfl) (fun _ _ _ h=>h) rfl ⟨c323,ct⟩ (by rintro w' ⟨hw1,hw2⟩; go_simp; rfl) ?_
 simp only[Act.put,az,aA,aB];refine af 14 rfl (by kernel_rfl) (by kernel_rfl) (by kernel_rfl) (fun _ _ _ h=>h) rfl ⟨c323,ct⟩ (by rintro w' ⟨hw1,hw2⟩; go_simp; rfl) ?_;simp only[Act.put,az,aA,aB];rw[vj (gH 1 hhl) htl];obtain⟨h1,hh1⟩: ∃h1,h1=dk h 1^^^t:=⟨_,rfl⟩;rw[<-hh1];have hh1l:h1<18446744073709551616:=by rw[hh1]; exact kG (gH 1 hhl) htl
 have HH1:=ab hh1;clear hh1;have cf:V.frozen? ⟨rb,323,none⟩=false:=frozen_of_row V _ _ _ _ HBV.out;refine aQ (by kernel_rfl) ?_;refine bM rfl rfl (fun K hK=> ?_);go_wp2_with fail;obtain⟨U,hU⟩: ∃U:World,U=V.setCell ⟨rb,323,none⟩ (.int .u64 (h1:Int)):=⟨_,rfl⟩;rw[<-hU];obtain⟨cs1,hc1⟩: ∃cs1,cs1=cs.set 323 (.int .u64 (h1:Int)):=⟨_,rfl⟩;have HBU:=ab (show U.heap[rb]? =some (.cells cs1.toArray ty (0,0)) by rw[hU,hc1]; exact eM HBV.out _)
 have HGU:=ab (show w.grownBy U (some rb) by rw[hU]; exact bp HGV.out _ _);have HC1:=ab hc1;clear hU c323 ct cf hc1;obtain⟨n,hn⟩: ∃n,n=min W d.length:=⟨_,rfl⟩;obtain⟨s,hs,hsc,hsw⟩:=HR.out.st;have hl:=HR.out.lt;have c322:U.cell? ⟨rb,322,none⟩=some (.int .i64 (n:Int)):=by rw[bc HBU.out,HC1.out,List.getElem?_set_ne (by decide),HR.out.len,hn]
 have c320:U.cell? ⟨rb,320,none⟩=some (.int .i64 (W:Int)):=by rw[bc HBU.out,HC1.out,List.getElem?_set_ne (by decide),HR.out.win]
 have c321:U.cell? ⟨rb,321,none⟩=some (.int .i64 (s:Int)):=by rw[bc HBU.out,HC1.out,List.getElem?_set_ne (by decide),hsc]
 have HLN:=ab (show cs[322]? =some (.int .i64 (n:Int)) by rw[HR.out.len,hn]);have HN:=ab hn;have HSC:=ab hsc;clear hn hsc;have HSW:=ab hsw;clear hsw
 go_quiet (fail)
 have HBU1:=ab (show(U.drewN nq).heap[rb]? =some (.cells cs1.toArray ty (0,0))from HBU.out);have HGU1:=ab (show w.grownBy (U.drewN nq) (some rb)from fW HGU.out _);clear HBU HGU c322 c320 c321
 generalize U.drewN nq=U1 at *
 by_cases hf:n=W
 ·obtain⟨x,l,hxl⟩: ∃x l,gK W d=x::l:=by
   cases hw:gK W d with
   | nil=>have:=jd W d; rw[hw,<-HN.out,hf]at this; simp at this; omega
   | cons x l=>exact⟨x,l,rfl⟩
  have hll:l.length+1=W:=by have:=jd W d; rw[hxl,<-HN.out,hf]at this; simpa using this
  have hx:=HSW.out 0 x (by rw[hxl]; rfl);rw[Nat.add_zero,Nat.mod_eq_of_lt hs]at hx;have hxt:=x.toNat_lt;have hxti:(x.toNat:Int)<256:=by omega
  have hsi:(s:Int)<64:=by omega
  obtain⟨tx,htx⟩: ∃tx,tx=qn seed x.toNat:=⟨_,rfl⟩;have htxl:tx<18446744073709551616:=by rw[htx]; exact mg _ _
  have cx:=HR.out.tab _ hxt;rw[<-htx]at cx;have HX:=ab (And.intro hxl (And.intro hx (And.intro htx cx)));clear hxl hx htx cx;subst hf;go_wp2_with fail;refine bH (fun w'=>w'.cell? ⟨rb,323,none⟩=some (.int .u64 (h1:Int))/\w'.cell? ⟨rb,321,none⟩=some (.int .i64 (s:Int))/\w'.cell? ⟨rb,256+s,none⟩=some (.int .u8 (x.toNat:Int))/\w'.cell? ⟨rb,x.toNat,none⟩=some (.int .u64 (tx:Int))/\w'.cell? ⟨rb,320,none⟩=some (.int .i64 (n:Int))) (by kernel_rfl) (by kernel_rfl) ?_
  simp only[List.dropLast_cons_cons,List.dropLast_singleton,List.length_cons,List.length_nil,Nat.reduceAdd,Nat.reduceSub];obtain⟨V2,hV2⟩: ∃V2:World,V2=U1.drew:=⟨_,rfl⟩;rw[<-hV2];have HBV2:=ab (show V2.heap[rb]? =some (.cells cs1.toArray ty (0,0)) by rw[hV2]; exact HBU1.out);have HGV2:=ab (show w.grownBy V2 (some rb) by rw[hV2]; exact jL HGU1.out);clear hV2;have c323:V2.cell? ⟨rb,323,none⟩=some (.int .u64 (h1:Int)):=by rw[bc HBV2.out,HC1.out,List.getElem?_set_self (by omega)]
  have c320:V2.cell? ⟨rb,320,none⟩=some (.int .i64 (n:Int)):=by rw[bc HBV2.out,HC1.out,List.getElem?_set_ne (by decide),HR.out.win]
  have c321:V2.cell? ⟨rb,321,none⟩=some (.int .i64 (s:Int)):=by rw[bc HBV2.out,HC1.out,List.getElem?_set_ne (by decide),HSC.out]
  have cx1:V2.cell? ⟨rb,256+s,none⟩=some (.int .u8 (x.toNat:Int)):=by rw[bc HBV2.out,HC1.out,List.getElem?_set_ne (by omega),HX.out.2.1]; rfl
  have ct1:V2.cell? ⟨rb,x.toNat,none⟩=some (.int .u64 (tx:Int)):=by rw[bc HBV2.out,HC1.out,List.getElem?_set_ne (by omega),HX.out.2.2.2]
  refine af 0 rfl (by kernel_rfl) (by kernel_rfl) (by kernel_rfl) (fun _ _ _ h=>h) rfl ⟨c323,c321,cx1,ct1,c320⟩ (by rintro w' ⟨hw1,hw2,hw3,hw4,hw5⟩; go_simp; rfl) ?_;simp only[Act.put,az,aA,aB];refine af 1 rfl (by kernel_rfl) (by kernel_rfl) (by kernel_rfl) (fun _ _ _ h=>h) rfl ⟨c323,c321,cx1,ct1,c320⟩ (by rintro w' ⟨hw1,hw2,hw3,hw4,hw5⟩; go_simp; rfl) ?_;simp only[Act.put,az,aA,aB]
  refine af 2 rfl (by kernel_rfl) (by kernel_rfl) (by kernel_rfl) (fun _ _ _ h=>h) rfl ⟨c323,c321,cx1,ct1,c320⟩ (by rintro w' ⟨hw1,hw2,hw3,hw4,hw5⟩; go_simp; rfl) ?_;simp only[Act.put,az,aA,aB];refine af 3 rfl (by kernel_rfl) (by kernel_rfl) (by kernel_rfl) (fun _ _ _ h=>h) rfl ⟨c323,c321,cx1,ct1,c320⟩ (by rintro w' ⟨hw1,hw2,hw3,hw4,hw5⟩; go_simp; rfl) ?_;simp only[Act.put,az,aA,aB]
  refine af 4 rfl (by kernel_rfl) (by kernel_rfl) (by kernel_rfl) (fun _ _ _ h=>h) rfl ⟨c323,c321,cx1,ct1,c320⟩ (by rintro w' ⟨hw1,hw2,hw3,hw4,hw5⟩; go_simp; rfl) ?_;simp only[Act.put,az,aA,aB];refine af 5 rfl (by kernel_rfl) (by kernel_rfl) (by kernel_rfl) (fun _ _ _ h=>h) rfl ⟨c323,c321,cx1,ct1,c320⟩ (by rintro w' ⟨hw1,hw2,hw3,hw4,hw5⟩; go_simp; rfl) ?_;simp only[Act.put,az,aA,aB]
  refine af 6 rfl (by kernel_rfl) (by kernel_rfl) (by kernel_rfl) (fun _ _ _ h=>h) rfl ⟨c323,c321,cx1,ct1,c320⟩ (by rintro w' ⟨hw1,hw2,hw3,hw4,hw5⟩; go_simp; rfl) ?_;simp only[Act.put,az,aA,aB];refine af 7 rfl (by kernel_rfl) (by kernel_rfl) (by kernel_rfl) (fun _ _ _ h=>h) rfl ⟨c323,c321,cx1,ct1,c320⟩ (by rintro w' ⟨hw1,hw2,hw3,hw4,hw5⟩; go_simp; rfl) ?_;simp only[Act.put,az,aA,aB]
  refine af 8 rfl (by kernel_rfl) (by kernel_rfl) (by kernel_rfl) (fun _ _ _ h=>h) rfl ⟨c323,c321,cx1,ct1,c320⟩ (by rintro w' ⟨hw1,hw2,hw3,hw4,hw5⟩; go_simp; rfl) ?_;simp only[Act.put,az,aA,aB];refine af 9 rfl (by kernel_rfl) (by kernel_rfl) (by kernel_rfl) (fun _ _ _ h=>h) rfl ⟨c323,c321,cx1,ct1,c320⟩ (by rintro w' ⟨hw1,hw2,hw3,hw4,hw5⟩; go_simp; rfl) ?_;simp only[Act.put,az,aA,aB]
  refine af 10 rfl (by kernel_rfl) (by kernel_rfl) (by kernel_rfl) (fun _ _ _ h=>h) rfl ⟨c323,c321,cx1,ct1,c320⟩ (by rintro w' ⟨hw1,hw2,hw3,hw4,hw5⟩; go_simp; rfl) ?_;simp only[Act.put,az,aA,aB];refine af 11 rfl (by kernel_rfl) (by kernel_rfl) (by kernel_rfl) (fun _ _ _ h=>h) rfl ⟨c323,c321,cx1,ct1,c320⟩ (by rintro w' ⟨hw1,hw2,hw3,hw4,hw5⟩; go_simp; rfl) ?_;simp only[Act.put,az,aA,aB]
  refine af 12 rfl (by kernel_rfl) (by kernel_rfl) (by kernel_rfl) (fun _ _ _ h=>h) rfl ⟨c323,c321,cx1,ct1,c320⟩ (by rintro w' ⟨hw1,hw2,hw3,hw4,hw5⟩; go_simp; rfl) ?_;simp only[Act.put,az,aA,aB];refine af 13 rfl (by kernel_rfl) (by kernel_rfl) (by kernel_rfl) (fun _ _ _ h=>h) rfl ⟨c323,c321,cx1,ct1,c320⟩ (by rintro w' ⟨hw1,hw2,hw3,hw4,hw5⟩; go_simp; rfl) ?_;simp only[Act.put,az,aA,aB]
  refine af 14 rfl (by kernel_rfl) (by kernel_rfl) (by kernel_rfl) (fun _ _ _ h=>h) rfl ⟨c323,c321,cx1,ct1,c320⟩ (by rintro w' ⟨hw1,hw2,hw3,hw4,hw5⟩; go_simp; rfl) ?_;simp only[Act.put,az,aA,aB];refine af 15 rfl (by kernel_rfl) (by kernel_rfl) (by kernel_rfl) (fun _ _ _ h=>h) rfl ⟨c323,c321,cx1,ct1,c320⟩ (by rintro w' ⟨hw1,hw2,hw3,hw4,hw5⟩; go_simp; rfl) ?_;simp only[Act.put,az,aA,aB]
  refine af 16 rfl (by kernel_rfl) (by kernel_rfl) (by kernel_rfl) (fun _ _ _ h=>h) rfl ⟨c323,c321,cx1,ct1,c320⟩ (by rintro w' ⟨hw1,hw2,hw3,hw4,hw5⟩; go_simp; rfl) ?_;simp only[Act.put,az,aA,aB];refine af 17 rfl (by kernel_rfl) (by kernel_rfl) (by kernel_rfl) (fun _ _ _ h=>h) rfl ⟨c323,c321,cx1,ct1,c320⟩ (by rintro w' ⟨hw1,hw2,hw3,hw4,hw5⟩; go_simp; rfl) ?_;simp only[Act.put,az,aA,aB]
  refine af 18 rfl (by kernel_rfl) (by kernel_rfl) (by kernel_rfl) (fun _ _ _ h=>h) rfl ⟨c323,c321,cx1,ct1,c320⟩ (by rintro w' ⟨hw1,hw2,hw3,hw4,hw5⟩; go_simp; rfl) ?_;simp only[Act.put,az,aA,aB];refine af 19 rfl (by kernel_rfl) (by kernel_rfl) (by kernel_rfl) (fun _ _ _ h=>h) rfl ⟨c323,c321,cx1,ct1,c320⟩ (by rintro w' ⟨hw1,hw2,hw3,hw4,hw5⟩; go_simp; rfl) ?_;simp only[Act.put,az,aA,aB]
  refine af 20 rfl (by kernel_rfl) (by kernel_rfl) (by kernel_rfl) (fun _ _ _ h=>h) rfl ⟨c323,c321,cx1,ct1,c320⟩ (by rintro w' ⟨hw1,hw2,hw3,hw4,hw5⟩; go_simp; rfl) ?_;simp only[Act.put,az,aA,aB];refine af 21 rfl (by kernel_rfl) (by kernel_rfl) (by kernel_rfl) (fun _ _ _ h=>h) rfl ⟨c323,c321,cx1,ct1,c320⟩ (by rintro w' ⟨hw1,hw2,hw3,hw4,hw5⟩; go_simp; rfl) ?_;simp only[Act.put,az,aA,aB]
  refine am 22 rfl (by kernel_rfl) rfl (fun K hK=> ?_);go_wp2_with fail;refine(pA tx n V2 htxl hW2).mono ?_;rintro e w1 ⟨rfl,rfl⟩;go_wp2_with fail;refine⟨⟨c323,c321,cx1,ct1,c320⟩, ?_⟩;refine af 23 rfl (by kernel_rfl) (by kernel_rfl) (by kernel_rfl) (fun _ _ _ h=>h) rfl ⟨c323,c321,cx1,ct1,c320⟩ (by rintro w' ⟨hw1,hw2,hw3,hw4,hw5⟩; go_simp; rfl) ?_;simp only[Act.put,az,aA,aB]
  refine af 24 rfl (by kernel_rfl) (by kernel_rfl) (by kernel_rfl) (fun _ _ _ h=>h) rfl ⟨c323,c321,cx1,ct1,c320⟩ (by rintro w' ⟨hw1,hw2,hw3,hw4,hw5⟩; go_simp; rfl) ?_;simp only[Act.put,az,aA,aB];refine af 25 rfl (by kernel_rfl) (by kernel_rfl) (by kernel_rfl) (fun _ _ _ h=>h) rfl ⟨c323,c321,cx1,ct1,c320⟩ (by rintro w' ⟨hw1,hw2,hw3,hw4,hw5⟩; go_simp; rfl) ?_;simp only[Act.put,az,aA,aB]
  rw[vj hh1l (gH n htxl)];obtain⟨h2,hh2⟩: ∃h2,h2=h1^^^dk tx n:=⟨_,rfl⟩;rw[<-hh2];have hh2l:h2<18446744073709551616:=by rw[hh2]; exact kG hh1l (gH n htxl)
  have HH2:=ab hh2;have cf:V2.frozen? ⟨rb,323,none⟩=false:=frozen_of_row V2 _ _ _ _ HBV2.out;have cf1:V2.frozen? ⟨rb,321,none⟩=false:=frozen_of_row V2 _ _ _ _ HBV2.out;have cf2:V2.frozen? ⟨rb,322,none⟩=false:=frozen_of_row V2 _ _ _ _ HBV2.out;have c322:V2.cell? ⟨rb,322,none⟩=some (.int .i64 (n:Int)):=by rw[bc HBV2.out,HC1.out,List.getElem?_set_ne (by decide),HLN.out]
  obtain⟨s2,hs2⟩: ∃s2,s2=(s+1)%64:=⟨_,rfl⟩;obtain⟨n2,hn2⟩: ∃n2,n2=n-1:=⟨_,rfl⟩;have hsa:IntKind.i64.wrap ((s:Int)+1)=((s+1:Nat):Int):=by rw[IntKind.wrap_i64]; omega
  have hsb:((s:Int)+1)%64=(s2:Int):=by omega
  have hna:IntKind.i64.wrap ((n:Int)-1)=(n2:Int):=by rw[IntKind.wrap_i64]; omega
  have hs264:s2<64:=by omega
  have hn264:n2<64:=by omega
  have HS2:=ab hs2;have HN2:=ab hn2;clear hh2 hs2 hn2;refine aQ (by kernel_rfl) ?_;refine bM rfl rfl (fun K hK=> ?_);go_wp2_with fail;obtain⟨X,hX⟩: ∃X:World,X=((V2.setCell ⟨rb,323,none⟩ (.int .u64 (h2:Int))).setCell ⟨rb,321,none⟩ (.int .i64 (s2:Int))).setCell ⟨rb,322,none⟩ (.int .i64 (n2:Int)):=⟨_,rfl⟩;rw[<-hX];have HBX:=ab (show X.heap[rb]? =some (.cells (((cs1.set 323 (.int .u64 (h2:Int))).set 321 (.int .i64 (s2:Int))).set 322 (.int .i64 (n2:Int))).toArray ty (0,0)) by rw[hX]; exact eM (eM (eM HBV2.out _) _) _)
  have HGX:=ab (show w.grownBy X (some rb) by rw[hX]; exact bp (bp (bp HGV2.out _ _) _ _) _ _);have HCX:=ab (show(((cs1.set 323 (.int .u64 (h2:Int))).set 321 (.int .i64 (s2:Int))).set 322 (.int .i64 (n2:Int)))[321]? =some (.int .i64 (s2:Int))/\(((cs1.set 323 (.int .u64 (h2:Int))).set 321 (.int .i64 (s2:Int))).set 322 (.int .i64 (n2:Int)))[322]? =some (.int .i64 (n2:Int))from⟨by rw[List.getElem?_set_ne (by decide),List.getElem?_set_self (by rw[HC1.out]; simp; omega)],by rw[List.getElem?_set_self (by rw[HC1.out]; simp; omega)]⟩)
  have HRX:=ab (show ∀j,j<64-> ∃c,(((cs1.set 323 (.int .u64 (h2:Int))).set 321 (.int .i64 (s2:Int))).set 322 (.int .i64 (n2:Int)))[256+j]? =some (an c)from fun j hj=>by
   rw[List.getElem?_set_ne (by omega),List.getElem?_set_ne (by omega),List.getElem?_set_ne (by omega),HC1.out,List.getElem?_set_ne (by omega)];exact HR.out.rng j hj)
  clear hX c323 c320 c321 cx1 ct1 cf cf1 cf2 c322;have hbt2:=hbt;obtain⟨j2,hj2⟩: ∃j2,j2=(s2+n2)%64:=⟨_,rfl⟩;have hj64:j2<64:=by omega
  have hj64i:(j2:Int)<64:=by omega
  have hadd:IntKind.i64.wrap ((s2:Int)+(n2:Int))=(s2:Int)+(n2:Int):=by rw[IntKind.wrap_i64]; omega
  have hmod:((s2:Int)+(n2:Int))%64=(j2:Int):=by omega
  have hmod2:Int.tmod ((s2:Int)+(n2:Int)) 64=(j2:Int):=by rw[Int.tmod_eq_emod_of_nonneg (by omega)]; omega
  have hmod3:IntKind.i64.wrap (j2:Int)=(j2:Int):=by rw[IntKind.wrap_i64]; omega
  have hinc:IntKind.i64.wrap ((n2:Int)+1)=((n2+1:Nat):Int):=by rw[IntKind.wrap_i64]; omega
  have c321:X.cell? ⟨rb,321,none⟩=some (.int .i64 (s2:Int)):=by rw[bc HBX.out,HCX.out.1]
  have c322:X.cell? ⟨rb,322,none⟩=some (.int .i64 (n2:Int)):=by rw[bc HBX.out,HCX.out.2]
  have cf1:X.frozen? ⟨rb,256+j2,none⟩=false:=frozen_of_row X _ _ _ _ HBX.out;have cf2:X.frozen? ⟨rb,322,none⟩=false:=frozen_of_row X _ _ _ _ HBX.out;obtain⟨bj,hbj⟩:=HRX.out j2 hj64;have cbj:X.cell? ⟨rb,256+j2,none⟩=some (an bj):=by rw[bc HBX.out,hbj]
  clear hbj;have hne1: ¬(256+j2=322):=by omega
  have hne2: ¬(322=256+j2):=by omega
  have HJ2:=ab hj2;clear hj2;refine au [some 15,none] (by kernel_rfl) (by kernel_rfl) (by kernel_rfl) ?_;simp only[bh,List.take_succ_cons,List.take_zero,List.drop_succ_cons,List.drop_zero]
  repeat (first | (refine aG rfl ?_; simp only[Act.put,az,aA,aB]) | (refine aS rfl (fun K hK=> ?_); go_simp; refine hK _ ?_; clear hK K))
  refine aR ?_;refine bJ rfl (fun K hK=> ?_);go_wp2_with fail
  go_end0
  refine⟨rfl,⟨_,eM (eM (show X.drew.heap[rb]? =_ from HBX.out) _) _, ?_, ?_, ?_⟩,bp (bp (jL HGX.out) _ _) _ _⟩
  ·rw[HJ2.out];have hlen:=(jd n d).symm;refine HR.out.push (b:=b) (q:=l) (s2:=s2) (n2:=n2) ?_ ?_ hs264 ?_ ?_ ?_ ?_ ?_ hW2 ?_
   ·intro i hi;rw[List.getElem?_set_ne (by omega),List.getElem?_set_ne (by omega),List.getElem?_set_ne (by omega),HC1.out,List.getElem?_set_ne (by omega)]
   ·exact HCX.out.1
   ·rw[HC1.out]; simp; omega
   ·rw[List.getElem?_set_ne (by omega),List.getElem?_set_ne (by omega),List.getElem?_set_self (by rw[HC1.out]; simp; omega),HH2.out,HH1.out,HT.out.1,HT.out.2,HX.out.2.2.1,pL hW (by have:=HN.out; omega),HX.out.1];have:=tq (mg seed) x b l (by omega);rw[hll]at this;unfold lr;rw[this]
    rfl
   ·rw[pL hW (by have:=HN.out; omega),HX.out.1]; rfl
   ·have:=HN2.out; omega
   ·have:=HN2.out; omega
   ·intro j c hc;have hjl:=(List.getElem?_eq_some_iff.1 hc).1;rw[List.getElem?_set_ne (by omega),List.getElem?_set_ne (by omega),List.getElem?_set_ne (by omega),HC1.out,List.getElem?_set_ne (by omega)];have:=HSW.out (j+1) c (by rw[HX.out.1]; exact hc);rw[show(s2+j)%64=(s+(j+1))%64 by have:=HS2.out; omega];exact this
  ·rw[HC1.out]; simp
  ·intro i hi;have:=HJ2.out;rw[List.getElem?_set_ne (by omega),List.getElem?_set_ne (by omega),List.getElem?_set_ne (by omega),List.getElem?_set_ne (by omega),List.getElem?_set_ne (by omega),HC1.out,List.getElem?_set_ne (by omega)]
 ·go_wp2_with fail;obtain⟨X,hX⟩: ∃X:World,X=U1:=⟨_,rfl⟩;rw[<-hX];obtain⟨s2,hs2⟩: ∃s2,s2=s:=⟨_,rfl⟩;obtain⟨n2,hn2⟩: ∃n2,n2=n:=⟨_,rfl⟩;have HBX:=ab (show X.heap[rb]? =some (.cells cs1.toArray ty (0,0)) by rw[hX]; exact HBU1.out);have HGX:=ab (show w.grownBy X (some rb) by rw[hX]; exact HGU1.out);have HCX:=ab (show cs1[321]? =some (.int .i64 (s2:Int))/\cs1[322]? =some (.int .i64 (n2:Int))from⟨by rw[HC1.out,List.getElem?_set_ne (by decide),HSC.out,hs2],by rw[HC1.out,List.getElem?_set_ne (by decide),HLN.out,hn2]⟩)
  have HRX:=ab (show ∀j,j<64-> ∃c,cs1[256+j]? =some (an c)from fun j hj=>by
   rw[HC1.out,List.getElem?_set_ne (by omega)];exact HR.out.rng j hj)
  have hs264:s2<64:=by omega
  have hn264:n2<64:=by have:=HN.out; omega
  have HS2:=ab hs2;have HN2:=ab hn2;clear hX hs2 hn2;have hbt2:=hbt;obtain⟨j2,hj2⟩: ∃j2,j2=(s2+n2)%64:=⟨_,rfl⟩;have hj64:j2<64:=by omega
  have hj64i:(j2:Int)<64:=by omega
  have hadd:IntKind.i64.wrap ((s2:Int)+(n2:Int))=(s2:Int)+(n2:Int):=by rw[IntKind.wrap_i64]; omega
  have hmod:((s2:Int)+(n2:Int))%64=(j2:Int):=by omega
  have hmod2:Int.tmod ((s2:Int)+(n2:Int)) 64=(j2:Int):=by rw[Int.tmod_eq_emod_of_nonneg (by omega)]; omega
  have hmod3:IntKind.i64.wrap (j2:Int)=(j2:Int):=by rw[IntKind.wrap_i64]; omega
  have hinc:IntKind.i64.wrap ((n2:Int)+1)=((n2+1:Nat):Int):=by rw[IntKind.wrap_i64]; omega
  have c321:X.cell? ⟨rb,321,none⟩=some (.int .i64 (s2:Int)):=by rw[bc HBX.out,HCX.out.1]
  have c322:X.cell? ⟨rb,322,none⟩=some (.int .i64 (n2:Int)):=by rw[bc HBX.out,HCX.out.2]
  have cf1:X.frozen? ⟨rb,256+j2,none⟩=false:=frozen_of_row X _ _ _ _ HBX.out;have cf2:X.frozen? ⟨rb,322,none⟩=false:=frozen_of_row X _ _ _ _ HBX.out;obtain⟨bj,hbj⟩:=HRX.out j2 hj64;have cbj:X.cell? ⟨rb,256+j2,none⟩=some (an bj):=by rw[bc HBX.out,hbj]
  clear hbj;have hne1: ¬(256+j2=322):=by omega
  have hne2: ¬(322=256+j2):=by omega
  have HJ2:=ab hj2;clear hj2;refine au [some 15,none] (by kernel_rfl) (by kernel_rfl) (by kernel_rfl) ?_;simp only[bh,List.take_succ_cons,List.take_zero,List.drop_succ_cons,List.drop_zero]
  repeat (first | (refine aG rfl ?_; simp only[Act.put,az,aA,aB]) | (refine aS rfl (fun K hK=> ?_); go_simp; refine hK _ ?_; clear hK K))
  refine aR ?_;refine bJ rfl (fun K hK=> ?_);go_wp2_with fail
  go_end0
  have hdl:d.length<W:=by have:=HN.out; omega
  refine⟨rfl,⟨_,eM (eM (show X.drew.heap[rb]? =_ from HBX.out) _) _, ?_, ?_, ?_⟩,bp (bp (jL HGX.out) _ _) _ _⟩
  ·rw[HJ2.out];refine HR.out.push (b:=b) (q:=gK W d) (s2:=s2) (n2:=n2) ?_ ?_ hs264 ?_ ?_ (pK hdl b) ?_ ?_ hW2 ?_
   ·intro i hi;rw[HC1.out,List.getElem?_set_ne (by omega)]
   ·exact HCX.out.1
   ·rw[HC1.out]; simp; omega
   ·rw[HC1.out,List.getElem?_set_self (by omega),HH1.out,HT.out.1,HT.out.2,pK hdl];unfold lr;rw[fE]
   ·rw[jd,<-HN.out,HN2.out]
   ·have:=HN2.out; have:=HN.out; omega
   ·intro j c hc;rw[HC1.out,List.getElem?_set_ne (by omega),HS2.out];exact HSW.out j c hc
  ·rw[HC1.out]; simp
  ·intro i hi;have:=HJ2.out;rw[List.getElem?_set_ne (by omega),List.getElem?_set_ne (by omega),HC1.out,List.getElem?_set_ne (by omega)]
end Go.Proofs.YtpffpjbkbaleiaaGreatDoor
namespace Go.Proofs.YtpffpjbkbaleiaaGreatDoor
open Go Go.RowKit
structure qC (w : World) : Prop where
 tab:TabAt 6 Lib.deBruijn64tab w
 lt:6<w.heap.size
theorem qC.block {w w':World} (h:qC w) (hb:w'.heap[6]? =w.heap[6]?) (hs:w.heap.size<=w'.heap.size):qC w':=
 ⟨fun j hj=>by rw[<-h.tab j hj]; exact World.cell?_of_block hb,Nat.lt_of_lt_of_le h.lt hs⟩
theorem qC.below {w0 w w':World} (h:qC w) (hb:Below w0.heap.size w w') (hlt:6<w0.heap.size):qC w':=h.block (hb.block _ hlt) hb.size
theorem qC.grown {w w':World} {r:Option Nat} (h:qC w) (hg:w.grownBy w' r) (hr:r≠some 6):qC w':=h.block (hg.block _ h.lt (fun e=>hr e.symm)) hg.size
theorem iX (rb n:Nat) (w:World) (h:w.cell? ⟨rb,322,none⟩=some (.int .i64 (n:Int))):Calls Tryz.prog 201 #[.pointer (some ⟨rb,0,none⟩)] w fun e w'=>e= .returned (.int .i64 (n:Int))/\w=w':=by
 go_enter Tryz.func201,Tryz.ntmps201
 go_wp2_with fail;go_ret;exact⟨rfl,rfl⟩
theorem iY (rb n:Nat) (w:World) (h:w.cell? ⟨rb,323,none⟩=some (.int .u64 (n:Int))):Calls Tryz.prog 203 #[.pointer (some ⟨rb,0,none⟩)] w fun e w'=>e= .returned (.int .u64 (n:Int))/\w=w':=by
 go_enter Tryz.func203,Tryz.ntmps203
 go_wp2_with fail;go_ret;exact⟨rfl,rfl⟩
theorem xD (x:Nat) (w:World) (hx:x<18446744073709551616) (hT:qC w):Calls Tryz.prog 202 #[.int .u64 (x:Int)] w fun e w'=>e= .returned (.int .i64 ((Lib.ctz 64 x:Nat):Int))/\w=w':=by
 go_enter Tryz.func202,Tryz.ntmps202
 go_wp2_with fail;refine(Tryz.bits_TrailingZeros64 x hx w (fun _=>hT.tab)).mono ?_;rintro e w' ⟨rfl,rfl⟩;go_wp2_with fail;go_ret;exact⟨rfl,rfl⟩
def qk (c:de) (data:List UInt8) (p:Nat):Bool:=Bc c.seed c.win.toNat c.bits.toNat (data.take p)
structure lf (c : de) (data : List UInt8) (p : Nat) (cs : List Value) : Prop where
 roll:jv c.seed c.win.toNat (data.take p) cs
 len:cs.length=331
 cut: ∀i,i<5->cs[324+i]? =(cR c)[i]?
 pos:cs[329]? =some (.int .i64 (p:Int))
 last:cs[330]? =some (.int .i64 (iy (qk c data) c.mn.toNat p))
theorem rI (mk:Nat->Bool) (mn p:Nat): -(mn:Int)<=iy mk mn p/\iy mk mn p<=(p:Int):=by
 rcases tL (mk:=mk) (mn:=mn) p with⟨h,_⟩ | ⟨L,h,h1,h2,_⟩<;> rw[h]<;> omega
theorem zh (c:de) (data:List UInt8) (p:Nat) (b:UInt8) (mb:Nat) (ty:TypeId) (cs:List Value) (w:World) (hc:gp c=true) (hb:data[p]? =some b) (hp:data.length<=1048576) (hbox:w.heap[mb]? =some (.cells cs.toArray ty (0,0))) (hm:lf c data p cs) (hT:qC w) (hmb:mb≠6):
  Calls Tryz.prog 188 #[.pointer (some ⟨mb,0,none⟩), .int .u8 (b.toNat:Int)] w fun e w'=>e= .returned (.bool (nu (qk c data) c.mn.toNat (p+1)))/\(∃cs',w'.heap[mb]? =some (.cells cs'.toArray ty (0,0))/\lf c data (p+1) cs')/\w.grownBy w' (some mb):=by
 have hv:=jb.1 hc;have HV:=ab hv;have HM:=ab hm;have HBX:=ab hbox;have HT:=ab hT;have hpl:=(List.getElem?_eq_some_iff.1 hb).1;have htk:data.take (p+1)=data.take p++[b]:=by rw[List.take_add_one,hb]; rfl
 have HTK:=ab htk;obtain⟨W,hW⟩: ∃W,W=c.win.toNat:=⟨_,rfl⟩;obtain⟨B,hB⟩: ∃B,B=c.bits.toNat:=⟨_,rfl⟩;obtain⟨mn,hmn⟩: ∃mn,mn=c.mn.toNat:=⟨_,rfl⟩;have hWi:c.win=(W:Int):=by omega
 have hBi:c.bits=(B:Int):=by omega
 have hmi:c.mn=(mn:Int):=by omega
 have hW1:1<=W:=by omega
 have hW2:W<=64:=by omega
 have HI:=ab (And.intro hW (And.intro hB (And.intro hmn (And.intro hWi (And.intro hBi hmi)))));clear hc hm hbox hT hb htk hv hW hB hmn hWi hBi hmi
 go_enter Tryz.func188,Tryz.ntmps188
 go_wp2_with fail;refine(yQ mb ty c.seed W (data.take p) b cs w HBX.out (by have:=HM.out.roll; rw[<-HI.out.1]at this; exact this) hW1 hW2).mono ?_;rintro e w1 ⟨rfl,⟨cs1,hb1,hr1,hl1,hk1⟩,hg1⟩;have HB1:=ab hb1;have HR1:=ab hr1;have HK1:=ab hk1;have HL1:=ab (hl1.trans HM.out.len);have HG1:=ab hg1;have HT1:=ab (HT.out.grown hg1 (fun e=>hmb (Option.some.inj e)));clear hb1 hr1 hk1 hl1 hg1
 have c329:w1.cell? ⟨mb,329,none⟩=some (.int .i64 (p:Int)):=by rw[bc HB1.out,HK1.out _ (by decide),HM.out.pos]
 have cf:w1.frozen? ⟨mb,329,none⟩=false:=frozen_of_row w1 _ _ _ _ HB1.out;have hinc:IntKind.i64.wrap ((p:Int)+1)=((p+1:Nat):Int):=by rw[IntKind.wrap_i64]; omega
 go_wp2_with fail;obtain⟨cs2,hcs2⟩: ∃cs2,cs2=cs1.set 329 (.int .i64 (((p:Nat):Int)+1)):=⟨_,rfl⟩;obtain⟨U,hU⟩: ∃U:World,U=w1.setCell ⟨mb,329,none⟩ (.int .i64 (((p:Nat):Int)+1)):=⟨_,rfl⟩;rw[<-hU];have HBU:=ab (show U.heap[mb]? =some (.cells cs2.toArray ty (0,0)) by rw[hU,hcs2]; exact eM HB1.out _);have HGU:=ab (show w.grownBy U (some mb) by rw[hU]; exact bp HG1.out _ _)
 have HTU:=ab (show qC U by rw[hU]; exact HT1.out.grown (aD _ _ _ _) (fun e=>hmb (Option.some.inj e)));have HC2:=ab hcs2;have HL2:=ab (show cs2.length=331 by rw[hcs2,List.length_set]; exact HL1.out);clear hU hcs2 c329 cf hinc;obtain⟨n,hn⟩: ∃n,n=min W (p+1):=⟨_,rfl⟩;obtain⟨h,hh⟩: ∃h,h=lr c.seed (gK W (data.take (p+1))):=⟨_,rfl⟩;have hhl:h<18446744073709551616:=by rw[hh]; exact rm _ _
 obtain⟨z,hz⟩: ∃z,z=Lib.ctz 64 h:=⟨_,rfl⟩;obtain⟨la,hla⟩: ∃la,la=iy (qk c data) mn p:=⟨_,rfl⟩;have hlr: -(mn:Int)<=la/\la<=(p:Int):=by rw[hla]; exact rI _ _ _
 have c322:U.cell? ⟨mb,322,none⟩=some (.int .i64 (n:Int)):=by
  rw[bc HBU.out,HC2.out,List.getElem?_set_ne (by decide),HR1.out.len,hn,List.length_append,List.length_take,List.length_cons,List.length_nil,Nat.min_eq_left (by omega:p<=data.length)]
 have c323:U.cell? ⟨mb,323,none⟩=some (.int .u64 (h:Int)):=by
  rw[bc HBU.out,HC2.out,List.getElem?_set_ne (by decide),HR1.out.sum,hh,HTK.out]
 have c324:U.cell? ⟨mb,324,none⟩=some (.int .i64 (mn:Int)):=by
  rw[bc HBU.out,HC2.out,List.getElem?_set_ne (by decide),HK1.out _ (by decide),HM.out.cut 0 (by decide),<-HI.out.2.2.2.2.2]; rfl
 have c326:U.cell? ⟨mb,326,none⟩=some (.int .i64 (W:Int)):=by
  rw[bc HBU.out,HC2.out,List.getElem?_set_ne (by decide),HK1.out _ (by decide),HM.out.cut 2 (by decide),<-HI.out.2.2.2.1]; rfl
 have c327:U.cell? ⟨mb,327,none⟩=some (.int .i64 (B:Int)):=by
  rw[bc HBU.out,HC2.out,List.getElem?_set_ne (by decide),HK1.out _ (by decide),HM.out.cut 3 (by decide),<-HI.out.2.2.2.2.1]; rfl
 have c329:U.cell? ⟨mb,329,none⟩=some (.int .i64 ((p:Int)+1)):=by
  rw[bc HBU.out,HC2.out,List.getElem?_set_self (by rw[HL1.out]; decide)]
 have c330:U.cell? ⟨mb,330,none⟩=some (.int .i64 la):=by
  rw[bc HBU.out,HC2.out,List.getElem?_set_ne (by decide),HK1.out _ (by decide),HM.out.last,hla,HI.out.2.2.1]
 have hmk:qk c data (p+1)=(decide (W<=n) && decide (B<=z)):=by
  unfold qk Bc;rw[<-HI.out.1,<-HI.out.2.1,hz,hh]
  congr 1
  rw[decide_eq_decide,List.length_take]; omega
 have HMK:=ab hmk;have HH:=ab (And.intro hn (And.intro hh (And.intro hz hla)));have HDQ:=ab (show ∀n,qC (U.drewN n)from fun n=>HTU.out.block rfl (Nat.le_refl _));clear hn hh hz hla hmk;have HZ:=ab (show ∀m,Calls Tryz.prog 202 #[.int .u64 (h:Int)] (U.drewN m) fun e w'=>e= .returned (.int .i64 (z:Int))/\U.drewN m=w' from fun m=>by rw[HH.out.2.2.1]; exact xD h (U.drewN m) hhl (HDQ.out m))
 have HRO:=ab (show jv c.seed c.win.toNat (data.take (p+1)) cs2 by
  rw[<-HI.out.1,HTK.out,HC2.out];have h:=HR1.out;refine⟨fun i hi=> ?_,fun j hj=> ?_, ?_, ?_, ?_, ?_⟩
  ·rw[List.getElem?_set_ne (by omega)]; exact h.tab i hi
  ·rw[List.getElem?_set_ne (by omega)]; exact h.rng j hj
  ·rw[List.getElem?_set_ne (by omega)]; exact h.win
  ·obtain⟨s,h1,h2,h3⟩:=h.st;refine⟨s,h1,by rw[List.getElem?_set_ne (by omega)]; exact h2,fun j b hb=>by rw[List.getElem?_set_ne (by omega)]; exact h3 j b hb⟩
  ·rw[List.getElem?_set_ne (by omega)]; exact h.len
  ·rw[List.getElem?_set_ne (by omega)]; exact h.sum)
 have HCU:=ab (show ∀i,i<5->cs2[324+i]? =(cR c)[i]? from fun i hi=>by
  rw[HC2.out,List.getElem?_set_ne (by omega),HK1.out _ (by omega)]; exact HM.out.cut i hi)
 have HPO:=ab (show cs2[329]? =some (.int .i64 ((p+1:Nat):Int)) by rw[HC2.out,List.getElem?_set_self (by rw[HL1.out]; decide)]; rfl);have HLA:=ab (show cs2[330]? =some (.int .i64 la) by rw[HC2.out,List.getElem?_set_ne (by decide),HK1.out _ (by decide),HM.out.last,HH.out.2.2.2,HI.out.2.2.1]);have HNO:=ab (show qk c data (p+1)=false->(nu (qk c data) c.mn.toNat (p+1)=false/\lf c data (p+1) cs2)from fun h0=>⟨by rw[nu,h0]; rfl,{
  roll:=HRO.out
  len:=HL2.out
  cut:=HCU.out
  pos:=HPO.out
  last:=by rw[iy,if_neg (by rw[h0]; decide),<-HI.out.2.2.1,<-HH.out.2.2.2]; exact HLA.out}⟩)
 by_cases h1:n<W
 ·have h1i:(n:Int)<(W:Int):=by omega
  go_quiet ((first | (go_at_call 201; refine fK (iX mb n _ c322)) | (go_at_call 203; refine fK (iY mb h _ c323)) | (go_at_call 202; refine fK (HZ.out _))))
  go_wp2_with fail;go_ret;have hno:=HNO.out (by rw[HMK.out,decide_eq_false (by omega)]; rfl);exact⟨ak hno.1.symm,⟨cs2,HBU.out,hno.2⟩,fW HGU.out _⟩
 ·have h1i:(W:Int)<=(n:Int):=by omega
  have h1j: ¬(n:Int)<(W:Int):=by omega
  by_cases h2:z<B
  ·have h2i:(z:Int)<(B:Int):=by omega
   go_quiet ((first | (go_at_call 201; refine fK (iX mb n _ c322)) | (go_at_call 203; refine fK (iY mb h _ c323)) | (go_at_call 202; refine fK (HZ.out _))))
   go_wp2_with fail;go_ret;have hno:=HNO.out (by rw[HMK.out,decide_eq_false (by omega: ¬B<=z),Bool.and_false]);exact⟨ak hno.1.symm,⟨cs2,HBU.out,hno.2⟩,fW HGU.out _⟩
  ·have h2i:(B:Int)<=(z:Int):=by omega
   have h2j: ¬(z:Int)<(B:Int):=by omega
   go_quiet ((first | (go_at_call 201; refine fK (iX mb n _ c322)) | (go_at_call 203; refine fK (iY mb h _ c323)) | (go_at_call 202; refine fK (HZ.out _))))
   go_wp2_with fail;have cf:U.frozen? ⟨mb,330,none⟩=false:=frozen_of_row U _ _ _ _ HBU.out;have hsub:IntKind.i64.wrap ((p:Int)+1-la)=(p:Int)+1-la:=by have:=HV.out; have:=HI.out; rw[IntKind.wrap_i64]; omega
   go_quiet (fail)
   go_wp2_with fail;go_ret;have hyes:qk c data (p+1)=true:=by rw[HMK.out,decide_eq_true (by omega:W<=n),decide_eq_true (by omega:B<=z)]; rfl
   refine⟨ak ?_,⟨cs2.set 330 (.int .i64 ((p:Int)+1)),eM (show(U.drewN _).heap[mb]? =_ from HBU.out) _, ?_⟩,bp (fW HGU.out _) _ _⟩
   ·rw[nu,hyes,Bool.true_and,<-HI.out.2.2.1,<-HH.out.2.2.2,decide_eq_decide]; simp
   ·have h:=HRO.out;have hcu:=HCU.out;refine⟨⟨fun i hi=> ?_,fun j hj=> ?_, ?_, ?_, ?_, ?_⟩,by rw[List.length_set]; exact HL2.out,fun i hi=> ?_, ?_, ?_⟩
    ·rw[List.getElem?_set_ne (by omega)]; exact h.tab i hi
    ·rw[List.getElem?_set_ne (by omega)]; exact h.rng j hj
    ·rw[List.getElem?_set_ne (by omega)]; exact h.win
    ·obtain⟨s,h1,h2,h3⟩:=h.st;refine⟨s,h1,by rw[List.getElem?_set_ne (by omega)]; exact h2,fun j b hb=>by rw[List.getElem?_set_ne (by omega)]; exact h3 j b hb⟩
    ·rw[List.getElem?_set_ne (by omega)]; exact h.len
    ·rw[List.getElem?_set_ne (by omega)]; exact h.sum
    ·rw[List.getElem?_set_ne (by omega)]; exact hcu i hi
    ·rw[List.getElem?_set_ne (by omega)]; exact HPO.out
    ·rw[List.getElem?_set_self (by rw[HL2.out]; decide),iy,if_pos hyes]; rfl
end Go.Proofs.YtpffpjbkbaleiaaGreatDoor
namespace Go.Proofs.YtpffpjbkbaleiaaGreatDoor
open Go Go.RowKit
def yW {α:Type} (Kp:World->World->Prop) (I:List α->World->Prop) (Ix:Code->List α->World->Prop) (xs:List α) (W:World):Exit->Act->World->Prop
 | .normal,_,B=>KeepsOthers W B/\Kp W B/\I xs B
 | .ret,_,B=>KeepsOthers W B/\Ix .ret xs B
 | .exit id,_,B=>KeepsOthers W B/\Ix (.exit id) xs B
 | .goto t,_,B=>KeepsOthers W B/\Ix (.goto t) xs B
 | .panic _,_,_=>False
 | .outgrown,_,_=>False
section
variable {P : Program} {α : Type}
theorem sV {W W':World} (h:Below W.heap.size W W'):W.grownBy W' none:=⟨h.os,h.tape,h.output,h.size,fun k hk _=>h.block k hk⟩
theorem mB {W:World} {l:Nat} {r:Loop} (h:W.heap[l]? =some (.loop r)) (o:Obj):(W.putObj l o).heap[l]? =some o:=World.putObj_heap_same (Array.getElem?_eq_some_iff.1 h).1
end
end Go.Proofs.YtpffpjbkbaleiaaGreatDoor
namespace Go.Proofs.YtpffpjbkbaleiaaGreatDoor
open Go Go.RowKit
def uy {σ:Type} (mt:TypeId) (n:Nat) (I:σ->World->Prop):Prop:=
 ∀s A B row,I s A->A.grownBy B row->(∀r,row=some r->n<=r/\ ∃cs,A.heap[r]? =some (.cells cs mt (0,0)))->I s B
def BP {α:Type} (P:Program) (g:Nat) (lb:Array Value) (encs:α->Array Value) (D:List α->α->World->Prop) (Kp:World->World->Prop) (S Sp:List α->Prop) (N:Nat) (mt:TypeId) (w:World):Prop:=
 ∀(l:Nat) (J Jx:List α->World->Prop) (W:World),Below w.heap.size w W->uy mt W.heap.size J->
  (∀pre x A,J pre A->D pre x A->pre.length<N->YieldAt Fence.wide 2 P l (encs x) A fun e B=>(e= .returned (.bool true)/\J (pre++[x]) B/\Kp A B)\/(e= .returned (.bool false)/\Jx (pre++[x]) B))->
  J [] W->
  CallsIn Fence.wide 3 P g (#[.func (.yield l) #[] #[]]++lb) W fun e B=>(∃v,e= .returned v)/\((∃xs,S xs/\J xs B)\/(∃pre,Sp pre/\Jx pre B))
section
variable {P : Program} {α : Type}
theorem xB {g:Operand} {ps:Array Tmp} {assign body:Code} {Q:Exit->Act->World->Prop} {a:Act} {w:World} {gf:Nat} {lb:Array Value} (hg:a.eval g= .func (.func gf) #[] lb) (eg: ∀args w,(callFunc gf args).run P w= .ok (.enter gf args) w)
  {encs:α->Array Value} {D:List α->α->World->Prop} {Kp:World->World->Prop} {S Sp:List α->Prop} {N:Nat} {mt:TypeId} (hseq:BP P gf lb encs D Kp S Sp N mt w)
  (hKt: ∀ {A B C:World},Kp A B->Kp B C->Kp A C) (hKb: ∀(W:World) (l:Nat) (o o':Obj),w.heap.size<=l->W.heap[l]? =some o->o.isCells=false->o.isWalk=false->Kp W (W.putObj l o')) (hps: ∀x,(encs x).size=ps.size)
  (I:List α->World->Prop) (Ix:Code->List α->World->Prop) (Ax:List α->α->Act->World->Prop) (hI:OwnFrom w.heap.size I) (hI2:uy mt w.heap.size I) (hIx: ∀c,OwnFrom w.heap.size (Ix c))
  (hAx:OwnFrom w.heap.size (fun(s:List α×α×Act) W=>Ax s.1 s.2.1 s.2.2 W)) (h0:I [] w)
  (hassign: ∀(l:Nat) (pre:List α) (x:α) (W:World),w.heap.size<W.heap.size->I pre W->D pre x W->pre.length<N->assign.wpIn (Fence.wide.inRound l) 2 P (Exit.then (fun a₁ B=>KeepsOthers W B/\Kp W B/\Ax pre x a₁ B) (fun _ _ _=>False)) {tmps:=(ps.zip (encs x)).foldl (fun t (p,v)=>t.setIfInBounds p v) a.tmps,defers:=[]} W)
  (hbody: ∀(l:Nat) (pre:List α) (x:α) (a₁:Act) (W:World),Ax pre x a₁ W->body.wpIn (Fence.wide.inRound l) 2 P (yW Kp I Ix (pre++[x]) W) a₁ W)
  (hdone: ∀(Dl:Nat) (xs:List α) (W:World),w.heap.size<=Dl->S xs->I xs W->W.heap[Dl]? =some (.deferred (some []))->Q .normal {a with defers:= {target:= .collected Dl,args:= #[]} ::a.defers} W)
  (hstop: ∀(Dl:Nat) (c:Code) (pre:List α) (W:World),w.heap.size<=Dl->Sp pre->Ix c pre W->W.heap[Dl]? =some (.deferred (some []))->c.wp P Q {a with defers:= {target:= .collected Dl,args:= #[]} ::a.defers} W):
  (Code.rangeFunc g ps assign body).wp P Q a w:=by
 refine(wpIn_wide (n:=4)).1 (wpIn_rangeFunc (fun fn hfn=> ?_))
 show ∃l mark w₁ d w₁' f args w₂,_
 let rec_:LoopState->Option Code->Loop:=fun st pe=> {state:=st,pending:=pe,fn:=fn,tmps:=a.tmps,params:=ps,assign:=assign,body:=body,defers:=w.heap.size}
 obtain⟨rec,hrec⟩: ∃r,r=rec_:=⟨_,rfl⟩;have hrp: ∀st pe,(rec st pe).params=ps:=fun st pe=>by rw[hrec]
 have hrs: ∀st pe,(rec st pe).state=st:=fun st pe=>by rw[hrec]
 have hrj: ∀st pe,(rec st pe).pending=pe:=fun st pe=>by rw[hrec]
 obtain⟨L,hL⟩: ∃L,L=w.heap.size+1:=⟨_,rfl⟩;obtain⟨V,hV⟩: ∃V,(w.alloc (.deferred (some []))).alloc (.loop (rec .ready none))=V:=⟨_,rfl⟩;have hVL:V.heap[L]? =some (.loop (rec .ready none)):=by
  rw[<-hV,hL]; have:=World.alloc_heap_new (w.alloc (.deferred (some []))) (.loop (rec .ready none)); rwa [World.size_alloc]at this
 have hVD:V.heap[w.heap.size]? =some (.deferred (some [])):=by
  rw[<-hV]; exact(Below.heap_alloc _ _ _ (by simp)).trans (World.alloc_heap_new w _)
 have hVI:I [] V:=by rw[<-hV]; exact hI.alloc _ (hI.alloc _ h0)
 have hVB:Below w.heap.size w V:=by rw[<-hV]; exact((Below.refl _ w).alloc (Nat.le_refl _) _).alloc (by simp) _
 let J:List α->World->Prop:=fun pre W=>I pre W/\W.heap[L]? =some (.loop (rec .ready none))/\W.heap[w.heap.size]? =some (.deferred (some []))
 let Jx:List α->World->Prop:=fun pre W=> ∃c,Ix c pre W/\W.heap[L]? =some (.loop (rec .done (some c)))/\W.heap[w.heap.size]? =some (.deferred (some []))
 have hVs:w.heap.size+2<=V.heap.size:=by rw[<-hV]; simp
 have hJ:uy mt V.heap.size J:=by
  rintro s A B row ⟨h1,h2,h3⟩ hg hr;have hne: ∀(k:Nat) (o:Obj),A.heap[k]? =some o->o.isCells=false->row≠some k:=fun k o hk hw e=>by
   obtain⟨_,cs,ho⟩:=hr k e;rw[hk]at ho; cases ho; cases hw
  refine⟨hI2 s A B row h1 hg (fun r e=> ?_), ?_, ?_⟩
  ·obtain⟨h4,cs,ho⟩:=hr r e;exact⟨by omega,cs,ho⟩
  ·exact(hg.block _ (Array.getElem?_eq_some_iff.1 h2).1 (fun e=>hne _ _ h2 rfl e.symm)).trans h2
  ·exact(hg.block _ (Array.getElem?_eq_some_iff.1 h3).1 (fun e=>hne _ _ h3 rfl e.symm)).trans h3
 have hend: ∀(jump:Option Code) (W B:World),W.heap[L]? =some (.loop (rec .busy none))->W.heap[w.heap.size]? =some (.deferred (some []))->KeepsOthers W B->
   (Instr.endRound L jump).run P B= .ok (.bool jump.isNone) (B.putObj L (.loop (rec (if jump.isNone then .ready else .done) jump)))/\B.heap[L]? =some (.loop (rec .busy none))/\
   (B.putObj L (.loop (rec (if jump.isNone then .ready else .done) jump))).heap[L]? =some (.loop (rec (if jump.isNone then .ready else .done) jump))/\
   (B.putObj L (.loop (rec (if jump.isNone then .ready else .done) jump))).heap[w.heap.size]? =some (.deferred (some [])):=by
  intro jump W B h1 h2 hk;have hb:=hk.same _ _ h1 rfl;have hd:=hk.same _ _ h2 rfl;have:=run_endRound (P:=P) jump hb;refine⟨?_,hb,mB hb _,(World.putObj_heap_other (by omega)).trans hd⟩;rw[this,hrec]
 have hround: ∀pre x A,J pre A->D pre x A->pre.length<N->YieldAt Fence.wide 2 P L (encs x) A fun e B=>(e= .returned (.bool true)/\J (pre++[x]) B/\Kp A B)\/(e= .returned (.bool false)/\Jx (pre++[x]) B):=by
  rintro pre x A ⟨hi,hl,hk⟩ hd hN;have hlt:L<A.heap.size:=(Array.getElem?_eq_some_iff.1 hl).1;have hy:=run_yield (P:=P) (args:=encs x) hl (by rw[hrp]; exact hps x);refine⟨_,_,_,_,hy, ?_⟩;rw[hrec];refine roundIn_of_wpIn hfn (wpIn_mono (hassign L pre x A (by omega) hi hd hN) ?_);rintro e a₁ B hB
  cases e with
  | normal=>
   obtain⟨hko,hkp,hax⟩:=hB;have hl1:=hko.same _ _ hl rfl;have hk1:=hko.same _ _ hk rfl;have hbr:=run_beginRound (P:=P) hl1 (hrs _ _);refine⟨_,hbr, ?_⟩;have hbz:({rec .ready none with state:= .busy} :Loop)=rec .busy none:=by rw[hrec]
   rw[hbz];have hl2:=mB hl1 (.loop (rec .busy none));have hk2:(B.putObj L (.loop (rec .busy none))).heap[w.heap.size]? =some (.deferred (some [])):=(World.putObj_heap_other (by omega)).trans hk1;have hax2:Ax pre x a₁ (B.putObj L (.loop (rec .busy none))):=hAx.putObj (s:=(pre,x,a₁)) _ hax (by omega) hl1 rfl;have hkp2:Kp A (B.putObj L (.loop (rec .busy none))):=hKt hkp (hKb _ _ _ _ (by omega) hl1 rfl rfl)
   refine wpIn_mono (hbody L pre x a₁ _ hax2) ?_;rintro e a3 C hC
   cases e with
   | normal=>
    obtain⟨c1,c2,c3⟩:=hC;obtain⟨r1,r2,r3,r4⟩:=hend none _ C hl2 hk2 c1;exact⟨_,_,r1, .inl ⟨rfl,⟨hI.putObj _ c3 (by omega) r2 rfl,r3,r4⟩,hKt (hKt hkp2 c2) (hKb _ _ _ _ (by omega) r2 rfl rfl)⟩⟩
   | ret=>
    obtain⟨c1,c3⟩:=hC;obtain⟨r1,r2,r3,r4⟩:=hend (some .ret) _ C hl2 hk2 c1;exact⟨_,_,r1, .inr ⟨rfl,_,(hIx _).putObj _ c3 (by omega) r2 rfl,r3,r4⟩⟩
   | exit id=>
    obtain⟨c1,c3⟩:=hC;obtain⟨r1,r2,r3,r4⟩:=hend (some (.exit id)) _ C hl2 hk2 c1;exact⟨_,_,r1, .inr ⟨rfl,_,(hIx _).putObj _ c3 (by omega) r2 rfl,r3,r4⟩⟩
   | goto t=>
    obtain⟨c1,c3⟩:=hC;obtain⟨r1,r2,r3,r4⟩:=hend (some (.goto t)) _ C hl2 hk2 c1;exact⟨_,_,r1, .inr ⟨rfl,_,(hIx _).putObj _ c3 (by omega) r2 rfl,r3,r4⟩⟩
   | panic ch=>exact hC.elim
   | outgrown=>exact hC.elim
  | ret=>exact hB.elim
  | exit id=>exact hB.elim
  | goto t=>exact hB.elim
  | panic ch=>exact hB.elim
  | outgrown=>exact hB.elim
 refine⟨L,[{target:= .collected w.heap.size,args:= #[]}],V,{target:= .fn (.func gf) lb,args:= #[.func (.yield L) #[] #[]]},V,gf, #[.func (.yield L) #[] #[]]++lb,V, ?_, ?_,fun _ _=>trivial, ?_,fun _=>by omega, ?_⟩
 ·rw[<-hV,hL,hrec]; exact run_enterLoop_outer _ _ _ _ _
 ·simp only[resolve,hg];simp[go_sem]
 ·simp[invoke,go_sem,eg]
 ·refine(hseq L J Jx V hVB hJ hround ⟨hVI,hVL,hVD⟩).mono ?_;rintro e B ⟨⟨v,rfl⟩,hB⟩
  rcases hB with⟨xs,hS,hi,hl,hk⟩ | ⟨pre,hS,c,hi,hl,hk⟩
  ·have:=run_endLoop (P:=P) hl (by rw[hrs]; simp);rw[hrj]at this;exact⟨none,_,this,hdone _ xs _ (Nat.le_refl _) hS (hI.putObj _ hi (by omega) hl rfl) ((World.putObj_heap_other (by omega)).trans hk)⟩
  ·have:=run_endLoop (P:=P) hl (by rw[hrs]; simp);rw[hrj]at this;exact⟨some c,_,this,(wpIn_wide (n:=4)).2 (hstop _ c pre _ (Nat.le_refl _) hS ((hIx c).putObj _ hi (by omega) hl rfl) ((World.putObj_heap_other (by omega)).trans hk))⟩
end
end Go.Proofs.YtpffpjbkbaleiaaGreatDoor
namespace Go.Proofs.YtpffpjbkbaleiaaGreatDoor
open Go Go.RowKit
attribute [local go_sem] Oper.semAt_some
def cG (t:TypeId) (A B:World):Prop:= ∀(k:Nat) (cs:Array Value),A.heap[k]? =some (.cells cs t (0,0))->B.heap[k]? =A.heap[k]?
section
variable {t : TypeId} {A B C : World} {n : Nat}
theorem cG.refl (A:World):cG t A A:=fun _ _ _=>rfl
theorem cG.trans (h:cG t A B) (k:cG t B C):cG t A C:=fun i cs hi=>(k i cs ((h i cs hi).trans hi)).trans (h i cs hi)
theorem cG.below (h:Below A.heap.size A B):cG t A B:=fun i _ hi=>h.block i (Array.getElem?_eq_some_iff.1 hi).1
theorem cG.grown {row:Option Nat} (h:A.grownBy B row) (hr: ∀r,row=some r-> ∀cs,A.heap[r]? ≠some (.cells cs t (0,0))):cG t A B:=fun i cs hi=>h.block i (Array.getElem?_eq_some_iff.1 hi).1 (fun e=>hr i e.symm cs hi)
end
theorem fa {A:World} {base sz m k:Nat} {t:TypeId} {v:Value} {xs:List Value} (h:A.ownsRow base t sz v m xs) (hk:v.ownBlock=some k):base<=k/\ ∃cur,A.heap[k]? =some (.cells cur t (0,0)):=by
 rcases h.2 with⟨rfl,_⟩ | ⟨g,cap,cur,rfl,hb,hgb,_⟩
 ·cases hk
 ·simp only[Value.ownBlock,Option.some.injEq]at hk;subst hk;exact⟨hb,cur,hgb⟩
theorem wP {seed W:Nat} :jv seed W [] (dX seed (List.replicate 64 0) W 0 0 0):=by
 have h0:gK W []=[]:=by unfold gK; simp
 have ht:=kB seed;have g: ∀i,256<=i->(dX seed (List.replicate 64 0) W 0 0 0)[i]? =((List.replicate 64 (0:UInt8)).map an++[Value.int .i64 (W:Int), .int .i64 0, .int .i64 0, .int .u64 0])[i-256]? :=fun i hi=>by
  unfold dX; rw[List.getElem?_append_right (by omega),ht]; rfl
 refine⟨fun i hi=> ?_,fun j hj=>⟨0, ?_⟩, ?_,⟨0,by decide, ?_,fun j b hb=>by rw[h0]at hb; cases hb⟩, ?_, ?_⟩
 ·unfold dX;rw[List.getElem?_append_left (by omega)];unfold kU;rw[List.getElem?_map,List.getElem?_range hi]; rfl
 ·rw[g _ (by omega),Nat.add_sub_cancel_left,List.getElem?_append_left (by simpa using hj),List.getElem?_map,List.getElem?_replicate,if_pos hj]; rfl
 ·rw[g _ (by decide)]; rfl
 ·rw[g _ (by decide)]; rfl
 ·rw[g _ (by decide)]; simp
 ·rw[g _ (by decide),h0]; rfl
theorem wg {c:de} (hc:gp c=true) (data:List UInt8):lf c data 0 (jz c (dX c.seed (List.replicate 64 0) c.win.toNat 0 0 0) 0 (-c.mn)):=by
 have hv:=jb.1 hc;have hl:(dX c.seed (List.replicate 64 0) c.win.toNat 0 0 0).length=324:=kQ _ (by simp) _ _ _ _;have h:=wP (seed:=c.seed) (W:=c.win.toNat);have lo: ∀i,i<324->(jz c (dX c.seed (List.replicate 64 0) c.win.toNat 0 0 0) 0 (-c.mn))[i]? =(dX c.seed (List.replicate 64 0) c.win.toNat 0 0 0)[i]? :=fun i hi=>by
  unfold jz; rw[List.getElem?_append_left (by omega)]
 have hi': ∀i,(jz c (dX c.seed (List.replicate 64 0) c.win.toNat 0 0 0) 0 (-c.mn))[324+i]? =(cR c++[Value.int .i64 0,Value.int .i64 (-c.mn)])[i]? :=fun i=>by
  unfold jz; rw[List.getElem?_append_right (by omega),hl,Nat.add_sub_cancel_left]
 refine⟨⟨fun i hi=> ?_,fun j hj=> ?_, ?_, ?_, ?_, ?_⟩,kO c hl _ _,fun i hi=> ?_, ?_, ?_⟩
 ·rw[lo _ (by omega)]; exact h.tab i hi
 ·rw[lo _ (by omega)]; exact h.rng j hj
 ·rw[lo _ (by omega)]; exact h.win
 ·obtain⟨s,h1,h2,h3⟩:=h.st;exact⟨s,h1,by rw[lo _ (by omega)]; exact h2,fun j b hb=>by rw[lo _ (by omega)]; exact h3 j b hb⟩
 ·rw[lo _ (by omega)]; exact h.len
 ·rw[lo _ (by omega)]; exact h.sum
 ·rw[hi',List.getElem?_append_left (by simpa [cR]using hi)]
 ·rw[show 329=324+5 from rfl,hi']; rfl
 ·rw[show 330=324+6 from rfl,hi',iy];have: -c.mn= -((c.mn.toNat:Nat):Int):=by omega
  rw[this]; rfl
theorem mP (mk:Nat->Bool) (mn mx len:Nat): ∀p,(dO mk mn mx len p).length<=p/\eS (dO mk mn mx len p)<=p
 | 0=>⟨by simp[dO],by simp[dO,eS]⟩
 | p+1=>by
  have:=mP mk mn mx len p;rw[dO]
  split
  ·rw[List.length_append,eH]; simp; omega
  ·omega
def dL (c:de) (dv:Value) (b1 b2:Nat) (w:World):Prop:=w.heap[b1]? =some (.cells (cR c).toArray 45 (0,0))/\w.heap[b2]? =some (.cells #[dv] 29 (0,0))
def xO (b1 b2:Nat) (A B:World):Prop:=B.heap[b1]? =A.heap[b1]? /\B.heap[b2]? =A.heap[b2]?
theorem dL.same {c:de} {dv:Value} {b1 b2:Nat} {A B:World} (h:dL c dv b1 b2 A) (hk:xO b1 b2 A B):dL c dv b1 b2 B:=⟨hk.1.trans h.1,hk.2.trans h.2⟩
theorem dL.below {c:de} {dv:Value} {b1 b2:Nat} {A B:World} (h:dL c dv b1 b2 A) (hb:Below A.heap.size A B):dL c dv b1 b2 B:=h.same ⟨hb.block _ (lt_of_block h.1),hb.block _ (lt_of_block h.2)⟩
theorem dL.grown {c:de} {dv:Value} {b1 b2 r:Nat} {A B:World} (h:dL c dv b1 b2 A) (hg:A.grownBy B (some r)) (h1:b1<r) (h2:b2<r):dL c dv b1 b2 B:=
 h.same ⟨hg.block _ (lt_of_block h.1) (fun e=>by cases e; omega),hg.block _ (lt_of_block h.2) (fun e=>by cases e; omega)⟩
theorem dL.mx {c:de} {dv:Value} {b1 b2:Nat} {A:World} (h:dL c dv b1 b2 A):A.cell? ⟨b1,1,none⟩=some (.int .i64 c.mx):=(cell_of_row A _ 1 _ _ _ h.1).trans rfl
theorem dL.dat {c:de} {dv:Value} {b1 b2:Nat} {A:World} (h:dL c dv b1 b2 A):A.cell? ⟨b2,0,none⟩=some dv:=(cell_of_row A _ 0 _ _ _ h.2).trans rfl
def zO (c:de) (data:List UInt8) (b1 b2 n₀:Nat) (w:World):Prop:=
 BP Tryz.prog 186 #[.pointer (some ⟨b1,0,none⟩), .pointer (some ⟨b2,0,none⟩)] (fun q:Nat=> #[.int .i64 (q:Int)]) (fun pre q _=>eS pre<q/\q<=data.length)
  (fun A B=>Below n₀ A B/\cG 239 A B/\xO b1 b2 A B) (fun xs=>xs=ri (qk c data) c.mn.toNat c.mx.toNat data.length) (fun _=>True) data.length 239 w
theorem ft {B b:Nat} {w0 w w':World} (hb:Below B w0 w) (h:w.grownBy w' (some b)) (h1:B<=b) (h2:B<=w.heap.size):Below B w0 w':=
 hb.trans ⟨h.os,h.tape,h.output,h.size,fun k hk=>h.block k (by omega) (fun e=>by cases e; omega)⟩
theorem mi (c:de) (data:List UInt8) (p:Nat) (b:UInt8) (pr:Bool) (mb:Nat) (ty:TypeId) (cs:List Value) (w:World) (hc:gp c=true) (hb:data[p]? =some b) (hp:data.length<=1048576) (hbox:w.heap[mb]? =some (.cells cs.toArray ty (0,0))) (hm:lf c data p cs) (hT:qC w) (hmb:mb≠6) (hpr:pr=nu (qk c data) c.mn.toNat (p+1)):
  Calls Tryz.prog 188 #[.pointer (some ⟨mb,0,none⟩), .int .u8 (b.toNat:Int)] w fun e w'=>e= .returned (.bool pr)/\(∃cs',w'.heap[mb]? =some (.cells cs'.toArray ty (0,0))/\lf c data (p+1) cs')/\w.grownBy w' (some mb):=by
 rw[hpr]; exact zh c data p b mb ty cs w hc hb hp hbox hm hT hmb
theorem ym (S:Nat->Prop) (c:de) (data:List UInt8) (dv:Value) (b1 b2:Nat) (w wc:World) (hc:gp c=true) (hs:c.seed<18446744073709551616) (hx:dL c dv b1 b2 wc) (hd:aC S w dv data) (hl:data.length<=1048576) (hT:qC w) (hbc:Below w.heap.size w wc):
  zO c data b1 b2 w.heap.size wc:=by
 intro l J Jx W hbW' hJ hY h0;have hbW:=ag hbc hbW';have HBW:=ab hbW;have HV:=ab hc;have HD:=ab hd;have HT:=ab hT;have HJ:=ab hJ;have HY:=ab hY;have H0:=ab h0;have HCP:=ab (hx.below hbW');have HCL:=ab (show b1<W.heap.size/\b2<W.heap.size from⟨lt_of_block HCP.out.1,lt_of_block HCP.out.2⟩);obtain⟨_,da,dcap,rfl,hdc,hdm,hdr⟩:=id hd;obtain⟨n,hn⟩: ∃n,n=data.length:=⟨_,rfl⟩
 rw[<-hn]at HCP hdc hl;have HN:=ab hn;have hv:=jb.1 hc;obtain⟨mx,hmx⟩: ∃mx,mx=c.mx.toNat:=⟨_,rfl⟩;obtain⟨mn,hmn⟩: ∃mn,mn=c.mn.toNat:=⟨_,rfl⟩;have hmxi:c.mx=(mx:Int):=by omega
 have hmx1:mx<=32768:=by omega
 have HMX:=ab (And.intro hmx (And.intro hmxi hmn));have HCW:=ab (show c.win=(c.win.toNat:Int)/\1<=c.win.toNat/\c.win.toNat<=64/\0<=c.mn/\c.mn<=32768 by omega);have hr:=jr HCP.out.1;have HR:=ab hr;have HI5:=ab (show(Tryz.prog.info? 45).map (·.size)=some (cR c).length by kernel_rfl);clear hJ hY h0 hbW hbW' hbc hc hd hT hx hn hv hmx hmn hmxi hr;have y2:=HCP.out.dat
 refine callsIn_wide.2 ?_
 show Calls Tryz.prog 186 #[.func (.yield l) #[] #[], .pointer (some ⟨b1,0,none⟩), .pointer (some ⟨b2,0,none⟩)] W _
 go_enter Tryz.func186,Tryz.ntmps186
 go_wp2_with (first | (refine wpList_load_mid rfl 45 _ rfl b1 0 rfl (cR c) _ HR.out Tryz.underlying45 rfl HI5.out ?_) | fail);refine(ob c c.win.toNat W hs HCW.out.1 HCW.out.2.1 HCW.out.2.2.1 HCW.out.2.2.2).mono ?_;rintro e w5 ⟨rfl,hb5⟩;obtain⟨mc,hmc⟩: ∃mc,mc=jz c (dX c.seed (List.replicate 64 0) c.win.toNat 0 0 0) 0 (-c.mn):=⟨_,rfl⟩;rw[<-hmc];have hml:mc.length=331:=by rw[hmc]; exact kO c (kQ _ (by simp) _ _ _ _) _ _
 have HMC:=ab hmc;have HML:=ab (show lf c data 0 mc by rw[hmc]; exact wg HV.out data);have HI331:=ab (show(Tryz.prog.info? 239).map (·.size)=some mc.toArray.size by rw[List.size_toArray,hml]; kernel_rfl);have HOLD:=ab (show Tryz.zeroCells239.size=mc.toArray.size by rw[show mc.toArray.size=331 from by rw[List.size_toArray]; exact hml]; kernel_rfl);have HONE:=ab (show mc.toArray.all (·.oneCell')=true from all_oneCell_toArray (by rw[hmc]; exact pm c _ _ _))
 have HB5:=ab hb5;clear hb5 hmc hml y2;have y2:=(HCP.out.below HB5.out).dat
 have HB6:=ab (show Below w5.heap.size w5 ((w5.alloc (.cells Tryz.zeroCells239 239)).setRow w5.heap.size mc.toArray)from below_setRow ((Below.refl _ _).alloc (Nat.le_refl _) _) (Nat.le_refl _) _);have HX6:=ab (show((w5.alloc (.cells Tryz.zeroCells239 239)).setRow w5.heap.size mc.toArray).heap[w5.heap.size]? =some (.cells mc.toArray 239 (0,0))from setRow_heap _ _ _ _ _ _ (heap_alloc_new w5 _))
 have y3:=(HB6.out.cell (aK y2)).trans y2;go_wp2_with (first | (refine wpList_store_row rfl 239 _ _ rfl w5.heap.size _ rfl rfl _ _ (heap_alloc_new w5 _) HI331.out HOLD.out HONE.out ?_) | fail)
 generalize (w5.alloc (.cells Tryz.zeroCells239 239)).setRow w5.heap.size mc.toArray=w6 at *
 obtain⟨mb,hmb⟩: ∃mb,mb=w5.heap.size:=⟨_,rfl⟩;have HMB:=ab (show W.heap.size<=mb/\mb≠6 by
  have h1:=HB5.out.size;have h2:=HBW.out.size;have h3:=HT.out.lt
  omega)
 have HB6w:=ab (ag HB5.out HB6.out);rw[<-hmb]at HB6 HX6 ⊢;clear hmb y2 y3
 go_loopw [13,5] (fun i s wr=> ∃(k:Nat) (pre:List Nat) (cs:List Value),k<=n/\i= .int .i64 (k:Int)/\pre=dO (qk c data) mn mx n k/\s= .int .i64 ((eS pre:Nat):Int)/\J pre wr/\Below w.heap.size w wr/\wr.heap[mb]? =some (.cells cs.toArray 239 (0,0))/\lf c data k cs/\dL c (.slice da n dcap) b1 b2 wr) (fun i _ _=>n-(intOf i).toNat)
 case atStart=>exact⟨0,[],mc,Nat.zero_le _,rfl,rfl,rfl,HJ.out _ _ _ none H0.out (sV HB6w.out) (fun r e=>by cases e),ag HBW.out HB6w.out,HX6.out,HML.out,HCP.out.below HB6w.out⟩
 case round=>
  obtain⟨k,pre,cs,hk,rfl,hpre,rfl,hJk,hbr,hbx,hml,hcr⟩:=hrel;have HCR:=ab hcr;have HPRE:=ab hpre;have HJK:=ab hJk;have HBR:=ab hbr;have HBX:=ab hbx;have HML2:=ab hml;have hpl:=mP (qk c data) mn mx n k;rw[<-hpre]at hpl;obtain⟨sn,hsn⟩: ∃sn,sn=eS pre:=⟨_,rfl⟩;rw[<-hsn]at hpl ⊢;have HSN:=ab hsn;clear hpre hJk hbr hbx hml hsn hcr
  by_cases hlt:k<n
  ·obtain⟨b,hb⟩: ∃b,data[k]? =some b:=⟨data[k]'(by rw[<-HN.out]; exact hlt),by simp⟩
   rcases hdr with hdr | ⟨db,dof,rfl,hS,hcc⟩
   ·rw[<-HN.out]at hdr; omega
   have hcell:=(HBR.out.cell (aK (hcc k (an b) (by rw[List.getElem?_map,hb]; rfl)))).trans (hcc k (an b) (by rw[List.getElem?_map,hb]; rfl));have y2:=HCR.out.dat
   have hki:(k:Int)<(n:Int):=by omega
   have hinc:IntKind.i64.wrap ((k:Int)+1)=((k+1:Nat):Int):=by rw[IntKind.wrap_i64]; omega
   have HB:=ab hb;clear hcc hb hS;unfold maxLen at hdm
   change wr.cell? ⟨db,dof+k,none⟩=some (.int .u8 (b.toNat:Int))at hcell
   obtain⟨pr,hpr⟩: ∃pr,pr=nu (qk c data) c.mn.toNat (k+1):=⟨_,rfl⟩;have HPR:=ab hpr;clear hpr;have hsub:IntKind.i64.wrap ((k:Int)+1-(sn:Int))=(k:Int)+1-(sn:Int):=by rw[IntKind.wrap_i64]; omega
   by_cases hp:pr=true
   ·subst hp;have HST:=ab (show fM (qk c data) mn mx n sn (k+1)=true by unfold fM; rw[HMX.out.2.2,<-HPR.out]; rfl)
    go_upto_region 7 with(fail)
    refine(mi c data k b _ mb 239 cs _ HV.out HB.out (by rw[<-HN.out]; exact hl) HBX.out HML2.out (HT.out.block (HBR.out.block _ HT.out.lt) HBR.out.size) HMB.out.2 HPR.out).mono ?_;rintro e w7 ⟨rfl,⟨cs7,hx7,hm7⟩,hg7⟩;have HX7:=ab hx7;have HM7:=ab hm7;have HG7:=ab hg7;have HB7:=ab (ft HBR.out hg7 (Nat.le_trans HBW.out.size HMB.out.1) HBR.out.size);clear hx7 hm7 hg7;have HCE:=ab (HCR.out.grown HG7.out (Nat.lt_of_lt_of_le HCL.out.1 HMB.out.1) (Nat.lt_of_lt_of_le HCL.out.2 HMB.out.1)); have z2:=HCE.out.dat
    have z1:=HCE.out.mx; rw[HMX.out.2.1]at z1
    go_upto_region 7 with(fail)
    have HJ7:=ab (HJ.out _ _ _ _ HJK.out HG7.out (fun r e=>by cases e; exact⟨HMB.out.1,cs.toArray,HBX.out⟩));have HDQ:=ab (show eS pre<k+1/\k+1<=data.length from⟨by rw[<-HSN.out]; omega,by rw[<-HN.out]; omega⟩);have HPL:=ab (show pre.length<data.length by rw[<-HN.out]; omega);obtain⟨fn,tmps,assign,body,hy,hR⟩:=HY.out pre (k+1) w7 HJ7.out HDQ.out HPL.out;rw[show(((k+1:Nat):Int))=(k:Int)+1 from rfl]at hy
    refine(wpIn_wide (n:=3)).1 ?_
    gi_wp2_with (fail)
    refine hR.mono ?_;rintro e6 w8 (⟨rfl,hj8,hk8⟩ | ⟨rfl,hj8⟩)
    ·have HJ8:=ab hj8;have HK8:=ab hk8;clear hj8 hk8 hy hR
     gi_wp2
     go_wp2_with fail
     go_roundw
     case rel=>
      refine⟨k+1,pre++[k+1],cs7,by omega,by go_num, ?_,by rw[eH]; rfl,HJ8.out,HB7.out.trans HK8.out.1,(HK8.out.2.1 mb _ HX7.out).trans HX7.out,HM7.out,HCE.out.same HK8.out.2.2⟩;rw[dO,<-HPRE.out,<-HSN.out,HST.out,if_pos rfl]
     case measure=>simp[intOf]; omega
    ·have HJ8:=ab hj8;clear hj8 hy hR
     gi_wp2
     go_wp2_with fail;refine bodyPost_ret (results_none rfl _ _ _) rfl ?_;exact⟨⟨_,rfl⟩, .inr ⟨pre++[k+1],trivial,HJ8.out⟩⟩
   ·have hp0:pr=false:=by simpa using hp
    subst hp0;clear hp
    by_cases hm:sn+mx<=k+1
    ·have hmi:(mx:Int)<=(k:Int)+1-(sn:Int):=by omega
     have hmj: ¬(k:Int)+1-(sn:Int)<(mx:Int):=by omega
     have HST:=ab (show fM (qk c data) mn mx n sn (k+1)=true by unfold fM; rw[decide_eq_true hm]; simp)
     go_upto_region 7 with(fail)
     refine(mi c data k b _ mb 239 cs _ HV.out HB.out (by rw[<-HN.out]; exact hl) HBX.out HML2.out (HT.out.block (HBR.out.block _ HT.out.lt) HBR.out.size) HMB.out.2 HPR.out).mono ?_;rintro e w7 ⟨rfl,⟨cs7,hx7,hm7⟩,hg7⟩;have HX7:=ab hx7;have HM7:=ab hm7;have HG7:=ab hg7;have HB7:=ab (ft HBR.out hg7 (Nat.le_trans HBW.out.size HMB.out.1) HBR.out.size);clear hx7 hm7 hg7;have HCE:=ab (HCR.out.grown HG7.out (Nat.lt_of_lt_of_le HCL.out.1 HMB.out.1) (Nat.lt_of_lt_of_le HCL.out.2 HMB.out.1)); have z2:=HCE.out.dat
     have z1:=HCE.out.mx; rw[HMX.out.2.1]at z1
     go_upto_region 7 with(fail)
     have HJ7:=ab (HJ.out _ _ _ _ HJK.out HG7.out (fun r e=>by cases e; exact⟨HMB.out.1,cs.toArray,HBX.out⟩));have HDQ:=ab (show eS pre<k+1/\k+1<=data.length from⟨by rw[<-HSN.out]; omega,by rw[<-HN.out]; omega⟩);have HPL:=ab (show pre.length<data.length by rw[<-HN.out]; omega);obtain⟨fn,tmps,assign,body,hy,hR⟩:=HY.out pre (k+1) w7 HJ7.out HDQ.out HPL.out;rw[show(((k+1:Nat):Int))=(k:Int)+1 from rfl]at hy
     refine(wpIn_wide (n:=3)).1 ?_
     gi_wp2_with (fail)
     refine hR.mono ?_;rintro e6 w8 (⟨rfl,hj8,hk8⟩ | ⟨rfl,hj8⟩)
     ·have HJ8:=ab hj8;have HK8:=ab hk8;clear hj8 hk8 hy hR
      gi_wp2
      go_wp2_with fail
      go_roundw
      case rel=>
       refine⟨k+1,pre++[k+1],cs7,by omega,by go_num, ?_,by rw[eH]; rfl,HJ8.out,HB7.out.trans HK8.out.1,(HK8.out.2.1 mb _ HX7.out).trans HX7.out,HM7.out,HCE.out.same HK8.out.2.2⟩;rw[dO,<-HPRE.out,<-HSN.out,HST.out,if_pos rfl]
      case measure=>simp[intOf]; omega
     ·have HJ8:=ab hj8;clear hj8 hy hR
      gi_wp2
      go_wp2_with fail;refine bodyPost_ret (results_none rfl _ _ _) rfl ?_;exact⟨⟨_,rfl⟩, .inr ⟨pre++[k+1],trivial,HJ8.out⟩⟩
    ·have hmi:(k:Int)+1-(sn:Int)<(mx:Int):=by omega
     by_cases he:n<=k+1
     ·have hei:(n:Int)<=(k:Int)+1:=by omega
      have hej: ¬(k:Int)+1<(n:Int):=by omega
      have HST:=ab (show fM (qk c data) mn mx n sn (k+1)=true by unfold fM; rw[decide_eq_true he]; simp)
      go_upto_region 7 with(fail)
      refine(mi c data k b _ mb 239 cs _ HV.out HB.out (by rw[<-HN.out]; exact hl) HBX.out HML2.out (HT.out.block (HBR.out.block _ HT.out.lt) HBR.out.size) HMB.out.2 HPR.out).mono ?_;rintro e w7 ⟨rfl,⟨cs7,hx7,hm7⟩,hg7⟩;have HX7:=ab hx7;have HM7:=ab hm7;have HG7:=ab hg7;have HB7:=ab (ft HBR.out hg7 (Nat.le_trans HBW.out.size HMB.out.1) HBR.out.size);clear hx7 hm7 hg7;have HCE:=ab (HCR.out.grown HG7.out (Nat.lt_of_lt_of_le HCL.out.1 HMB.out.1) (Nat.lt_of_lt_of_le HCL.out.2 HMB.out.1)); have z2:=HCE.out.dat
      have z1:=HCE.out.mx; rw[HMX.out.2.1]at z1
      go_upto_region 7 with(fail)
      have HJ7:=ab (HJ.out _ _ _ _ HJK.out HG7.out (fun r e=>by cases e; exact⟨HMB.out.1,cs.toArray,HBX.out⟩));have HDQ:=ab (show eS pre<k+1/\k+1<=data.length from⟨by rw[<-HSN.out]; omega,by rw[<-HN.out]; omega⟩);have HPL:=ab (show pre.length<data.length by rw[<-HN.out]; omega);obtain⟨fn,tmps,assign,body,hy,hR⟩:=HY.out pre (k+1) w7 HJ7.out HDQ.out HPL.out;rw[show(((k+1:Nat):Int))=(k:Int)+1 from rfl]at hy
      refine(wpIn_wide (n:=3)).1 ?_
      gi_wp2_with (fail)
      refine hR.mono ?_;rintro e6 w8 (⟨rfl,hj8,hk8⟩ | ⟨rfl,hj8⟩)
      ·have HJ8:=ab hj8;have HK8:=ab hk8;clear hj8 hk8 hy hR
       gi_wp2
       go_wp2_with fail
       go_roundw
       case rel=>
        refine⟨k+1,pre++[k+1],cs7,by omega,by go_num, ?_,by rw[eH]; rfl,HJ8.out,HB7.out.trans HK8.out.1,(HK8.out.2.1 mb _ HX7.out).trans HX7.out,HM7.out,HCE.out.same HK8.out.2.2⟩;rw[dO,<-HPRE.out,<-HSN.out,HST.out,if_pos rfl]
       case measure=>simp[intOf]; omega
      ·have HJ8:=ab hj8;clear hj8 hy hR
       gi_wp2
       go_wp2_with fail;refine bodyPost_ret (results_none rfl _ _ _) rfl ?_;exact⟨⟨_,rfl⟩, .inr ⟨pre++[k+1],trivial,HJ8.out⟩⟩
     ·have hei:(k:Int)+1<(n:Int):=by omega
      have HST:=ab (show fM (qk c data) mn mx n sn (k+1)=false by unfold fM; rw[decide_eq_false he,decide_eq_false hm,HMX.out.2.2,<-HPR.out]; rfl);go_wp2_with (go_at_call 188; refine(mi c data k b _ mb 239 cs _ HV.out HB.out (by rw[<-HN.out]; exact hl) HBX.out HML2.out (HT.out.block (HBR.out.block _ HT.out.lt) HBR.out.size) HMB.out.2 HPR.out).mono ?_; rintro e w7 ⟨rfl,⟨cs7,hx7,hm7⟩,hg7⟩; have HX7:=ab hx7; have HM7:=ab hm7; have HG7:=ab hg7; have HB7:=ab (ft HBR.out hg7 (Nat.le_trans HBW.out.size HMB.out.1) HBR.out.size); clear hx7 hm7 hg7; have HCE:=ab (HCR.out.grown HG7.out (Nat.lt_of_lt_of_le HCL.out.1 HMB.out.1) (Nat.lt_of_lt_of_le HCL.out.2 HMB.out.1)); have z2:=HCE.out.dat; have z1:=HCE.out.mx; rw[HMX.out.2.1]at z1)
      go_roundw
      case rel=>
       refine⟨k+1,pre,cs7,by omega,by go_num, ?_,by rw[HSN.out], ?_,HB7.out,HX7.out,HM7.out,HCE.out⟩
       ·rw[dO,<-HPRE.out,<-HSN.out,HST.out,if_neg (by decide)]
       ·exact HJ.out _ _ _ _ HJK.out HG7.out (fun r e=>by cases e; exact⟨HMB.out.1,cs.toArray,HBX.out⟩)
      case measure=>simp[intOf]; omega
  ·have hk2:k=n:=by omega
   go_wp2_with fail
   go_end0
   refine⟨⟨_,rfl⟩, .inl ⟨pre, ?_,HJK.out⟩⟩;rw[HPRE.out,hk2,HN.out,HMX.out.1,HMX.out.2.2]; rfl
end Go.Proofs.YtpffpjbkbaleiaaGreatDoor
namespace Go.Proofs.YtpffpjbkbaleiaaGreatDoor
open Go Go.RowKit Go.Maps Go.MapKept
open Go.ChangeMaps (modify_eq_set map_eraseIdx)
def ci (P:Program) (k:TypeId) (w:World) (b:Nat) (m:List (Value×Value)):Prop:=
 ∃es clock,w.heap[b]? =some (.map es clock)/\es.toList.map (fun e=>(e.key,e.val))=m/\Stamped es clock/\ ∀p∈m,∃l,keyOf P k p.1=some l
section
variable {P : Program} {k t e : TypeId} {w w' : World} {b : Nat} {m : List (Value × Value)} {key val z : Value}
theorem nY {es:Array MapEntry} {clock:Nat} (h:Stamped es clock):((es.toList.map (fun e=>(e.key,e.val))).map Prod.fst).Nodup:=by
 rw[List.map_map];have:=((stamped_iff es clock).1 h).2.2;unfold List.Nodup;rw[List.pairwise_map];exact this
theorem ci.is (h:ci P k w b m):cS P k w b m:=by
 obtain⟨es,clock,hb,he,hs,hk⟩:=h;exact⟨es,clock,hb,he,by rw[<-he]; exact nY hs,hk⟩
theorem ci.lt (h:ci P k w b m):b<w.heap.size:=h.is.lt
theorem ci.same (h:ci P k w b m) (hs:w'.heap[b]? =w.heap[b]?):ci P k w' b m:=by
 obtain⟨es,clock,hb,h2⟩:=h;exact⟨es,clock,hs.trans hb,h2⟩
theorem ci.made (w:World):ci P k (w.alloc (.map #[] 0)) w.heap.size []:=⟨#[],0,(MapKept.heap_alloc w _).1,rfl,stamped_empty 0,by simp⟩
theorem ci.nodup (h:ci P k w b m):(m.map Prod.fst).Nodup:=by obtain⟨_,_,_,_,hn,_⟩:=h.is; exact hn
theorem iK {w:World} {b:Nat} {x:Obj} (hb:w.heap[b]? =some x) (o:Obj):w.grownBy (ChangeMaps.setBlock w b o) (some b):=
 ⟨rfl,rfl,rfl,by simp[ChangeMaps.setBlock],fun i _ hi=>oW hb _ (fun e=>hi (by rw[e]))⟩
theorem ci.put (h:ci P k w b m) (K:Keyed P k) (ht:P.underlying t=some (.map k e)) (hkey: ∃l,keyOf P k key=some l) (hm: ∀p∈m,p.1≠key) (val:Value):
  ∃w',(Instr.mapUpdate t (.map (some b)) key val).run P w= .ok () w'/\ci P k w' b (m++[(key,val)])/\w.grownBy w' (some b):=by
 obtain⟨es,clock,hb,he,hst,hk⟩:=h;obtain⟨kl,hkl⟩:=hkey
 rcases K.find w hkl es.toList (cS.keys he hk)with⟨h1,h2⟩ | ⟨j,e0,h1,h2,h3⟩
 ·refine⟨ChangeMaps.setBlock w b (.map (es.push ⟨key,val,clock⟩) (clock+1)), ?_,⟨_,_,mW hb _, ?_,stamped_push hst h2, ?_⟩,iK hb _⟩
  ·simp[Instr.mapUpdate,run_underlying ht,MapKept.run_getObj_map hb,K.check w false hkl,h1,MapKept.run_setObj_map _ hb,Result.andThen,ChangeMaps.setBlock]
  ·simp[<-he]
  ·intro p hp
   rcases List.mem_append.1 hp with hp | hp
   ·exact hk p hp
   ·simp only[List.mem_singleton]at hp;subst hp;exact⟨kl,hkl⟩
 ·exact absurd h3 (hm (e0.key,e0.val) (by rw[<-he]; exact List.mem_map.2 ⟨e0,List.mem_of_getElem? h2,rfl⟩))
theorem ci.over {m1 m2:List (Value×Value)} {old:Value} (h:ci P k w b (m1++(key,old)::m2)) (K:Keyed P k) (ht:P.underlying t=some (.map k e)) (val:Value):
  ∃w',(Instr.mapUpdate t (.map (some b)) key val).run P w= .ok () w'/\ci P k w' b (m1++(key,val)::m2)/\w.grownBy w' (some b):=by
 have hnd:=h.nodup;obtain⟨es,clock,hb,he,hst,hk⟩:=h;obtain⟨kl,hkl⟩:=hk (key,old) (by simp)
 rcases K.find w hkl es.toList (cS.keys he hk)with⟨h1,h2⟩ | ⟨j,e0,h1,h2,h3⟩
 ·exfalso
  have:(key,old)∈es.toList.map (fun e=>(e.key,e.val)):=by rw[he]; simp
  obtain⟨x,hx,hxe⟩:=List.mem_map.1 this;exact h2 x hx (congrArg Prod.fst hxe)
 ·have hj:es[j]? =some e0:=by simpa using h2
  have hlist:(es.modify j (fun e'=> {e' with key:=key,val:=val})).toList=es.toList.set j {e0 with key:=key,val:=val} :=by rw[Array.toList_modify,modify_eq_set _ _ _ _ h2]
  have hjm:j=m1.length:=by
   have h4:(m1++(key,old)::m2)[j]? =some (e0.key,e0.val):=by rw[<-he,List.getElem?_map,h2]; rfl
   have h5:((m1++(key,old)::m2).map Prod.fst)[j]? =some key:=by rw[List.getElem?_map,h4]; simp[h3]
   have h6:((m1++(key,old)::m2).map Prod.fst)[m1.length]? =some key:=by simp
   have hjl:=(List.getElem?_eq_some_iff.1 h5).1;exact(List.getElem?_inj hjl hnd).1 (h5.trans h6.symm)
  refine⟨ChangeMaps.setBlock w b (.map (es.modify j (fun e'=> {e' with key:=key,val:=val})) clock), ?_,⟨_,_,mW hb _, ?_, ?_, ?_⟩,iK hb _⟩
  ·simp[Instr.mapUpdate,run_underlying ht,MapKept.run_getObj_map hb,K.check w false hkl,h1,hj,h3,K.stays w hkl,MapKept.run_setObj_map _ hb,Result.andThen,ChangeMaps.setBlock]
  ·rw[hlist,List.map_set,he,hjm];simp
  ·exact stamped_modify hst j _ (fun _ _=>rfl) (fun e' _ he'=>by rw[hj]at he'; cases he'; exact h3.symm)
  ·intro p hp
   rcases List.mem_append.1 hp with hp | hp
   ·exact hk p (by simp[hp])
   ·rcases List.mem_cons.1 hp with rfl | hp
    ·exact⟨kl,hkl⟩
    ·exact hk p (by simp[hp])
theorem ci.len (h:ci P k w b m) (ht:P.underlying t=some (.map k e)) (ty:TypeId):(Builtin.len_ #[t] ty #[.map (some b)]).run P w= .ok (.int .i64 (m.length:Int)) w:=by
 obtain⟨es,clock,hb,he,_⟩:=h;have:es.size=m.length:=by rw[<-he]; simp
 simp[Builtin.len_,run_underlying ht,MapKept.run_getObj_map hb,goInt,Result.andThen,this]
def iB (P:Program) (k:TypeId) (w:World) (b r:Nat) (m vis:List (Value×Value)):Prop:=
 ∃es clock since seen c0,w.heap[b]? =some (.map es clock)/\es.toList.map (fun e=>(e.key,e.val))=m/\Stamped es clock/\(∀p∈m,∃l,keyOf P k p.1=some l)/\
  w.heap[r]? =some (.mapIter (some b) since seen c0)/\(∀x∈es.toList,x.born<since)/\since<=c0/\since<=clock/\vis.Perm ((es.toList.filter fun x=>seen.contains x.born).map (fun e=>(e.key,e.val)))
theorem iB.map {r:Nat} {vis:List (Value×Value)} (h:iB P k w b r m vis):ci P k w b m:=by
 obtain⟨es,clock,_,_,_,hb,he,hs,hk,_⟩:=h;exact⟨es,clock,hb,he,hs,hk⟩
theorem iB.same {r:Nat} {vis:List (Value×Value)} (h:iB P k w b r m vis) (h1:w'.heap[b]? =w.heap[b]?) (h2:w'.heap[r]? =w.heap[r]?):iB P k w' b r m vis:=by
 obtain⟨es,clock,since,seen,c0,hb,he,hs,hk,hr,h3⟩:=h;exact⟨es,clock,since,seen,c0,h1.trans hb,he,hs,hk,h2.trans hr,h3⟩
theorem iB.ne {r:Nat} {vis:List (Value×Value)} (h:iB P k w b r m vis):r≠b:=by
 obtain⟨es,clock,since,seen,c0,hb,_,_,_,hr,_⟩:=h;intro e1;subst e1;rw[hb]at hr
 cases hr
theorem kh {α:Type} (p:α->Bool): ∀(l:List α),(l.filter p).length+(l.filter fun x=> !p x).length=l.length
 | []=>rfl
 | a::l=>by
  have:=kh p l
  cases h:p a<;> simp[h]<;> omega
theorem iB.left {r:Nat} {vis:List (Value×Value)} (h:iB P k w b r m vis):w.rangeLeft b r+vis.length=m.length:=by
 obtain⟨es,clock,since,seen,c0,hb,he,hs,hk,hr,_,_,_,hv⟩:=h;have h1:w.rangeLeft b r=(leftOf es seen).size:=by simp only[World.rangeLeft,hb,hr]
 have h2:(leftOf es seen).size=(es.toList.filter fun x=> !seen.contains x.born).length:=by
  unfold leftOf;rw[<-Array.toList_filter,Array.length_toList]
 have h3:=kh (fun x:MapEntry=>seen.contains x.born) es.toList;rw[h1,h2,hv.length_eq,List.length_map,<-he,List.length_map];omega
theorem ci.range (h:ci P k w b m) (ht:P.underlying t=some (.map k e)):
  ∃w',(Instr.range t (.map (some b))).run P w= .ok (.pointer (some ⟨w.heap.size,0,none⟩)) w'/\iB P k w' b w.heap.size m []/\Below w.heap.size w w'/\w'.heap.size=w.heap.size+1:=by
 have hlt:=h.lt;obtain⟨es,clock,hb,he,hs,hk⟩:=h;refine⟨_,run_range_map w t k e b es clock ht hb,⟨es,clock,clock, #[],clock,((MapKept.heap_alloc w _).2 b hlt).trans hb,he,hs,hk,(MapKept.heap_alloc w _).1,((stamped_iff es clock).1 hs).1,Nat.le_refl _,Nat.le_refl _, ?_⟩,(Below.refl _ _).alloc (Nat.le_refl _) _,by simp⟩;simp
theorem zZ {es:Array MapEntry} {clock:Nat} (hs:Stamped es clock) {x y:MapEntry} (hx:x∈es.toList) (hy:y∈es.toList) (h:x.born=y.born):x=y:=born_inj ((stamped_iff es clock).1 hs).2.1 hx hy h
theorem wF {es:List MapEntry} {seen:Array Nat} {e0:MapEntry} (hn:es.Nodup) (hinj: ∀x∈es,x.born=e0.born->x=e0) (he:e0∈es) (h0:seen.contains e0.born=false):
  ((es.filter fun x=>seen.contains x.born)++[e0]).Perm (es.filter fun x=>(seen.push e0.born).contains x.born):=by
 refine(List.perm_ext_iff_of_nodup ?_ (hn.filter _)).2 (fun x=> ?_)
 ·rw[List.nodup_append];refine⟨hn.filter _,by simp,fun a ha c hc=> ?_⟩;simp only[List.mem_singleton]at hc;subst hc;rintro rfl;rw[List.mem_filter]at ha;rw[ha.2]at h0
  cases h0
 ·simp only[List.mem_append,List.mem_filter,List.mem_singleton,contains_push,Bool.or_eq_true,beq_iff_eq]
  constructor
  ·rintro(⟨h1,h2⟩ | rfl)
   ·exact⟨h1, .inl h2⟩
   ·exact⟨he, .inr rfl⟩
  ·rintro⟨h1,h2 | h2⟩
   ·exact .inl ⟨h1,h2⟩
   ·exact .inr (hinj x h1 h2)
theorem iB.next {r:Nat} {vis:List (Value×Value)} (h:iB P k w b r m vis) (ty:TypeId):
  (vis.Perm m/\(Instr.next (.pointer (some ⟨r,0,none⟩)) false ty).run P w= .ok (.tuple #[.bool false]) w)\/
  ∃key v w',(key,v)∈m/\(∀p∈vis,p.1≠key)/\(Instr.next (.pointer (some ⟨r,0,none⟩)) false ty).run P w= .ok (.tuple #[.bool true,key,v]) w'/\
   iB P k w' b r m (vis++[(key,v)])/\w.grownBy w' (some r)/\w'.heap.size=w.heap.size/\(Instr.entry (.pointer (some ⟨r,0,none⟩))).run P w'= .ok (.tuple #[key,v]) w':=by
 have hne:=h.ne;obtain⟨es,clock,since,seen,c0,hb,he,hs,hk,hr,hold,hsc,hsk,hv⟩:=h;have hsi:=(stamped_iff es clock).1 hs
 rcases run_next_at (P:=P) w ty r b since c0 seen es clock hr hb hold hsc with⟨h0,hrun⟩ | ⟨e0,he0,w1,hal,hrun⟩
 ·refine Or.inl ⟨?_,hrun⟩;have:(es.toList.filter fun x=>seen.contains x.born)=es.toList:=by
   rw[List.filter_eq_self];intro x hx;exact all_seen es seen h0 x hx
  rw[this,he]at hv;exact hv
 ·obtain⟨hem,hes⟩:=mem_left he0;have hr1:w1.heap[r]? =some (.mapIter (some b) since seen c0):=by rcases hal with rfl | rfl<;> exact hr
  have hb1:w1.heap[b]? =some (.map es clock):=by rcases hal with rfl | rfl<;> exact hb
  have hset:=heap_set (o':= .mapIter (some b) since (seen.push e0.born) clock) hr1;have hb':(ChangeMaps.setBlock w1 r (.mapIter (some b) since (seen.push e0.born) clock)).heap[b]? =some (.map es clock):=(hset.2 b (fun e1=>hne e1.symm)).trans hb1;have hnd:es.toList.Nodup:=by
   have:=hsi.2.1;unfold List.Nodup at this;rw[List.pairwise_map]at this;exact this.imp (fun h e=>h (by rw[e]))
  have hinj: ∀x∈es.toList,x.born=e0.born->x=e0:=fun x hx hxb=>zZ hs hx hem hxb
  have hpp:=wF hnd hinj hem hes;refine Or.inr ⟨e0.key,e0.val,_,by rw[<-he]; exact List.mem_map.2 ⟨e0,hem,rfl⟩,fun p hp hpk=> ?_,hrun,⟨es,clock,since,seen.push e0.born,clock,hb',he,hs,hk,hset.1,hold,hsk,hsk, ?_⟩, ?_, ?_,
   run_entry_at _ r b since seen es clock e0 hset.1 hb' hem hsi.2.1⟩
  ·obtain⟨x,hx,rfl⟩:=List.mem_map.1 (hv.subset hp);obtain⟨hx1,hx2⟩:=List.mem_filter.1 hx;have:x=e0:=entry_eq_of_key hsi.2.2 hx1 hem hpk;subst this;rw[hx2]at hes
   cases hes
  ·refine(hv.append_right _).trans ?_;have:=hpp.map (fun e:MapEntry=>(e.key,e.val));rw[List.map_append]at this;exact this
  ·rcases hal with rfl | rfl<;> exact⟨rfl,rfl,rfl,by simp[ChangeMaps.setBlock],fun i _ hi=>hset.2 i (fun e1=>hi (by rw[e1]))⟩
  ·rcases hal with rfl | rfl<;> simp[ChangeMaps.setBlock]
end
section
variable {P : Program} {w : World} {ops : Array Oper} {rest : List Oper} {o : Oper} {a : Act} {Q : Exit → Act → World → Prop} {k e : TypeId}
theorem oy (hg:o.guard=none) (mo:Operand) (t:TypeId) (hop:o.op=Op.range t mo) (ht:P.underlying t=some (.map k e)) (b:Nat) (m:List (Value×Value)) (hm:a.eval mo= .map (some b)) (h:ci P k w b m)
  (hK: ∀w',iB P k w' b w.heap.size m []->Below w.heap.size w w'->w'.heap.size=w.heap.size+1->wpList P ops Q rest (a.put o.dst (.pointer (some ⟨w.heap.size,0,none⟩))) w'):wpList P ops Q (o::rest) a w:=by
 refine wpList_plain hg fun K' hK'=> ?_
 obtain⟨w',hrun,r1,r2,r3⟩:=h.range ht;unfold Oper.wp;simp[execOp,hop,hm,hrun,Result.andThen];exact hK' _ _ (hK w' r1 r2 r3)
theorem qx (hg:o.guard=none) (it:Operand) (hop:o.op=Op.next it false) (b r:Nat) (m vis:List (Value×Value)) (hit:a.eval it= .pointer (some ⟨r,0,none⟩)) (h:iB P k w b r m vis)
  (hDone:vis.Perm m->wpList P ops Q rest (a.put o.dst (.tuple #[.bool false])) w)
  (hMore: ∀(key v:Value) (w':World),(key,v)∈m->(∀p∈vis,p.1≠key)->iB P k w' b r m (vis++[(key,v)])->w.grownBy w' (some r)->w'.heap.size=w.heap.size->
   (Instr.entry (.pointer (some ⟨r,0,none⟩))).run P w'= .ok (.tuple #[key,v]) w'->wpList P ops Q rest (a.put o.dst (.tuple #[.bool true,key,v])) w'):wpList P ops Q (o::rest) a w:=by
 refine wpList_plain hg fun K' hK'=> ?_
 unfold Oper.wp
 rcases h.next o.type with⟨h0,hrun⟩ | ⟨key,v,w',h1,h2,hrun,h3,h4,h5,h6⟩
 ·simp[execOp,hop,hit,hrun,Result.andThen];exact hK' _ _ (hDone h0)
 ·simp[execOp,hop,hit,hrun,Result.andThen];exact hK' _ _ (hMore key v w' h1 h2 h3 h4 h5 h6)
theorem dC (K:Keyed P k) (hg:o.guard=none) (mo x v:Operand) (t:TypeId) (hop:o.op=Op.mapUpdate t mo x v) (ht:P.underlying t=some (.map k e)) (b:Nat) (m:List (Value×Value)) (h:ci P k w b m) (hmo:a.eval mo= .map (some b)) (key val:Value) (hx:a.eval x=key) (hv:a.eval v=val) (hkey: ∃l,keyOf P k key=some l) (hnew: ∀p∈m,p.1≠key)
  (hK: ∀w',ci P k w' b (m++[(key,val)])->w.grownBy w' (some b)->wpList P ops Q rest (a.put o.dst undef) w'):wpList P ops Q (o::rest) a w:=by
 refine wpList_plain hg fun K' hK'=> ?_
 obtain⟨w',hrun,r1,r2⟩:=h.put K ht hkey hnew val;unfold Oper.wp;simp[execOp,hop,hmo,hx,hv,hrun,Result.andThen];exact hK' _ _ (hK w' r1 r2)
theorem ir (K:Keyed P k) (hg:o.guard=none) (mo x v:Operand) (t:TypeId) (hop:o.op=Op.mapUpdate t mo x v) (ht:P.underlying t=some (.map k e)) (b:Nat) (m1 m2:List (Value×Value)) (key val old:Value) (h:ci P k w b (m1++(key,old)::m2)) (hmo:a.eval mo= .map (some b)) (hx:a.eval x=key) (hv:a.eval v=val)
  (hK: ∀w',ci P k w' b (m1++(key,val)::m2)->w.grownBy w' (some b)->wpList P ops Q rest (a.put o.dst undef) w'):wpList P ops Q (o::rest) a w:=by
 refine wpList_plain hg fun K' hK'=> ?_
 obtain⟨w',hrun,r1,r2⟩:=h.over K ht val;unfold Oper.wp;simp[execOp,hop,hmo,hx,hv,hrun,Result.andThen];exact hK' _ _ (hK w' r1 r2)
end
end Go.Proofs.YtpffpjbkbaleiaaGreatDoor
namespace Go.Proofs.YtpffpjbkbaleiaaGreatDoor
def ew :Nat->List UInt8->List Int
 | 0,_=>[]
 | n+1,l=>if l=[]then []else((Lib.decodeL l).1:Int)::ew n (l.drop (Lib.decodeL l).2)
def kS (l:List UInt8):List Int:=ew l.length l
def xV {T:Type} (f:List T->Bool):List T->Bool
 | []=>f []
 | t::us=>f (t::us) || xV f us
def BQ {T:Type} (m:T->Bool) (f:List T->Bool):List T->Bool
 | []=>false
 | t::us=>m t && f us
def dv {P T:Type} (star:P->Bool) (m:P->T->Bool):List P->List T->Bool
 | [],ts=>ts.isEmpty
 | p::ps,ts=>if star p then xV (dv star m ps) ts else BQ (m p) (dv star m ps) ts
theorem eZ (l:List UInt8) (h:l≠[]):1<=(Lib.decodeL l).2/\(Lib.decodeL l).2<=l.length:=⟨Lib.decodeL_width l,Lib.decodeL_le l h⟩
theorem ky : ∀(n m:Nat) (l:List UInt8),l.length<=n->l.length<=m->ew n l=ew m l
 | 0,m,l,h,_=>by
  have:l=[]:=List.eq_nil_of_length_eq_zero (by omega);subst this; cases m<;> simp[ew]
 | n,0,l,_,h=>by
  have:l=[]:=List.eq_nil_of_length_eq_zero (by omega);subst this; cases n<;> simp[ew]
 | n+1,m+1,l,h1,h2=>by
  unfold ew
  split
  ·rfl
  ·rename_i hl;have:=eZ l hl;rw[ky n m (l.drop (Lib.decodeL l).2) (by rw[List.length_drop]; omega) (by rw[List.length_drop]; omega)]
theorem sx (l:List UInt8) (h:l≠[]):kS l=((Lib.decodeL l).1:Int)::kS (l.drop (Lib.decodeL l).2):=by
 have h1:=eZ l h;have hl:l.length=(l.length-1)+1:=by have:=List.length_pos_iff.2 h; omega
 unfold kS;rw[hl,ew,if_neg h,ky _ (l.drop (Lib.decodeL l).2).length (l.drop (Lib.decodeL l).2) (by rw[List.length_drop]; omega) (Nat.le_refl _)]
theorem iZ : ∀(n:Nat) (l:List UInt8),(ew n l).length<=n
 | 0,_=>by simp[ew]
 | n+1,l=>by
  unfold ew
  split
  ·simp
  ·have:=iZ n (l.drop (Lib.decodeL l).2); simp; omega
theorem ol (l:List UInt8):(kS l).length<=l.length:=iZ _ _
end Go.Proofs.YtpffpjbkbaleiaaGreatDoor
namespace Go.Proofs.YtpffpjbkbaleiaaGreatDoor
theorem gG {a b:UInt8} (h:di a=di b):a=b:=by
 unfold di at h
 split at h<;> split at h
 ·simp[*]
 ·omega
 ·omega
 ·apply UInt8.toNat_inj.1; omega
theorem uJ : ∀(a b:List UInt8),cj b a= -cj a b
 | [],[]=>by simp[cj]
 | [],_::_=>by simp[cj]
 | _::_,[]=>by simp[cj]
 | a::l,b::r=>by
  unfold cj
  by_cases h:a=b
  ·rw[if_pos h,if_pos h.symm]; exact uJ l r
  ·rw[if_neg h,if_neg (Ne.symm h)];have:di a≠di b:=fun e=>h (gG e)
   unfold Lib.compareInt
   rcases Int.lt_trichotomy (di a) (di b)with h1 | h1 | h1
   ·rw[if_neg (by omega),if_pos (by omega),if_pos h1]; rfl
   ·exact absurd h1 this
   ·rw[if_pos (by omega),if_neg (by omega),if_pos (by omega)]
theorem qS : ∀(a b:List UInt8),cj a b=0<->a=b
 | [],[]=>by simp[cj]
 | [],_::_=>by simp[cj]
 | _::_,[]=>by simp[cj]
 | a::l,b::r=>by
  unfold cj
  by_cases h:a=b
  ·rw[if_pos h,qS l r]; simp[h]
  ·rw[if_neg h];have:di a≠di b:=fun e=>h (gG e)
   unfold Lib.compareInt
   constructor
   ·intro e; split at e
    ·omega
    ·split at e<;> omega
   ·intro e; simp at e; exact absurd e.1 h
theorem oK : ∀(a b c:List UInt8),cj a b<=0->cj b c<=0->cj a c<=0/\(cj a c=0->cj a b=0/\cj b c=0)
 | [],b,[],h1,h2=>by
  cases b with
  | nil=>simp[cj]
  | cons x b=>simp[cj]at h2
 | [],_,_::_,_,_=>by simp[cj]
 | _::_,[],_,h1,_=>by simp[cj]at h1
 | x::a,y::b,[],_,h2=>by simp[cj]at h2
 | x::a,y::b,z::c,h1,h2=>by
  unfold cj at h1 h2 ⊢
  by_cases hxy:x=y
  ·subst hxy;rw[if_pos rfl]at h1 ⊢
   by_cases hxz:x=z
   ·subst hxz;rw[if_pos rfl]at h2 ⊢;rw[if_pos rfl];exact oK a b c h1 h2
   ·rw[if_neg hxz]at h2 ⊢;rw[if_neg hxz];refine⟨h2,fun e=> ?_⟩
    exfalso
    have:di x≠di z:=fun e=>hxz (gG e)
    unfold Lib.compareInt at e
    split at e
    ·omega
    ·split at e<;> omega
  ·rw[if_neg hxy]at h1 ⊢;have n1:di x≠di y:=fun e=>hxy (gG e)
   have l1:di x<di y:=by
    unfold Lib.compareInt at h1
    split at h1
    ·assumption
    ·split at h1
     ·omega
     ·omega
   by_cases hyz:y=z
   ·subst hyz;rw[if_neg hxy];refine⟨h1,fun e=> ?_⟩
    exfalso
    unfold Lib.compareInt at e;rw[if_pos l1]at e; omega
   ·rw[if_neg hyz]at h2;have n2:di y≠di z:=fun e=>hyz (gG e)
    have l2:di y<di z:=by
     unfold Lib.compareInt at h2
     split at h2
     ·assumption
     ·split at h2<;> omega
    have n3:x≠z:=fun e=>by subst e; omega
    rw[if_neg n3];unfold Lib.compareInt;rw[if_pos (by omega)];exact⟨by omega,fun e=>by omega⟩
theorem uI : ∀(p q:List UInt8),cj p (p++q)<=0
 | [],[]=>by simp[cj]
 | [],_::_=>by simp[cj]
 | a::p,q=>by rw[List.cons_append,cj,if_pos rfl]; exact uI p q
end Go.Proofs.YtpffpjbkbaleiaaGreatDoor
namespace Go.Proofs.YtpffpjbkbaleiaaGreatDoor
theorem jZ (k n:Nat) (z:Int) (h:z=((k+n:Nat):Int)):UInt8.ofNat k+UInt8.ofNat n=UInt8.ofNat z.toNat:=by
 subst h; rw[Int.toNat_natCast,UInt8.ofNat_add]
theorem ti (r:Nat):(Utf8.encode (r:Int)).data.toList=Lib.encodeRune (r:Int):=by
 unfold Lib.encodeRune
 by_cases c1:r<128
 ·have v:Utf8.valid (r:Int)=true:=by simp[Utf8.valid]; omega
  rw[Lib.encodeRuneZ_one (by omega) (by omega)]; simp[Utf8.encode,v,c1]
 by_cases c2:r<2048
 ·have v:Utf8.valid (r:Int)=true:=by simp[Utf8.valid]; omega
  rw[Lib.encodeRuneZ_two (by omega) (by omega)]; simp[Utf8.encode,v,c1,c2]; exact⟨jZ 192 _ _ (by omega),jZ 128 _ _ (by omega)⟩
 by_cases hb:(55296<=r/\r<=57343)\/1114111<r
 ·have v:Utf8.valid (r:Int)=false:=by simp[Utf8.valid]; omega
  rw[Lib.encodeRuneZ_bad (by omega)]; simp[Utf8.encode,v,Utf8.runeError]
 by_cases c3:r<65536
 ·have v:Utf8.valid (r:Int)=true:=by simp[Utf8.valid]; omega
  rw[Lib.encodeRuneZ_three (by omega)]; simp[Utf8.encode,v,c1,c2,c3]; exact⟨jZ 224 _ _ (by omega),jZ 128 _ _ (by omega),jZ 128 _ _ (by omega)⟩
 ·have v:Utf8.valid (r:Int)=true:=by simp[Utf8.valid]; omega
  rw[Lib.encodeRuneZ_four (by omega) (by omega)]; simp[Utf8.encode,v,c1,c2,c3]; exact⟨jZ 240 _ _ (by omega),jZ 128 _ _ (by omega),jZ 128 _ _ (by omega),jZ 128 _ _ (by omega)⟩
def qr (l:List UInt8):List UInt8:=(kS l).flatMap Lib.encodeRune
theorem qs :qr []=[]:=rfl
theorem sk (l:List UInt8) (h:l≠[]):qr l=Lib.encodeRune ((Lib.decodeL l).1:Int)++qr (l.drop (Lib.decodeL l).2):=by
 unfold qr; rw[sx l h,List.flatMap_cons]
theorem mN (r:Int):(Lib.encodeRune r).length<=4:=by
 have:=(Lib.encodeRuneZ_length r).2; simpa [Lib.encodeRune]using this
theorem uX : ∀(n:Nat) (l:List UInt8),l.length<=n->l.length<=(qr l).length/\(qr l=l<->Lib.validD l=true)
 | 0,l,h=>by
  have:l=[]:=List.eq_nil_of_length_eq_zero (by omega);subst this;exact⟨by simp,by simp[qs,Lib.validD_nil]⟩
 | n+1,l,h=>by
  by_cases hl:l=[]
  ·subst hl;exact⟨by simp,by simp[qs,Lib.validD_nil]⟩
  ·have hw:=eZ l hl;obtain⟨ih1,ih2⟩:=uX n (l.drop (Lib.decodeL l).2) (by rw[List.length_drop]; omega);rw[List.length_drop]at ih1;rw[sk l hl,Lib.validD_step l hl]
   by_cases hb:(Lib.decodeL l).1=65533/\(Lib.decodeL l).2=1
   ·have e3:(Lib.encodeRune ((Lib.decodeL l).1:Int)).length=3:=by rw[hb.1]; rfl
    rw[if_pos hb];refine⟨by rw[List.length_append,e3]; omega,⟨fun e=> ?_,fun e=>by cases e⟩⟩;have:=congrArg List.length e;rw[List.length_append,e3]at this;omega
   ·rw[if_neg hb,Lib.encode_decode l hl hb];refine⟨by rw[List.length_append,List.length_take]; omega, ?_⟩;rw[<-ih2]
    constructor
    ·intro e;have h2:l.take (Lib.decodeL l).2++qr (l.drop (Lib.decodeL l).2)=l.take (Lib.decodeL l).2++l.drop (Lib.decodeL l).2:=by rw[List.take_append_drop]; exact e
     exact List.append_cancel_left h2
    ·intro e; rw[e,List.take_append_drop]
theorem wI (l:List UInt8):(qr l == l)=Lib.validD l:=by
 rw[Bool.eq_iff_iff,beq_iff_eq]; exact(uX l.length l (Nat.le_refl _)).2
theorem qU (l:List UInt8):((aM 47 l).length == 1)= !l.contains 47:=by
 by_cases h:(47:UInt8)∈l
 ·obtain⟨p,q,rfl,hp⟩:=oZ l 47 h;have:=ue 47 q;rw[go 47 p q hp];have h2:((p::aM 47 q).length == 1)=false:=by rw[beq_eq_false_iff_ne]; simp; exact gI 47 q
  rw[h2]; simp
 ·rw[dG 47 l h]; simp[h]
end Go.Proofs.YtpffpjbkbaleiaaGreatDoor
namespace Go.Proofs.YtpffpjbkbaleiaaGreatDoor
open Go.RowKit
structure bi where
 path:ByteArray
 kind:Int
 mode:Int
 time:Int
 data:List UInt8
 link:ByteArray
deriving DecidableEq
def kY (l:List UInt8):Bool:=decide (1<=l.length) && decide (l.length<=512) && !l.contains 0
def jc (e:bi):Bool:=
 if e.kind=1 then decide (e.data.length<=1048576) && decide (e.link.size=0)
 else if e.kind=2 then decide (e.data.length=0) && decide (e.link.size=0)
 else if e.kind=3 then decide (e.data.length=0) && kY (bl e.link)
 else false
def qv (e:bi):Bool:=decide (0<=e.mode) && decide (e.mode<=511) && decide (0<=e.time)
def gq (e:bi):Bool:=aZ (bl e.path) && qv e && jc e
def fV (L:List bi) (p:ByteArray):Option bi:=L.find? fun e=>decide (e.path=p)
def kf (L:List bi) (p:List UInt8):Int:=if p=[]then 0 else match fV L ⟨p.toArray⟩with
 | none=>4
 | some e=>if e.kind=2 then 0 else 13
def jG (a b:bi):Int:=cj (bl a.path) (bl b.path)
def iC (pre:List bi) (e:bi):Bool:=match pre.getLast? with
 | none=>true
 | some f=>decide (jG f e<0)
def cd (pre:List bi) (e:bi):Int:=if(gq e && iC pre e)=true then kf pre (aL (bl e.path))else 1
def gm :List bi->List bi->Int
 | _,[]=>0
 | pre,e::r=>if cd pre e=0 then gm (pre++[e]) r else cd pre e
def cu (L:List bi):Int:=if 4096<L.length then 2 else gm [] L
theorem AB {p:ByteArray} {l:List UInt8} (h:bl p=l):p=⟨l.toArray⟩:=eE (by rw[h]; simp[bl])
theorem yd (a b:bi):jG b a= -jG a b:=uJ _ _
theorem oJ {a b:bi} :jG a b=0<->a.path=b.path:=by
 unfold jG; rw[qS]; exact⟨eE,fun h=>by rw[h]⟩
theorem nT {a b c:bi} (h1:jG a b<0) (h2:jG b c<0):jG a c<0:=by
 obtain⟨h3,h4⟩:=oK (bl a.path) (bl b.path) (bl c.path) (by unfold jG at h1; omega) (by unfold jG at h2; omega)
 rcases Int.lt_or_eq_of_le h3 with h | h
 ·exact h
 ·have:=(h4 h).1; unfold jG at h1; omega
def eq (L:List bi):Prop:=L.Pairwise fun a b=>jG a b<0
theorem eq.nodup {L:List bi} (h:eq L):(L.map bi.path).Nodup:=by
 unfold List.Nodup;rw[List.pairwise_map];exact List.Pairwise.imp (fun h e=>by have:=oJ.2 e; omega) h
theorem eq.filter {L:List bi} (h:eq L) (p:bi->Bool):eq (L.filter p):=List.Pairwise.filter p h
theorem jJ {L:List bi} {p:ByteArray} {e:bi} (h:fV L p=some e):e∈L/\e.path=p:=by
 unfold fV at h;exact⟨List.mem_of_find?_eq_some h,by have:=List.find?_some h; simpa using this⟩
theorem mU {L:List bi} {p:ByteArray} (h:fV L p=none): ∀e∈L,e.path≠p:=by
 unfold fV at h;rw[List.find?_eq_none]at h;intro e he hp;exact h e he (by simp[hp])
theorem vO {L:List bi} (hn:(L.map bi.path).Nodup) {e:bi} (he:e∈L):fV L e.path=some e:=by
 cases h:fV L e.path with
 | none=>exact absurd rfl (mU h e he)
 | some f=>
  obtain⟨h1,h2⟩:=jJ h;have:f=e:=by
   unfold List.Nodup at hn;rw[List.pairwise_map,List.pairwise_iff_getElem]at hn;obtain⟨i,hi,rfl⟩:=List.getElem_of_mem h1;obtain⟨j,hj,rfl⟩:=List.getElem_of_mem he
   by_cases hij:i=j
   ·subst hij; rfl
   ·exfalso
    rcases Nat.lt_or_gt_of_ne hij with hlt | hlt
    ·exact hn i j hi hj hlt h2
    ·exact hn j i hj hi hlt h2.symm
  rw[this]
structure TOk (L : List bi) : Prop where
 ord:eq L
 val: ∀e∈L,gq e=true
 up: ∀e∈L,kf L (aL (bl e.path))=0
 len:L.length<=4096
theorem TOk.nil :TOk []:=⟨List.Pairwise.nil,by simp,by simp,by simp⟩
theorem TOk.nodup {L:List bi} (h:TOk L):(L.map bi.path).Nodup:=h.ord.nodup
theorem bD {e:bi} (h:gq e=true):aZ (bl e.path)=true:=by
 unfold gq at h; simp only[Bool.and_eq_true]at h; exact h.1.1
theorem zy {l:List UInt8} (h:aZ l=true):l≠[]:=by
 intro e; subst e; exact absurd h (by decide)
theorem uk {l:List UInt8} (h:aZ l=true):l.length<=512:=by
 simp only[aZ,Bool.and_eq_true,decide_eq_true_eq]at h; exact h.1.1
theorem oO {L:List bi} {p:List UInt8} (h:kf L p=0) (hp:p≠[]): ∃f∈L,bl f.path=p/\f.kind=2:=by
 unfold kf at h;rw[if_neg hp]at h
 cases hf:fV L ⟨p.toArray⟩with
 | none=>rw[hf]at h; simp at h
 | some f=>
  rw[hf]at h;simp only at h;obtain⟨h1,h2⟩:=jJ hf
  split at h
  ·exact⟨f,h1,by rw[h2]; simp[bl],by assumption⟩
  ·simp at h
theorem lZ {L:List bi} (hn:(L.map bi.path).Nodup) {p:List UInt8} (h:p=[]\/ ∃f∈L,bl f.path=p/\f.kind=2):kf L p=0:=by
 unfold kf
 by_cases hp:p=[]
 ·rw[if_pos hp]
 ·rw[if_neg hp]
  rcases h with h | ⟨f,h1,h2,h3⟩
  ·exact absurd h hp
  ·have:f.path=⟨p.toArray⟩:=AB h2;rw[<-this,vO hn h1];simp only[if_pos h3]
theorem fI {l:List UInt8} (h:aZ l=true):(aL l).length<l.length:=by
 by_cases hm:(47:UInt8)∈l
 ·obtain⟨p,t,hq,ht⟩:=jN l hm;have:aL l=p:=by rw[hq]; exact gd p t ht
  rw[this,hq]; simp
 ·rw[ig l hm];have:=zy h
  cases l with
  | nil=>exact absurd rfl this
  | cons=>simp
end Go.Proofs.YtpffpjbkbaleiaaGreatDoor
namespace Go.Proofs.YtpffpjbkbaleiaaGreatDoor
open Go.RowKit
def AZ (M:List bi) (x:bi):Prop:=aL (bl x.path)=[]\/ ∃f∈M,bl f.path=aL (bl x.path)/\f.kind=2
theorem uh {L:List bi} {x:bi} (h:kf L (aL (bl x.path))=0):AZ L x:=by
 by_cases hp:aL (bl x.path)=[]
 ·exact .inl hp
 ·obtain⟨f,h1,h2,h3⟩:=oO h hp;exact .inr ⟨f,h1,h2,h3⟩
theorem TOk.has {L:List bi} (h:TOk L) {e:bi} (he:e∈L):AZ L e:=uh (h.up e he)
theorem lB {l:List UInt8} (h:aL l≠[]): ∃t,l=aL l++47::t:=by
 by_cases hm:(47:UInt8)∈l
 ·obtain⟨p,q,rfl,hq⟩:=jN l hm;exact⟨q,by rw[gd p q hq]⟩
 ·exact absurd (ig l hm) h
theorem oN {L M:List bi} (hm:(M.map bi.path).Nodup) (hs: ∀x∈L,x∈M) {p:List UInt8} (h:kf L p=0):kf M p=0:=by
 by_cases hp:p=[]
 ·exact lZ hm (.inl hp)
 ·obtain⟨f,h1,h2,h3⟩:=oO h hp;exact lZ hm (.inr ⟨f,hs f h1,h2,h3⟩)
structure Tr (L : List bi) : Prop where
 ord:eq L
 val: ∀e∈L,gq e=true
 up: ∀e∈L,kf L (aL (bl e.path))=0
theorem og {e f:bi} (hv:gq e=true) (hp:aL (bl e.path)≠[]) (hf:bl f.path=aL (bl e.path)):jG f e<0:=by
 obtain⟨t,ht⟩:=lB hp;have h1:jG f e<=0:=by
  unfold jG;rw[hf,ht];have:=uI (aL (bl e.path)) (47::t);have h2:aL (aL (bl e.path)++47::t)=aL (bl e.path):=by rw[<-ht]
  rw[h2]; exact this
 rcases Int.lt_or_eq_of_le h1 with h | h
 ·exact h
 ·have h2:=oJ.1 h;have h3:=fI (bD hv);rw[<-hf,h2]at h3;omega
theorem Tr.pre {L M:List bi} (h:Tr (L++M)):Tr L:=by
 obtain⟨s1,s2,s3⟩:=List.pairwise_append.1 h.ord;refine⟨s1,fun e he=>h.val e (by simp[he]),fun e he=> ?_⟩;have hu:=uh (h.up e (by simp[he]));refine lZ (eq.nodup s1) ?_
 rcases hu with hu | ⟨f,h1,h2,h3⟩
 ·exact .inl hu
 ·by_cases hp:aL (bl e.path)=[]
  ·exact .inl hp
  ·right
   have hb:=og (h.val e (by simp[he])) hp h2
   rcases List.mem_append.1 h1 with h1 | h1
   ·exact⟨f,h1,h2,h3⟩
   ·have h4:=s3 e he f h1;have h5:=yd e f;omega
theorem mw {pre:List bi} (hs:eq pre) {e:bi} :iC pre e=true<->eq (pre++[e]):=by
 unfold iC
 cases hl:pre.getLast? with
 | none=>
  rw[List.getLast?_eq_none_iff]at hl;subst hl;simp[eq]
 | some f=>
  obtain⟨ys,hy⟩:=List.getLast?_eq_some_iff.1 hl;simp only[decide_eq_true_eq]
  constructor
  ·intro h;refine List.pairwise_append.2 ⟨hs,by simp,fun a ha b hb=> ?_⟩;simp only[List.mem_singleton]at hb;subst hb;rw[hy]at ha hs
   rcases List.mem_append.1 ha with ha | ha
   ·exact nT ((List.pairwise_append.1 hs).2.2 a ha f (by simp)) h
   ·simp only[List.mem_singleton]at ha; subst ha; exact h
  ·intro h;exact(List.pairwise_append.1 h).2.2 f (by rw[hy]; simp) e (by simp)
theorem iE {pre:List bi} (h:Tr pre) (e:bi):cd pre e=0<->Tr (pre++[e]):=by
 unfold cd
 constructor
 ·intro hc
  split at hc
  ·rename_i hva;rw[Bool.and_eq_true]at hva;have hs:=(mw h.ord).1 hva.2;have hm: ∀x∈pre,x∈pre++[e]:=fun x hx=>by simp[hx]
   refine⟨hs,fun x hx=> ?_,fun x hx=> ?_⟩
   ·rcases List.mem_append.1 hx with hx | hx
    ·exact h.val x hx
    ·simp only[List.mem_singleton]at hx; subst hx; exact hva.1
   ·rcases List.mem_append.1 hx with hx | hx
    ·exact oN hs.nodup hm (h.up x hx)
    ·simp only[List.mem_singleton]at hx; subst hx; exact oN hs.nodup hm hc
  ·simp at hc
 ·intro ht;have hv:=ht.val e (by simp);rw[if_pos (by rw[hv,(mw h.ord).2 ht.ord]; rfl)];refine lZ h.ord.nodup ?_
  rcases uh (ht.up e (by simp))with hu | ⟨f,h1,h2,h3⟩
  ·exact .inl hu
  ·rcases List.mem_append.1 h1 with h1 | h1
   ·exact .inr ⟨f,h1,h2,h3⟩
   ·simp only[List.mem_singleton]at h1;subst h1;have:=fI (bD hv);rw[<-h2]at this; omega
theorem mC : ∀ {r pre:List bi},Tr pre->(gm pre r=0<->Tr (pre++r))
 | [],pre,h=>by simp only[gm,List.append_nil]; exact⟨fun _=>h,fun _=>trivial⟩
 | e::r,pre,h=>by
  have h1:=iE h e;rw[gm]
  split
  ·rename_i hc;have:=mC (r:=r) (h1.1 hc);rw[this]; simp
  ·rename_i hc
   constructor
   ·intro h2; exact absurd h2 hc
   ·intro h2;have h3:Tr (pre++[e]):=Tr.pre (M:=r) (by simpa using h2);exact absurd (h1.2 h3) hc
theorem mD {L:List bi} :cu L=0<->TOk L:=by
 unfold cu
 split
 ·rename_i h;exact⟨fun h2=>by simp at h2,fun h2=>by have:=h2.len; omega⟩
 ·rename_i h;rw[mC (r:=L) (pre:=[]) ⟨List.Pairwise.nil,by simp,by simp⟩,List.nil_append];exact⟨fun t=>⟨t.ord,t.val,t.up,by omega⟩,fun t=>⟨t.ord,t.val,t.up⟩⟩
end Go.Proofs.YtpffpjbkbaleiaaGreatDoor
namespace Go.Proofs.YtpffpjbkbaleiaaGreatDoor
open Go.RowKit
def u8V (b:UInt8):Value:= .int .u8 (b.toNat:Int)
def bt (S:Nat->Prop) (w:World) (v:Value) (bs:List UInt8):Prop:=aJ S w 1 v bs.length (bs.map u8V)
theorem bt.below {S:Nat->Prop} {w w':World} {v:Value} {bs:List UInt8} (h:bt S w v bs) (hb:Below w.heap.size w w'):bt S w' v bs:=aJ.below h (by omega) hb
theorem bt.nil (S:Nat->Prop) (w:World):bt S w (.slice none 0 0) []:=aJ.nil _ _ _
def Bq (v:Value) (e:bi):Value:= .agg #[.string e.path, .int .i64 e.kind, .int .i64 e.mode, .int .i64 e.time,v, .string e.link]
def mR (v:Value) (e:bi):List Value:=[.string e.path, .int .i64 e.kind, .int .i64 e.mode, .int .i64 e.time,v, .string e.link]
structure fR (e : bi) : Prop where
 pth:e.path.size<=maxLen
 lnk:e.link.size<=maxLen
 knd:(Lit.int .i64 e.kind).wf=true
 mde:(Lit.int .i64 e.mode).wf=true
 tim:(Lit.int .i64 e.time).wf=true
def nR (S:Nat->Prop) (w:World) (c:List Value) (e:bi):Prop:= ∃v,c=mR v e/\bt S w v e.data/\fR e
theorem nR.len {S:Nat->Prop} {w:World} (c:List Value) (e:bi) (h:nR S w c e):c.length=6:=by obtain⟨v,rfl,_⟩:=h; rfl
theorem nR.below {S:Nat->Prop} {w w':World} {c:List Value} {e:bi} (h:nR S w c e) (hb:Below w.heap.size w w'):nR S w' c e:=by
 obtain⟨v,h1,h2,h3⟩:=h;exact⟨v,h1,h2.below hb,h3⟩
def cW (S:Nat->Prop) (w:World) (v:Value) (l:List bi):Prop:=aO S w 6 (nR S w) v l
theorem cW.below {S:Nat->Prop} {w w':World} {v:Value} {l:List bi} (h:cW S w v l) (hb:Below w.heap.size w w'):cW S w' v l:=
 aO.below h (by omega) hb (fun _ _ _ hr=>hr.below hb)
theorem cW.nil (S:Nat->Prop) (w:World):cW S w (.slice none 0 0) []:=aO.nil
theorem jh {S:Nat->Prop} {w:World} {a:Option Addr} {n cap:Nat} {l:List bi} (hv:cW S w (.slice a n cap) l) {k:Nat} {e:bi} (hr:l[k]? =some e):
  ∃b o v,a=some ⟨b,o,none⟩/\S b/\b<w.heap.size/\bt S w v e.data/\fR e/\n=l.length/\w.cell? ⟨b,o+k*6,none⟩=some (.string e.path)/\w.cell? ⟨b,o+k*6+1,none⟩=some (.int .i64 e.kind)/\w.cell? ⟨b,o+k*6+2,none⟩=some (.int .i64 e.mode)/\w.cell? ⟨b,o+k*6+3,none⟩=some (.int .i64 e.time)/\w.cell? ⟨b,o+k*6+4,none⟩=some v/\w.cell? ⟨b,o+k*6+5,none⟩=some (.string e.link):=by
 obtain⟨a',cap',he,hn,hm,hat⟩:=aO.shape hv nR.len;simp only[Value.slice.injEq]at he;obtain⟨rfl,rfl,rfl⟩:=he;obtain⟨b,o,c,ha,hb,⟨v,hc,hd,hok⟩,hl,hj⟩:=hat k e hr;subst hc;have hc0:=hj 0 (by omega);exact⟨b,o,v,ha,hb,aK (hc0.trans rfl),hd,hok,rfl,hc0,by have h:=hj 1 (by omega); rwa [<-Nat.add_assoc]at h,by have h:=hj 2 (by omega); rwa [<-Nat.add_assoc]at h,by have h:=hj 3 (by omega); rwa [<-Nat.add_assoc]at h,by have h:=hj 4 (by omega); rwa [<-Nat.add_assoc]at h,by have h:=hj 5 (by omega); rwa [<-Nat.add_assoc]at h⟩
end Go.Proofs.YtpffpjbkbaleiaaGreatDoor
namespace Go.Proofs.YtpffpjbkbaleiaaGreatDoor
open Go Go.RowKit Go.Maps
abbrev gP :=Value×bi
theorem bE :Keyed Tryz.prog 9:=string_keyed Tryz.underlying9
theorem bX {n:ByteArray} (h:n.size<=maxLen): ∃l,keyOf Tryz.prog 9 (.string n)=some l:=⟨.string n.data.toList,by simp[keyOf,mapKey,Tryz.underlying9,h]⟩
section
variable {S S' : Nat → Prop} {w w' : World} {mb : Nat} {xs : List gP}
end
def Cg :Value:= .agg #[.string ByteArray.empty, .int .i64 0, .int .i64 0, .int .i64 0, .slice none 0 0, .string ByteArray.empty]
section
variable {S S' : Nat → Prop} {w w' : World} {tb mb : Nat} {L : List bi}
end
end Go.Proofs.YtpffpjbkbaleiaaGreatDoor
namespace Go.Proofs.YtpffpjbkbaleiaaGreatDoor
open Go.RowKit
theorem aa {w:World} {b k:Nat} {cs:Array Value} {t:TypeId} {x:Nat×Nat} (h:w.heap[b]? =some (.cells cs t x)):w.cell? ⟨b,k,none⟩=cs[k]? :=by simp[World.cell?,h]
theorem ry (s:ByteArray) (w:World):Calls Tryz.prog 136 #[.string s, .int .u8 0] w fun e w'=>e= .returned (.int .i64 (Lib.indexByte (bl s) 0))/\w=w':=
 (Tryz.strings_IndexByte s 0 w).mono fun _ _ ⟨he,hw⟩=>⟨he,hw.symm⟩
theorem ow (s:ByteArray) (w:World) (hs:s.size<=maxLen):Calls Tryz.prog 149 #[.string s] w fun e w'=>e= .returned (.bool (kY (bl s)))/\w=w':=by
 unfold maxLen at hs;have HX:=ab (show kY (bl s)=(decide (1<=s.size) && decide (s.size<=512) && !(bl s).contains 0) by unfold kY; rw[ar]);have HI:=ab (ef (bl s) 0)
 go_enter Tryz.func149,Tryz.ntmps149
 go_wp2_with (go_at_call 136; refine(ry s _).mono ?_; rintro e w3 ⟨rfl,rfl⟩)
 ·go_ret;refine⟨ak ?_,rfl⟩;have z1:decide (1<=s.size)=true:=by simp; omega
  have z2:decide (s.size<=512)=true:=by simp; omega
  rw[HX.out,z1,z2,<-HI.out];rw[Bool.eq_iff_iff];simp
 ·go_ret;refine⟨ak ?_,rfl⟩;have z2:decide (s.size<=512)=false:=by simp; omega
  rw[HX.out,z2];simp
 ·go_ret;refine⟨ak ?_,rfl⟩;have z1:decide (1<=s.size)=false:=decide_eq_false (by omega);rw[HX.out,z1];simp
theorem jV (s:ByteArray) (b:Bool) (w:World) (he:fN w) (h:aZ (bl s)=b):Calls Tryz.prog 119 #[.string s] w fun e w'=>e= .returned (.bool b)/\Below w.heap.size w w':=by
 rw[<-h]; exact kZ s w he
theorem uj (S:Nat->Prop) (en:bi) (v:Value) (w:World) (hd:bt S w v en.data) (hok:fR en) (henv:fN w):Calls Tryz.prog 117 #[Bq v en] w fun e w'=>e= .returned (.bool (gq en))/\Below w.heap.size w w':=by
 obtain⟨_,a,cap,rfl,hc,hm,-⟩:=hd;unfold maxLen at hm;have HE:=ab henv;have HO:=ab hok;have hq1:=hok.pth;have hq2:=hok.lnk;unfold maxLen at hq1 hq2;have HL:=ab (show en.link.toList.isEmpty=decide (en.link.size=0) by rw[bZ,ar,Bool.eq_iff_iff]; simp);clear henv hok;unfold Bq
 cases hv:aZ (bl en.path)
 ·have HVP:=ab hv;clear hv
  go_enter Tryz.func117,Tryz.ntmps117
  go_wp2_with fail;obtain⟨W,hW⟩: ∃W,W=w.alloc (.cells #[.string en.path, .int .i64 en.kind, .int .i64 en.mode, .int .i64 en.time, .slice a en.data.length cap, .string en.link] 79):=⟨_,rfl⟩;rw[<-hW];have HBW:=ab (show Below w.heap.size w W by rw[hW]; exact(Below.refl _ _).alloc (Nat.le_refl _) _);have HBX:=ab (show W.heap[w.heap.size]? =some (.cells #[.string en.path, .int .i64 en.kind, .int .i64 en.mode, .int .i64 en.time, .slice a en.data.length cap, .string en.link] 79 (0,0)) by rw[hW]; exact heap_alloc_new w _)
  clear hW;refine(jV en.path false _ (HE.out.below HBW.out) HVP.out).mono ?_;rintro e w1 ⟨rfl,hb1⟩;have HB1:=ab (ag HBW.out hb1);clear hb1;go_wp2_with fail;go_ret;exact⟨ak (by simp[gq,HVP.out]),HB1.out⟩
 ·have HVP:=ab hv;clear hv
  by_cases hmt:0<=en.mode/\en.mode<=511/\0<=en.time
  ·have HH:=ab (show gq en=jc en by obtain⟨x1,x2,x3⟩:=hmt; unfold gq qv; rw[HVP.out]; simp[x1,x2,x3]);obtain⟨hm1,hm2,hm3⟩:=hmt
   go_enter Tryz.func117,Tryz.ntmps117
   go_wp2_with fail;obtain⟨W,hW⟩: ∃W,W=w.alloc (.cells #[.string en.path, .int .i64 en.kind, .int .i64 en.mode, .int .i64 en.time, .slice a en.data.length cap, .string en.link] 79):=⟨_,rfl⟩;rw[<-hW];have HBW:=ab (show Below w.heap.size w W by rw[hW]; exact(Below.refl _ _).alloc (Nat.le_refl _) _);have HBX:=ab (show W.heap[w.heap.size]? =some (.cells #[.string en.path, .int .i64 en.kind, .int .i64 en.mode, .int .i64 en.time, .slice a en.data.length cap, .string en.link] 79 (0,0)) by rw[hW]; exact heap_alloc_new w _)
   clear hW;refine(jV en.path true _ (HE.out.below HBW.out) HVP.out).mono ?_;rintro e w1 ⟨rfl,hb1⟩;have HBXr:=ab ((hb1.block w.heap.size ((Array.getElem?_eq_some_iff.1 HBX.out).1)).trans HBX.out);have HB1:=ab (ag HBW.out hb1);have hlt1:w.heap.size<w1.heap.size:=(Array.getElem?_eq_some_iff.1 HBXr.out).1;have c0:=aa (k:=0) HBXr.out;have c1:=aa (k:=1) HBXr.out
   have c2:=aa (k:=2) HBXr.out;have c3:=aa (k:=3) HBXr.out;have c4:=aa (k:=4) HBXr.out;have c5:=aa (k:=5) HBXr.out;simp only[aW]at c0 c1 c2 c3 c4 c5;clear hb1 HBX
   by_cases hk1:en.kind=1
   ·have e1:(en.kind == 1)=true:=by simp[hk1]
    have HK:=ab (show jc en=(decide (en.data.length<=1048576) && decide (en.link.size=0)) by unfold jc; rw[if_pos hk1]);clear hk1;go_wp2_with fail
    ·go_ret;refine⟨ak ?_,HB1.out⟩;rw[HH.out,HK.out,HL.out,decide_eq_true (p:=en.data.length<=1048576) (by omega)]
     rfl
    ·go_ret;refine⟨ak ?_,HB1.out⟩;rw[HH.out,HK.out,decide_eq_false (p:=en.data.length<=1048576) (by omega)]
     rfl
   ·have e1:(en.kind == 1)=false:=by simp[hk1]
    by_cases hk2:en.kind=2
    ·have e2:(en.kind == 2)=true:=by simp[hk2]
     have HK:=ab (show jc en=(decide (en.data.length=0) && decide (en.link.size=0)) by unfold jc; rw[if_neg hk1,if_pos hk2]);clear hk1 hk2;go_wp2_with fail
     ·go_ret;refine⟨ak ?_,HB1.out⟩;rw[HH.out,HK.out,HL.out,decide_eq_true (p:=en.data.length=0) (by rw[show en.data=[] by assumption]; rfl)]
      rfl
     ·go_ret;refine⟨ak ?_,HB1.out⟩;rw[HH.out,HK.out,decide_eq_false (p:=en.data.length=0) (fun h=>absurd (List.eq_nil_of_length_eq_zero h) (by assumption))]
      rfl
    ·have e2:(en.kind == 2)=false:=by simp[hk2]
     by_cases hk3:en.kind=3
     ·have e3:(en.kind == 3)=true:=by simp[hk3]
      have HK:=ab (show jc en=(decide (en.data.length=0) && kY (bl en.link)) by unfold jc; rw[if_neg hk1,if_neg hk2,if_pos hk3]);clear hk1 hk2 hk3;go_wp2_with (go_at_call 149; refine(ow en.link _ HO.out.lnk).mono ?_; rintro e w3 ⟨rfl,rfl⟩)
      ·go_ret;refine⟨ak ?_,HB1.out⟩;rw[HH.out,HK.out,decide_eq_true (p:=en.data.length=0) (by rw[show en.data=[] by assumption]; rfl)]
       rfl
      ·go_ret;refine⟨ak ?_,HB1.out⟩;rw[HH.out,HK.out,decide_eq_false (p:=en.data.length=0) (fun h=>absurd (List.eq_nil_of_length_eq_zero h) (by assumption))]
       rfl
     ·have e3:(en.kind == 3)=false:=by simp[hk3]
      have HK:=ab (show jc en=false by unfold jc; rw[if_neg hk1,if_neg hk2,if_neg hk3]);clear hk1 hk2 hk3;go_wp2_with fail;go_ret;exact⟨ak (by rw[HH.out,HK.out]),HB1.out⟩
  ·have HF:=ab (show gq en=false by
    have:qv en=false:=by
     unfold qv; rw[Bool.eq_false_iff]; simp; omega
    unfold gq; rw[this]; simp)
   go_enter Tryz.func117,Tryz.ntmps117
   go_wp2_with fail;obtain⟨W,hW⟩: ∃W,W=w.alloc (.cells #[.string en.path, .int .i64 en.kind, .int .i64 en.mode, .int .i64 en.time, .slice a en.data.length cap, .string en.link] 79):=⟨_,rfl⟩;rw[<-hW];have HBW:=ab (show Below w.heap.size w W by rw[hW]; exact(Below.refl _ _).alloc (Nat.le_refl _) _);have HBX:=ab (show W.heap[w.heap.size]? =some (.cells #[.string en.path, .int .i64 en.kind, .int .i64 en.mode, .int .i64 en.time, .slice a en.data.length cap, .string en.link] 79 (0,0)) by rw[hW]; exact heap_alloc_new w _)
   clear hW;refine(jV en.path true _ (HE.out.below HBW.out) HVP.out).mono ?_;rintro e w1 ⟨rfl,hb1⟩;have HBXr:=ab ((hb1.block w.heap.size ((Array.getElem?_eq_some_iff.1 HBX.out).1)).trans HBX.out);have HB1:=ab (ag HBW.out hb1);have hlt1:w.heap.size<w1.heap.size:=(Array.getElem?_eq_some_iff.1 HBXr.out).1;have c0:=aa (k:=0) HBXr.out;have c1:=aa (k:=1) HBXr.out
   have c2:=aa (k:=2) HBXr.out;have c3:=aa (k:=3) HBXr.out;have c4:=aa (k:=4) HBXr.out;have c5:=aa (k:=5) HBXr.out;simp only[aW]at c0 c1 c2 c3 c4 c5;clear hb1 HBX;go_wp2_with fail
   all_goals first
    | (exfalso; omega)
    | (go_ret; exact⟨ak (by rw[HF.out]),HB1.out⟩)
end Go.Proofs.YtpffpjbkbaleiaaGreatDoor
namespace Go.Proofs.YtpffpjbkbaleiaaGreatDoor
open Go.RowKit
theorem vI (S:Nat->Prop) (v:Value) (bs:List UInt8) (w:World) (hd:bt S w v bs) (hl:bs.length<=140737488355328):Calls Tryz.prog 175 #[v] w fun e w'=> ∃v',e= .returned v'/\w'.ownsRow w.heap.size 5 1 v' bs.length (bs.map u8V)/\Below w.heap.size w w':=by
 obtain⟨_,a,cap,rfl,hn,hm,h0⟩:=hd
 cases a with
 | none=>
  have hz:bs.length=0:=by
   rcases h0 with h0 | ⟨b,o,ha,_⟩
   ·exact h0
   ·cases ha
  obtain rfl:=List.eq_nil_of_length_eq_zero hz;refine(Any.bytes_Clone_nil Tryz.laysClone _ _ w).mono ?_;rintro e w' ⟨rfl,rfl⟩;exact⟨_,rfl,World.ownsRow_nil _ _ _ _,Below.refl _ _⟩
 | some a=>
  refine(Any.bytes_Clone_at Tryz.laysClone a bs.length cap (bs.map fun b=>(b.toNat:Int)) w (by simp) hl ?_).mono ?_
  ·intro i hi
   rcases h0 with h0 | ⟨b,o,ha,_,hc⟩
   ·omega
   ·cases ha
    rw[lX];refine hc i _ ?_;simp[hi,u8V]
  ·rintro e w' ⟨v',rfl,h1,_,h2⟩;refine⟨v',rfl, ?_,h2⟩;rw[List.map_map]at h1;exact h1
theorem bS {w:World} {base base' size n:Nat} {e:TypeId} {v:Value} {xs:List Value} (h:w.ownsRow base e size v n xs) (hb:base'<=base):w.ownsRow base' e size v n xs:=
 ⟨h.1,h.2.imp id (fun⟨g,cap,cur,e1,h1,h2⟩=>⟨g,cap,cur,e1,Nat.le_trans hb h1,h2⟩)⟩
theorem iI {w:World} {b k:Nat} {cs:Array Value} {t:TypeId} (h:w.heap[b]? =some (.cells cs t (0,0))):w.frozen? ⟨b,k,none⟩=false:=by simp[World.frozen?,h]
theorem zd {w:World} {b k:Nat} {cs:Array Value} {t:TypeId} (h:w.heap[b]? =some (.cells cs t (0,0))) (x:Value):(w.setCell ⟨b,k,none⟩ x).heap[b]? =some (.cells (cs.setIfInBounds k x) t (0,0)):=by
 simp only[World.setCell,Array.getElem?_modify,if_true,h,Option.map_some]; rfl
theorem nC {w:World} {b c k:Nat} {o:Obj} (h:w.heap[b]? =some o) (hne:b≠c) (x:Value):(w.setCell ⟨c,k,none⟩ x).heap[b]? =some o:=by
 rw[Below.heap_setCell _ _ _ _ hne]; exact h
theorem fi {w:World} {b:Nat} {o:Obj} (h:w.heap[b]? =some o) (x:Obj):(w.alloc x).heap[b]? =some o:=by
 have hlt:=(Array.getElem?_eq_some_iff.1 h).1;rw[Below.heap_alloc _ _ _ hlt]; exact h
theorem bI (w:World) (x:Obj):(w.alloc x).heap[w.heap.size]? =some x:=by show(w.heap.push x)[w.heap.size]? =some x; simp
theorem iS (w:World) (x y:Obj):((w.alloc x).alloc y).heap[w.heap.size+1]? =some y:=by
 have:=bI (w.alloc x) y
 rwa [show(w.alloc x).heap.size=w.heap.size+1 by show(w.heap.push x).size=_; simp]at this
theorem lK {w:World} {b:Nat} {o:Obj} (h:w.heap[b]? =some o):b<w.heap.size:=(Array.getElem?_eq_some_iff.1 h).1
end Go.Proofs.YtpffpjbkbaleiaaGreatDoor
namespace Go.Proofs.YtpffpjbkbaleiaaGreatDoor
open Go Go.RowKit
theorem xm {S:Nat->Prop} {w:World} {a:Option Addr} {n cap:Nat} {bs:List UInt8} (h:aC S w (.slice a n cap) bs) {s e:Nat} (hs:s<e) (he:e<=bs.length):
  ∃a' cap',(∀w',(Instr.slice 29 (.slice a n cap) (some (.int .i64 (s:Int))) (some (.int .i64 (e:Int))) none).run Tryz.prog w'= .ok (.slice a' (fc bs s e).length cap') w')/\aC S w (.slice a' (fc bs s e).length cap') (fc bs s e):=by
 obtain⟨hl,a0,cap0,hv,hn,hm,h0⟩:=h;simp only[Value.slice.injEq]at hv;obtain⟨rfl,rfl,rfl⟩:=hv;have hz: ∀w',(sizeOf (Tryz.prog.elem 29)).run Tryz.prog w'= .ok 1 w':=fun _=>by kernel_rfl
 have hpl:(fc bs s e).length=e-s:=by unfold fc; rw[List.length_take,List.length_drop]; omega
 refine⟨if cap-s=0 then a else a.map (fun p=>p.add s),cap-s,fun w'=> ?_, ?_⟩
 ·rw[run_slice_lh _ _ _ _ _ Tryz.underlying29 .i64 .i64 (s:Int) (e:Int) (by omega) (by omega) (by omega),hz,hpl];simp only[Result.andThen,sliced,Int.toNat_natCast,Nat.mul_one];rw[if_neg (by omega: ¬cap-s=0)]
  try rw[if_neg (by omega)]
 ·refine⟨by simp,_,_,rfl,by omega,by omega, ?_⟩
  rcases h0 with h0 | ⟨b,o,rfl,hS,hc⟩
  ·omega
  ·refine .inr ⟨b,o+s, ?_,hS,fun j x hj=> ?_⟩
   ·rw[if_neg (by omega),Option.map_some,Addr.add_mid]
   ·rw[Nat.add_assoc];refine hc (s+j) x ?_;unfold fc at hj;rw[List.map_take,List.map_drop,List.getElem?_take]at hj
    split at hj
    ·rw[List.getElem?_drop]at hj; exact hj
    ·cases hj
def BO (k n:Nat):Prop:=k=1-> ¬1048576<n
def jF (c:de) (n:Nat):Int:=if gp c=true then(if 1048576<n then 2 else 0)else 1
theorem fT (c:de) (b:Bool) (w:World) (h:gp c=b):Calls Tryz.prog 70 #[eQ c] w fun e w'=>e= .returned (.bool b)/\Below w.heap.size w w':=by rw[<-h]; exact qd c w
theorem mE (c:de) (a:Option Addr) (n cap sb:Nat) (w:World) (hx:w.cell? ⟨sb,0,none⟩=some (.slice a n cap)) (hm:n<=maxLen):
  Calls Tryz.prog 173 #[eQ c, .slice (some ⟨sb,0,none⟩) 1 1] w fun e w'=>e= .returned (.int .i64 (jF c n))/\Below w.heap.size w w':=by
 unfold maxLen at hm;have HX:=ab hx;clear hx;unfold eQ
 by_cases hv:gp c=true
 ·have HV:=ab hv;have HE:=ab (show jF c n=if 1048576<n then 2 else 0 by unfold jF; rw[if_pos hv]);clear hv
  go_enter Tryz.func173,Tryz.ntmps173
  go_wp2_with (go_at_call 70; refine(fT c true _ HV.out).mono ?_; rintro e w1 ⟨rfl,hb1⟩; have HB1:=ab (((Below.refl _ _).alloc (Nat.le_refl w.heap.size) _).trans (hb1.mono (by simp))); clear hb1)
  go_loopw [12] (fun i wr=> ∃k:Nat,k<=1/\i= .int .i64 (k:Int)/\Below w.heap.size w wr/\BO k n) (fun i _=>1-(intOf i).toNat)
  case atStart=>exact⟨0,by omega,rfl,HB1.out,fun h=>by cases h⟩
  case round=>
   obtain⟨k,hk,rfl,hb,hdone⟩:=hrel;have HB:=ab hb;have HDN:=ab hdone;clear hb hdone
   by_cases h0:k=0
   ·subst h0;have hc:=(HB.out.cell (aK HX.out)).trans HX.out
    by_cases hn:1048576<n
    ·have hni:(1048576:Int)<(n:Int):=by omega
     go_wp2_with fail;go_ret;exact⟨bQ (by rw[HE.out,if_pos hn]),HB.out⟩
    ·have hni:(n:Int)<=1048576:=by omega
     go_wp2_with fail
     go_roundw
     case rel=>exact⟨1,by omega,by go_num,HB.out,fun _=>hn⟩
     case measure=>simp[intOf]
   ·have h1:k=1:=by omega
    subst h1;go_wp2_with fail;go_ret;exact⟨bQ (by rw[HE.out,if_neg (HDN.out rfl)]),HB.out⟩
 ·have HV:=ab (show gp c=false by simpa using hv);have HE:=ab (show jF c n=1 by unfold jF; rw[if_neg hv]);clear hv
  go_enter Tryz.func173,Tryz.ntmps173
  go_wp2_with (go_at_call 70; refine(fT c false _ HV.out).mono ?_; rintro e w1 ⟨rfl,hb1⟩; have HB1:=ab (((Below.refl _ _).alloc (Nat.le_refl w.heap.size) _).trans (hb1.mono (by simp))); clear hb1);go_ret;exact⟨bQ HE.out.symm,HB1.out⟩
theorem yl (c:de) (dv:Value) (w:World) (hd: ∃a n cap,dv= .slice a n cap):Calls Tryz.prog 174 #[eQ c,dv] w fun e w'=>e= .returned (.func (.func 186) #[] #[.pointer (some ⟨w.heap.size,0,none⟩), .pointer (some ⟨w.heap.size+1,0,none⟩)])/\
  dL c dv w.heap.size (w.heap.size+1) w'/\Below w.heap.size w w'/\w'.heap.size=w.heap.size+2:=by
 obtain⟨a,n,cap,rfl⟩:=hd;unfold eQ
 go_enter Tryz.func174,Tryz.ntmps174
 go_wp2_with fail;go_ret;exact⟨rfl,⟨fi (bI w _) _,iS w _ _⟩,((Below.refl _ _).alloc (Nat.le_refl _) _).alloc (by simp) _,by simp⟩
end Go.Proofs.YtpffpjbkbaleiaaGreatDoor
namespace Go.Proofs.YtpffpjbkbaleiaaGreatDoor
open Go
section
variable {P : Program} {l n : Nat}
theorem qN {f:FuncId} {args:Array Value} {w:World} {R:Ending->World->Prop} (h:Calls P f args w R):CallsIn (Fence.wide.inRound l) n P f args w R:=CallsIn.inRound l (callsIn_wide.2 h)
theorem ui {o:Oper} {a:Act} {next:Act->World->Prop} {Q:Exit->Act->World->Prop} {r:Result Next} (h:o.upon P a next Q r):o.uponIn (Fence.wide.inRound l) n P a next Q r:=by
 cases r with
 | ok x w=>
  cases x with
  | value v=>exact h
  | skip=>exact h
  | defer d=>exact h
  | enter f args=>exact⟨fun e=>(by cases e),qN h⟩
  | row row args=>
   exact⟨fun e=>(by cases e),fun c cs _=>by
    obtain⟨v,w',h1,h2⟩:=(show Rows P row args w _ from h) c cs;exact⟨v,w',h1,stepsIn_wide.2 h2⟩⟩
  | _=>exact h.elim
 | halt x w=>
  cases x<;> first | exact h | exact h.elim
def gX (o:Oper):Bool:=match o.op with | .defer _=>false | _=>true
theorem yL {o:Oper} {a:Act} {w:World} {K:Act->World->Prop} {Q:Exit->Act->World->Prop} (hd:gX o=true) (h:o.wp P a w K Q):o.wpIn (Fence.wide.inRound l) n P a w K Q:=
 ⟨fun _ _=>trivial,by
  rw[Oper.semAt_eq _ _ _ (fun c e=>by simp[gX,e]at hd)];exact ui h⟩
theorem uo {L:List Oper} {Q:Exit->Act->World->Prop} (hd:L.all gX=true) (hno: ¬LetsOut Q) {i:Nat} {K:Act->World->Prop} {a:Act} {w:World} (h:wpOp P L.toArray Q i K a w):wpOpIn (Fence.wide.inRound l) n P L.toArray Q i K a w:=by
 unfold wpOp at h;unfold wpOpIn
 cases hx:L.toArray[i]? with
 | none=>rw[hx]at h; exact h
 | some x=>
  rw[hx]at h;simp only at h ⊢;have hdx:gX x=true:=List.all_eq_true.1 hd x (List.mem_of_getElem? (by simpa using hx))
  split at h
  ·rename_i hw;rw[if_pos hw]
   rcases h with h | h
   ·exact yL hdx h
   ·exact absurd h.2 hno
  ·rename_i hw;rw[if_neg hw];exact⟨fun _ _=>trivial,h⟩
theorem lH {L:List Oper} {md:Region.Mode} {Q:Exit->Act->World->Prop} (hd:L.all gX=true) (hno: ¬LetsOut Q): ∀(fuel:Nat) (listed:Array Bool) (a:Act) (w:World),wpAny P md L.toArray Q fuel listed a w->wpAnyIn (Fence.wide.inRound l) n P md L.toArray Q fuel listed a w
 | 0,_,_,_,h=>h
 | fuel+1,_,_,_,h=>⟨h.1,fun i hi=>wpOpIn_mono (fun a' w' h'=>lH hd hno fuel _ a' w' h') (uo hd hno (h.2 i hi))⟩
theorem tu {id:Nat} {a:Act} {w:World} {L:List Oper} {Q:Exit->Act->World->Prop} (S:World->Prop) (hm:P.follows .mixedOrders=true) (hnd:L.all gX=true) (hno: ¬LetsOut Q) (hB:rH .any L=true)
  (h:kH P L.dropLast.toArray (oz P L.toArray (L.length-1) Q) S (L.length-1) (Array.replicate L.length false) a w.drew):(Code.region id L.toArray true).wpIn (Fence.wide.inRound l) n P Q a w:=by
 simp only[rH,Bool.and_eq_true,decide_eq_true_eq]at hB;obtain⟨⟨hc,hpos⟩,hall⟩:=hB;have hall': ∀(i:Nat) (x:Oper),L[i]? =some x->(∀e∈x.after,e.on<i)/\ ∀j b,x.guard=some (j,b)->j<i:=fun i x hx=>by
  have:=List.all_eq_true.1 hall i (List.mem_range.2 (List.getElem?_eq_some_iff.1 hx).1);rw[hx]at this;simp only[Bool.and_eq_true]at this;refine⟨fun e he=> ?_,fun j b hg=> ?_⟩
  ·have:=Array.all_eq_true'.1 this.1 e he
   simpa using this
  ·have:=this.2;rw[hg]at this
   simpa using this
 refine wpIn_region_any hm ?_;have:=uD hc hpos (fun i x hx=>(hall' i x hx).1) (fun i x j b hx=>(hall' i x hx).2 j b) (L.length-1) _ a w.drew rr (wpAny_of_held _ _ _ _ (by simpa using h.out));rw[show L.length-1+1=L.length by omega]at this;refine lH hnd hno _ _ _ _ ?_
 simpa using this
def yH (Q:Exit->Act->World->Prop):Exit->Act->World->Prop
 | .outgrown,_,_=>False
 | e,a,w=>Q e a w
@[go_sem] theorem ql (Q:Exit->Act->World->Prop) (a:Act) (w:World):yH Q .normal a w=Q .normal a w:=rfl
theorem wt (Q:Exit->Act->World->Prop): ¬LetsOut (yH Q):=fun⟨_,_,h⟩=>h
theorem tt {id:Nat} {a:Act} {w:World} {L:List Oper} {Q:Exit->Act->World->Prop} (S:World->Prop) (hm:P.follows .mixedOrders=true) (hnd:L.all gX=true) (hB:rH .any L=true)
  (h:kH P L.dropLast.toArray (oz P L.toArray (L.length-1) (yH Q)) S (L.length-1) (Array.replicate L.length false) a w.drew):(Code.region id L.toArray true).wpIn (Fence.wide.inRound l) n P Q a w:=
 wpIn_mono (tu S hm hnd (wt Q) hB h) (fun e _ _ h=>by cases e<;> first | exact h | exact h.elim)
end
end Go.Proofs.YtpffpjbkbaleiaaGreatDoor
