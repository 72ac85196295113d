/- Texts of this proof, one after the other: BldG, AwQ, R3D, R5, R11, LookB, Luk24, PreP, LastP, GdP, RbA, GdQ, ContP, NcP, RbB, AwR. -/
import Derived.Test.YtpffpjbkbaleiaaGreatDoorCBuildsF
set_option maxRecDepth 100000
set_option maxHeartbeats 8000000
namespace Go.Proofs.YtpffpjbkbaleiaaGreatDoor
open Go Go.RowKit Go.Maps
theorem Cf {a:Act} {w:World} {b:Nat} {x0 x1 x2 e9 e10:Value} (h:w.heap[b]? =some (.cells #[x0,x1,x2] 26 (0,0)))
  (h8:a.tmps[8]? =some (.pointer (some ⟨b,0,none⟩))) (h9:a.tmps[9]? =some e9) (h10:a.tmps[10]? =some e10):(results Tryz.f22 a.tmps).run Tryz.prog w= .ok (.tuple #[.agg #[x0,x1,x2],e9,e10]) w:=by
 obtain⟨m0,m1,m2,_⟩:=aj h;simp only[Nat.zero_add,Nat.reduceAdd]at m1 m2;simp[results,Tryz.results22,go_sem,h8,h9,h10,m0,m1,m2]
theorem eA {a:Act} {w:World} {b:Nat} {a0 a1 a2 x0 x1 x2 e9 e10:Value} {Q:Ending->World->Prop} (h:w.heap[b]? =some (.cells #[a0,a1,a2] 26 (0,0)))
  (h8:a.tmps[8]? =some (.pointer (some ⟨b,0,none⟩))) (h9:a.tmps[9]? =some e9) (h10:a.tmps[10]? =some e10) (hd:a.defers=[])
  (hQ:Q (.returned (.tuple #[.agg #[x0,x1,x2],e9,e10])) (((w.setCell ⟨b,0,none⟩ x0).setCell ⟨b,1,none⟩ x1).setCell ⟨b,2,none⟩ x2)):
  bodyPost Tryz.prog Tryz.f22 Q Exit.ret a (((w.setCell ⟨b,0,none⟩ x0).setCell ⟨b,1,none⟩ x1).setCell ⟨b,2,none⟩ x2):=bodyPost_ret (Cf (pA h) h8 h9 h10) hd hQ
def kO (res:Except Int (aV×List bu)) (w:World) (e:Ending) (w':World):Prop:=Below w.heap.size w w'/\match res with
 | .error x=>e= .returned (.tuple #[.agg #[.string ⟨#[]⟩, .int .i64 0, .int .i64 0], .slice none 0 0, .int .i64 x])/\x≠0
 | .ok p=> ∃v zs,e= .returned (.tuple #[bU p.1,v, .int .i64 0])/\zs.map Prod.snd=p.2/\dt w' w.heap.size v zs
theorem dt.other {w w':World} {base B b:Nat} {v:Value} {zs:List gS} {cs:Array Value} {t:TypeId} {z:Nat×Nat} (h:dt w base v zs) (hb:w.heap[b]? =some (.cells cs t z)) (h1:t≠53) (h2:t≠5) (hB:B<=base) (hs: ∀i,i≠b->w'.heap[i]? =w.heap[i]?):dt w' B v zs:=by
 refine⟨cK (bZ h.row (fun i hi hu=>hs i (fun e=> ?_))) hB,fun y hy=>cK (bZ (h.dat y hy) (fun i hi hu=>hs i (fun e=> ?_))) hB⟩
 ·subst e;obtain⟨cs2,hc2⟩:=au h.row hu;exact h1 (aC hb hc2)
 ·subst e;obtain⟨cs2,hc2⟩:=au (h.dat y hy) hu;exact h2 (aC hb hc2)
theorem Bc (S:Nat->Prop) (L:List bo) (v:Value) (x:Int) (w:World) (hv:bV S w v L) (henv:iV w) (hx:cB L=x):Calls Tryz.prog 71 #[v] w fun e w'=>e= .returned (.int .i64 x)/\Below w.heap.size w w':=by
 rw[<-hx]; exact Cj S L v w hv henv
theorem eV.nilKeep {w w':World} {base bb im kb:Nat} {k:bn} {c:cF} {gv:Value} (h:eV w base bb k c gv im kb (.slice none 0 0) []) (hs:w'.heap[bb]? =w.heap[bb]?) (hk:w'.heap[kb]? =w.heap[kb]?):eV w' base bb k c gv im kb (.slice none 0 0) []:=
 ⟨hs.trans h.box,⟨[],rfl,World.ownsRow_nil _ _ _ _,by simp⟩,h.known.same hk⟩
structure BgI (w4 : World) (base bb im kb : Nat) (k : bn) (c : cF) (gv : Value) (T : List bo) (wr : World) (G : List vL) : Prop where
 bd:eV wr base bb k c gv im kb (.slice none 0 0) []
 grp:kP wr base im G
 ents: ∀d,gu G d=cU T d
 below:Below base w4 wr
theorem og (S T:Nat->Prop) (k:bn) (c:cF) (tree:List bo) (gs:List (ByteArray×Int)) (tv gv:Value) (w:World) (hsd:c.seed<18446744073709551616) (ht:bV S w tv tree) (hg:dO T w gv gs) (hE:my w):
  Calls Tryz.prog 22 #[dW k,dB c,tv,gv] w (kO (cj k c tree gs) w):=by
 obtain⟨ta,tc,rfl,htn,htm,-⟩:=aU.shape ht jr.len;unfold maxLen at htm;obtain⟨n,hn⟩: ∃n,n=tree.length:=⟨_,rfl⟩;rw[<-hn]at ht htn ⊢;have HN:=aa hn;have HT:=aa ht;have HG:=aa hg;have HE:=aa hE;obtain⟨W0,hW0⟩: ∃W0,W0=((w.alloc (.cells #[.string k.nm, .string k.st, .string k.ck, .string k.ix, .string k.tk] 42)).alloc (.cells #[.int .i64 c.mn, .int .i64 c.mx, .int .i64 c.win, .int .i64 c.bits, .int .u64 (c.seed:Int)] 45)).alloc (.cells #[.string ⟨#[]⟩, .int .i64 0, .int .i64 0] 26):=⟨_,rfl⟩
 have hb0:Below w.heap.size w W0:=by rw[hW0]; exact((bH).alloc (by simp) _).alloc (by simp; omega) _
 have HB0:=aa hb0;have HKX:=aa (show W0.heap[w.heap.size]? =some (.cells #[.string k.nm, .string k.st, .string k.ck, .string k.ix, .string k.tk] 42 (0,0)) by rw[hW0]; exact fD (fD (bz w _) _) _);have HCX:=aa (show W0.heap[w.heap.size+1]? =some (.cells #[.int .i64 c.mn, .int .i64 c.mx, .int .i64 c.win, .int .i64 c.bits, .int .u64 (c.seed:Int)] 45 (0,0)) by rw[hW0]; exact fD (jw w _ _) _)
 have HRX:=aa (show W0.heap[w.heap.size+2]? =some (.cells #[.string ⟨#[]⟩, .int .i64 0, .int .i64 0] 26 (0,0)) by
  rw[hW0];have:=bz ((w.alloc (.cells #[.string k.nm, .string k.st, .string k.ck, .string k.ix, .string k.tk] 42)).alloc (.cells #[.int .i64 c.mn, .int .i64 c.mx, .int .i64 c.win, .int .i64 c.bits, .int .u64 (c.seed:Int)] 45)) (.cells #[.string ⟨#[]⟩, .int .i64 0, .int .i64 0] 26);rw[show((w.alloc (.cells #[.string k.nm, .string k.st, .string k.ck, .string k.ix, .string k.tk] 42)).alloc (.cells #[.int .i64 c.mn, .int .i64 c.mx, .int .i64 c.win, .int .i64 c.bits, .int .u64 (c.seed:Int)] 45)).heap.size=w.heap.size+2 by simp]at this
  exact this)
 have hsc:=sP k W0 (hE.below hb0).envh;unfold dW at hsc ⊢;unfold dB;have HSC:=aa hsc;clear ht hg hE hn hb0 hsc
 go_enter Tryz.func22,Tryz.ntmps22
 go_upto_region 1 with(fail)
 rw[<-hW0];clear hW0;obtain⟨a0,a1,a2,a3,a4,_⟩:=aj HKX.o;simp only[Nat.zero_add,Nat.reduceAdd]at a1 a2 a3 a4
 cases hkv:dX k with
 | false=>
  rw[hkv]at HSC;have HM:=aa (show cj k c tree gs= .error 1 by unfold cj; rw[if_neg (by rw[hkv]; simp)]);clear hkv;go_wp2_with fail;refine HSC.o.mono ?_;rintro e w1 ⟨⟨sv,rfl⟩,hb1⟩;have HB1:=aa (ab HB0.o hb1);have HR1:=aa (br hb1 HRX.o);clear hb1 a0 a1 a2 a3 a4;obtain⟨z0,z1,z2,_⟩:=aj HR1.o;simp only[Nat.zero_add,Nat.reduceAdd]at z1 z2;have y0:=ah (k:=0) HR1.o
  have y1:=ah (k:=1) HR1.o;have y2:=ah (k:=2) HR1.o;go_wp2_with fail;refine eA HR1.o rfl rfl rfl rfl ⟨bL HB1.o (by show w.heap.size<=w.heap.size+2; omega), ?_⟩;rw[HM.o];exact⟨rfl,by decide⟩
 | true=>
  rw[hkv]at HSC;have HKV:=aa hkv;go_wp2_with fail;refine HSC.o.mono ?_;rintro e w1 ⟨⟨sv,rfl⟩,hb1⟩;have HB1:=aa (ab HB0.o hb1);have HW1:=aa hb1;have HR1:=aa (br hb1 HRX.o);have HK1:=aa (br hb1 HKX.o);have HC1:=aa (br hb1 HCX.o);clear hb1 a0 a1 a2 a3 a4;obtain⟨b0,b1,b2,b3,b4,_⟩:=aj HC1.o;simp only[Nat.zero_add,Nat.reduceAdd]at b1 b2 b3 b4
  cases hcv:dV c with
  | false=>
   have HCV:=aa hcv;have HM:=aa (show cj k c tree gs= .error 1 by unfold cj; rw[if_neg (by rw[hcv]; simp)]);have hvc:=iZ c false w1 hcv;unfold dB at hvc;have HVC:=aa hvc;clear hkv hcv hvc;go_wp2_with fail;refine HVC.o.mono ?_;rintro e w2 ⟨rfl,hb2⟩;have HB2:=aa (ab HB1.o hb2);have HR2:=aa (br hb2 HR1.o);clear hb2 b0 b1 b2 b3 b4;obtain⟨z0,z1,z2,_⟩:=aj HR2.o
   simp only[Nat.zero_add,Nat.reduceAdd]at z1 z2;have y0:=ah (k:=0) HR2.o;have y1:=ah (k:=1) HR2.o;have y2:=ah (k:=2) HR2.o;go_wp2_with fail;refine eA HR2.o rfl rfl rfl rfl ⟨bL HB2.o (by show w.heap.size<=w.heap.size+2; omega), ?_⟩;rw[HM.o];exact⟨rfl,by decide⟩
  | true=>
   have HCV:=aa hcv;have HM0:=aa (show cj k c tree gs=(if(gs.all fun p=>decide (0<=p.2) && decide (p.2<=1099511627776))=true then
    (if cB tree=0 then(match cO k gs c tree 514 ⟨#[]⟩with
     | .error x=> .error x
     | .ok p=> .ok (aE k gs p.1,bP k gs p.2 []))
    else .error (cB tree))else .error 1) by unfold cj; rw[if_pos ⟨hkv,hcv⟩]; rfl)
   have hvc:=iZ c true w1 hcv;unfold dB at hvc;have HVC:=aa hvc;clear hkv hcv hvc;go_wp2_with fail;refine HVC.o.mono ?_;rintro e w2 ⟨rfl,hb2⟩;have HB2:=aa (ab HB1.o hb2);have HR2:=aa (br hb2 HR1.o);have HK2:=aa (br hb2 HK1.o);have HC2:=aa (br hb2 HC1.o);clear hb2 b0 b1 b2 b3 b4
   rcases HG.o with⟨rfl,hgs⟩ | ⟨gb,rfl,hTg,hgm⟩
   ·have HGS:=aa hgs;have hr:=fun(w:World)=>run_range_nilMap (P:=Tryz.prog) w 47 9 3 Tryz.underlying47
    have hnx:=fun(w:World) (ty:TypeId) (a b:Nat) (s:Array Nat)=>run_next_nilMap (P:=Tryz.prog) w ty a b s
    clear hgs;go_wp2_with fail;obtain⟨W3,hW3⟩: ∃W3:World,W3=w2.alloc (.mapIter none 0 #[] 0):=⟨_,rfl⟩;have hnx2: ∀ty,(Instr.next (.pointer (some ⟨w2.heap.size,0,none⟩)) false ty).run Tryz.prog W3= .ok (.tuple #[.bool false]) W3:=by rw[hW3]; exact fun ty=>hnx w2 ty _ _ _
    have hb3:Below w2.heap.size w2 W3:=by rw[hW3]; exact bH
    have HB3:=aa (ab HB2.o hb3);have HR3:=aa (br hb3 HR2.o);have HK3:=aa (br hb3 HK2.o);have HC3:=aa (br hb3 HC2.o);have HALL:=aa (show gs.all (fun p=>decide (0<=p.2) && decide (p.2<=1099511627776))=true by rw[HGS.o]; rfl);rw[<-hW3];clear hr hnx hb3 hW3
    go_loopw [14] (fun _ wr=>wr=W3) (fun _ _=>0)
    case atStart=>rfl
    case round=>
     subst hrel
     go_upto_region 9 with(fail)
     have HM1:=aa (show cj k c tree gs=(if cB tree=0 then(match cO k gs c tree 514 ⟨#[]⟩with
      | .error x=> .error x
      | .ok p=> .ok (aE k gs p.1,bP k gs p.2 []))
     else .error (cB tree)) by rw[HM0.o,if_pos HALL.o])
     have htr:bV S (wr) (.slice ta n tc) tree:=bV.below HT.o HB3.o;have hev:=HE.o.below HB3.o;obtain⟨x,hx⟩: ∃x,cB tree=x:=⟨_,rfl⟩;have hck:=Bc S tree (.slice ta n tc) x (wr) htr hev.env hx;have HCK:=aa hck;have HCX2:=aa hx;clear htr hev hck hx;go_wp2_with fail;refine HCK.o.mono ?_;rintro e w4 ⟨rfl,hb4⟩;have HB4:=aa (ab HB3.o hb4);have HR4:=aa (br hb4 HR3.o)
     have HK4:=aa (br hb4 HK3.o);have HC4:=aa (br hb4 HC3.o);clear hb4
     by_cases hx0:x=0
     ·have e1:(x != 0)=false:=by simp[hx0]
      have HTO:=aa (iE.1 (HCX2.o.trans hx0));have HM2:=aa (show cj k c tree gs=(match cO k gs c tree 514 ⟨#[]⟩with
       | .error x=> .error x
       | .ok p=> .ok (aE k gs p.1,bP k gs p.2 [])) by rw[HM1.o,if_pos (HCX2.o.trans hx0)])
      clear hx0;obtain⟨a0,a1,a2,a3,a4,_⟩:=aj HK4.o;simp only[Nat.zero_add,Nat.reduceAdd]at a1 a2 a3 a4;obtain⟨b0,b1,b2,b3,b4,_⟩:=aj HC4.o;simp only[Nat.zero_add,Nat.reduceAdd]at b1 b2 b3 b4;have hmm:= @run_makeMap Tryz.prog
      go_upto_region 13 with(fail)
      obtain⟨W5,hW5⟩: ∃W5:World,W5=((w4.alloc (.map #[] 0)).alloc (.map #[] 0)).alloc (.cells #[.string k.nm, .string k.st, .string k.ck, .string k.ix, .string k.tk, .int .i64 c.mn, .int .i64 c.mx, .int .i64 c.win, .int .i64 c.bits, .int .u64 (c.seed:Int), .map none, .map (some w4.heap.size), .slice none 0 0, .map (some (w4.heap.size+1))] 122):=⟨_,rfl⟩;rw[<-hW5];obtain⟨base,hbase⟩: ∃base,base=w4.heap.size:=⟨_,rfl⟩
      rw[<-hbase]at hW5 ⊢;have HBS:=aa hbase;have hbgi:BgI w4 base (base+1+1) base (base+1) k c (.map none) [] W5 []:=by
       have e1:(w4.alloc (.map #[] 0)).heap.size=base+1:=by simp[hbase]
       have e2:((w4.alloc (.map #[] 0)).alloc (.map #[] 0)).heap.size=base+1+1:=by simp[hbase]
       have h1:=dw.made (P:=Tryz.prog) (k:=9) w4;have h2:=eo.made (w4.alloc (.map #[] 0));rw[e1]at h2;rw[<-hbase]at h1;have h3:=bz ((w4.alloc (.map #[] 0)).alloc (.map #[] 0)) (.cells #[.string k.nm, .string k.st, .string k.ck, .string k.ix, .string k.tk, .int .i64 c.mn, .int .i64 c.mx, .int .i64 c.win, .int .i64 c.bits, .int .u64 (c.seed:Int), .map none, .map (some base), .slice none 0 0, .map (some (base+1))] 122)
       rw[e2]at h3;have hs1:W5.heap[base]? =(w4.alloc (.map #[] 0)).heap[base]? :=by rw[hW5]; exact(Below.heap_alloc _ _ _ (by rw[e2]; omega)).trans (Below.heap_alloc _ _ _ (by rw[e1]; omega))
       have hs2:W5.heap[base+1]? =((w4.alloc (.map #[] 0)).alloc (.map #[] 0)).heap[base+1]? :=by rw[hW5]; exact Below.heap_alloc _ _ _ (by rw[e2]; omega)
       refine⟨⟨by rw[hW5]; exact h3,⟨[],rfl,World.ownsRow_nil _ _ _ _,by simp⟩,h2.same hs2⟩,⟨h1.same hs1,by simp,by simp,List.Pairwise.nil,by simp⟩,fun d=>rfl, ?_⟩;rw[hW5,hbase];exact((bH).alloc (by simp) _).alloc (by simp; omega) _
      have HBG:=aa hbgi;have hne2:w.heap.size+2<base:=by have:=lt_of_block HR4.o; omega
      have hwb:w.heap.size<=base:=by omega
      clear hW5 a0 a1 a2 a3 a4 b0 b1 b2 b3 b4 hmm hbase hbgi;go_wp2_with fail
      go_loopw [64] (fun i wr=> ∃(j:Nat) (G:List vL),j<=n/\i= .int .i64 (j:Int)/\BgI w4 base (base+1+1) base (base+1) k c (.map none) (tree.take j) wr G) (fun i _=>n-(intOf i).toNat)
      case atStart=>exact⟨0,[],Nat.zero_le _,rfl,HBG.o⟩
      case round=>
       obtain⟨j,G,hj,rfl,hin⟩:=hrel;rename_i wq;have HIN:=aa hin;clear hin HBG
       by_cases hlt:j<n
       ·obtain⟨e,he⟩: ∃e,tree[j]? =some e:=⟨tree[j]'(by rw[<-HN.o]; exact hlt),by simp⟩;have hbw:Below w.heap.size w wr:=HB4.o.trans (HIN.o.below.mono hwb);obtain⟨b,o,dv,rfl,-,-,hdd,heok,-,p0,p1,p2,p3,p4,p5⟩:=eY (bV.below HT.o hbw) he;obtain⟨da,dc,rfl,-,-⟩:=bO.slice hdd;have HDY:=aa (show bO (· <base) wr (.slice da e.data.length dc) e.data/\gR e from by
         obtain⟨b9,o9,dv9,he9,_,_,hd9,_,_,_,_,_,_,hp9,_⟩:=eY HT.o he
         cases he9
         have hq:=(hbw.cell (p:=⟨b,o+j*6+4,none⟩) (aP (a:=⟨b,o+j*6+4,none⟩) hp9)).trans hp9;rw[p4]at hq
         cases hq
         have hd0:=aL.lt' hd9 (by decide);exact⟨aL.same (aL.weak (T:=(· <w.heap.size)) hd0 (fun _ h=>h)) (fun i hi=>hbw.block i hi) |> fun h=>aL.weak h (fun i hi=>Nat.lt_of_lt_of_le hi hwb),heok⟩)
        have hval:=HTO.o.val e (List.mem_of_getElem? he);have hep:=bi hval;have hes:e.path.size<=512:=(gt hval).1;obtain⟨q,hq⟩: ∃q:ByteArray,q=⟨(aH (bl e.path)).toArray⟩:=⟨_,rfl⟩;have HQ:=aa hq;have hqs:q.size<=maxLen:=by
         have h1:=kq (l:=bl e.path) (fun h=>by have:=kB hep; rw[h]at this; simp at this);rw[hq,am,ed];rw[<-am e.path]at h1;unfold maxLen;omega
        have HEA:=aa he;have hpc:=fun W hE=>ft e.path q W hE hep hq
        have HPC:=aa hpc;have hbz:base<=wr.heap.size:=by have h1:=HIN.o.grp.map.lt; omega
        have h7:7<=base:=Nat.le_trans HE.o.seven hwb;clear hval hep hq hdd heok he hpc
        go_upto_region 16 with(fail)
        obtain⟨W6,hW6⟩: ∃W6:World,W6=wr.alloc (.cells #[.string e.path, .int .i64 e.kind, .int .i64 e.mode, .int .i64 e.time, .slice da e.data.length dc, .string e.link] 79):=⟨_,rfl⟩;rw[<-hW6];have hb6:Below wr.heap.size wr W6:=by rw[hW6]; exact bH
        have HB6:=aa hb6;have HX6:=aa (show W6.heap[wr.heap.size]? =some (.cells #[.string e.path, .int .i64 e.kind, .int .i64 e.mode, .int .i64 e.time, .slice da e.data.length dc, .string e.link] 79 (0,0)) by rw[hW6]; exact bz wr _);have HE6:=aa (HE.o.keep (HB4.o.trans ((HIN.o.below.mono hwb).trans (hb6.mono (Nat.le_trans hwb hbz)))) HE.o.seven);clear hW6 hb6 p0 p1 p2 p3 p4 p5;obtain⟨d0,d1,d2,d3,d4,d5,_⟩:=aj HX6.o
        simp only[Nat.zero_add,Nat.reduceAdd]at d1 d2 d3 d4 d5;go_wp2_with fail;refine(HPC.o W6 HE6.o.env).mono ?_;rintro e' w7 ⟨rfl,hb7⟩;have HX7:=aa (br hb7 HX6.o);have HB7:=aa (ab HB6.o hb7);clear hb7 d0 d1 d2 d3 d4 d5;go_wp2_with fail;obtain⟨W8,hW8⟩: ∃W8:World,W8=w7.drew:=⟨_,rfl⟩;have hb8:Below w7.heap.size w7 W8:=by rw[hW8]; exact(Below.refl _ _).drew
        have HB8:=aa (ab HB7.o hb8);have HX8:=aa (br hb8 HX7.o);have hkp8:=dE.ofBelow (bb:=base+1+1) (kb:=base+1) (v:= .slice none 0 0) HB8.o hbz;have HBD8:=aa (HIN.o.bd.below HB8.o);have HGR8:=aa (HIN.o.grp.keep HIN.o.bd hkp8 (by omega));have HBX8:=aa HBD8.o.box;have hltx:wr.heap.size<W8.heap.size:=lt_of_block HX8.o;have HDY8:=aa (show bO (· <base) W8 (.slice da e.data.length dc) e.data/\gR e from⟨jZ HDY.o.1 (HB8.o.mono hbz),HDY.o.2⟩)
        have ht:Tryz.prog.underlying 119=some (.map 9 46):=Tryz.underlying119;have HTY:=aa ht;clear ht hb8 hkp8;have k0:=ag (k:=0) HBX8.o;have k1:=ag (k:=1) HBX8.o;have k2:=ag (k:=2) HBX8.o;have k3:=ag (k:=3) HBX8.o;have k4:=ag (k:=4) HBX8.o;have k10:=ag (k:=10) HBX8.o;have k11:=ag (k:=11) HBX8.o;have k12:=ag (k:=12) HBX8.o;have k13:=ag (k:=13) HBX8.o
        simp only[gY,bT,cG,List.cons_append,List.nil_append,cr]at k0 k1 k2 k3 k4 k10 k11 k12 k13;clear k0 k1 k2 k3 k4 k10 k12 k13;obtain⟨d0,d1,d2,d3,d4,d5,_⟩:=aj HX8.o;simp only[Nat.zero_add,Nat.reduceAdd]at d1 d2 d3 d4 d5
        cases hf:G.find? (fun g=>decide (g.dir=q))with
        | none=>
         have HF:=aa hf;clear hf;have hnew: ∀p∈G.map iH,p.1≠Value.string q:=by
          intro p hp e9;obtain⟨g9,hg9,rfl⟩:=List.mem_map.1 hp;simp only[iH,Value.string.injEq]at e9;have:=List.find?_eq_none.1 HF.o g9 hg9;simp[e9]at this
         have HNEW:=aa hnew;have HLK:=aa (show ∀W:World,W.heap[base]? =W8.heap[base]? ->(Instr.lookup 119 (.map (some base)) (.string q) false).run Tryz.prog W= .ok (.slice none 0 0) W from fun W hW=>by
          have:=(HGR8.o.map.same hW).is.miss cD HTY.o (show(zeroValue 46).run Tryz.prog W= .ok (.slice none 0 0) W by kernel_rfl) (dh hqs) HNEW.o false
          simpa using this)
         clear hnew;have HNE:=aa (show(Value.slice none 0 0).ownBlock≠some (base+1+1)/\(Value.slice none 0 0).ownBlock≠some wr.heap.size/\(Value.slice none 0 0).ownBlock≠some base from⟨by simp[Value.ownBlock],by simp[Value.ownBlock],by simp[Value.ownBlock]⟩);have HNK:=aa (show(Value.slice none 0 0).ownBlock≠some (base+1) by simp[Value.ownBlock]);have HLOW:=aa (show ∀i,(Value.slice none 0 0).ownBlock=some i->base<=i from fun i hi=>by simp[Value.ownBlock]at hi)
         have HLNB:=aa (show(0:Nat)<1099511627775 by decide);have hlk:=HLK.o W8 rfl;refine bN (fun w'=>w'.cell? ⟨base+1+1,11,none⟩=some (.map (some base))/\(Instr.lookup 119 (.map (some base)) (.string (q)) false).run Tryz.prog w'= .ok (.slice none 0 0) w'/\w'.cell? ⟨wr.heap.size,0,none⟩=some (.string e.path)/\w'.cell? ⟨wr.heap.size,1,none⟩=some (.int .i64 e.kind)/\w'.cell? ⟨wr.heap.size,2,none⟩=some (.int .i64 e.mode)/\w'.cell? ⟨wr.heap.size,3,none⟩=some (.int .i64 e.time)/\w'.cell? ⟨wr.heap.size,4,none⟩=some (.slice da e.data.length dc)/\w'.cell? ⟨wr.heap.size,5,none⟩=some (.string e.link)) (by kernel_rfl) (by kernel_rfl) ?_
         simp only[List.dropLast_cons_cons,List.dropLast_singleton,List.length_cons,List.length_nil,Nat.reduceAdd,Nat.reduceSub];rw[<-hW8];clear hW8
         iterate 12 (refine aJ rfl (by kernel_rfl) (fun _ _ _ h=>h) rfl ⟨k11,hlk,d0,d1,d2,d3,d4,d5⟩ (by rintro w' ⟨hw1,hw2,hw3,hw4,hw5,hw6,hw7,hw8⟩; go_simp; rfl) ?_; simp only[Act.put,aZ,bg,bh])
         have HAL:=aa ((Below.refl W8.heap.size W8).alloc (Nat.le_refl _) (.cells #[.string e.path, .int .i64 e.kind, .int .i64 e.mode, .int .i64 e.time, .slice da e.data.length dc, .string e.link] 79));have hltb:base+1+1<W8.heap.size:=lt_of_block HBX8.o;have hS2:=And.intro ((HAL.o.cell (p:=⟨base+1+1,11,none⟩) hltb).trans k11) (And.intro (HLK.o _ (HAL.o.block base (by omega))) (And.intro ((HAL.o.cell (p:=⟨wr.heap.size,0,none⟩) hltx).trans d0) (And.intro ((HAL.o.cell (p:=⟨wr.heap.size,1,none⟩) hltx).trans d1) (And.intro ((HAL.o.cell (p:=⟨wr.heap.size,2,none⟩) hltx).trans d2) (And.intro ((HAL.o.cell (p:=⟨wr.heap.size,3,none⟩) hltx).trans d3) (And.intro ((HAL.o.cell (p:=⟨wr.heap.size,4,none⟩) hltx).trans d4) ((HAL.o.cell (p:=⟨wr.heap.size,5,none⟩) hltx).trans d5)))))))
         have HS2:=aa hS2;clear hS2;refine an 12 rfl (by kernel_rfl) rfl (fun K hK=> ?_);go_wp2_with fail
         (first | (refine⟨HS2.o, ?_⟩) | skip)
         refine an 13 rfl (by kernel_rfl) rfl (fun K hK=> ?_);have hz8:base<=W8.heap.size:=by omega
         go_wp2_with (at_builtin; go_must (refine aA Tryz.appEnts rfl _ _ rfl base (.slice none 0 0) (0) ([]) rfl W8 [.string e.path, .int .i64 e.kind, .int .i64 e.mode, .int .i64 e.time, .slice da e.data.length dc, .string e.link] _ rfl rfl (fo (e:=e)) ((World.ownsRow_nil _ _ _ _)) HLNB.o hz8 ?_); intro v' wc hown' hgrow' _ hpl; obtain⟨ae,ce,rfl,-,-⟩:=ai hown');have hbxc:=(hgrow'.block (base+1+1) hltb (fun e9=>HNE.o.1 e9.symm)).trans HBX8.o
         have hxc:=(hgrow'.block wr.heap.size hltx (fun e9=>HNE.o.2.1 e9.symm)).trans HX8.o;have hmc:=hgrow'.block base (by omega) (fun e9=>HNE.o.2.2 e9.symm);have hlkc:=HLK.o wc hmc;have HBXC:=aa hbxc;have HXC:=aa hxc;have HMC:=aa hmc;have HOWC:=aa hown';have HGRC:=aa hgrow';have HPLC:=aa hpl;clear hbxc hxc hmc hown' hgrow' hpl hlk k11 d0 d1 d2 d3 d4 d5;obtain⟨d0,d1,d2,d3,d4,d5,_⟩:=aj HXC.o
         simp only[Nat.zero_add,Nat.reduceAdd]at d1 d2 d3 d4 d5;have k11:=ag (k:=11) HBXC.o;simp only[gY,bT,cG,List.cons_append,List.nil_append,cr]at k11;refine⟨⟨k11,hlkc,d0,d1,d2,d3,d4,d5⟩, ?_⟩;refine aM (by kernel_rfl) ?_;refine bX rfl rfl (fun K hK=> ?_);clear k11 hlkc d0 d1 d2 d3 d4 d5;have HMS:=aa (HGR8.o.map.same HMC.o);go_wp2_with (at_mapUpdate; go_must (refine eU cD rfl _ _ _ _ rfl HTY.o base (G.map iH) HMS.o rfl (.string q) (.slice ae (0+1) ce) rfl rfl (dh hqs) HNEW.o ?_); intro w10 hm10 hg10)
         have HG10:=aa hg10;have HGRN:=aa (HGR8.o.new (Nat.le_refl _) hqs (y:=(.slice da e.data.length dc,e)) HDY8.o HOWC.o HGRC.o (fun i hi=>by
          rcases HPLC.o i hi with h9 | h9
          ·simp[Value.ownBlock]at h9
          ·exact h9) hm10 hg10)
         clear hm10 hg10;have hb10:=HIN.o.below.trans ((HB8.o.mono hbz).trans (((Below.refl base W8).grown HGRC.o hz8 (fun i hi=>HLOW.o i hi)).grown HG10.o (Nat.le_trans hz8 HGRC.o.size) (fun i hi=>by cases hi; exact Nat.le_refl _)));have hbd10:=HBD8.o.nilKeep (w':=w10) ((HG10.o.block _ (Nat.lt_of_lt_of_le hltb HGRC.o.size) (fun e9=>by have:=Option.some.inj e9; omega)).trans (HBXC.o.trans HBX8.o.symm)) ((HG10.o.block _ (Nat.lt_of_lt_of_le HBD8.o.known.map.lt HGRC.o.size) (fun e9=>by have:=Option.some.inj e9; omega)).trans (HGRC.o.block _ HBD8.o.known.map.lt (fun e9=>HNK.o e9.symm)))
         go_roundw
         case rel=>
          refine⟨j+1,(G++[⟨q, .slice ae (0+1) ce,[(.slice da e.data.length dc,e)]⟩]),by omega,by go_num,⟨hbd10,HGRN.o,fun d=> ?_,hb10⟩⟩;rw[jg HEA.o];rw[qI (g:=⟨q, .slice ae (0+1) ce,[(.slice da e.data.length dc,e)]⟩) HF.o]
          by_cases hqd:q=d
          ·rw[if_pos hqd,if_pos (show aH (bl e.path)=bl d by rw[<-hqd,HQ.o]; exact(ed _).symm),<-HIN.o.ents d,<-hqd,pd HF.o]
           rfl
          ·rw[if_neg hqd,if_neg (fun h9=>hqd (fE (by rw[HQ.o]; exact(ed _).trans h9))),List.append_nil];exact HIN.o.ents d
         case measure=>simp[intOf]; omega
        | some g=>
         obtain⟨A,B,hAB,hgd,hA⟩: ∃A B,G=A++g::B/\g.dir=q/\ ∀x∈A,x.dir≠q:=by
          have h9:=List.find?_eq_some_iff_append.1 hf;obtain⟨h1,A,B,h2,h3⟩:=h9;exact⟨A,B,h2,by simpa using h1,fun x hx=>by simpa using h3 x hx⟩
         have hent:=jb hf;subst hgd;subst hAB;have HENT:=aa hent;have HA:=aa hA;have hgo:=HGR8.o.own g (by simp);have hgo0:=HIN.o.grp.own g (by simp);obtain⟨ga,gc,hgv,hgn,-⟩:=ai hgo;have hgl:g.ents.length<=4096:=by
          have h1:=HIN.o.ents g.dir;rw[hent]at h1;have h2:=congrArg List.length h1;rw[List.length_map]at h2;rw[h2];have h3:(cU (tree.take j) g.dir).length<=(tree.take j).length:=List.length_filter_le _ _;rw[List.length_take]at h3;have h4:=HTO.o.len;omega
         obtain⟨gl,hgl2⟩: ∃gl,gl=g.ents.length:=⟨_,rfl⟩;have HGL:=aa hgl2;rw[<-hgl2]at hgv hgl;have HLNB:=aa (show gl<1099511627775 by omega);have HGO:=aa (show W8.ownsRow base 79 6 (.slice ga gl gc) gl (dJ g.ents) by rw[<-hgv,hgl2]; exact hgo);have HGV:=aa hgv;have HNE:=aa (show(Value.slice ga gl gc).ownBlock≠some (base+1+1)/\(Value.slice ga gl gc).ownBlock≠some wr.heap.size/\(Value.slice ga gl gc).ownBlock≠some base from by
          rw[<-hgv];refine⟨fun e9=> ?_,fun e9=> ?_,fun e9=> ?_⟩
          ·obtain⟨cs2,hc2⟩:=au hgo e9;exact absurd (aC HBX8.o hc2) (by decide)
          ·have:=(hgo0.lt _ e9).2;omega
          ·obtain⟨cs2,hc2⟩:=au hgo e9;exact HGR8.o.map.ncells hc2)
         have HNK:=aa (show(Value.slice ga gl gc).ownBlock≠some (base+1)from by
          rw[<-hgv];intro e9;obtain⟨cs2,hc2⟩:=au hgo e9;exact HBD8.o.known.cells hc2)
         have HLOW:=aa (show ∀i,(Value.slice ga gl gc).ownBlock=some i->base<=i from fun i hi=>by
          rw[<-hgv]at hi;exact(hgo.lt i hi).1)
         have HLK:=aa (show ∀W:World,W.heap[base]? =W8.heap[base]? ->(Instr.lookup 119 (.map (some base)) (.string g.dir) false).run Tryz.prog W= .ok (.slice ga gl gc) W from fun W hW=>by
          have:=(HGR8.o.map.same hW).is.hit cD HTY.o (dh hqs) (val:=g.val) (List.mem_map.2 ⟨g,by simp,rfl⟩) false;rw[hgv]at this
          simpa using this)
         clear hf hent hA hgo hgo0 hgv hgl2;have hlk:=HLK.o W8 rfl;refine bN (fun w'=>w'.cell? ⟨base+1+1,11,none⟩=some (.map (some base))/\(Instr.lookup 119 (.map (some base)) (.string (g.dir)) false).run Tryz.prog w'= .ok (.slice ga gl gc) w'/\w'.cell? ⟨wr.heap.size,0,none⟩=some (.string e.path)/\w'.cell? ⟨wr.heap.size,1,none⟩=some (.int .i64 e.kind)/\w'.cell? ⟨wr.heap.size,2,none⟩=some (.int .i64 e.mode)/\w'.cell? ⟨wr.heap.size,3,none⟩=some (.int .i64 e.time)/\w'.cell? ⟨wr.heap.size,4,none⟩=some (.slice da e.data.length dc)/\w'.cell? ⟨wr.heap.size,5,none⟩=some (.string e.link)) (by kernel_rfl) (by kernel_rfl) ?_
         simp only[List.dropLast_cons_cons,List.dropLast_singleton,List.length_cons,List.length_nil,Nat.reduceAdd,Nat.reduceSub];rw[<-hW8];clear hW8
         iterate 12 (refine aJ rfl (by kernel_rfl) (fun _ _ _ h=>h) rfl ⟨k11,hlk,d0,d1,d2,d3,d4,d5⟩ (by rintro w' ⟨hw1,hw2,hw3,hw4,hw5,hw6,hw7,hw8⟩; go_simp; rfl) ?_; simp only[Act.put,aZ,bg,bh])
         have HAL:=aa ((Below.refl W8.heap.size W8).alloc (Nat.le_refl _) (.cells #[.string e.path, .int .i64 e.kind, .int .i64 e.mode, .int .i64 e.time, .slice da e.data.length dc, .string e.link] 79));have hltb:base+1+1<W8.heap.size:=lt_of_block HBX8.o;have hS2:=And.intro ((HAL.o.cell (p:=⟨base+1+1,11,none⟩) hltb).trans k11) (And.intro (HLK.o _ (HAL.o.block base (by omega))) (And.intro ((HAL.o.cell (p:=⟨wr.heap.size,0,none⟩) hltx).trans d0) (And.intro ((HAL.o.cell (p:=⟨wr.heap.size,1,none⟩) hltx).trans d1) (And.intro ((HAL.o.cell (p:=⟨wr.heap.size,2,none⟩) hltx).trans d2) (And.intro ((HAL.o.cell (p:=⟨wr.heap.size,3,none⟩) hltx).trans d3) (And.intro ((HAL.o.cell (p:=⟨wr.heap.size,4,none⟩) hltx).trans d4) ((HAL.o.cell (p:=⟨wr.heap.size,5,none⟩) hltx).trans d5)))))))
         have HS2:=aa hS2;clear hS2;refine an 12 rfl (by kernel_rfl) rfl (fun K hK=> ?_);go_wp2_with fail
         (first | (refine⟨HS2.o, ?_⟩) | skip)
         refine an 13 rfl (by kernel_rfl) rfl (fun K hK=> ?_);have hz8:base<=W8.heap.size:=by omega
         go_wp2_with (at_builtin; go_must (refine aA Tryz.appEnts rfl _ _ rfl base (.slice ga gl gc) (gl) ((dJ g.ents)) rfl W8 [.string e.path, .int .i64 e.kind, .int .i64 e.mode, .int .i64 e.time, .slice da e.data.length dc, .string e.link] _ rfl rfl (fo (e:=e)) (HGO.o) HLNB.o hz8 ?_); intro v' wc hown' hgrow' _ hpl; obtain⟨ae,ce,rfl,-,-⟩:=ai hown');have hbxc:=(hgrow'.block (base+1+1) hltb (fun e9=>HNE.o.1 e9.symm)).trans HBX8.o
         have hxc:=(hgrow'.block wr.heap.size hltx (fun e9=>HNE.o.2.1 e9.symm)).trans HX8.o;have hmc:=hgrow'.block base (by omega) (fun e9=>HNE.o.2.2 e9.symm);have hlkc:=HLK.o wc hmc;have HBXC:=aa hbxc;have HXC:=aa hxc;have HMC:=aa hmc;have HOWC:=aa hown';have HGRC:=aa hgrow';have HPLC:=aa hpl;clear hbxc hxc hmc hown' hgrow' hpl hlk k11 d0 d1 d2 d3 d4 d5;obtain⟨d0,d1,d2,d3,d4,d5,_⟩:=aj HXC.o
         simp only[Nat.zero_add,Nat.reduceAdd]at d1 d2 d3 d4 d5;have k11:=ag (k:=11) HBXC.o;simp only[gY,bT,cG,List.cons_append,List.nil_append,cr]at k11;refine⟨⟨k11,hlkc,d0,d1,d2,d3,d4,d5⟩, ?_⟩;refine aM (by kernel_rfl) ?_;refine bX rfl rfl (fun K hK=> ?_);clear k11 hlkc d0 d1 d2 d3 d4 d5;have HMS:=aa (show dw Tryz.prog 9 wc base (A.map iH++(.string g.dir,g.val)::B.map iH)from by
          have:=HGR8.o.map.same HMC.o
          simpa [iH]using this)
         go_wp2_with (at_mapUpdate; go_must (refine kD cD rfl _ _ _ _ rfl HTY.o base (A.map iH) (B.map iH) (.string g.dir) (.slice ae (gl+1) ce) g.val HMS.o rfl rfl rfl ?_); intro w10 hm10 hg10);have HG10:=aa hg10;have HGRN:=aa (HGR8.o.over (Nat.le_refl _) (y:=(.slice da e.data.length dc,e)) HDY8.o (by rw[<-HGL.o]; exact HOWC.o) (by rw[HGV.o]; exact HGRC.o) (by rw[HGV.o]; exact HPLC.o) hm10 hg10)
         clear hm10 hg10;have hb10:=HIN.o.below.trans ((HB8.o.mono hbz).trans (((Below.refl base W8).grown HGRC.o hz8 (fun i hi=>HLOW.o i hi)).grown HG10.o (Nat.le_trans hz8 HGRC.o.size) (fun i hi=>by cases hi; exact Nat.le_refl _)));have hbd10:=HBD8.o.nilKeep (w':=w10) ((HG10.o.block _ (Nat.lt_of_lt_of_le hltb HGRC.o.size) (fun e9=>by have:=Option.some.inj e9; omega)).trans (HBXC.o.trans HBX8.o.symm)) ((HG10.o.block _ (Nat.lt_of_lt_of_le HBD8.o.known.map.lt HGRC.o.size) (fun e9=>by have:=Option.some.inj e9; omega)).trans (HGRC.o.block _ HBD8.o.known.map.lt (fun e9=>HNK.o e9.symm)))
         go_roundw
         case rel=>
          refine⟨j+1,(A++⟨g.dir, .slice ae (gl+1) ce,g.ents++[(.slice da e.data.length dc,e)]⟩::B),by omega,by go_num,⟨hbd10,HGRN.o,fun d=> ?_,hb10⟩⟩;rw[jg HEA.o];rw[pf (A:=A) (B:=B) (g:=g) (g':=(⟨g.dir, .slice ae (gl+1) ce,g.ents++[((Value.slice da e.data.length dc,e):jX)]⟩:vL)) rfl HA.o d]
          by_cases hqd:g.dir=d
          ·rw[if_pos hqd,if_pos (show aH (bl e.path)=bl d by rw[<-hqd,HQ.o]; exact(ed _).symm),<-HIN.o.ents d,<-hqd,HENT.o,List.map_append]
           rfl
          ·rw[if_neg hqd,if_neg (fun h9=>hqd (fE (by rw[HQ.o]; exact(ed _).trans h9))),List.append_nil];exact HIN.o.ents d
         case measure=>simp[intOf]; omega
       ·have hk2:j=n:=by omega
        have hgl:yL wr base base tree:=⟨G,HIN.o.grp,fun d=>by have:=HIN.o.ents d; rwa [show tree.take j=tree by rw[hk2,HN.o,List.take_length]]at this⟩;have hbz:base<=wr.heap.size:=by have h1:=HIN.o.grp.map.lt; omega
        have h7:7<=base:=Nat.le_trans HE.o.seven hwb;have hgok: ∀p∈gs,0<=p.2/\p.2<=1099511627776:=fun p hp=>by have:=List.all_eq_true.1 HALL.o p hp; simpa using this
        have hX:Ec base (base+1+1) (base+1) base k c gs tree (BX k gs c tree):=⟨HKV.o,HCV.o,hsd,hgok,by omega,by omega,h7,by omega,HTO.o.val,HTO.o.len,AU HCV.o HTO.o.len HTO.o.val,AV,AW⟩;have hbw:Below w.heap.size w wr:=HB4.o.trans (HIN.o.below.mono hwb);have hgw:dO (· <base) wr (.map none) gs:=by
         rcases HG.o with⟨h1,h2⟩ | ⟨gb9,h1,_,h3⟩
         ·exact .inl ⟨h1,h2⟩
         ·exact .inr ⟨gb9,h1,Nat.lt_of_lt_of_le h3.lt hwb,h3.same (hbw.block _ h3.lt)⟩
        have hdr:=vm hX 514 (Nat.le_refl _) ⟨#[]⟩ (.slice none 0 0) [] wr (by show 514<=0+514; omega) (.inl rfl) HIN.o.bd hgw hgl (by intro b hb; simp at hb) (HE.o.keep hbw HE.o.seven) hbz;unfold uL at hdr;clear hgl hX hgw
        cases hdp:cO k gs c tree 514 ⟨#[]⟩with
        | error x9=>
         rw[hdp]at hdr;have HM3:=aa (show cj k c tree gs= .error x9 by rw[HM2.o,hdp]);have HDR:=aa hdr;clear hdr hdp;go_wp2_with fail;refine HDR.o.mono ?_;rintro e' w5 ⟨rfl,hx9,v5,bs5,hbd5,hkp5⟩;have HB5:=aa (hbw.trans (hkp5.below.mono hwb));have HR5:=aa ((hkp5.below.block (w.heap.size+2) hne2).trans ((HIN.o.below.block (w.heap.size+2) hne2).trans HR4.o));have HX9:=aa hx9
         have e4:(x9 != 0)=true:=by simp[hx9]
         clear hx9 hbd5 hkp5 hbw
         go_upto_region 20 with(fail)
         obtain⟨W6,hW6⟩: ∃W6:World,W6=w5.alloc (.cells #[.string ⟨#[]⟩, .int .i64 0, .int .i64 0] 26):=⟨_,rfl⟩;rw[<-hW6];have hb6:Below w5.heap.size w5 W6:=by rw[hW6]; exact bH
         have HB6:=aa (ab HB5.o hb6);have HR6:=aa (br hb6 HR5.o);clear hb6 hW6;obtain⟨z0,z1,z2,_⟩:=aj HR6.o;simp only[Nat.zero_add,Nat.reduceAdd]at z1 z2;have y0:=ah (k:=0) HR6.o;have y1:=ah (k:=1) HR6.o;have y2:=ah (k:=2) HR6.o;go_wp2_with fail;refine eA HR6.o rfl rfl rfl rfl ⟨bL HB6.o (by show w.heap.size<=w.heap.size+2; omega), ?_⟩
         rw[HM3.o];exact⟨rfl,HX9.o⟩
        | ok p=>
         rw[hdp]at hdr
         dsimp only at hdr
         have HM3:=aa (show cj k c tree gs= .ok (aE k gs p.1,bP k gs p.2 []) by rw[HM2.o,hdp]);obtain⟨r,hr⟩: ∃r,r=aE k gs p.1:=⟨_,rfl⟩;rw[<-hr]at hdr;have HRE:=aa hr;have HDR:=aa hdr;unfold bU at HDR;clear hdr hdp hr;go_wp2_with fail;refine HDR.o.mono ?_;rintro e' w5 ⟨rfl,-,v5,hbd5,hkp5⟩;have HB5:=aa (hbw.trans (hkp5.below.mono hwb));have HR5:=aa ((hkp5.below.block (w.heap.size+2) hne2).trans ((HIN.o.below.block (w.heap.size+2) hne2).trans HR4.o))
         have HBD5:=aa hbd5;clear hbd5 hkp5 hbw
         go_upto_region 22 with(fail)
         obtain⟨W6,hW6⟩: ∃W6:World,W6=(w5.alloc (.cells #[.string r.name, .int .i64 r.gen, .int .i64 r.size] 26)).drew:=⟨_,rfl⟩;have hb6:Below w5.heap.size w5 W6:=by rw[hW6]; exact(bH).drew
         have HB6:=aa (ab HB5.o hb6);have HR6:=aa (br hb6 HR5.o);have HF6:=aa (show W6.heap[w5.heap.size]? =some (.cells #[.string r.name, .int .i64 r.gen, .int .i64 r.size] 26 (0,0)) by rw[hW6]; exact bz w5 _);have HBD6:=aa (HBD5.o.below hb6);obtain⟨zs,hzs,hbo⟩:=HBD6.o.own;obtain⟨va,vc,hv6,-,-⟩:=ai hbo.row;subst hv6;have HZS:=aa hzs;have HBO:=aa hbo
         have HBX6:=aa HBD6.o.box;clear hb6 hzs hbo;have k12:=ag (k:=12) HBX6.o;have f0:=ag (k:=0) HF6.o;have f1:=ag (k:=1) HF6.o;have f2:=ag (k:=2) HF6.o;simp only[gY,bT,cG,List.cons_append,List.nil_append,cr]at k12 f0 f1 f2;obtain⟨z0,z1,z2,_⟩:=aj HR6.o;simp only[Nat.zero_add,Nat.reduceAdd]at z1 z2;have y0:=ah (k:=0) HR6.o;have y1:=ah (k:=1) HR6.o
         have y2:=ah (k:=2) HR6.o;refine bE (fun w'=>w'.cell? ⟨base+1+1,12,none⟩=some (.slice va zs.length vc)/\w'.cell? ⟨w5.heap.size,0,none⟩=some (.string r.name)/\w'.cell? ⟨w5.heap.size,1,none⟩=some (.int .i64 r.gen)/\w'.cell? ⟨w5.heap.size,2,none⟩=some (.int .i64 r.size)) (by kernel_rfl) ?_;rw[<-hW6];clear hW6
         iterate 5 (refine aJ rfl (by kernel_rfl) (fun _ _ _ h=>h) rfl ⟨k12,f0,f1,f2⟩ (by rintro w' ⟨hw1,hw2,hw3,hw4⟩; go_simp; rfl) ?_; simp only[Act.put,aZ,bg,bh])
         refine an 5 rfl (by kernel_rfl) rfl (fun K hK=> ?_);have hw5:w.heap.size+1+1<w5.heap.size:=lt_of_block HR5.o;have hbwb:base+1+1≠w.heap.size+1+1:=by omega
         have hwfb:w5.heap.size≠w.heap.size+1+1:=by omega
         have hS2:=fun(u0 u1 u2:Value)=>And.intro ((World.cell?_of_block (a:=⟨base+1+1,12,none⟩) (aY (w:=W6) (x0:=u0) (x1:=u1) (x2:=u2) hbwb)).trans k12) (And.intro ((World.cell?_of_block (a:=⟨w5.heap.size,0,none⟩) (aY (w:=W6) (x0:=u0) (x1:=u1) (x2:=u2) hwfb)).trans f0) (And.intro ((World.cell?_of_block (a:=⟨w5.heap.size,1,none⟩) (aY (w:=W6) (x0:=u0) (x1:=u1) (x2:=u2) hwfb)).trans f1) ((World.cell?_of_block (a:=⟨w5.heap.size,2,none⟩) (aY (w:=W6) (x0:=u0) (x1:=u1) (x2:=u2) hwfb)).trans f2)))
         have HS2:=aa hS2;clear hS2 k12 f0 f1 f2;go_wp2_with fail;refine⟨HS2.o _ _ _, ?_⟩
         iterate 2 (refine aJ rfl (by kernel_rfl) (fun _ _ _ h=>h) rfl (HS2.o _ _ _) (by rintro w' ⟨hw1,hw2,hw3,hw4⟩; go_simp; rfl) ?_; simp only[Act.put,aZ,bg,bh])
         refine aM (by kernel_rfl) ?_;go_wp2_with fail;refine eA HR6.o rfl rfl rfl rfl ⟨bL HB6.o (by show w.heap.size<=w.heap.size+2; omega), ?_⟩;rw[HM3.o];refine⟨_,zs,by rw[<-HRE.o]; rfl,HZS.o,HBO.o.other HR6.o (by decide) (by decide) hwb (fun i hi=>aY hi)⟩
     ·have e1:(x != 0)=true:=by simp[hx0]
      have HX0:=aa hx0;clear hx0;obtain⟨z0,z1,z2,_⟩:=aj HR4.o;simp only[Nat.zero_add,Nat.reduceAdd]at z1 z2;have y0:=ah (k:=0) HR4.o;have y1:=ah (k:=1) HR4.o;have y2:=ah (k:=2) HR4.o;go_wp2_with fail;refine eA HR4.o rfl rfl rfl rfl ⟨bL HB4.o (by show w.heap.size<=w.heap.size+2; omega), ?_⟩;rw[HM1.o,if_neg (by rw[HCX2.o]; exact HX0.o)]
      rw[HCX2.o];exact⟨rfl,HX0.o⟩
   ·have HGM:=aa (hgm.same (w':=w2) (HB2.o.block gb hgm.lt));have hgbw:gb<w.heap.size:=hgm.lt;clear hgm hTg;go_wp2_with (at_range; go_must (refine mw rfl _ _ rfl eP gb _ rfl HGM.o ?_); intro w0 hrg0 hb0 hs0);obtain⟨r9,hr9⟩: ∃r9,r9=w2.heap.size:=⟨_,rfl⟩;rw[<-hr9]at hrg0 ⊢;have HR9:=aa hr9;have HB20:=aa hb0;clear hr9 hs0 hb0
    go_frame
    go_loopw [14] (fun _ wr=> ∃vis,kN Tryz.prog 9 wr gb r9 (gs.map mH) vis/\(∀p∈vis,∃z:Int,p.2= .int .i64 z/\0<=z/\z<=1099511627776)/\Below w2.heap.size w2 wr) (fun _ wr=>wr.rangeLeft gb r9)
    case atStart=>exact⟨[],hrg0,by simp,HB20.o⟩
    case round=>
     obtain⟨vis,hrg,hvis,hb2r⟩:=hrel;have HRG:=aa hrg;have HVIS:=aa hvis;have HB2R:=aa hb2r;clear hrg hvis hb2r;go_wp2_with (at_next; go_must (refine nY rfl _ rfl gb r9 _ _ rfl HRG.o ?_ ?_))
     ·intro hdone;have HALL:=aa (show gs.all (fun p=>decide (0<=p.2) && decide (p.2<=1099511627776))=true from by
       rw[List.all_eq_true];intro p hp;obtain⟨z,hz1,hz2,hz3⟩:=HVIS.o (mH p) (hdone.mem_iff.2 (List.mem_map.2 ⟨p,hp,rfl⟩));simp only[mH,Value.int.injEq,true_and]at hz1;subst hz1;simp[hz2,hz3])
      have HB3:=aa (ab HB2.o HB2R.o);have HR3:=aa (br HB2R.o HR2.o);have HK3:=aa (br HB2R.o HK2.o);have HC3:=aa (br HB2R.o HC2.o);clear hdone HRG hrg0
      go_upto_region 9 with(fail)
      have HM1:=aa (show cj k c tree gs=(if cB tree=0 then(match cO k gs c tree 514 ⟨#[]⟩with
       | .error x=> .error x
       | .ok p=> .ok (aE k gs p.1,bP k gs p.2 []))
      else .error (cB tree)) by rw[HM0.o,if_pos HALL.o])
      have htr:bV S (wr) (.slice ta n tc) tree:=bV.below HT.o HB3.o;have hev:=HE.o.below HB3.o;obtain⟨x,hx⟩: ∃x,cB tree=x:=⟨_,rfl⟩;have hck:=Bc S tree (.slice ta n tc) x (wr) htr hev.env hx;have HCK:=aa hck;have HCX2:=aa hx;clear htr hev hck hx;go_wp2_with fail;refine HCK.o.mono ?_;rintro e w4 ⟨rfl,hb4⟩;have HB4:=aa (ab HB3.o hb4);have HR4:=aa (br hb4 HR3.o)
      have HK4:=aa (br hb4 HK3.o);have HC4:=aa (br hb4 HC3.o);clear hb4
      by_cases hx0:x=0
      ·have e1:(x != 0)=false:=by simp[hx0]
       have HTO:=aa (iE.1 (HCX2.o.trans hx0));have HM2:=aa (show cj k c tree gs=(match cO k gs c tree 514 ⟨#[]⟩with
        | .error x=> .error x
        | .ok p=> .ok (aE k gs p.1,bP k gs p.2 [])) by rw[HM1.o,if_pos (HCX2.o.trans hx0)])
       clear hx0;obtain⟨a0,a1,a2,a3,a4,_⟩:=aj HK4.o;simp only[Nat.zero_add,Nat.reduceAdd]at a1 a2 a3 a4;obtain⟨b0,b1,b2,b3,b4,_⟩:=aj HC4.o;simp only[Nat.zero_add,Nat.reduceAdd]at b1 b2 b3 b4;have hmm:= @run_makeMap Tryz.prog
       go_upto_region 13 with(fail)
       obtain⟨W5,hW5⟩: ∃W5:World,W5=((w4.alloc (.map #[] 0)).alloc (.map #[] 0)).alloc (.cells #[.string k.nm, .string k.st, .string k.ck, .string k.ix, .string k.tk, .int .i64 c.mn, .int .i64 c.mx, .int .i64 c.win, .int .i64 c.bits, .int .u64 (c.seed:Int), .map (some gb), .map (some w4.heap.size), .slice none 0 0, .map (some (w4.heap.size+1))] 122):=⟨_,rfl⟩;rw[<-hW5];obtain⟨base,hbase⟩: ∃base,base=w4.heap.size:=⟨_,rfl⟩
       rw[<-hbase]at hW5 ⊢;have HBS:=aa hbase;have hbgi:BgI w4 base (base+1+1) base (base+1) k c (.map (some gb)) [] W5 []:=by
        have e1:(w4.alloc (.map #[] 0)).heap.size=base+1:=by simp[hbase]
        have e2:((w4.alloc (.map #[] 0)).alloc (.map #[] 0)).heap.size=base+1+1:=by simp[hbase]
        have h1:=dw.made (P:=Tryz.prog) (k:=9) w4;have h2:=eo.made (w4.alloc (.map #[] 0));rw[e1]at h2;rw[<-hbase]at h1;have h3:=bz ((w4.alloc (.map #[] 0)).alloc (.map #[] 0)) (.cells #[.string k.nm, .string k.st, .string k.ck, .string k.ix, .string k.tk, .int .i64 c.mn, .int .i64 c.mx, .int .i64 c.win, .int .i64 c.bits, .int .u64 (c.seed:Int), .map (some gb), .map (some base), .slice none 0 0, .map (some (base+1))] 122)
        rw[e2]at h3;have hs1:W5.heap[base]? =(w4.alloc (.map #[] 0)).heap[base]? :=by rw[hW5]; exact(Below.heap_alloc _ _ _ (by rw[e2]; omega)).trans (Below.heap_alloc _ _ _ (by rw[e1]; omega))
        have hs2:W5.heap[base+1]? =((w4.alloc (.map #[] 0)).alloc (.map #[] 0)).heap[base+1]? :=by rw[hW5]; exact Below.heap_alloc _ _ _ (by rw[e2]; omega)
        refine⟨⟨by rw[hW5]; exact h3,⟨[],rfl,World.ownsRow_nil _ _ _ _,by simp⟩,h2.same hs2⟩,⟨h1.same hs1,by simp,by simp,List.Pairwise.nil,by simp⟩,fun d=>rfl, ?_⟩;rw[hW5,hbase];exact((bH).alloc (by simp) _).alloc (by simp; omega) _
       have HBG:=aa hbgi;have hne2:w.heap.size+2<base:=by have:=lt_of_block HR4.o; omega
       have hwb:w.heap.size<=base:=by omega
       clear hW5 a0 a1 a2 a3 a4 b0 b1 b2 b3 b4 hmm hbase hbgi;go_wp2_with fail
       go_loopw [64] (fun i wr=> ∃(j:Nat) (G:List vL),j<=n/\i= .int .i64 (j:Int)/\BgI w4 base (base+1+1) base (base+1) k c (.map (some gb)) (tree.take j) wr G) (fun i _=>n-(intOf i).toNat)
       case atStart=>exact⟨0,[],Nat.zero_le _,rfl,HBG.o⟩
       case round=>
        obtain⟨j,G,hj,rfl,hin⟩:=hrel;rename_i wq;have HIN:=aa hin;clear hin HBG
        by_cases hlt:j<n
        ·obtain⟨e,he⟩: ∃e,tree[j]? =some e:=⟨tree[j]'(by rw[<-HN.o]; exact hlt),by simp⟩;have hbw:Below w.heap.size w wr:=HB4.o.trans (HIN.o.below.mono hwb);obtain⟨b,o,dv,rfl,-,-,hdd,heok,-,p0,p1,p2,p3,p4,p5⟩:=eY (bV.below HT.o hbw) he;obtain⟨da,dc,rfl,-,-⟩:=bO.slice hdd;have HDY:=aa (show bO (· <base) wr (.slice da e.data.length dc) e.data/\gR e from by
          obtain⟨b9,o9,dv9,he9,_,_,hd9,_,_,_,_,_,_,hp9,_⟩:=eY HT.o he
          cases he9
          have hq:=(hbw.cell (p:=⟨b,o+j*6+4,none⟩) (aP (a:=⟨b,o+j*6+4,none⟩) hp9)).trans hp9;rw[p4]at hq
          cases hq
          have hd0:=aL.lt' hd9 (by decide);exact⟨aL.same (aL.weak (T:=(· <w.heap.size)) hd0 (fun _ h=>h)) (fun i hi=>hbw.block i hi) |> fun h=>aL.weak h (fun i hi=>Nat.lt_of_lt_of_le hi hwb),heok⟩)
         have hval:=HTO.o.val e (List.mem_of_getElem? he);have hep:=bi hval;have hes:e.path.size<=512:=(gt hval).1;obtain⟨q,hq⟩: ∃q:ByteArray,q=⟨(aH (bl e.path)).toArray⟩:=⟨_,rfl⟩;have HQ:=aa hq;have hqs:q.size<=maxLen:=by
          have h1:=kq (l:=bl e.path) (fun h=>by have:=kB hep; rw[h]at this; simp at this);rw[hq,am,ed];rw[<-am e.path]at h1;unfold maxLen;omega
         have HEA:=aa he;have hpc:=fun W hE=>ft e.path q W hE hep hq
         have HPC:=aa hpc;have hbz:base<=wr.heap.size:=by have h1:=HIN.o.grp.map.lt; omega
         have h7:7<=base:=Nat.le_trans HE.o.seven hwb;clear hval hep hq hdd heok he hpc
         go_upto_region 16 with(fail)
         obtain⟨W6,hW6⟩: ∃W6:World,W6=wr.alloc (.cells #[.string e.path, .int .i64 e.kind, .int .i64 e.mode, .int .i64 e.time, .slice da e.data.length dc, .string e.link] 79):=⟨_,rfl⟩;rw[<-hW6];have hb6:Below wr.heap.size wr W6:=by rw[hW6]; exact bH
         have HB6:=aa hb6;have HX6:=aa (show W6.heap[wr.heap.size]? =some (.cells #[.string e.path, .int .i64 e.kind, .int .i64 e.mode, .int .i64 e.time, .slice da e.data.length dc, .string e.link] 79 (0,0)) by rw[hW6]; exact bz wr _);have HE6:=aa (HE.o.keep (HB4.o.trans ((HIN.o.below.mono hwb).trans (hb6.mono (Nat.le_trans hwb hbz)))) HE.o.seven);clear hW6 hb6 p0 p1 p2 p3 p4 p5;obtain⟨d0,d1,d2,d3,d4,d5,_⟩:=aj HX6.o
         simp only[Nat.zero_add,Nat.reduceAdd]at d1 d2 d3 d4 d5;go_wp2_with fail;refine(HPC.o W6 HE6.o.env).mono ?_;rintro e' w7 ⟨rfl,hb7⟩;have HX7:=aa (br hb7 HX6.o);have HB7:=aa (ab HB6.o hb7);clear hb7 d0 d1 d2 d3 d4 d5;go_wp2_with fail;obtain⟨W8,hW8⟩: ∃W8:World,W8=w7.drew:=⟨_,rfl⟩;have hb8:Below w7.heap.size w7 W8:=by rw[hW8]; exact(Below.refl _ _).drew
         have HB8:=aa (ab HB7.o hb8);have HX8:=aa (br hb8 HX7.o);have hkp8:=dE.ofBelow (bb:=base+1+1) (kb:=base+1) (v:= .slice none 0 0) HB8.o hbz;have HBD8:=aa (HIN.o.bd.below HB8.o);have HGR8:=aa (HIN.o.grp.keep HIN.o.bd hkp8 (by omega));have HBX8:=aa HBD8.o.box;have hltx:wr.heap.size<W8.heap.size:=lt_of_block HX8.o;have HDY8:=aa (show bO (· <base) W8 (.slice da e.data.length dc) e.data/\gR e from⟨jZ HDY.o.1 (HB8.o.mono hbz),HDY.o.2⟩)
         have ht:Tryz.prog.underlying 119=some (.map 9 46):=Tryz.underlying119;have HTY:=aa ht;clear ht hb8 hkp8;have k0:=ag (k:=0) HBX8.o;have k1:=ag (k:=1) HBX8.o;have k2:=ag (k:=2) HBX8.o;have k3:=ag (k:=3) HBX8.o;have k4:=ag (k:=4) HBX8.o;have k10:=ag (k:=10) HBX8.o;have k11:=ag (k:=11) HBX8.o;have k12:=ag (k:=12) HBX8.o;have k13:=ag (k:=13) HBX8.o
         simp only[gY,bT,cG,List.cons_append,List.nil_append,cr]at k0 k1 k2 k3 k4 k10 k11 k12 k13;clear k0 k1 k2 k3 k4 k10 k12 k13;obtain⟨d0,d1,d2,d3,d4,d5,_⟩:=aj HX8.o;simp only[Nat.zero_add,Nat.reduceAdd]at d1 d2 d3 d4 d5
         cases hf:G.find? (fun g=>decide (g.dir=q))with
         | none=>
          have HF:=aa hf;clear hf;have hnew: ∀p∈G.map iH,p.1≠Value.string q:=by
           intro p hp e9;obtain⟨g9,hg9,rfl⟩:=List.mem_map.1 hp;simp only[iH,Value.string.injEq]at e9;have:=List.find?_eq_none.1 HF.o g9 hg9;simp[e9]at this
          have HNEW:=aa hnew;have HLK:=aa (show ∀W:World,W.heap[base]? =W8.heap[base]? ->(Instr.lookup 119 (.map (some base)) (.string q) false).run Tryz.prog W= .ok (.slice none 0 0) W from fun W hW=>by
           have:=(HGR8.o.map.same hW).is.miss cD HTY.o (show(zeroValue 46).run Tryz.prog W= .ok (.slice none 0 0) W by kernel_rfl) (dh hqs) HNEW.o false
           simpa using this)
          clear hnew;have HNE:=aa (show(Value.slice none 0 0).ownBlock≠some (base+1+1)/\(Value.slice none 0 0).ownBlock≠some wr.heap.size/\(Value.slice none 0 0).ownBlock≠some base from⟨by simp[Value.ownBlock],by simp[Value.ownBlock],by simp[Value.ownBlock]⟩);have HNK:=aa (show(Value.slice none 0 0).ownBlock≠some (base+1) by simp[Value.ownBlock]);have HLOW:=aa (show ∀i,(Value.slice none 0 0).ownBlock=some i->base<=i from fun i hi=>by simp[Value.ownBlock]at hi)
          have HLNB:=aa (show(0:Nat)<1099511627775 by decide);have hlk:=HLK.o W8 rfl;refine bN (fun w'=>w'.cell? ⟨base+1+1,11,none⟩=some (.map (some base))/\(Instr.lookup 119 (.map (some base)) (.string (q)) false).run Tryz.prog w'= .ok (.slice none 0 0) w'/\w'.cell? ⟨wr.heap.size,0,none⟩=some (.string e.path)/\w'.cell? ⟨wr.heap.size,1,none⟩=some (.int .i64 e.kind)/\w'.cell? ⟨wr.heap.size,2,none⟩=some (.int .i64 e.mode)/\w'.cell? ⟨wr.heap.size,3,none⟩=some (.int .i64 e.time)/\w'.cell? ⟨wr.heap.size,4,none⟩=some (.slice da e.data.length dc)/\w'.cell? ⟨wr.heap.size,5,none⟩=some (.string e.link)) (by kernel_rfl) (by kernel_rfl) ?_
          simp only[List.dropLast_cons_cons,List.dropLast_singleton,List.length_cons,List.length_nil,Nat.reduceAdd,Nat.reduceSub];rw[<-hW8];clear hW8
          iterate 12 (refine aJ rfl (by kernel_rfl) (fun _ _ _ h=>h) rfl ⟨k11,hlk,d0,d1,d2,d3,d4,d5⟩ (by rintro w' ⟨hw1,hw2,hw3,hw4,hw5,hw6,hw7,hw8⟩; go_simp; rfl) ?_; simp only[Act.put,aZ,bg,bh])
          have HAL:=aa ((Below.refl W8.heap.size W8).alloc (Nat.le_refl _) (.cells #[.string e.path, .int .i64 e.kind, .int .i64 e.mode, .int .i64 e.time, .slice da e.data.length dc, .string e.link] 79));have hltb:base+1+1<W8.heap.size:=lt_of_block HBX8.o;have hS2:=And.intro ((HAL.o.cell (p:=⟨base+1+1,11,none⟩) hltb).trans k11) (And.intro (HLK.o _ (HAL.o.block base (by omega))) (And.intro ((HAL.o.cell (p:=⟨wr.heap.size,0,none⟩) hltx).trans d0) (And.intro ((HAL.o.cell (p:=⟨wr.heap.size,1,none⟩) hltx).trans d1) (And.intro ((HAL.o.cell (p:=⟨wr.heap.size,2,none⟩) hltx).trans d2) (And.intro ((HAL.o.cell (p:=⟨wr.heap.size,3,none⟩) hltx).trans d3) (And.intro ((HAL.o.cell (p:=⟨wr.heap.size,4,none⟩) hltx).trans d4) ((HAL.o.cell (p:=⟨wr.heap.size,5,none⟩) hltx).trans d5)))))))
          have HS2:=aa hS2;clear hS2;refine an 12 rfl (by kernel_rfl) rfl (fun K hK=> ?_);go_wp2_with fail
          (first | (refine⟨HS2.o, ?_⟩) | skip)
          refine an 13 rfl (by kernel_rfl) rfl (fun K hK=> ?_);have hz8:base<=W8.heap.size:=by omega
          go_wp2_with (at_builtin; go_must (refine aA Tryz.appEnts rfl _ _ rfl base (.slice none 0 0) (0) ([]) rfl W8 [.string e.path, .int .i64 e.kind, .int .i64 e.mode, .int .i64 e.time, .slice da e.data.length dc, .string e.link] _ rfl rfl (fo (e:=e)) ((World.ownsRow_nil _ _ _ _)) HLNB.o hz8 ?_); intro v' wc hown' hgrow' _ hpl; obtain⟨ae,ce,rfl,-,-⟩:=ai hown');have hbxc:=(hgrow'.block (base+1+1) hltb (fun e9=>HNE.o.1 e9.symm)).trans HBX8.o
          have hxc:=(hgrow'.block wr.heap.size hltx (fun e9=>HNE.o.2.1 e9.symm)).trans HX8.o;have hmc:=hgrow'.block base (by omega) (fun e9=>HNE.o.2.2 e9.symm);have hlkc:=HLK.o wc hmc;have HBXC:=aa hbxc;have HXC:=aa hxc;have HMC:=aa hmc;have HOWC:=aa hown';have HGRC:=aa hgrow';have HPLC:=aa hpl;clear hbxc hxc hmc hown' hgrow' hpl hlk k11 d0 d1 d2 d3 d4 d5;obtain⟨d0,d1,d2,d3,d4,d5,_⟩:=aj HXC.o
          simp only[Nat.zero_add,Nat.reduceAdd]at d1 d2 d3 d4 d5;have k11:=ag (k:=11) HBXC.o;simp only[gY,bT,cG,List.cons_append,List.nil_append,cr]at k11;refine⟨⟨k11,hlkc,d0,d1,d2,d3,d4,d5⟩, ?_⟩;refine aM (by kernel_rfl) ?_;refine bX rfl rfl (fun K hK=> ?_);clear k11 hlkc d0 d1 d2 d3 d4 d5;have HMS:=aa (HGR8.o.map.same HMC.o);go_wp2_with (at_mapUpdate; go_must (refine eU cD rfl _ _ _ _ rfl HTY.o base (G.map iH) HMS.o rfl (.string q) (.slice ae (0+1) ce) rfl rfl (dh hqs) HNEW.o ?_); intro w10 hm10 hg10)
          have HG10:=aa hg10;have HGRN:=aa (HGR8.o.new (Nat.le_refl _) hqs (y:=(.slice da e.data.length dc,e)) HDY8.o HOWC.o HGRC.o (fun i hi=>by
           rcases HPLC.o i hi with h9 | h9
           ·simp[Value.ownBlock]at h9
           ·exact h9) hm10 hg10)
          clear hm10 hg10;have hb10:=HIN.o.below.trans ((HB8.o.mono hbz).trans (((Below.refl base W8).grown HGRC.o hz8 (fun i hi=>HLOW.o i hi)).grown HG10.o (Nat.le_trans hz8 HGRC.o.size) (fun i hi=>by cases hi; exact Nat.le_refl _)));have hbd10:=HBD8.o.nilKeep (w':=w10) ((HG10.o.block _ (Nat.lt_of_lt_of_le hltb HGRC.o.size) (fun e9=>by have:=Option.some.inj e9; omega)).trans (HBXC.o.trans HBX8.o.symm)) ((HG10.o.block _ (Nat.lt_of_lt_of_le HBD8.o.known.map.lt HGRC.o.size) (fun e9=>by have:=Option.some.inj e9; omega)).trans (HGRC.o.block _ HBD8.o.known.map.lt (fun e9=>HNK.o e9.symm)))
          go_roundw
          case rel=>
           refine⟨j+1,(G++[⟨q, .slice ae (0+1) ce,[(.slice da e.data.length dc,e)]⟩]),by omega,by go_num,⟨hbd10,HGRN.o,fun d=> ?_,hb10⟩⟩;rw[jg HEA.o];rw[qI (g:=⟨q, .slice ae (0+1) ce,[(.slice da e.data.length dc,e)]⟩) HF.o]
           by_cases hqd:q=d
           ·rw[if_pos hqd,if_pos (show aH (bl e.path)=bl d by rw[<-hqd,HQ.o]; exact(ed _).symm),<-HIN.o.ents d,<-hqd,pd HF.o]
            rfl
           ·rw[if_neg hqd,if_neg (fun h9=>hqd (fE (by rw[HQ.o]; exact(ed _).trans h9))),List.append_nil];exact HIN.o.ents d
          case measure=>simp[intOf]; omega
         | some g=>
          obtain⟨A,B,hAB,hgd,hA⟩: ∃A B,G=A++g::B/\g.dir=q/\ ∀x∈A,x.dir≠q:=by
           have h9:=List.find?_eq_some_iff_append.1 hf;obtain⟨h1,A,B,h2,h3⟩:=h9;exact⟨A,B,h2,by simpa using h1,fun x hx=>by simpa using h3 x hx⟩
          have hent:=jb hf;subst hgd;subst hAB;have HENT:=aa hent;have HA:=aa hA;have hgo:=HGR8.o.own g (by simp);have hgo0:=HIN.o.grp.own g (by simp);obtain⟨ga,gc,hgv,hgn,-⟩:=ai hgo;have hgl:g.ents.length<=4096:=by
           have h1:=HIN.o.ents g.dir;rw[hent]at h1;have h2:=congrArg List.length h1;rw[List.length_map]at h2;rw[h2];have h3:(cU (tree.take j) g.dir).length<=(tree.take j).length:=List.length_filter_le _ _;rw[List.length_take]at h3;have h4:=HTO.o.len;omega
          obtain⟨gl,hgl2⟩: ∃gl,gl=g.ents.length:=⟨_,rfl⟩;have HGL:=aa hgl2;rw[<-hgl2]at hgv hgl;have HLNB:=aa (show gl<1099511627775 by omega);have HGO:=aa (show W8.ownsRow base 79 6 (.slice ga gl gc) gl (dJ g.ents) by rw[<-hgv,hgl2]; exact hgo);have HGV:=aa hgv;have HNE:=aa (show(Value.slice ga gl gc).ownBlock≠some (base+1+1)/\(Value.slice ga gl gc).ownBlock≠some wr.heap.size/\(Value.slice ga gl gc).ownBlock≠some base from by
           rw[<-hgv];refine⟨fun e9=> ?_,fun e9=> ?_,fun e9=> ?_⟩
           ·obtain⟨cs2,hc2⟩:=au hgo e9;exact absurd (aC HBX8.o hc2) (by decide)
           ·have:=(hgo0.lt _ e9).2;omega
           ·obtain⟨cs2,hc2⟩:=au hgo e9;exact HGR8.o.map.ncells hc2)
          have HNK:=aa (show(Value.slice ga gl gc).ownBlock≠some (base+1)from by
           rw[<-hgv];intro e9;obtain⟨cs2,hc2⟩:=au hgo e9;exact HBD8.o.known.cells hc2)
          have HLOW:=aa (show ∀i,(Value.slice ga gl gc).ownBlock=some i->base<=i from fun i hi=>by
           rw[<-hgv]at hi;exact(hgo.lt i hi).1)
          have HLK:=aa (show ∀W:World,W.heap[base]? =W8.heap[base]? ->(Instr.lookup 119 (.map (some base)) (.string g.dir) false).run Tryz.prog W= .ok (.slice ga gl gc) W from fun W hW=>by
           have:=(HGR8.o.map.same hW).is.hit cD HTY.o (dh hqs) (val:=g.val) (List.mem_map.2 ⟨g,by simp,rfl⟩) false;rw[hgv]at this
           simpa using this)
          clear hf hent hA hgo hgo0 hgv hgl2;have hlk:=HLK.o W8 rfl;refine bN (fun w'=>w'.cell? ⟨base+1+1,11,none⟩=some (.map (some base))/\(Instr.lookup 119 (.map (some base)) (.string (g.dir)) false).run Tryz.prog w'= .ok (.slice ga gl gc) w'/\w'.cell? ⟨wr.heap.size,0,none⟩=some (.string e.path)/\w'.cell? ⟨wr.heap.size,1,none⟩=some (.int .i64 e.kind)/\w'.cell? ⟨wr.heap.size,2,none⟩=some (.int .i64 e.mode)/\w'.cell? ⟨wr.heap.size,3,none⟩=some (.int .i64 e.time)/\w'.cell? ⟨wr.heap.size,4,none⟩=some (.slice da e.data.length dc)/\w'.cell? ⟨wr.heap.size,5,none⟩=some (.string e.link)) (by kernel_rfl) (by kernel_rfl) ?_
          simp only[List.dropLast_cons_cons,List.dropLast_singleton,List.length_cons,List.length_nil,Nat.reduceAdd,Nat.reduceSub];rw[<-hW8];clear hW8
          iterate 12 (refine aJ rfl (by kernel_rfl) (fun _ _ _ h=>h) rfl ⟨k11,hlk,d0,d1,d2,d3,d4,d5⟩ (by rintro w' ⟨hw1,hw2,hw3,hw4,hw5,hw6,hw7,hw8⟩; go_simp; rfl) ?_; simp only[Act.put,aZ,bg,bh])
          have HAL:=aa ((Below.refl W8.heap.size W8).alloc (Nat.le_refl _) (.cells #[.string e.path, .int .i64 e.kind, .int .i64 e.mode, .int .i64 e.time, .slice da e.data.length dc, .string e.link] 79));have hltb:base+1+1<W8.heap.size:=lt_of_block HBX8.o;have hS2:=And.intro ((HAL.o.cell (p:=⟨base+1+1,11,none⟩) hltb).trans k11) (And.intro (HLK.o _ (HAL.o.block base (by omega))) (And.intro ((HAL.o.cell (p:=⟨wr.heap.size,0,none⟩) hltx).trans d0) (And.intro ((HAL.o.cell (p:=⟨wr.heap.size,1,none⟩) hltx).trans d1) (And.intro ((HAL.o.cell (p:=⟨wr.heap.size,2,none⟩) hltx).trans d2) (And.intro ((HAL.o.cell (p:=⟨wr.heap.size,3,none⟩) hltx).trans d3) (And.intro ((HAL.o.cell (p:=⟨wr.heap.size,4,none⟩) hltx).trans d4) ((HAL.o.cell (p:=⟨wr.heap.size,5,none⟩) hltx).trans d5)))))))
          have HS2:=aa hS2;clear hS2;refine an 12 rfl (by kernel_rfl) rfl (fun K hK=> ?_);go_wp2_with fail
          (first | (refine⟨HS2.o, ?_⟩) | skip)
          refine an 13 rfl (by kernel_rfl) rfl (fun K hK=> ?_);have hz8:base<=W8.heap.size:=by omega
          go_wp2_with (at_builtin; go_must (refine aA Tryz.appEnts rfl _ _ rfl base (.slice ga gl gc) (gl) ((dJ g.ents)) rfl W8 [.string e.path, .int .i64 e.kind, .int .i64 e.mode, .int .i64 e.time, .slice da e.data.length dc, .string e.link] _ rfl rfl (fo (e:=e)) (HGO.o) HLNB.o hz8 ?_); intro v' wc hown' hgrow' _ hpl; obtain⟨ae,ce,rfl,-,-⟩:=ai hown');have hbxc:=(hgrow'.block (base+1+1) hltb (fun e9=>HNE.o.1 e9.symm)).trans HBX8.o
          have hxc:=(hgrow'.block wr.heap.size hltx (fun e9=>HNE.o.2.1 e9.symm)).trans HX8.o;have hmc:=hgrow'.block base (by omega) (fun e9=>HNE.o.2.2 e9.symm);have hlkc:=HLK.o wc hmc;have HBXC:=aa hbxc;have HXC:=aa hxc;have HMC:=aa hmc;have HOWC:=aa hown';have HGRC:=aa hgrow';have HPLC:=aa hpl;clear hbxc hxc hmc hown' hgrow' hpl hlk k11 d0 d1 d2 d3 d4 d5;obtain⟨d0,d1,d2,d3,d4,d5,_⟩:=aj HXC.o
          simp only[Nat.zero_add,Nat.reduceAdd]at d1 d2 d3 d4 d5;have k11:=ag (k:=11) HBXC.o;simp only[gY,bT,cG,List.cons_append,List.nil_append,cr]at k11;refine⟨⟨k11,hlkc,d0,d1,d2,d3,d4,d5⟩, ?_⟩;refine aM (by kernel_rfl) ?_;refine bX rfl rfl (fun K hK=> ?_);clear k11 hlkc d0 d1 d2 d3 d4 d5;have HMS:=aa (show dw Tryz.prog 9 wc base (A.map iH++(.string g.dir,g.val)::B.map iH)from by
           have:=HGR8.o.map.same HMC.o
           simpa [iH]using this)
          go_wp2_with (at_mapUpdate; go_must (refine kD cD rfl _ _ _ _ rfl HTY.o base (A.map iH) (B.map iH) (.string g.dir) (.slice ae (gl+1) ce) g.val HMS.o rfl rfl rfl ?_); intro w10 hm10 hg10);have HG10:=aa hg10;have HGRN:=aa (HGR8.o.over (Nat.le_refl _) (y:=(.slice da e.data.length dc,e)) HDY8.o (by rw[<-HGL.o]; exact HOWC.o) (by rw[HGV.o]; exact HGRC.o) (by rw[HGV.o]; exact HPLC.o) hm10 hg10)
          clear hm10 hg10;have hb10:=HIN.o.below.trans ((HB8.o.mono hbz).trans (((Below.refl base W8).grown HGRC.o hz8 (fun i hi=>HLOW.o i hi)).grown HG10.o (Nat.le_trans hz8 HGRC.o.size) (fun i hi=>by cases hi; exact Nat.le_refl _)));have hbd10:=HBD8.o.nilKeep (w':=w10) ((HG10.o.block _ (Nat.lt_of_lt_of_le hltb HGRC.o.size) (fun e9=>by have:=Option.some.inj e9; omega)).trans (HBXC.o.trans HBX8.o.symm)) ((HG10.o.block _ (Nat.lt_of_lt_of_le HBD8.o.known.map.lt HGRC.o.size) (fun e9=>by have:=Option.some.inj e9; omega)).trans (HGRC.o.block _ HBD8.o.known.map.lt (fun e9=>HNK.o e9.symm)))
          go_roundw
          case rel=>
           refine⟨j+1,(A++⟨g.dir, .slice ae (gl+1) ce,g.ents++[(.slice da e.data.length dc,e)]⟩::B),by omega,by go_num,⟨hbd10,HGRN.o,fun d=> ?_,hb10⟩⟩;rw[jg HEA.o];rw[pf (A:=A) (B:=B) (g:=g) (g':=(⟨g.dir, .slice ae (gl+1) ce,g.ents++[((Value.slice da e.data.length dc,e):jX)]⟩:vL)) rfl HA.o d]
           by_cases hqd:g.dir=d
           ·rw[if_pos hqd,if_pos (show aH (bl e.path)=bl d by rw[<-hqd,HQ.o]; exact(ed _).symm),<-HIN.o.ents d,<-hqd,HENT.o,List.map_append]
            rfl
           ·rw[if_neg hqd,if_neg (fun h9=>hqd (fE (by rw[HQ.o]; exact(ed _).trans h9))),List.append_nil];exact HIN.o.ents d
          case measure=>simp[intOf]; omega
        ·have hk2:j=n:=by omega
         have hgl:yL wr base base tree:=⟨G,HIN.o.grp,fun d=>by have:=HIN.o.ents d; rwa [show tree.take j=tree by rw[hk2,HN.o,List.take_length]]at this⟩;have hbz:base<=wr.heap.size:=by have h1:=HIN.o.grp.map.lt; omega
         have h7:7<=base:=Nat.le_trans HE.o.seven hwb;have hgok: ∀p∈gs,0<=p.2/\p.2<=1099511627776:=fun p hp=>by have:=List.all_eq_true.1 HALL.o p hp; simpa using this
         have hX:Ec base (base+1+1) (base+1) base k c gs tree (BX k gs c tree):=⟨HKV.o,HCV.o,hsd,hgok,by omega,by omega,h7,by omega,HTO.o.val,HTO.o.len,AU HCV.o HTO.o.len HTO.o.val,AV,AW⟩;have hbw:Below w.heap.size w wr:=HB4.o.trans (HIN.o.below.mono hwb);have hgw:dO (· <base) wr (.map (some gb)) gs:=by
          rcases HG.o with⟨h1,h2⟩ | ⟨gb9,h1,_,h3⟩
          ·exact .inl ⟨h1,h2⟩
          ·exact .inr ⟨gb9,h1,Nat.lt_of_lt_of_le h3.lt hwb,h3.same (hbw.block _ h3.lt)⟩
         have hdr:=vm hX 514 (Nat.le_refl _) ⟨#[]⟩ (.slice none 0 0) [] wr (by show 514<=0+514; omega) (.inl rfl) HIN.o.bd hgw hgl (by intro b hb; simp at hb) (HE.o.keep hbw HE.o.seven) hbz;unfold uL at hdr;clear hgl hX hgw
         cases hdp:cO k gs c tree 514 ⟨#[]⟩with
         | error x9=>
          rw[hdp]at hdr;have HM3:=aa (show cj k c tree gs= .error x9 by rw[HM2.o,hdp]);have HDR:=aa hdr;clear hdr hdp;go_wp2_with fail;refine HDR.o.mono ?_;rintro e' w5 ⟨rfl,hx9,v5,bs5,hbd5,hkp5⟩;have HB5:=aa (hbw.trans (hkp5.below.mono hwb));have HR5:=aa ((hkp5.below.block (w.heap.size+2) hne2).trans ((HIN.o.below.block (w.heap.size+2) hne2).trans HR4.o));have HX9:=aa hx9
          have e4:(x9 != 0)=true:=by simp[hx9]
          clear hx9 hbd5 hkp5 hbw
          go_upto_region 20 with(fail)
          obtain⟨W6,hW6⟩: ∃W6:World,W6=w5.alloc (.cells #[.string ⟨#[]⟩, .int .i64 0, .int .i64 0] 26):=⟨_,rfl⟩;rw[<-hW6];have hb6:Below w5.heap.size w5 W6:=by rw[hW6]; exact bH
          have HB6:=aa (ab HB5.o hb6);have HR6:=aa (br hb6 HR5.o);clear hb6 hW6;obtain⟨z0,z1,z2,_⟩:=aj HR6.o;simp only[Nat.zero_add,Nat.reduceAdd]at z1 z2;have y0:=ah (k:=0) HR6.o;have y1:=ah (k:=1) HR6.o;have y2:=ah (k:=2) HR6.o;go_wp2_with fail;refine eA HR6.o rfl rfl rfl rfl ⟨bL HB6.o (by show w.heap.size<=w.heap.size+2; omega), ?_⟩
          rw[HM3.o];exact⟨rfl,HX9.o⟩
         | ok p=>
          rw[hdp]at hdr
          dsimp only at hdr
          have HM3:=aa (show cj k c tree gs= .ok (aE k gs p.1,bP k gs p.2 []) by rw[HM2.o,hdp]);obtain⟨r,hr⟩: ∃r,r=aE k gs p.1:=⟨_,rfl⟩;rw[<-hr]at hdr;have HRE:=aa hr;have HDR:=aa hdr;unfold bU at HDR;clear hdr hdp hr;go_wp2_with fail;refine HDR.o.mono ?_;rintro e' w5 ⟨rfl,-,v5,hbd5,hkp5⟩;have HB5:=aa (hbw.trans (hkp5.below.mono hwb));have HR5:=aa ((hkp5.below.block (w.heap.size+2) hne2).trans ((HIN.o.below.block (w.heap.size+2) hne2).trans HR4.o))
          have HBD5:=aa hbd5;clear hbd5 hkp5 hbw
          go_upto_region 22 with(fail)
          obtain⟨W6,hW6⟩: ∃W6:World,W6=(w5.alloc (.cells #[.string r.name, .int .i64 r.gen, .int .i64 r.size] 26)).drew:=⟨_,rfl⟩;have hb6:Below w5.heap.size w5 W6:=by rw[hW6]; exact(bH).drew
          have HB6:=aa (ab HB5.o hb6);have HR6:=aa (br hb6 HR5.o);have HF6:=aa (show W6.heap[w5.heap.size]? =some (.cells #[.string r.name, .int .i64 r.gen, .int .i64 r.size] 26 (0,0)) by rw[hW6]; exact bz w5 _);have HBD6:=aa (HBD5.o.below hb6);obtain⟨zs,hzs,hbo⟩:=HBD6.o.own;obtain⟨va,vc,hv6,-,-⟩:=ai hbo.row;subst hv6;have HZS:=aa hzs;have HBO:=aa hbo
          have HBX6:=aa HBD6.o.box;clear hb6 hzs hbo;have k12:=ag (k:=12) HBX6.o;have f0:=ag (k:=0) HF6.o;have f1:=ag (k:=1) HF6.o;have f2:=ag (k:=2) HF6.o;simp only[gY,bT,cG,List.cons_append,List.nil_append,cr]at k12 f0 f1 f2;obtain⟨z0,z1,z2,_⟩:=aj HR6.o;simp only[Nat.zero_add,Nat.reduceAdd]at z1 z2;have y0:=ah (k:=0) HR6.o;have y1:=ah (k:=1) HR6.o
          have y2:=ah (k:=2) HR6.o;refine bE (fun w'=>w'.cell? ⟨base+1+1,12,none⟩=some (.slice va zs.length vc)/\w'.cell? ⟨w5.heap.size,0,none⟩=some (.string r.name)/\w'.cell? ⟨w5.heap.size,1,none⟩=some (.int .i64 r.gen)/\w'.cell? ⟨w5.heap.size,2,none⟩=some (.int .i64 r.size)) (by kernel_rfl) ?_;rw[<-hW6];clear hW6
          iterate 5 (refine aJ rfl (by kernel_rfl) (fun _ _ _ h=>h) rfl ⟨k12,f0,f1,f2⟩ (by rintro w' ⟨hw1,hw2,hw3,hw4⟩; go_simp; rfl) ?_; simp only[Act.put,aZ,bg,bh])
          refine an 5 rfl (by kernel_rfl) rfl (fun K hK=> ?_);have hw5:w.heap.size+1+1<w5.heap.size:=lt_of_block HR5.o;have hbwb:base+1+1≠w.heap.size+1+1:=by omega
          have hwfb:w5.heap.size≠w.heap.size+1+1:=by omega
          have hS2:=fun(u0 u1 u2:Value)=>And.intro ((World.cell?_of_block (a:=⟨base+1+1,12,none⟩) (aY (w:=W6) (x0:=u0) (x1:=u1) (x2:=u2) hbwb)).trans k12) (And.intro ((World.cell?_of_block (a:=⟨w5.heap.size,0,none⟩) (aY (w:=W6) (x0:=u0) (x1:=u1) (x2:=u2) hwfb)).trans f0) (And.intro ((World.cell?_of_block (a:=⟨w5.heap.size,1,none⟩) (aY (w:=W6) (x0:=u0) (x1:=u1) (x2:=u2) hwfb)).trans f1) ((World.cell?_of_block (a:=⟨w5.heap.size,2,none⟩) (aY (w:=W6) (x0:=u0) (x1:=u1) (x2:=u2) hwfb)).trans f2)))
          have HS2:=aa hS2;clear hS2 k12 f0 f1 f2;go_wp2_with fail;refine⟨HS2.o _ _ _, ?_⟩
          iterate 2 (refine aJ rfl (by kernel_rfl) (fun _ _ _ h=>h) rfl (HS2.o _ _ _) (by rintro w' ⟨hw1,hw2,hw3,hw4⟩; go_simp; rfl) ?_; simp only[Act.put,aZ,bg,bh])
          refine aM (by kernel_rfl) ?_;go_wp2_with fail;refine eA HR6.o rfl rfl rfl rfl ⟨bL HB6.o (by show w.heap.size<=w.heap.size+2; omega), ?_⟩;rw[HM3.o];refine⟨_,zs,by rw[<-HRE.o]; rfl,HZS.o,HBO.o.other HR6.o (by decide) (by decide) hwb (fun i hi=>aY hi)⟩
      ·have e1:(x != 0)=true:=by simp[hx0]
       have HX0:=aa hx0;clear hx0;obtain⟨z0,z1,z2,_⟩:=aj HR4.o;simp only[Nat.zero_add,Nat.reduceAdd]at z1 z2;have y0:=ah (k:=0) HR4.o;have y1:=ah (k:=1) HR4.o;have y2:=ah (k:=2) HR4.o;go_wp2_with fail;refine eA HR4.o rfl rfl rfl rfl ⟨bL HB4.o (by show w.heap.size<=w.heap.size+2; omega), ?_⟩;rw[HM1.o,if_neg (by rw[HCX2.o]; exact HX0.o)]
       rw[HCX2.o];exact⟨rfl,HX0.o⟩
     ·intro key v1 w1' a0 e0 hmem hxe hnew hrg1 hg1 hs1 hen;simp only[mH,Prod.mk.injEq]at hxe;obtain⟨rfl,rfl⟩:=hxe;have HMEM:=aa hmem;have HRG1:=aa hrg1;have hr9w:w2.heap.size<=r9:=by have:=HR9.o; omega
      have hb21:Below w2.heap.size w2 w1':=HB2R.o.grown hg1 HB2R.o.size (fun i hi=>by cases hi; exact hr9w);have HB21:=aa hb21;have hlt9:wr.rangeLeft gb r9=(gs.map mH).length-vis.length:=by have:=HRG.o.left; omega
      have hlt91:w1'.rangeLeft gb r9+(vis++[(Value.string a0,Value.int .i64 e0)]).length=(gs.map mH).length:=hrg1.left;have HLT:=aa (show w1'.rangeLeft gb r9<wr.rangeLeft gb r9 by
       have h1:=HRG.o.left;rw[List.length_append,List.length_singleton]at hlt91
       omega)
      clear hmem hnew hrg1 hg1 hs1 hb21 hlt9 hlt91
      by_cases hok:0<=e0/\e0<=1099511627776
      ·obtain⟨ho1,ho2⟩:=hok;have HO:=aa (And.intro ho1 ho2);go_wp2_with fail
       go_roundw
       case rel=>
        refine⟨_,HRG1.o,fun p hp=> ?_,HB21.o⟩
        rcases List.mem_append.1 hp with hp | hp
        ·exact HVIS.o p hp
        ·rw[List.mem_singleton]at hp;subst hp;exact⟨e0,rfl,HO.o.1,HO.o.2⟩
       case measure=>exact HLT.o
      ·have HNO:=aa (show cj k c tree gs= .error 1 by
        rw[HM0.o,if_neg];intro h9;have:=List.all_eq_true.1 h9 _ HMEM.o;simp only[Bool.and_eq_true,decide_eq_true_eq]at this;exact hok this)
       have HR5:=aa (br HB21.o HR2.o);have HB5:=aa (ab HB2.o HB21.o);obtain⟨z0,z1,z2,_⟩:=aj HR5.o;simp only[Nat.zero_add,Nat.reduceAdd]at z1 z2;have y0:=ah (k:=0) HR5.o;have y1:=ah (k:=1) HR5.o;have y2:=ah (k:=2) HR5.o
       by_cases hneg:e0<0
       ·clear hok;go_wp2_with fail;refine eA HR5.o rfl rfl rfl rfl ⟨bL HB5.o (by show w.heap.size<=w.heap.size+2; omega), ?_⟩;rw[HNO.o];exact⟨rfl,by decide⟩
       ·have hbig:1099511627776<e0:=by omega
        clear hok;go_wp2_with fail;refine eA HR5.o rfl rfl rfl rfl ⟨bL HB5.o (by show w.heap.size<=w.heap.size+2; omega), ?_⟩;rw[HNO.o];exact⟨rfl,by decide⟩
theorem pX {W:World} {b n sz:Nat} {cells:List Value} {t:TypeId} (h:W.heap[b]? =some (.cells cells.toArray t (0,0))) (hl:cells.length=n*sz) (hn:n<=maxLen):aL (fun k=>k=b) W sz (.slice (some ⟨b,0,none⟩) n n) n cells:=
 ⟨hl,some ⟨b,0,none⟩,n,rfl,Nat.le_refl _,hn, .inr ⟨b,0,rfl,rfl,fun j u hj=>by rw[aB h,Nat.zero_add,List.getElem?_toArray]; exact hj⟩⟩
theorem dg {S:Nat->Prop} {w:World} {v:Value} {bs:List UInt8} (h:ar S w v bs):(convert 29 9 v).run Tryz.prog w= .ok (.string ⟨bs.toArray⟩) w:=by
 have h1:=Cm (S:=S) (w:=w) (v:=v) (bs:=bs) h;rw[rP]at h1;exact h1
theorem EH (w:World) (c:UInt8):(convert 29 9 (.slice (some ⟨w.heap.size,0,none⟩) 1 1)).run Tryz.prog (w.alloc (.cells #[.int .u8 (c.toNat:Int)] 5))= .ok (.string ⟨#[c]⟩) (w.alloc (.cells #[.int .u8 (c.toNat:Int)] 5)):=by
 have h:=dg (S:=fun _=>True) (bs:=[c]) (w:=w.alloc (.cells #[.int .u8 (c.toNat:Int)] 5)) (v:= .slice (some ⟨w.heap.size,0,none⟩) 1 1) ((pX (cells:=[ak c]) (heap_alloc_new w _) rfl (by decide)).weak (fun _ _=>trivial));exact h
theorem nx (c:UInt8) (w:World):Calls Tryz.prog 93 #[.int .u8 (c.toNat:Int)] w fun e w'=>e= .returned (.string (qT c))/\Below w.heap.size w w':=by
 have hcv:=EH w c
 go_enter Tryz.func93,Tryz.ntmps93
 go_wp2_with fail;go_ret;refine⟨?_,bH⟩
 rfl
theorem xk (w:World):Calls Tryz.prog 33 #[] w fun e w'=>e= .returned (dW dL)/\Below w.heap.size w w':=by
 have HBK:=aa ((Below.refl w.heap.size w).alloc (Nat.le_refl _) (.cells #[.string ⟨#[]⟩, .string ⟨#[]⟩, .string ⟨#[]⟩, .string ⟨#[]⟩, .string ⟨#[]⟩] 42));have HXK:=aa (bz w (.cells #[.string ⟨#[]⟩, .string ⟨#[]⟩, .string ⟨#[]⟩, .string ⟨#[]⟩, .string ⟨#[]⟩] 42))
 go_enter Tryz.func33,Tryz.ntmps33
 go_wp2_with fail;refine(nx 110 _).mono ?_;rintro e wk ⟨rfl,hbk⟩;have HBQ:=aa (ab HBK.o hbk);have HXQ:=aa (br hbk HXK.o);clear hbk HBK HXK;have HBK:=HBQ;have HXK:=HXQ;clear HBQ HXQ;go_wp2_with fail;refine(nx 115 _).mono ?_;rintro e wk ⟨rfl,hbk⟩;have HBQ:=aa (ab HBK.o hbk);have HXQ:=aa (br hbk HXK.o);clear hbk HBK HXK;have HBK:=HBQ;have HXK:=HXQ;clear HBQ HXQ
 go_wp2_with fail;refine(nx 99 _).mono ?_;rintro e wk ⟨rfl,hbk⟩;have HBQ:=aa (ab HBK.o hbk);have HXQ:=aa (br hbk HXK.o);clear hbk HBK HXK;have HBK:=HBQ;have HXK:=HXQ;clear HBQ HXQ;go_wp2_with fail;refine(nx 105 _).mono ?_;rintro e wk ⟨rfl,hbk⟩;have HBQ:=aa (ab HBK.o hbk);have HXQ:=aa (br hbk HXK.o);clear hbk HBK HXK;have HBK:=HBQ;have HXK:=HXQ;clear HBQ HXQ
 go_wp2_with fail;refine(nx 116 _).mono ?_;rintro e wk ⟨rfl,hbk⟩;have HBQ:=aa (ab HBK.o hbk);have hx:=br hbk HXK.o;obtain⟨c0,c1,c2,c3,c4,_⟩:=aj hx;simp only[Nat.zero_add,Nat.reduceAdd]at c1 c2 c3 c4;have f0:=ah (k:=0) hx;have f1:=ah (k:=1) hx;have f2:=ah (k:=2) hx;have f3:=ah (k:=3) hx;have f4:=ah (k:=4) hx;have h5:=dD (k:=4) (dD (k:=3) (dD (k:=2) (dD (k:=1) (dD (k:=0) hx (.string (qT 110))) (.string (qT 115))) (.string (qT 99))) (.string (qT 105))) (.string (qT 116))
 simp only[List.setIfInBounds_toArray,List.set_cons_succ,List.set_cons_zero]at h5;have H5:=aa h5;clear hbk hx h5;go_wp2_with fail;obtain⟨m0,m1,m2,m3,m4,_⟩:=aj H5.o;simp only[Nat.zero_add,Nat.reduceAdd]at m1 m2 m3 m4;refine bodyPost_ret (v:=dW dL) (by simp[results,Tryz.results33,go_sem,m0,m1,m2,m3,m4]; rfl) rfl ⟨rfl, ?_⟩;have hb:w.heap.size<=w.heap.size:=Nat.le_refl _
 exact Below.setCell (Below.setCell (Below.setCell (Below.setCell (Below.setCell HBQ.o hb _) hb _) hb _) hb _) hb _
theorem oZ (w:World):Calls Tryz.prog 34 #[] w fun e w'=>e= .returned (dB kU)/\Below w.heap.size w w':=by
 have hx:=bz w (.cells #[.int .i64 2, .int .i64 6, .int .i64 1, .int .i64 1, .int .u64 0] 45);obtain⟨m0,m1,m2,m3,m4,_⟩:=aj hx;simp only[Nat.zero_add,Nat.reduceAdd]at m1 m2 m3 m4;have M:=aa (And.intro m0 (And.intro m1 (And.intro m2 (And.intro m3 m4))));clear hx m0 m1 m2 m3 m4
 go_enter Tryz.func34,Tryz.ntmps34
 go_wp2_with fail;obtain⟨m0,m1,m2,m3,m4⟩:=M.o;exact bodyPost_ret (v:=dB kU) (by simp[results,Tryz.results34,go_sem,m0,m1,m2,m3,m4]; rfl) rfl ⟨rfl,bH⟩
end Go.Proofs.YtpffpjbkbaleiaaGreatDoor
namespace Go.Proofs.YtpffpjbkbaleiaaGreatDoor
open Go Go.RowKit
def lW :Array Value:=(kA.list.map bY).toArray
theorem Gd :Tryz.prog.built 216 ((kA.list.map bY).zipIdx.map fun p=>(p.2,p.1))=some lW:=by kernel_rfl
section
variable {P : Program} {ops : Array Oper} {Q : Exit → Act → World → Prop} {S : World → Prop}
theorem Cx {dst:Option Tmp} {op:Op} {ty:TypeId} {pos:String} {aft:Array Edge} {g:Option (Nat×Bool)} {v:Value} {fuel:Nat} {listed:Array Bool} {a:Act} {w:World} (i:Nat) (hi:ops[i]? =some ⟨dst,op,ty,pos,aft,g⟩)
  (hs:Region.noSelect ops=true) (hf:Region.free .any ops listed i=true) (hr:(Region.ready .any ops listed).contains i=true)
  (hQ: ∀c a w,Q (.panic c) (a.put dst v) w->Q (.panic c) a w) (hY:YieldsIf P ops S ⟨dst,op,ty,pos,aft,g⟩ v a) (hS:S w)
  (h:lI P ops Q S fuel (listed.setIfInBounds i true) (a.put dst v) w):lI P ops Q S (fuel+1) listed a w:=
 lI.of (wpAnyH_take (oi:=⟨dst,op,ty,pos,aft,g⟩) hi hs hf hr hQ hY hS h.out)
end
theorem yS {S:Nat->Prop} {w:World} {a:Option Addr} {n cap:Nat} {bs:List UInt8} (h:ar S w (.slice a n cap) bs) (h0:0<bs.length): ∃b o,a=some ⟨b,o,none⟩/\n=bs.length/\n<=cap/\cap<=maxLen/\ ∀j x,bs[j]? =some x->w.cell? ⟨b,o+j,none⟩=some (u8W x):=by
 obtain⟨hl,a0,cap0,hv,hn,hm,h1⟩:=h
 cases hv
 rcases h1 with h1 | ⟨b,o,rfl,hS,hc⟩
 ·omega
 ·exact⟨b,o,rfl,rfl,hn,hm,fun j x hj=>hc j _ (by rw[List.getElem?_map,hj]; rfl)⟩
theorem yr (S:Nat->Prop) (v:Value) (data:List UInt8) (w:World) (hv:ar S w v data) (hl:data.length<549755813888):
  Calls Tryz.prog 206 #[v] w fun e w'=>e= .returned (.string ⟨(kw data).toArray⟩)/\Below w.heap.size w w':=by
 obtain⟨W0,hW0⟩: ∃W0:World,W0=(w.alloc (.cells (List.replicate 8 (bY 0)).toArray 216)).setRow w.heap.size lW:=⟨_,rfl⟩;have HB0:=aa (show Below w.heap.size w W0 by rw[hW0]; exact below_setRow (bH) (Nat.le_refl _) _);have HH0:=aa (show W0.heap[w.heap.size]? =some (.cells lW 216 (0,0)) by rw[hW0]; exact setRow_heap _ _ _ _ _ _ (heap_alloc_new w _));have HV:=aa hv
 clear hv
 go_enter Tryz.func206,Tryz.ntmps206
 go_upto_region 2 with(first | (refine dk rfl 216 _ rfl ((kA.list.map bY).zipIdx.map fun p=>(p.2,p.1)) (by kernel_rfl) lW Gd ?_) | (refine wpList_store_row rfl 216 _ _ rfl w.heap.size lW rfl rfl _ _ (heap_alloc_new w _) (by kernel_rfl) (by kernel_rfl) (by kernel_rfl) ?_) | fail)
 change Code.wp _ _ _ _ ((w.alloc (.cells (List.replicate 8 (bY 0)).toArray 216)).setRow w.heap.size lW)
 rw[<-hW0];clear hW0;go_wp2_with fail;refine(Ft S v data W0 (aL.below HV.o (by omega) HB0.o) hl).mono ?_;rintro e w1 ⟨a,c,rfl,ho,hb1⟩;have HO:=aa ho;have HB1:=aa (ab HB0.o hb1);have HH1:=aa (br hb1 HH0.o);obtain⟨p,hp⟩: ∃p,p=data++jO data.length:=⟨_,rfl⟩;rw[<-hp]at HO ⊢;have HP:=aa hp;have hp64:p.length%64=0:=by rw[hp]; exact Dc data
 have hpl:p.length<1099511627775:=by rw[hp,List.length_append,rr]; unfold dl; omega
 obtain⟨q,hq⟩: ∃q,q=p.length/64:=⟨_,rfl⟩;obtain⟨n,hn⟩: ∃n,n=p.length:=⟨_,rfl⟩;rw[<-hn]at HO hp64 hpl hq ⊢;have HN:=aa hn;have HQ:=aa hq;clear ho hb1 hp hn;have HRN0:=aa (show fI w.heap.size w1 w1 (er p 0)from⟨HH1.o,⟨rfl,rfl,rfl,Nat.le_refl _,fun _ _ _=>rfl⟩⟩);go_wp2_with fail
 go_loopw [5] (fun i wr=> ∃k:Nat,k<=q/\i= .int .i64 (((64*k:Nat):Int))/\fI w.heap.size w1 wr (er p k)) (fun i _=>64*q-(intOf i).toNat)
 case atStart=>exact⟨0,by omega,rfl,HRN0.o⟩
 case round=>
  obtain⟨k,hk,rfl,hrn⟩:=hrel;have HRN:=aa hrn;clear hrn;obtain⟨j,hj⟩: ∃j,j=64*k:=⟨_,rfl⟩;rw[<-hj];have HJ:=aa hj
  by_cases hkq:k<q
  ·have hjn:j+64<=n:=by omega
   have hlt:(j:Int)<n:=by omega
   obtain⟨j2,hj2⟩: ∃j2,j2=j+64:=⟨_,rfl⟩;have HJ2:=aa hj2;have hw64:IntKind.i64.wrap ((j:Int)+64)=(j2:Int):=by rw[IntKind.wrap_i64]; omega
   have hrow:ar (fun _=>True) wr (.slice a n c) p:=by
    have h1:=aO HO.o;exact(aL.same h1 (fun i hS=>HRN.o.grown.block i (HO.o.lt i hS.2).2 (fun e=>by cases e; have:=lt_of_block HH0.o; have:=hS.1; omega))).weak (fun _ _=>trivial)
   obtain⟨a3,c3,hsl,hr3⟩:=lU hrow (show j<j2 by omega) (by rw[<-HN.o]; omega);have hpc:dy p j j2=(p.drop (64*k)).take 64:=by unfold dy; rw[HJ2.o,Nat.add_sub_cancel_left,HJ.o]
   have hpl:((p.drop (64*k)).take 64).length=64:=by rw[List.length_take,List.length_drop,<-HN.o]; omega
   rw[hpc]at hr3 hsl;obtain⟨bk,o3,rfl,hl3,hc3,hm3,hcell⟩:=yS hr3 (by rw[hpl]; decide);rw[hpl]at hr3 hsl hc3;clear hj hj2;have HBC:=aa hcell;obtain⟨V,hV⟩: ∃V,V=er p k:=⟨_,rfl⟩;rw[<-hV]at HRN;have HVV:=aa hV;have HVO:=aa (show V.Ok by rw[hV]; exact ni p k);obtain⟨W6,hW6⟩: ∃W6,W6=wr.drew:=⟨_,rfl⟩;have HRN6:=aa (show fI w.heap.size w1 W6 V by rw[hW6]; exact HRN.o.next ((Below.refl _ _).drew))
   have HCELL:=aa (show ∀i x,((p.drop (64*k)).take 64)[i]? =some x->W6.cell? ⟨bk,o3+i,none⟩=some (u8W x) by rw[hW6]; exact hcell);have HI8:=aa (show(Tryz.prog.info? 216).map (·.size)=some (V.list.map bY).length by kernel_rfl);have HIA:=aa (show(Tryz.prog.info? 216).map (·.size)=some (V.list.map bY).toArray.size by kernel_rfl);clear hV hrow hr3 hcell hpc
   go_upto_region 6 with(fail)
   refine bN (fun w'=>w'.heap[w.heap.size]? =some (.cells (V.list.map bY).toArray 216 (0,0))) (by kernel_rfl) (by kernel_rfl) ?_;simp only[List.dropLast_cons_cons,List.dropLast_singleton,List.length_cons,List.length_nil,Nat.reduceAdd,Nat.reduceSub];rw[<-hW6];clear hW6;refine Cx 0 rfl (by kernel_rfl) (by kernel_rfl) (by kernel_rfl) (fun _ _ _ h=>h) (yieldsIf_load_mid rfl 216 _ rfl w.heap.size 0 rfl (V.list.map bY) _ (fun w' hw'=>gz hw') Tryz.underlying216 rfl HI8.o) HRN6.o.box ?_
   simp only[Act.put,aZ,bg,bh];refine ay 1 rfl (by kernel_rfl) (by kernel_rfl) (by kernel_rfl) (fun _ _ _ h=>h) rfl HRN6.o.box (by intro w' hw'; go_simp; rfl) ?_;simp only[Act.put,aZ,bg,bh];refine ay 2 rfl (by kernel_rfl) (by kernel_rfl) (by kernel_rfl) (fun _ _ _ h=>h) rfl HRN6.o.box (by intro w' hw'; go_simp; rfl) ?_;simp only[Act.put,aZ,bg,bh];refine ay 3 rfl (by kernel_rfl) (by kernel_rfl) (by kernel_rfl) (fun _ _ _ h=>h) rfl HRN6.o.box (by intro w' hw'; go_simp; rfl) ?_
   simp only[Act.put,aZ,bg,bh];refine ay 4 rfl (by kernel_rfl) (by kernel_rfl) (by kernel_rfl) (fun _ _ _ h=>h) rfl HRN6.o.box (by intro w' hw'; go_simp; rfl) ?_;simp only[Act.put,aZ,bg,bh];refine ay 5 rfl (by kernel_rfl) (by kernel_rfl) (by kernel_rfl) (fun _ _ _ h=>h) rfl HRN6.o.box (by intro w' hw'; go_simp; first | rfl | (rw[hsl]; rfl)) ?_;simp only[Act.put,aZ,bg,bh]
   have hca:=yP V bk o3 c3 _ W6 HVO.o hpl hc3 hm3 HCELL.o;obtain⟨V2,hV2⟩: ∃V2,V2=mu V ((p.drop (64*k)).take 64):=⟨_,rfl⟩;rw[<-hV2]at hca;have HV2:=aa hV2;have HCA:=aa hca;clear hca hsl hpl hV2;refine an 6 rfl (by kernel_rfl) rfl (fun K hK=> ?_);go_wp2_with fail;refine HCA.o.mono ?_;rintro e w7 ⟨rfl,hb7⟩;have HRN7:=aa (HRN6.o.next hb7);have H81:=aa (show(V2.list.map bY).toArray.all (·.oneCell')=true from all_oneCell_toArray (fun x hx=>by obtain⟨y,-,rfl⟩:=List.mem_map.1 hx; rfl))
   have HIP:=aa (show(Tryz.prog.info? 216).map (·.size)=some (V2.list.map bY).toArray.size by kernel_rfl);clear hb7;go_wp2_with fail;refine⟨HRN7.o.box, ?_⟩;refine aM (by kernel_rfl) ?_;refine bX rfl rfl (fun K hK=> ?_);go_wp2_with (refine wpList_store_row rfl 216 _ _ rfl w.heap.size (V2.list.map bY).toArray rfl rfl _ _ HRN7.o.box HIP.o rfl H81.o ?_)
   go_roundw
   case rel=>
    refine⟨k+1,by omega, ?_,HRN7.o.put (r':=V2) rfl |> fun h=>by rw[show er p (k+1)=mu (er p k) ((p.drop (64*k)).take 64)from rfl,<-HVV.o,<-HV2.o]; exact h⟩;rw[HJ2.o,HJ.o]; exact congrArg (Value.int .i64) (by omega)
   case measure=>
    have:=HJ.o;have:=HJ2.o;simp only[intOf,Int.toNat_natCast];omega
  ·have hkk:k=q:=by omega
   subst hkk;have hge: ¬(j:Int)<n:=by omega
   obtain⟨w5,hw5⟩: ∃x,x=wr:=⟨_,rfl⟩;subst hw5;obtain⟨V,hV⟩: ∃V,V=er p k:=⟨_,rfl⟩;rw[<-hV]at HRN;have HVO:=aa (show V.Ok by rw[hV]; exact ni p k);have HVV:=aa (show kw data=V.out by unfold kw; rw[<-HP.o,<-HN.o,<-HQ.o,hV]);have HO0:=aa (show(w5.alloc (.cells #[] 5)).ownsRow w5.heap.size 5 1 (.slice (some ⟨w5.heap.size,0,none⟩) 0 0) 0 []from World.ownsRow_lit (e:=5) (size:=1) (base:=w5.heap.size) w5 #[] 0 (Nat.le_refl _) (Nat.zero_le _) (by simp))
   have HB5:=aa ((Below.refl w5.heap.size w5).alloc (Nat.le_refl _) (.cells #[] 5));clear hV hj;go_wp2_with fail
   go_loopw [6,7] (fun o i wr=> ∃(j:Nat) (a c:_),j<=8/\i= .int .i64 (j:Int)/\o= .slice a (4*j) c/\wr.ownsRow w5.heap.size 5 1 (.slice a (4*j) c) (4*j) (((V.list.take j).flatMap uT).map ak)/\Below w5.heap.size w5 wr) (fun _ i _=>8-(intOf i).toNat)
   case atStart=>exact⟨0,_,_,by omega,rfl,rfl,HO0.o,HB5.o⟩
   case round=>
    obtain⟨j,a6,c6,hj,rfl,rfl,ho,hb⟩:=hrel;have HO6:=aa ho;have HB6:=aa hb;have hz6:=hb.size;clear ho hb;obtain⟨m,hm⟩: ∃m,m=4*j:=⟨_,rfl⟩;rw[<-hm]at HO6 ⊢;have HM:=aa hm
    by_cases h8:j<8
    ·obtain⟨x,hx⟩: ∃x,V.list[j]? =some x:=⟨_,List.getElem?_eq_getElem (show j<V.list.length from h8)⟩;have HX:=aa hx;have cx:=(HB6.o.cell (p:=⟨w.heap.size,j,none⟩) (lt_of_block HRN.o.box)).trans (HRN.o.get hx);have hj8:(j:Int)<8:=by omega
     clear hx hm;obtain⟨W6,hW6⟩: ∃W6,W6=wr.drew:=⟨_,rfl⟩;have HSX:=aa (show W6.cell? ⟨w.heap.size,j,none⟩=some (.int .u32 (x:Int)) by rw[hW6]; exact cx);have HO7:=aa (show W6.ownsRow w5.heap.size 5 1 (.slice a6 m c6) m (((V.list.take j).flatMap uT).map ak) by rw[hW6]; exact HO6.o);have HB7:=aa (show Below w5.heap.size w5 W6 by rw[hW6]; exact HB6.o.drew);have hz7:=HB7.o.size
     go_upto_region 11 with(fail)
     refine bN (fun w'=>w'.cell? ⟨w.heap.size,j,none⟩=some (.int .u32 (x:Int))) (by kernel_rfl) (by kernel_rfl) ?_;simp only[List.dropLast_cons_cons,List.dropLast_singleton,List.length_cons,List.length_nil,Nat.reduceAdd,Nat.reduceSub];rw[<-hW6];clear hW6 cx
     iterate 20 (refine aJ rfl (by kernel_rfl) (fun _ _ _ h=>h) rfl HSX.o (by intro w' hw'; go_simp; rfl) ?_; simp only[Act.put,aZ,bg,bh])
     refine an 20 rfl (by kernel_rfl) rfl (fun K hK=> ?_);go_wp2_with fail;have hlx:w.heap.size<W6.heap.size:=Nat.lt_of_lt_of_le (lt_of_block HRN.o.box) hz7;have HAL:=aa ((Below.refl W6.heap.size W6).alloc (Nat.le_refl _) (.cells #[.int .u8 ((x:Int)/16777216%256), .int .u8 ((x:Int)/65536%256), .int .u8 ((x:Int)/256%256), .int .u8 ((x:Int)%256)] 5));have hS8:=(HAL.o.cell (p:=⟨w.heap.size,j,none⟩) hlx).trans HSX.o
     have HRL:=aa (pX (n:=4) (sz:=1) (cells:=[.int .u8 ((x:Int)/16777216%256), .int .u8 ((x:Int)/65536%256), .int .u8 ((x:Int)/256%256), .int .u8 ((x:Int)%256)]) (heap_alloc_new W6 (.cells #[.int .u8 ((x:Int)/16777216%256), .int .u8 ((x:Int)/65536%256), .int .u8 ((x:Int)/256%256), .int .u8 ((x:Int)%256)] 5)) rfl (by decide));have HOA:=aa (HO7.o.alloc (.cells #[.int .u8 ((x:Int)/16777216%256), .int .u8 ((x:Int)/65536%256), .int .u8 ((x:Int)/256%256), .int .u8 ((x:Int)%256)] 5))
     have HON:=aa (show ∀u∈([.int .u8 ((x:Int)/16777216%256), .int .u8 ((x:Int)/65536%256), .int .u8 ((x:Int)/256%256), .int .u8 ((x:Int)%256)]:List Value),u.oneCell'=true by intro u hu; simp only[List.mem_cons,List.not_mem_nil,or_false]at hu; rcases hu with rfl | rfl | rfl | rfl<;> rfl);have hm4:m+4<1099511627775:=by have:=HM.o; omega
     have hzA:w5.heap.size<=(W6.alloc (.cells #[.int .u8 ((x:Int)/16777216%256), .int .u8 ((x:Int)/65536%256), .int .u8 ((x:Int)/256%256), .int .u8 ((x:Int)%256)] 5)).heap.size:=by simp; omega
     refine⟨hS8, ?_⟩;refine an 21 rfl (by kernel_rfl) rfl (fun K hK=> ?_);go_wp2_with (at_builtin; go_must (refine bD Tryz.appBytes rfl _ _ rfl w5.heap.size (.slice a6 m c6) m (((V.list.take j).flatMap uT).map ak) rfl HOA.o _ 4 [.int .u8 ((x:Int)/16777216%256), .int .u8 ((x:Int)/65536%256), .int .u8 ((x:Int)/256%256), .int .u8 ((x:Int)%256)] rfl HRL.o HON.o hm4 hzA ?_); intro v9 w9 hown9 hg9; obtain⟨a9,c9,rfl,-,-⟩:=ai hown9)
     have HB9:=aa (aF (HB7.o.alloc HB7.o.size (.cells #[.int .u8 ((x:Int)/16777216%256), .int .u8 ((x:Int)/65536%256), .int .u8 ((x:Int)/256%256), .int .u8 ((x:Int)%256)] 5)) HOA.o hg9 (Nat.le_refl _) hzA);have hlw:w.heap.size<w5.heap.size:=lt_of_block HRN.o.box;have hS9:w9.cell? ⟨w.heap.size,j,none⟩=some (.int .u32 (x:Int)):=(HB9.o.cell (p:=⟨w.heap.size,j,none⟩) hlw).trans (HRN.o.get HX.o)
     refine⟨hS9, ?_⟩;refine aM (by kernel_rfl) ?_;refine bX rfl rfl (fun K hK=> ?_);go_wp2_with fail
     go_roundw
     case rel=>
      have hmm:m+4=4*(j+1):=by rw[HM.o]; omega
      refine⟨j+1,a9,c9,by omega,by simp,by rw[hmm], ?_,HB9.o⟩;rw[<-hmm,bS HX.o,List.flatMap_append,List.map_append];have e4:([x].flatMap uT).map ak=[.int .u8 ((x:Int)/16777216%256), .int .u8 ((x:Int)/65536%256), .int .u8 ((x:Int)/256%256), .int .u8 ((x:Int)%256)]:=by
       have e0:=fz (x:=x/2^24) (y:=(x:Int)/16777216%256) (by omega);have e1:=fz (x:=x/2^16) (y:=(x:Int)/65536%256) (by omega);have e2:=fz (x:=x/2^8) (y:=(x:Int)/256%256) (by omega);have e3:=fz (x:=x) (y:=(x:Int)%256) rfl;rw[e0,e1,e2,e3]
       rfl
      rw[e4];exact hown9
     case measure=>simp[intOf]; omega
    ·obtain rfl:j=8:=by omega
     obtain rfl:m=V.out.length:=by rw[HM.o,BB]
     have hcv:=dg (bs:=V.out) (aO (show wr.ownsRow w5.heap.size 5 1 (.slice a6 V.out.length c6) V.out.length (V.out.map ak)from HO6.o));clear hm;go_wp2_with fail;go_ret;have hB1:Below w.heap.size w w5:=gm HB1.o HRN.o.grown (Nat.le_refl _) HB1.o.size;exact⟨by rw[HVV.o]; rfl,hB1.trans (HB6.o.mono hB1.size)⟩
def oC (k:List UInt8) (x:UInt8) (i:Nat):List UInt8:=(List.range i).map fun j=>(k.getD j 0)^^^x
theorem ud (k:List UInt8) (x:UInt8) (i:Nat):oC k x (i+1)=oC k x i++[(k.getD i 0)^^^x]:=by simp[oC,List.range_succ]
theorem Fw (k:List UInt8) (x:UInt8) (i:Nat):(oC k x i).length=i:=by simp[oC]
theorem Fv {k:List UInt8} (x:UInt8) (h:k.length<=64):oC k x 64=(k++List.replicate (64-k.length) 0).map (fun b=>b^^^x):=by
 apply List.ext_getElem?
 intro j;unfold oC;rw[List.getElem?_map,List.getElem?_map]
 by_cases hj:j<64
 ·rw[List.getElem?_range hj]
  by_cases hk:j<k.length
  ·rw[List.getElem?_append_left hk,List.getElem?_eq_getElem hk];simp[List.getD_eq_getElem?_getD,hk]
  ·rw[List.getElem?_append_right (by omega),List.getElem?_replicate,if_pos (by omega)];simp[List.getD_eq_getElem?_getD,List.getElem?_eq_none (show k.length<=j by omega)]
 ·rw[List.getElem?_eq_none (by simp; omega),List.getElem?_eq_none (by simp; omega)]
  rfl
theorem Fu (s:ByteArray) (x:UInt8) (w:World):Calls Tryz.prog 207 #[.string s, .int .u8 (x.toNat:Int)] w fun e w'=> ∃a c,e= .returned (.slice a 64 c)/\fZ w' w.heap.size (.slice a 64 c) (oC (bl s) x 64)/\Below w.heap.size w w':=by
 have HO0:=aa (show(w.alloc (.cells #[] 5)).ownsRow w.heap.size 5 1 (.slice (some ⟨w.heap.size,0,none⟩) 0 0) 0 ((oC (bl s) x 0).map ak)from World.ownsRow_lit (e:=5) (size:=1) (base:=w.heap.size) w #[] 0 (Nat.le_refl _) (Nat.zero_le _) (by simp));have HB0:=aa ((Below.refl w.heap.size w).alloc (Nat.le_refl _) (.cells #[] 5))
 go_enter Tryz.func207,Tryz.ntmps207
 go_wp2_with fail
 go_loopw [5,6] (fun o i wr=> ∃(k:Nat) (a:Option Addr) (c:Nat),k<=64/\i= .int .i64 (k:Int)/\o= .slice a k c/\wr.ownsRow w.heap.size 5 1 (.slice a k c) k ((oC (bl s) x k).map ak)/\Below w.heap.size w wr) (fun _ i _=>64-(intOf i).toNat)
 case atStart=>exact⟨0,_,_,by omega,rfl,rfl,HO0.o,HB0.o⟩
 case round=>
  obtain⟨k,a,c,hk,rfl,rfl,ho,hb⟩:=hrel;have HO:=aa ho;have HB:=aa hb;have hz:=hb.size;clear ho hb HO0 HB0
  by_cases h64:k<64
  ·have hk64:(k:Int)<64:=by omega
   have hk40:k<1099511627775:=by omega
   by_cases hks:k<s.size
   ·have hks2:(k:Int)<(s.size:Int):=by omega
    have HZ:=aa (show ∀u∈[Value.int .u8 (bits BinOp.xor IntKind.u8 (s[k].toNat:Int) (x.toNat:Int))],u.oneCell'=true by simp[Value.oneCell']);have HXB:=aa (show [Value.int .u8 (bits BinOp.xor IntKind.u8 (s[k].toNat:Int) (x.toNat:Int))]=[(bl s).getD k 0^^^x].map ak by
     rw[AG,List.getD_eq_getElem?_getD,List.getElem?_eq_getElem (show k<(bl s).length by rw[<-am]; exact hks),Option.getD_some,eW s k hks]; rfl)
    go_wp2_with (at_builtin; go_loud (refine aA Tryz.appBytes rfl _ _ rfl w.heap.size (.slice a k c) k ((oC (bl s) x k).map ak) rfl wr [Value.int .u8 (bits BinOp.xor IntKind.u8 (s[k].toNat:Int) (x.toNat:Int))] _ rfl rfl HZ.o HO.o hk40 hz ?_); intro v' wc hown' hgrow' _ _; obtain⟨ae,ce,rfl,-,-⟩:=ai hown'; rw[HXB.o,<-List.map_append,<-ud]at hown'; have HO2:=aa hown'; have HB2:=aa (aF HB.o HO.o hgrow' (Nat.le_refl _) hz); clear hown' hgrow')
    go_roundw
    case rel=>exact⟨k+1,_,_,by omega,by go_num,rfl,HO2.o,HB2.o⟩
    case measure=>simp[intOf]; omega
   ·have hks2: ¬(k:Int)<(s.size:Int):=by omega
    have HZ:=aa (show ∀u∈[Value.int .u8 (bits BinOp.xor IntKind.u8 0 (x.toNat:Int))],u.oneCell'=true by simp[Value.oneCell']);have HXB:=aa (show [Value.int .u8 (bits BinOp.xor IntKind.u8 0 (x.toNat:Int))]=[(bl s).getD k 0^^^x].map ak by
     rw[List.getD_eq_getElem?_getD,List.getElem?_eq_none (show(bl s).length<=k by rw[<-am]; omega),Option.getD_none];have h1:=AG 0 x;rw[show(((0:UInt8).toNat:Nat):Int)=0 from rfl]at h1;rw[h1]; rfl)
    go_wp2_with (at_builtin; go_loud (refine aA Tryz.appBytes rfl _ _ rfl w.heap.size (.slice a k c) k ((oC (bl s) x k).map ak) rfl wr [Value.int .u8 (bits BinOp.xor IntKind.u8 0 (x.toNat:Int))] _ rfl rfl HZ.o HO.o hk40 hz ?_); intro v' wc hown' hgrow' _ _; obtain⟨ae,ce,rfl,-,-⟩:=ai hown'; rw[HXB.o,<-List.map_append,<-ud]at hown'; have HO2:=aa hown'; have HB2:=aa (aF HB.o HO.o hgrow' (Nat.le_refl _) hz); clear hown' hgrow')
    go_roundw
    case rel=>exact⟨k+1,_,_,by omega,by go_num,rfl,HO2.o,HB2.o⟩
    case measure=>simp[intOf]; omega
  ·have hk4:k=64:=by omega
   subst hk4;go_wp2_with fail;go_ret;refine⟨a,c,rfl, ?_,HB.o⟩;unfold fZ;rw[Fw];exact HO.o
theorem BC (s:ByteArray) (x:UInt8) (n:Int) (w:World) (hn:n=(x.toNat:Int)) (hs:s.size<=64):Calls Tryz.prog 207 #[.string s, .int .u8 n] w fun e w'=> ∃a c,e= .returned (.slice a 64 c)/\fZ w' w.heap.size (.slice a 64 c) (cH (dr (bl s)) x)/\Below w.heap.size w w':=by
 subst hn;have hk:oC (bl s) x 64=cH (dr (bl s)) x:=by
  rw[Fv x (by rw[<-am]; exact hs)];unfold cH dr;rw[if_neg (by rw[<-am]; omega)]
 rw[<-hk];exact Fu s x w
theorem FT (S:Nat->Prop) (key:ByteArray) (data:List UInt8) (dv:Value) (w:World) (hk:key.size<=64) (hv:ar S w dv data) (hl:data.length<549755000000):
  Calls Tryz.prog 190 #[.string key,dv] w fun e w'=>e= .returned (.string ⟨(sR (bl key) data).toArray⟩)/\Below w.heap.size w w':=by
 obtain⟨hl0,a,cap,rfl,hn,hm,-⟩:=id hv;unfold maxLen at hm;have HV:=aa hv;obtain⟨n,hnd⟩: ∃n,n=data.length:=⟨_,rfl⟩;rw[<-hnd]at HV hl hn ⊢;have HN:=aa hnd;have hki: ¬(64:Int)<(key.size:Int):=by omega
 obtain⟨kx,hkx⟩: ∃kx,kx=cH (dr (bl key)) 54:=⟨_,rfl⟩;obtain⟨ky,hky⟩: ∃ky,ky=cH (dr (bl key)) 92:=⟨_,rfl⟩;have hkxl:kx.length=64:=by rw[hkx]; unfold cH; rw[List.length_map,dK]
 have hkyl:ky.length=64:=by rw[hky]; unfold cH; rw[List.length_map,dK]
 have HKX:=aa hkx;have HKY:=aa hky;have HKL:=aa hkxl;have HKM:=aa hkyl;clear hv hl0 hnd hkx hky hkxl hkyl
 go_enter Tryz.func190,Tryz.ntmps190
 go_wp2_with fail;refine(BC key 54 54 _ rfl hk).mono ?_;rintro e w1 ⟨a1,c1,rfl,ho1,hb1⟩;rw[<-HKX.o]at ho1;have HO1:=aa (show w1.ownsRow w.heap.size 5 1 (.slice a1 64 c1) 64 (kx.map ak) by unfold fZ at ho1; rw[HKL.o]at ho1; exact ho1);have HB1:=aa hb1;have HV1:=aa (show aL S w1 1 (.slice a n cap) n (data.map ak) by rw[HN.o]; exact aL.below (by have:=HV.o; rw[HN.o]at this; exact this) (by omega) hb1)
 have hz1:=hb1.size;clear ho1 hb1;have hn64:64+n<1099511627775:=by omega
 go_wp2_with (at_builtin; go_loud (refine bD Tryz.appBytes rfl _ _ rfl w.heap.size (.slice a1 64 c1) 64 (kx.map ak) rfl HO1.o (.slice a n cap) n (data.map ak) rfl HV1.o (ci data) hn64 hz1 ?_); intro v2 w2 hown2 hg2; obtain⟨a2,c2,rfl,-,-⟩:=ai hown2; have HO2:=aa hown2; have HB2:=aa (aF HB1.o HO1.o hg2 (Nat.le_refl _) hz1); clear hown2 hg2);have HX2:=aa (show ar (fun _=>True) w2 (.slice a2 (64+n) c2) (kx++data) by
  have h1:=aO HO2.o;have h2:(kx++data).length=64+n:=by rw[List.length_append,HKL.o,HN.o]
  show aL _ w2 1 _ (kx++data).length ((kx++data).map ak)
  rw[h2,List.map_append];exact h1.weak fun _ _=>trivial)
 refine(yr _ _ (kx++data) _ HX2.o (by rw[List.length_append,HKL.o,<-HN.o]; omega)).mono ?_;rintro e w3 ⟨rfl,hb3⟩;have HB3:=aa (ab HB2.o hb3);clear hb3;obtain⟨inn,hinn⟩: ∃i:ByteArray,i=⟨(kw (kx++data)).toArray⟩:=⟨_,rfl⟩;have hin32:inn.size=32:=by rw[hinn,am,ed,nS]
 rw[<-hinn];have HIN:=aa hinn;clear hinn;go_wp2_with fail;refine(BC key 92 92 _ rfl hk).mono ?_;rintro e w4 ⟨a4,c4,rfl,ho4,hb4⟩;rw[<-HKY.o]at ho4;have HO4:=aa (show w4.ownsRow w3.heap.size 5 1 (.slice a4 64 c4) 64 (ky.map ak) by unfold fZ at ho4; rw[HKM.o]at ho4; exact ho4);have HB4:=aa (ab HB3.o hb4);have hz4:=hb4.size;clear ho4 hb4;obtain⟨W5,cp,hcv,hd5,hb5,hs5⟩:=om inn w4 (by unfold maxLen; omega)
 have HB5:=aa (ab HB4.o hb5);have HO5:=aa (aQ HO4.o hb5);have HD5:=aa (show aL (fun k=>k=w4.heap.size) W5 1 (.slice (some ⟨w4.heap.size,0,none⟩) 32 cp) 32 ((bl inn).map ak) by have h1:=hd5; unfold ar at h1; rw[<-am,hin32]at h1; exact h1);rw[hin32]at hcv;have HIL:=aa hin32;have hz5:w3.heap.size<=W5.heap.size:=by omega
 clear hd5 hb5 hin32;go_wp2_with (at_builtin; go_loud (refine bD Tryz.appBytes rfl _ _ rfl w3.heap.size (.slice a4 64 c4) 64 (ky.map ak) rfl HO5.o (.slice (some ⟨w4.heap.size,0,none⟩) 32 cp) 32 ((bl inn).map ak) rfl HD5.o (ci (bl inn)) (by decide) hz5 ?_); intro v6 w6 hown6 hg6; obtain⟨a6,c6,rfl,-,-⟩:=ai hown6; have HO6:=aa hown6; have HB6:=aa (aF (B:=w.heap.size) HB5.o HO5.o hg6 HB3.o.size (Nat.le_trans HB3.o.size hz5)); clear hown6 hg6)
 have HX6:=aa (show ar (fun _=>True) w6 (.slice a6 96 c6) (ky++bl inn) by
  have h1:=aO HO6.o;have h2:(ky++bl inn).length=64+32:=by rw[List.length_append,HKM.o,<-am,HIL.o]
  show aL _ w6 1 _ (ky++bl inn).length ((ky++bl inn).map ak)
  rw[h2,List.map_append];exact h1.weak fun _ _=>trivial)
 refine(yr _ _ (ky++bl inn) _ HX6.o (by rw[List.length_append,HKM.o,<-am,HIL.o]; decide)).mono ?_;rintro e w7 ⟨rfl,hb7⟩;have HB7:=aa (ab HB6.o hb7);clear hb7;have HT:=aa (show kw (ky++bl inn)=sR (bl key) data by
  rw[HIN.o,ed,HKX.o,HKY.o]
  rfl)
 go_wp2_with fail;go_ret;exact⟨by rw[<-HT.o]; rfl,HB7.o⟩
theorem zF (k:bn) (w:World):Calls Tryz.prog 74 #[dW k] w fun e w'=>e= .returned (.bool (dX k))/\Below w.heap.size w w':=by
 obtain⟨W,hW⟩: ∃W,W=w.alloc (.cells #[.string k.nm, .string k.st, .string k.ck, .string k.ix, .string k.tk] 42):=⟨_,rfl⟩;have HB:=aa (show Below w.heap.size w W by rw[hW]; exact bH);have HX:=aa (show W.heap[w.heap.size]? =some (.cells #[.string k.nm, .string k.st, .string k.ck, .string k.ix, .string k.tk] 42 (0,0)) by rw[hW]; exact heap_alloc_new w _);have hv:dX k=(((decide (k.nm.size=32) && decide (k.st.size=32)) && decide (k.ck.size=32)) && decide (k.ix.size=32) && decide (k.tk.size=32)):=by
  unfold dX bn.list; simp[Bool.and_assoc]
 have HV:=aa hv;clear hv;unfold dW
 go_enter Tryz.func74,Tryz.ntmps74
 go_upto_region 1 with fail
 rw[<-hW];clear hW;obtain⟨c0,c1,c2,c3,c4,_⟩:=aj HX.o;simp only[Nat.zero_add,Nat.reduceAdd]at c1 c2 c3 c4;go_wp2_with fail
 all_goals (go_ret; refine⟨aD ?_,HB.o⟩; rw[HV.o,Bool.eq_iff_iff]; simp; omega)
theorem tO (k:bn) (b:Bool) (w:World) (h:dX k=b):Calls Tryz.prog 74 #[dW k] w fun e w'=>e= .returned (.bool b)/\Below w.heap.size w w':=by rw[<-h]; exact zF k w
theorem sx (n:Nat) (w:World) (hn:n<18446744073709551616):Calls Tryz.prog 103 #[.int .u64 (n:Int)] w (fun e w'=> ∃v,e= .returned v/\fZ w' w.heap.size v (aw n)/\Below w.heap.size w w'):=by
 have HO:=aa (World.ownsRow_lit (e:=5) (size:=1) (base:=w.heap.size) w #[] 0 (Nat.le_refl _) (Nat.zero_le _) (by simp));have HB:=aa ((Below.refl w.heap.size w).alloc (Nat.le_refl _) (.cells #[] 5))
 go_enter Tryz.func103,Tryz.ntmps103
 go_wp2_with fail
 go_loopw [0,3] (fun x o wr=> ∃(f m:Nat) (acc:List UInt8),x= .int .u64 (m:Int)/\m<18446744073709551616/\m<2^(7*f)/\acc++ik f m=aw n/\wr.ownsRow w.heap.size 5 1 o acc.length (acc.map ak)/\acc.length<=20/\Below w.heap.size w wr) (fun x _ _=>(intOf x).toNat)
 case atStart=>exact⟨10,n,[],rfl,hn,Nat.lt_trans hn (by decide),rfl,HO.o,by simp,HB.o⟩
 case round=>
  obtain⟨f,m,acc,rfl,hm,hmf,henc,hown,hal,hb⟩:=hrel;have HE:=aa henc;have HO2:=aa hown;have HB2:=aa hb;have HMF:=aa hmf;have hbz:=hb.size;obtain⟨ao,co,rfl,h1,h2⟩:=ai hown;clear henc hown hb hmf HO HB
  by_cases hlt:127<m
  ·have hv:Value.int .u8 ((m:Int)%128+128)=ak (UInt8.ofNat (m%128+128)):=by rw[gp (by omega)]; simp
   have HV:=aa hv;obtain⟨f,rfl⟩: ∃g,f=g+1:=⟨f-1,by
    cases f with
    | zero=>have:=HMF.o; simp at this; omega
    | succ g=>rfl⟩
   have HE2:=aa (show(acc++[UInt8.ofNat (m%128+128)])++ik f (m/128)=aw n by rw[<-HE.o,ik,if_pos hlt]; simp);have HMF2:=aa (show m/128<2^(7*f) by
    have h3:=HMF.o;rw[show 7*(f+1)=7*f+7 by omega,Nat.pow_add]at h3;exact Nat.div_lt_of_lt_mul (by omega))
   have hal2:acc.length<=10:=by
    have h4:=bm n;rw[<-HE.o,List.length_append,ik,if_pos hlt,List.length_cons]at h4;omega
   clear hv;go_wp2_with (at_builtin; go_must (refine dq Tryz.appBytes rfl _ _ rfl w.heap.size (.slice ao acc.length co) acc.length (acc.map ak) rfl wr [.int .u8 ((m:Int)%128+128)] _ rfl rfl (by rw[HV.o]; exact jH _) HO2.o (by omega) hbz ?_); intro v' wc hown' hgrow' _; have HB3:=aa (aF HB2.o HO2.o hgrow' (Nat.le_refl _) hbz); have HO3:=aa (show wc.ownsRow w.heap.size 5 1 v' (acc++[UInt8.ofNat (m%128+128)]).length ((acc++[UInt8.ofNat (m%128+128)]).map ak) by rw[List.length_append,List.map_append,List.map_cons,List.map_nil,<-HV.o]; exact hown'); obtain⟨ae,ce,rfl,-,-⟩:=ai hown'; clear hown' hgrow')
   go_roundw
   case rel=>exact⟨f,m/128,acc++[UInt8.ofNat (m%128+128)],by simp,by omega,HMF2.o,HE2.o,HO3.o,by simp; omega,HB3.o⟩
   case measure=>simp[intOf]; omega
  ·have hv:Value.int .u8 (m:Int)=ak (UInt8.ofNat m):=by rw[gp (by omega)]
   have HV:=aa hv;have HE2:=aa (show acc++[UInt8.ofNat m]=aw n by
    rw[<-HE.o]
    cases f with
    | zero=>rfl
    | succ f=>rw[ik,if_neg hlt])
   clear hv;go_wp2_with (at_builtin; go_must (refine dq Tryz.appBytes rfl _ _ rfl w.heap.size (.slice ao acc.length co) acc.length (acc.map ak) rfl wr [.int .u8 (m:Int)] _ rfl rfl (by rw[HV.o]; exact jH _) HO2.o (by omega) hbz ?_); intro v' wc hown' hgrow' _; have HB3:=aa (aF HB2.o HO2.o hgrow' (Nat.le_refl _) hbz); have HO3:=aa (show wc.ownsRow w.heap.size 5 1 v' (acc++[UInt8.ofNat m]).length ((acc++[UInt8.ofNat m]).map ak) by rw[List.length_append,List.map_append,List.map_cons,List.map_nil,<-HV.o]; exact hown'); obtain⟨ae,ce,rfl,-,-⟩:=ai hown'; clear hown' hgrow')
   go_ret;rw[<-HE2.o];exact⟨_,rfl,HO3.o,HB3.o⟩
def vT (k:bn) (b:Nat) (v:Value) (data:List UInt8) (w:World):Prop:=w.heap[b]? =some (.cells #[.string k.nm, .string k.st, .string k.ck, .string k.ix, .string k.tk] 42 (0,0))/\ar (fun _=>True) w v data
theorem vT.below {k:bn} {b:Nat} {v:Value} {data:List UInt8} {w w':World} (h:vT k b v data w) (hb:Below w.heap.size w w'):vT k b v data w':=⟨(hb.block _ (lt_of_block h.1)).trans h.1,aL.below h.2 (by omega) hb⟩
theorem zK (S:Nat->Prop) (k:bn) (g:Nat) (data:List UInt8) (dv:Value) (w:World) (hk:dX k=true) (hg:g<=1099511627776) (hv:ar S w dv data) (hl:data.length<=32768):
  Calls Tryz.prog 178 #[dW k, .int .i64 (g:Int),dv] w fun e w'=>e= .returned (.tuple #[.string (gh k g data), .int .i64 0])/\Below w.heap.size w w':=by
 obtain⟨hl0,a,cap,rfl,hn,hm,-⟩:=id hv;unfold maxLen at hm;obtain⟨n,hnd⟩: ∃n,n=data.length:=⟨_,rfl⟩;have HN:=aa hnd;have hnm:k.nm.size=32:=(oM hk).1;have HNM:=aa hnm;obtain⟨W,hW⟩: ∃W,W=w.alloc (.cells #[.string k.nm, .string k.st, .string k.ck, .string k.ix, .string k.tk] 42):=⟨_,rfl⟩;have HB:=aa (show Below w.heap.size w W by rw[hW]; exact bH);have HX:=aa (show vT k w.heap.size (.slice a n cap) data W by
  rw[hW,hnd];exact⟨heap_alloc_new w _,(aL.below hv (by omega) (bH)).weak fun _ _=>trivial⟩)
 rw[<-hnd]at hl hn ⊢;have HK:=aa hk;have hgi: ¬(g:Int)<0:=by omega
 have hgw:IntKind.u64.wrap (g:Int)=(g:Int):=by rw[IntKind.wrap_u64]; omega
 have hli: ¬(32768:Int)<(n:Int):=by omega
 clear hv hl0 hnd hk hnm;unfold dW
 go_enter Tryz.func178,Tryz.ntmps178
 go_upto_region 1 with fail
 rw[<-hW];clear hW;obtain⟨c0,c1,c2,c3,c4,_⟩:=aj HX.o.1;simp only[Nat.zero_add,Nat.reduceAdd]at c1 c2 c3 c4;go_wp2_with fail;refine(tO k true _ HK.o).mono ?_;rintro e w1 ⟨rfl,hb1⟩;have HB1:=aa (ab HB.o hb1);have HX1:=aa (HX.o.below hb1);clear hb1 c0 c1 c2 c3 c4
 go_upto_region 5 with fail
 refine bE (vT k w.heap.size (.slice a n cap) data) (by kernel_rfl) ?_;obtain⟨V,hV⟩: ∃V:World,V=w1.drew:=⟨_,rfl⟩;rw[<-hV];have hb:Below w1.heap.size w1 V:=by rw[hV]; exact(Below.refl _ _).drew
 have HBV:=aa (ab HB1.o hb);have SV:=aa (HX1.o.below hb);clear hV hb
 iterate 4 (refine aJ rfl (by kernel_rfl) (fun _ _ _ h=>h) rfl SV.o (by rintro w' ⟨hx,_⟩; have x0:=aB (k:=0) hx; simp only[List.getElem?_toArray,List.getElem?_cons_zero]at x0; go_simp; rfl) ?_; simp only[Act.put,aZ,bg,bh])
 refine ay 5 rfl (by kernel_rfl) (by kernel_rfl) (by kernel_rfl) (fun _ _ _ h=>h) rfl SV.o (by rintro w' ⟨hx,_⟩; have x0:=aB (k:=0) hx; simp only[List.getElem?_toArray,List.getElem?_cons_zero]at x0; go_simp; rfl) ?_;simp only[Act.put,aZ,bg,bh];refine an 4 rfl (by kernel_rfl) rfl (fun K hK=> ?_);go_wp2_with fail;refine(sx g _ (by omega)).mono ?_;rintro e w2 ⟨v2,rfl,ho2,hb2⟩
 obtain⟨a2,c2,rfl,-,-⟩:=ai ho2;have HB2:=aa (ab HBV.o hb2);have S2:=aa (SV.o.below hb2);obtain⟨m,hm2⟩: ∃m,m=(aw g).length:=⟨_,rfl⟩;have HM2:=aa hm2;have hm10:=bm g;rw[<-hm2]at hm10 ⊢;have HO2:=aa (show w2.ownsRow V.heap.size 5 1 (.slice a2 m c2) m ((aw g).map ak) by unfold fZ at ho2; rw[<-hm2]at ho2; exact ho2);have HV2:=aa (show aL (fun _=>True) w2 1 (.slice a n cap) n (data.map ak) by have h1:=S2.o.2; unfold ar at h1; rw[<-HN.o]at h1; exact h1)
 have hz2:=hb2.size;have HVW:=aa hb2;clear ho2 hb2 hm2;go_wp2_with fail;refine⟨S2.o, ?_⟩;refine an 6 rfl (by kernel_rfl) rfl (fun K hK=> ?_);have hmn:m+n<1099511627775:=by omega
 go_wp2_with (at_builtin; go_loud (refine bD Tryz.appBytes rfl _ _ rfl V.heap.size (.slice a2 m c2) m ((aw g).map ak) rfl HO2.o (.slice a n cap) n (data.map ak) rfl HV2.o (ci data) hmn hz2 ?_); intro v3 w3 hown3 hg3; obtain⟨a3,c3,rfl,-,-⟩:=ai hown3; have HO3:=aa hown3; have HG3:=aa (aF (B:=V.heap.size) ((Below.refl _ _).mono (Nat.le_refl _)) HO2.o hg3 (Nat.le_refl _) hz2); clear hown3 hg3)
 have S3:=aa (SV.o.below (HVW.o.trans HG3.o));have HB3:=aa (ab HBV.o (HVW.o.trans HG3.o));have HX3:=aa (show ar (fun _=>True) w3 (.slice a3 (m+n) c3) (aw g++data) by
  have h1:=aO HO3.o;have h2:(aw g++data).length=m+n:=by rw[List.length_append,<-HM2.o,<-HN.o]
  show aL _ w3 1 _ (aw g++data).length ((aw g++data).map ak)
  rw[h2,List.map_append];exact h1.weak fun _ _=>trivial)
 refine⟨S3.o, ?_⟩;refine an 7 rfl (by kernel_rfl) rfl (fun K hK=> ?_);go_wp2_with fail;refine(FT _ k.nm (aw g++data) _ _ (by rw[HNM.o]; decide) HX3.o (by rw[List.length_append,<-HM2.o,<-HN.o]; omega)).mono ?_;rintro e w4 ⟨rfl,hb4⟩;have S4:=aa (S3.o.below hb4);have HB4:=aa (ab HB3.o hb4);clear hb4;go_wp2_with fail;refine⟨S4.o, ?_⟩
 iterate 2 (refine aJ rfl (by kernel_rfl) (fun _ _ _ h=>h) rfl S4.o (by rintro w' ⟨hx,_⟩; have x0:=aB (k:=0) hx; simp only[List.getElem?_toArray,List.getElem?_cons_zero]at x0; go_simp; rfl) ?_; simp only[Act.put,aZ,bg,bh])
 refine aM (by kernel_rfl) ?_;go_wp2_with fail
 go_ret2
 exact⟨rfl,HB4.o⟩
theorem Fh {a:Act} {w:World} {b:Nat} {x0 x1 x2 x3 x4 x5 x6 x7 x8 x9 e7:Value} (h:w.heap[b]? =some (.cells #[x0,x1,x2,x3,x4,x5,x6,x7,x8,x9] 28 (0,0)))
  (h6:a.tmps[6]? =some (.pointer (some ⟨b,0,none⟩))) (h7:a.tmps[7]? =some e7):(results Tryz.f28 a.tmps).run Tryz.prog w= .ok (.tuple #[.agg #[x0,x1,x2,x3,x4,x5,x6,x7,x8,x9],e7]) w:=by
 obtain⟨m0,m1,m2,m3,m4,m5,m6,m7,m8,m9,_⟩:=aj h;simp only[Nat.zero_add,Nat.reduceAdd]at m1 m2 m3 m4 m5 m6 m7 m8 m9;simp[results,Tryz.results28,go_sem,h6,h7,m0,m1,m2,m3,m4,m5,m6,m7,m8,m9]
theorem jL {a:Act} {w:World} {b:Nat} {a0 a1 a2 a3 a4 a5 a6 a7 a8 a9 x0 x1 x2 x3 x4 x5 x6 x7 x8 x9 e7:Value} {Q:Ending->World->Prop} (h:w.heap[b]? =some (.cells #[a0,a1,a2,a3,a4,a5,a6,a7,a8,a9] 28 (0,0)))
  (h6:a.tmps[6]? =some (.pointer (some ⟨b,0,none⟩))) (h7:a.tmps[7]? =some e7) (hd:a.defers=[])
  (hQ:Q (.returned (.tuple #[.agg #[x0,x1,x2,x3,x4,x5,x6,x7,x8,x9],e7])) ((((((((((w.setCell ⟨b,0,none⟩ x0).setCell ⟨b,1,none⟩ x1).setCell ⟨b,2,none⟩ x2).setCell ⟨b,3,none⟩ x3).setCell ⟨b,4,none⟩ x4).setCell ⟨b,5,none⟩ x5).setCell ⟨b,6,none⟩ x6).setCell ⟨b,7,none⟩ x7).setCell ⟨b,8,none⟩ x8).setCell ⟨b,9,none⟩ x9)):
  bodyPost Tryz.prog Tryz.f28 Q Exit.ret a ((((((((((w.setCell ⟨b,0,none⟩ x0).setCell ⟨b,1,none⟩ x1).setCell ⟨b,2,none⟩ x2).setCell ⟨b,3,none⟩ x3).setCell ⟨b,4,none⟩ x4).setCell ⟨b,5,none⟩ x5).setCell ⟨b,6,none⟩ x6).setCell ⟨b,7,none⟩ x7).setCell ⟨b,8,none⟩ x8).setCell ⟨b,9,none⟩ x9):=bodyPost_ret (Fh (BO h) h6 h7) hd hQ
theorem FP {S:Nat->Prop} {w w':World} {a:Option Addr} {n cap:Nat} {xs:List ByteArray} (h:fQ S w (.slice a n cap) xs) (hb:Below w.heap.size w w') {k:Nat} {x:ByteArray} (hx:xs[k]? =some x):
  ∃b o,a=some ⟨b,o,none⟩/\b<w.heap.size/\w'.cell? ⟨b,o+k,none⟩=some (.string x):=by
 obtain⟨_,a',cap',he,_,_,h0⟩:=h
 cases he
 rcases h0 with h0 | ⟨b,o,rfl,_,hc⟩
 ·have:=(List.getElem?_eq_some_iff.1 hx).1;omega
 ·have q:=hc k (.string x) (Bs hx);exact⟨b,o,rfl,aP q,(hb.cell (p:=⟨b,o+k,none⟩) (aP q)).trans q⟩
structure LkI (w2 : World) (ib : Nat) (wr : World) (it : aI) : Prop where
 below:Below ib w2 wr
 box: ∃ca cc,wr.heap[ib]? =some (.cells (cg (.slice ca it.chunks.length cc) it).toArray 28 (0,0))/\bw (fun k=>ib<k) wr (.slice ca it.chunks.length cc) it.chunks
 ok:df it
theorem LkI.next {w2 wr w':World} {ib:Nat} {it:aI} (h:LkI w2 ib wr it) (hb:Below wr.heap.size wr w'):LkI w2 ib w' it:=by
 obtain⟨ca,cc,h1,h2⟩:=h.box;have hl:=lt_of_block h1;exact⟨h.below.trans (hb.mono (by omega)),⟨ca,cc,(hb.block ib hl).trans h1,aU.below h2 (by omega) hb (fun _ _ _ h=>h)⟩,h.ok⟩
theorem yZ {root:aV} (h:bK root):df (ig root):=⟨by show(0:Nat)<=_; unfold maxLen; omega,by show(0:Nat)<=_; unfold maxLen; omega,h⟩
def Gx (cs:List (ByteArray×List UInt8)) (root:aV) (path:ByteArray) (w:World) (e:Ending) (w':World):Prop:=Below w.heap.size w w'/\match fq cs root path with
 | .error x=>e= .returned (.tuple #[.agg #[.string ⟨#[]⟩, .int .i64 0, .int .i64 0, .int .i64 0, .int .i64 0, .string ⟨#[]⟩, .slice none 0 0, .string ⟨#[]⟩, .int .i64 0, .int .i64 0], .int .i64 x])/\x≠0
 | .ok it=> ∃v,e= .returned (.tuple #[mq v it, .int .i64 0])/\bw (w.heap.size<= ·) w' v it.chunks/\df it
theorem mr (S:Nat->Prop) (cv:Value) (cs:List (ByteArray×List UInt8)) (root:aV) (path:ByteArray) (w:World) (hc:cM S w cv cs) (henv:iV w) (hr:bK root):Calls Tryz.prog 28 #[bU root,cv, .string path] w (Gx cs root path w):=by
 obtain⟨W0,hW0⟩: ∃W0,W0=(w.alloc (.cells #[.string root.name, .int .i64 root.gen, .int .i64 root.size] 26)).alloc (.cells #[.string ⟨#[]⟩, .int .i64 0, .int .i64 0, .int .i64 0, .int .i64 0, .string ⟨#[]⟩, .slice none 0 0, .string ⟨#[]⟩, .int .i64 0, .int .i64 0] 28):=⟨_,rfl⟩;have HB0:=aa (show Below w.heap.size w W0 by rw[hW0]; exact(bH).alloc (by simp) _);have HX0:=aa (show W0.heap[w.heap.size]? =some (.cells #[.string root.name, .int .i64 root.gen, .int .i64 root.size] 26 (0,0)) by rw[hW0]; exact fD (bz w _) _)
 have HY0:=aa (show W0.heap[w.heap.size+1]? =some (.cells #[.string ⟨#[]⟩, .int .i64 0, .int .i64 0, .int .i64 0, .int .i64 0, .string ⟨#[]⟩, .slice none 0 0, .string ⟨#[]⟩, .int .i64 0, .int .i64 0] 28 (0,0)) by rw[hW0]; exact jw w _ _);have HI:=aa (fP.start (hc.below HB0.o) (henv.below HB0.o));have HR:=aa hr;unfold bU;clear hc henv hr
 go_enter Tryz.func28,Tryz.ntmps28
 go_upto_region 1 with(fail)
 rw[<-hW0];clear hW0
 cases hp:bq (bl path)with
 | false=>
  have HM:=aa (show fq cs root path= .error 1 by unfold fq; rw[if_neg (by rw[hp]; simp)]);have HP:=aa hp;clear hp;go_wp2_with fail;refine(DN path W0 HI.o.env HP.o).mono ?_;rintro e w1 ⟨rfl,hb1⟩;have HB1:=aa (ab HB0.o hb1);have HY1:=aa (br hb1 HY0.o);obtain⟨z0,z1,z2,z3,z4,z5,z6,z7,z8,z9,_⟩:=aj HY1.o;simp only[Nat.zero_add,Nat.reduceAdd]at z1 z2 z3 z4 z5 z6 z7 z8 z9
  have g0:=ah (k:=0) HY1.o;have g1:=ah (k:=1) HY1.o;have g2:=ah (k:=2) HY1.o;have g3:=ah (k:=3) HY1.o;have g4:=ah (k:=4) HY1.o;have g5:=ah (k:=5) HY1.o;have g6:=ah (k:=6) HY1.o;have g7:=ah (k:=7) HY1.o;have g8:=ah (k:=8) HY1.o;have g9:=ah (k:=9) HY1.o;clear hb1;go_wp2_with fail;refine jL HY1.o rfl rfl rfl ⟨dG HB1.o (by show w.heap.size<=w.heap.size+1; omega), ?_⟩
  rw[HM.o];exact⟨rfl,by decide⟩
 | true=>
  have HP:=aa hp
  cases hv:gL root with
  | false=>
   have HM:=aa (show fq cs root path= .error 1 by unfold fq; rw[if_neg (by rw[hv]; simp)]);have HVR:=aa hv;clear hp hv;go_wp2_with fail;refine(yo path W0 HI.o.env HP.o).mono ?_;rintro e w1 ⟨ap,cp,rfl,-,-,-,hb1⟩;have HB1:=aa (ab HB0.o hb1);have HW1:=aa hb1;have HX1:=aa (br hb1 HX0.o);have HY1:=aa (br hb1 HY0.o);obtain⟨r0,r1,r2,_⟩:=aj HX1.o
   simp only[Nat.zero_add,Nat.reduceAdd]at r1 r2;clear hb1;go_wp2_with fail;refine(dN root false _ HR.o HVR.o).mono ?_;rintro e w2 ⟨rfl,hb2⟩;have HB2:=aa (ab HB1.o hb2);have HY2:=aa (br hb2 HY1.o);obtain⟨z0,z1,z2,z3,z4,z5,z6,z7,z8,z9,_⟩:=aj HY2.o;simp only[Nat.zero_add,Nat.reduceAdd]at z1 z2 z3 z4 z5 z6 z7 z8 z9;have g0:=ah (k:=0) HY2.o;have g1:=ah (k:=1) HY2.o
   have g2:=ah (k:=2) HY2.o;have g3:=ah (k:=3) HY2.o;have g4:=ah (k:=4) HY2.o;have g5:=ah (k:=5) HY2.o;have g6:=ah (k:=6) HY2.o;have g7:=ah (k:=7) HY2.o;have g8:=ah (k:=8) HY2.o;have g9:=ah (k:=9) HY2.o;clear hb2 r0 r1 r2;go_wp2_with fail;refine jL HY2.o rfl rfl rfl ⟨dG HB2.o (by show w.heap.size<=w.heap.size+1; omega), ?_⟩
   rw[HM.o];exact⟨rfl,by decide⟩
  | true=>
   have HM:=aa (show fq cs root path=jK cs (ei (bl path)) (ig root) by unfold fq; rw[if_pos ⟨hp,hv⟩]);have HVR:=aa hv;clear hp hv;go_wp2_with fail;refine(yo path W0 HI.o.env HP.o).mono ?_;rintro e w1 ⟨ap,cp,rfl,hpn,hpm,hps,hb1⟩;obtain⟨ps,hpd⟩: ∃ps,ps=ei (bl path):=⟨_,rfl⟩;rw[<-hpd]at hps hpn ⊢;have HPD:=aa hpd;obtain⟨np,hnp⟩: ∃np,np=ps.length:=⟨_,rfl⟩
   rw[<-hnp]at hps hpn ⊢;have HNP:=aa hnp;have HPS:=aa hps;unfold maxLen at hpm;have HB1:=aa (ab HB0.o hb1);have HW1:=aa hb1;have HX1:=aa (br hb1 HX0.o);have HY1:=aa (br hb1 HY0.o);obtain⟨r0,r1,r2,_⟩:=aj HX1.o;simp only[Nat.zero_add,Nat.reduceAdd]at r1 r2;clear hb1;clear hpd hnp hps;go_wp2_with fail;refine(dN root true _ HR.o HVR.o).mono ?_;rintro e w2 ⟨rfl,hb2⟩
   have HB2:=aa (ab HB1.o hb2);have HY2:=aa (br hb2 HY1.o);have hx2:=br hb2 HX1.o;clear r0 r1 r2;obtain⟨r0,r1,r2,_⟩:=aj hx2;simp only[Nat.zero_add,Nat.reduceAdd]at r1 r2;clear hx2;go_wp2_with fail;obtain⟨W3,hW3⟩: ∃W3,W3=w2.alloc (.cells #[.string ⟨#[]⟩, .int .i64 2, .int .i64 0, .int .i64 0, .int .i64 0, .string ⟨#[]⟩, .slice none 0 0, .string root.name, .int .i64 root.gen, .int .i64 root.size] 28):=⟨_,rfl⟩
   rw[<-hW3];have HLK:=aa (show LkI w2 w2.heap.size W3 (ig root)from⟨by rw[hW3]; exact bH,⟨none,0,by rw[hW3]; exact bz w2 _,aU.nil⟩,yZ HR.o⟩);obtain⟨ib,hib⟩: ∃ib,ib=w2.heap.size:=⟨_,rfl⟩;rw[<-hib]at HLK ⊢;have HIB:=aa hib;have HPS2:=aa (aL.below HPS.o (by omega) hb2);have HW2:=aa (ab HW1.o hb2);clear hW3 r0 r1 r2 hb2 hib
   go_loopw [33] (fun i wr=> ∃(k:Nat) (it:aI),k<=np/\i= .int .i64 (k:Int)/\jK cs (ps.drop k) it=fq cs root path/\LkI w2 ib wr it) (fun i _=>np-(intOf i).toNat)
   case atStart=>exact⟨0,ig root,Nat.zero_le _,rfl,by rw[HM.o,<-HPD.o]; rfl,HLK.o⟩
   case round=>
    obtain⟨k,it,hk,rfl,hlp,hin⟩:=hrel;have HLP:=aa hlp;have HIN:=aa hin;obtain⟨ca,cc,hbx,hrf⟩:=hin.box;have HBX:=aa hbx;have HRF:=aa hrf;clear hlp hin hbx hrf HLK;have HYR:=aa ((HIN.o.below.block (w.heap.size+1) (by rw[HIB.o]; exact lt_of_block HY2.o)).trans HY2.o);have HWR:=aa (HB2.o.trans (HIN.o.below.mono (by rw[HIB.o]; exact HB2.o.size)));have hne:w.heap.size+1≠ib:=by have:=lt_of_block HY2.o; have:=HIB.o; omega
    by_cases hlt:k<np
    ·obtain⟨c,hc⟩: ∃c,ps[k]? =some c:=⟨ps[k]'(by rw[<-HNP.o]; exact hlt),by simp⟩;obtain⟨pb,po,rfl,hpb,hcell⟩:=FP HPS2.o (by have:=HIN.o.below; rw[HIB.o]at this; exact this) hc;have HDR:=aa (show ps.drop k=c::ps.drop (k+1) by
      rw[List.drop_eq_getElem_cons (by rw[<-HNP.o]; exact hlt)]
      congr 1
      exact(List.getElem?_eq_some_iff.1 hc).2)
     obtain⟨W4,hW4⟩: ∃W4,W4=wr.alloc (.cells #[.string c] 9):=⟨_,rfl⟩;have hb4:Below wr.heap.size wr W4:=by rw[hW4]; exact bH
     have HC4:=aa (show W4.cell? ⟨wr.heap.size,0,none⟩=some (.string c) by rw[hW4]; exact(ag (bz wr _)).trans rfl);have HIN4:=aa (HIN.o.next hb4);have HBX4:=aa (br hb4 HBX.o);have HY4:=aa (br hb4 HYR.o);have HB4:=aa (ab HWR.o hb4);have HI4:=aa (HI.o.keepL (HW2.o.trans ((HIN.o.below.mono (by rw[HIB.o]; exact HW2.o.size)).trans (hb4.mono (Nat.le_trans HW2.o.size (by have:=HIN.o.below.size; exact this))))) (Nat.le_refl _))
     clear hc hb4
     go_upto_region 8 with(fail)
     rw[<-hW4];clear hW4 hcell;have i0:=ag (k:=0) HBX4.o;have i1:=ag (k:=1) HBX4.o;have i2:=ag (k:=2) HBX4.o;have i3:=ag (k:=3) HBX4.o;have i4:=ag (k:=4) HBX4.o;have i5:=ag (k:=5) HBX4.o;have i6:=ag (k:=6) HBX4.o;have i7:=ag (k:=7) HBX4.o;have i8:=ag (k:=8) HBX4.o;have i9:=ag (k:=9) HBX4.o;simp only[cg,cr]at i0 i1 i2 i3 i4 i5 i6 i7 i8 i9
     by_cases hk2:it.kind=2
     ·have e1:(it.kind != 2)=false:=by simp[hk2]
      have HLP2:=aa (show(match ey cs it.node with | .error x=> .error x | .ok l=>match l.find? (fun y=>decide (y.name=c))with | none=> .error 4 | some y=>jK cs (ps.drop (k+1)) y)=fq cs root path by have:=HLP.o; rw[HDR.o,jK,if_pos hk2]at this; exact this);have hnd:=nG _ cv cs it.node W4 HI4.o.cont HIN.o.ok.nd HI4.o.env;unfold uQ at hnd;clear hk2
      cases hnp:ey cs it.node with
      | error x=>
       rw[hnp]at hnd;have HND:=aa hnd;have HM5:=aa (show fq cs root path= .error x by have:=HLP2.o; rw[hnp]at this; exact this.symm);clear hnp hnd;go_wp2_with fail;refine HND.o.mono ?_;rintro e w5 ⟨hb5,rfl,hx⟩;have HB5:=aa (ab HB4.o hb5);have HY5:=aa (br hb5 HY4.o);have e2:(x != 0)=true:=by simp[hx]
       have HX:=aa hx;clear hx hb5 i0 i1 i2 i3 i4 i5 i6 i7 i8 i9;obtain⟨z0,z1,z2,z3,z4,z5,z6,z7,z8,z9,_⟩:=aj HY5.o;simp only[Nat.zero_add,Nat.reduceAdd]at z1 z2 z3 z4 z5 z6 z7 z8 z9;have g0:=ah (k:=0) HY5.o;have g1:=ah (k:=1) HY5.o;have g2:=ah (k:=2) HY5.o;have g3:=ah (k:=3) HY5.o;have g4:=ah (k:=4) HY5.o;have g5:=ah (k:=5) HY5.o
       have g6:=ah (k:=6) HY5.o;have g7:=ah (k:=7) HY5.o;have g8:=ah (k:=8) HY5.o;have g9:=ah (k:=9) HY5.o;go_wp2_with fail;refine jL HY5.o rfl rfl rfl ⟨dG HB5.o (by show w.heap.size<=w.heap.size+1; omega), ?_⟩;rw[HM5.o];exact⟨rfl,HX.o⟩
      | ok l=>
       rw[hnp]at hnd;have HND:=aa hnd;have HLP3:=aa (show(match l.find? (fun y=>decide (y.name=c))with | none=> .error 4 | some y=>jK cs (ps.drop (k+1)) y)=fq cs root path by have:=HLP2.o; rw[hnp]at this; exact this);have HLV:=aa (rk hnp);clear hnp hnd;go_wp2_with fail;refine HND.o.mono ?_;rintro e w5 ⟨hb5,v5,rfl,hv5⟩;have HB5:=aa (ab HB4.o hb5)
       have HY5:=aa (br hb5 HY4.o);have HIN5:=aa (HIN4.o.next hb5);have HBX5:=aa (br hb5 HBX4.o);have HC5:=aa ((hb5.cell (p:=⟨wr.heap.size,0,none⟩) (aP HC4.o)).trans HC4.o);obtain⟨a5,cap5,rfl,hc5,hm5,-⟩:=aU.shape hv5 fH.len;unfold maxLen at hm5;have HV5:=aa hv5;have HZ4:=aa (show ib<W4.heap.size from lt_of_block HBX4.o);obtain⟨nl,hnl⟩: ∃nl,nl=l.length:=⟨_,rfl⟩
       rw[<-hnl]at HV5 hc5 ⊢;have HNL:=aa hnl;have hn4:nl<=4096:=by rw[hnl]; exact HLV.o.1
       clear hb5 hv5 hnl i0 i1 i2 i3 i4 i5 i6 i7 i8 i9;go_wp2_with fail;refine(sC _ l c wr.heap.size (.slice a5 nl cap5) w5 HV5.o HC5.o).mono ?_;rintro e w6 ⟨rfl,hb6⟩;have HB6:=aa (ab HB5.o hb6);have HY6:=aa (br hb6 HY5.o);have HIN6:=aa (HIN5.o.next hb6);have HBX6:=aa (br hb6 HBX5.o);have HB56:=aa hb6;clear hb6
       rcases tG c l 0 with⟨hf,hix⟩ | ⟨j,y,hj,hf,hix⟩
       ·have HM6:=aa (show fq cs root path= .error 4 by have:=HLP3.o; rw[hf]at this; exact this.symm);rw[hix];clear hf hix;obtain⟨z0,z1,z2,z3,z4,z5,z6,z7,z8,z9,_⟩:=aj HY6.o;simp only[Nat.zero_add,Nat.reduceAdd]at z1 z2 z3 z4 z5 z6 z7 z8 z9;have g0:=ah (k:=0) HY6.o;have g1:=ah (k:=1) HY6.o;have g2:=ah (k:=2) HY6.o;have g3:=ah (k:=3) HY6.o
        have g4:=ah (k:=4) HY6.o;have g5:=ah (k:=5) HY6.o;have g6:=ah (k:=6) HY6.o;have g7:=ah (k:=7) HY6.o;have g8:=ah (k:=8) HY6.o;have g9:=ah (k:=9) HY6.o;go_wp2_with fail;refine jL HY6.o rfl rfl rfl ⟨dG HB6.o (by show w.heap.size<=w.heap.size+1; omega), ?_⟩;rw[HM6.o];exact⟨rfl,by decide⟩
       ·have HM6:=aa (show jK cs (ps.drop (k+1)) y=fq cs root path by have:=HLP3.o; rw[hf]at this; exact this);rw[hix,Nat.zero_add];obtain⟨b7,o7,ca7,cc7,rfl,hok7,hrf7,hbl7,-,hcl⟩:=gG HV5.o HB56.o hj;have hjl:j<nl:=by rw[HNL.o]; exact(List.getElem?_eq_some_iff.1 hj).1
        have HOK7:=aa hok7;have HRF7:=aa hrf7;have q0:=hcl 0 (by omega);have q1:=hcl 1 (by omega);have q2:=hcl 2 (by omega);have q3:=hcl 3 (by omega);have q4:=hcl 4 (by omega);have q5:=hcl 5 (by omega);have q6:=hcl 6 (by omega);have q7:=hcl 7 (by omega);have q8:=hcl 8 (by omega);have q9:=hcl 9 (by omega);simp only[cg,vN,Nat.add_zero]at q0 q1 q2 q3 q4 q5 q6 q7 q8 q9
        have i0:=ag (k:=0) HBX6.o;have i1:=ag (k:=1) HBX6.o;have i2:=ag (k:=2) HBX6.o;have i3:=ag (k:=3) HBX6.o;have i4:=ag (k:=4) HBX6.o;have i5:=ag (k:=5) HBX6.o;have i6:=ag (k:=6) HBX6.o;have i7:=ag (k:=7) HBX6.o;have i8:=ag (k:=8) HBX6.o;have i9:=ag (k:=9) HBX6.o;simp only[cg,cr]at i0 i1 i2 i3 i4 i5 i6 i7 i8 i9
        have g0:=ah (k:=0) HBX6.o;have g1:=ah (k:=1) HBX6.o;have g2:=ah (k:=2) HBX6.o;have g3:=ah (k:=3) HBX6.o;have g4:=ah (k:=4) HBX6.o;have g5:=ah (k:=5) HBX6.o;have g6:=ah (k:=6) HBX6.o;have g7:=ah (k:=7) HBX6.o;have g8:=ah (k:=8) HBX6.o;have g9:=ah (k:=9) HBX6.o;clear hf hix hj hok7 hrf7 hcl;go_wp2_with fail
        go_roundw
        case rel=>
         refine⟨k+1,y,by omega,by go_num,HM6.o,⟨dG HIN6.o.below (Nat.le_refl _),⟨ca7,cc7,BO HBX6.o,bw.same HRF7.o (fun i hi hS=>⟨Nat.lt_of_lt_of_le HZ4.o hS,ke (by have:=HZ4.o; omega)⟩)⟩,HOK7.o⟩⟩
        case measure=>simp[intOf]; omega
     ·have e1:(it.kind != 2)=true:=by simp[hk2]
      have HM4:=aa (show fq cs root path= .error 4 by have:=HLP.o; rw[HDR.o,jK,if_neg hk2]at this; exact this.symm);clear hk2;obtain⟨z0,z1,z2,z3,z4,z5,z6,z7,z8,z9,_⟩:=aj HY4.o;simp only[Nat.zero_add,Nat.reduceAdd]at z1 z2 z3 z4 z5 z6 z7 z8 z9;have g0:=ah (k:=0) HY4.o;have g1:=ah (k:=1) HY4.o;have g2:=ah (k:=2) HY4.o;have g3:=ah (k:=3) HY4.o
      have g4:=ah (k:=4) HY4.o;have g5:=ah (k:=5) HY4.o;have g6:=ah (k:=6) HY4.o;have g7:=ah (k:=7) HY4.o;have g8:=ah (k:=8) HY4.o;have g9:=ah (k:=9) HY4.o;go_wp2_with fail;refine jL HY4.o rfl rfl rfl ⟨dG HB4.o (by show w.heap.size<=w.heap.size+1; omega), ?_⟩;rw[HM4.o];exact⟨rfl,by decide⟩
    ·have hk2:k=np:=by omega
     subst hk2;have hit:fq cs root path= .ok it:=by have:=HLP.o; rw[HNP.o,List.drop_length]at this; rw[<-this]; rfl
     have HIT:=aa hit;obtain⟨z0,z1,z2,z3,z4,z5,z6,z7,z8,z9,_⟩:=aj HYR.o;simp only[Nat.zero_add,Nat.reduceAdd]at z1 z2 z3 z4 z5 z6 z7 z8 z9;have g0:=ah (k:=0) HYR.o;have g1:=ah (k:=1) HYR.o;have g2:=ah (k:=2) HYR.o;have g3:=ah (k:=3) HYR.o;have g4:=ah (k:=4) HYR.o;have g5:=ah (k:=5) HYR.o;have g6:=ah (k:=6) HYR.o;have g7:=ah (k:=7) HYR.o
     have g8:=ah (k:=8) HYR.o;have g9:=ah (k:=9) HYR.o;have i0:=ag (k:=0) HBX.o;have i1:=ag (k:=1) HBX.o;have i2:=ag (k:=2) HBX.o;have i3:=ag (k:=3) HBX.o;have i4:=ag (k:=4) HBX.o;have i5:=ag (k:=5) HBX.o;have i6:=ag (k:=6) HBX.o;have i7:=ag (k:=7) HBX.o;have i8:=ag (k:=8) HBX.o;have i9:=ag (k:=9) HBX.o
     simp only[cg,cr]at i0 i1 i2 i3 i4 i5 i6 i7 i8 i9;clear hit;go_wp2_with fail;refine jL HYR.o rfl rfl rfl ⟨dG HWR.o (by show w.heap.size<=w.heap.size+1; omega), ?_⟩;rw[HIT.o];refine⟨_,rfl,bw.same HRF.o (fun k hk hS=>⟨by have:=lt_of_block HY2.o; have:=HIB.o; omega,ke (by have:=lt_of_block HY2.o; have:=HIB.o; omega)⟩),HIN.o.ok⟩
theorem EO (s:ByteArray) (w:World) (hs:s.size<=16777216):Calls Tryz.prog 87 #[.string s] w fun e w'=> ∃a cap,e= .returned (.slice a (ei (bl s)).length cap)/\(ei (bl s)).length<=cap/\cap<=maxLen/\fQ (w.heap.size<= ·) w' (.slice a (ei (bl s)).length cap) (ei (bl s))/\Below w.heap.size w w':=by
 refine(il s w hs).mono ?_;rintro e w' ⟨v,xs,rfl,hx,hv,hb⟩;have:xs=ei (bl s):=mA (hx.trans (uf _).symm);subst this;obtain⟨a,cap,rfl,h1,h2,_⟩:=hv.shape;exact⟨a,cap,rfl,h1,h2,hv,hb⟩
end Go.Proofs.YtpffpjbkbaleiaaGreatDoor
namespace Go.Proofs.YtpffpjbkbaleiaaGreatDoor
open Go.RowKit
def yF (d p:List UInt8):Prop:=d=[]\/ ∃r,p=d++47::r
theorem yF.trans {d p q:List UInt8} (h:yF d p) (h2:yF p q) (hp:p≠[]):yF d q:=by
 rcases h with h | ⟨r,rfl⟩
 ·exact .inl h
 ·rcases h2 with h2 | ⟨s,rfl⟩
  ·exact absurd h2 hp
  ·exact .inr ⟨r++47::s,by simp⟩
theorem qi (p:List UInt8):yF (aH p) p:=by
 by_cases h:aH p=[]
 ·exact .inl h
 ·exact .inr (lm h)
theorem EA {d p:List UInt8} (h:yF d p) (hd:d≠[]):aH p=d\/yF d (aH p):=by
 rcases h with h | ⟨r,h⟩
 ·exact absurd h hd
 ·rcases ng h with h1 | h1
  ·exact .inl h1
  ·exact .inr (.inr h1)
def bA (tree:List bo) (d:ByteArray):List bo:=tree.filter fun e=>decide (aH (bl e.path)=bl d)
theorem cJ {tree:List bo} {d:ByteArray} {e:bo} :e∈bA tree d<->e∈tree/\aH (bl e.path)=bl d:=by
 unfold bA; rw[List.mem_filter,decide_eq_true_eq]
def ry (tree:List bo):Nat->ByteArray->List bo
 | 0,_=>[]
 | f+1,d=>(bA tree d).flatMap fun e=>e::(if e.kind=2 then ry tree f e.path else [])
section
variable {tree : List bo} (h : yG tree)
include h
theorem lP {e:bo} (he:e∈tree):bl e.path≠[]:=rW (bi (h.val e he))
theorem Ff (d:ByteArray): ∀(n:Nat) {e:bo},(bl e.path).length<=n->e∈tree->yF (bl d) (bl e.path)-> ∃c∈bA tree d,c=e\/(c.kind=2/\yF (bl c.path) (bl e.path))
 | 0,e,hn,he,_=>absurd (List.length_eq_zero_iff.1 (Nat.le_zero.1 hn)) (lP h he)
 | n+1,e,hn,he,hb=>by
  by_cases hp:aH (bl e.path)=bl d
  ·exact⟨e,cJ.2 ⟨he,hp⟩, .inl rfl⟩
  ·have hne:aH (bl e.path)≠[]:=by
    intro h0
    by_cases hd:bl d=[]
    ·exact hp (by rw[h0,hd])
    ·rcases EA hb hd with h1 | h1
     ·exact hp h1
     ·rw[h0]at h1
      rcases h1 with h1 | ⟨r,h1⟩
      ·exact hd h1
      ·simp at h1
   obtain⟨g,hg,hgp,hgk⟩:=ou (h.up e he) hne;have hbg:yF (bl d) (bl g.path):=by
    rw[hgp]
    by_cases hd:bl d=[]
    ·exact .inl hd
    ·exact(EA hb hd).resolve_left hp
   have hlt:=cE (bi (h.val e he));have hge:yF (bl g.path) (bl e.path):=by rw[hgp]; exact qi _
   obtain⟨c,hc,h1⟩:=Ff d n (e:=g) (by rw[hgp]; omega) hg hbg;refine⟨c,hc, .inr ?_⟩
   rcases h1 with rfl | ⟨h1,h2⟩
   ·exact⟨hgk,hge⟩
   ·exact⟨h1,h2.trans hge (lP h hg)⟩
theorem Ez {e x:bo} (he:e∈tree) (hb:yF (bl e.path) (bl x.path)):iF e x<0:=by
 rcases hb with hb | ⟨r,hb⟩
 ·exact absurd hb (lP h he)
 ·have h1:iF e x<=0:=by unfold iF; rw[hb]; exact uY _ _
  rcases Int.lt_or_eq_of_le h1 with h2 | h2
  ·exact h2
  ·have h3:=jG.1 h2;rw[h3]at hb;have:=congrArg List.length hb;simp at this
theorem xm {d:ByteArray} {e g x:bo} (he:e∈bA tree d) (hg:g∈bA tree d) (hlt:iF e g<0) (hb:yF (bl e.path) (bl x.path)):iF x g<0:=by
 obtain⟨he1,he2⟩:=cJ.1 he;obtain⟨hg1,hg2⟩:=cJ.1 hg
 rcases hb with hb | ⟨r,hb⟩
 ·exact absurd hb (lP h he1)
 ·rcases Jw (bl x.path) (bl g.path)with h1 | h1 | h1
  ·show cb _ _<0; omega
  all_goals
   exfalso
   have h2:cb (bl g.path) (bl e.path++47::r)<=0:=by
    rw[<-hb,uZ]; omega
   rcases oY _ _ _ (show cb (bl e.path) (bl g.path)<=0 from Int.le_of_lt hlt) h2 with h3 | ⟨s,h3⟩
   ·have h4:=jG.2 (fE h3);have h5:=qq e g;omega
   ·have h6:(aH (bl e.path)).length<(bl e.path).length:=cE (bi (h.val e he1))
    rcases ng h3 with h4 | ⟨s',h4⟩
    ·rw[hg2,<-he2]at h4;have:=congrArg List.length h4;omega
    ·rw[hg2,<-he2]at h4;have:=congrArg List.length h4;simp at this;omega
theorem pU : ∀(f:Nat) (d:ByteArray),512<f+(bl d).length-> ∀e,e∈ry tree f d<->e∈tree/\yF (bl d) (bl e.path)
 | 0,d,hf,e=>by
  constructor
  ·intro he; simp[ry]at he
  ·rintro⟨he,hb⟩
   exfalso
   have h1:=iS (bi (h.val e he))
   rcases hb with hb | ⟨r,hb⟩
   ·rw[hb]at hf; simp at hf
   ·rw[hb]at h1;simp at h1;omega
 | f+1,d,hf,e=>by
  unfold ry;rw[List.mem_flatMap]
  constructor
  ·rintro⟨c,hc,he⟩;obtain⟨hc1,hc2⟩:=cJ.1 hc;have hcb:yF (bl d) (bl c.path):=by rw[<-hc2]; exact qi _
   rcases List.mem_cons.1 he with rfl | he
   ·exact⟨hc1,hcb⟩
   ·split at he
    ·have hlt:=cE (bi (h.val c hc1));rw[hc2]at hlt;obtain⟨h1,h2⟩:=(pU f c.path (by omega) e).1 he;exact⟨h1,hcb.trans h2 (lP h hc1)⟩
    ·cases he
  ·rintro⟨he,hb⟩;obtain⟨c,hc,h1⟩:=Ff h d _ (Nat.le_refl _) he hb;refine⟨c,hc, ?_⟩
   rcases h1 with rfl | ⟨h1,h2⟩
   ·exact List.mem_cons_self
   ·obtain⟨hc1,hc2⟩:=cJ.1 hc;have hlt:=cE (bi (h.val c hc1));rw[hc2]at hlt;rw[if_pos h1];exact List.mem_cons_of_mem _ ((pU f c.path (by omega) e).2 ⟨he,h2⟩)
theorem rz : ∀(f:Nat) (d:ByteArray),512<f+(bl d).length->dz (ry tree f d)
 | 0,_,_=>List.Pairwise.nil
 | f+1,d,hf=>by
  unfold ry dz;have hin: ∀c∈bA tree d,512<f+(bl c.path).length:=fun c hc=>by
   obtain⟨hc1,hc2⟩:=cJ.1 hc;have hlt:=cE (bi (h.val c hc1));rw[hc2]at hlt;omega
  have hbl: ∀c∈bA tree d,∀x∈(if c.kind=2 then ry tree f c.path else []),yF (bl c.path) (bl x.path):=fun c hc x hx=>by
   split at hx
   ·exact((pU h f c.path (hin c hc) x).1 hx).2
   ·cases hx
  rw[List.pairwise_flatMap]
  constructor
  ·intro c hc;rw[List.pairwise_cons];refine⟨fun x hx=>Ez h (cJ.1 hc).1 (hbl c hc x hx), ?_⟩
   split
   ·exact rz f c.path (hin c hc)
   ·exact List.Pairwise.nil
  ·have hk:dz (bA tree d):=h.ord.filter _;refine List.Pairwise.imp_of_mem (R:=fun a b=>iF a b<0) ?_ hk;intro a b ha hb hab x hx y hy;have h1:iF x b<0:=by
    rcases List.mem_cons.1 hx with rfl | hx
    ·exact hab
    ·exact xm h ha hb hab (hbl a ha x hx)
   rcases List.mem_cons.1 hy with rfl | hy
   ·exact h1
   ·exact ml h1 (Ez h (cJ.1 hb).1 (hbl b hb y hy))
theorem nT {L:List bo} (hs:dz L):L.Nodup:=by
 have _h:=h;exact List.Pairwise.imp (fun {a b} hab=>by
  intro e; subst e;have h1:=jG (a:=a) (b:=a);have:=h1.2 rfl
  omega) hs
theorem Ig {f:Nat} (hf:512<f):ry tree f ⟨#[]⟩=tree:=by
 have h0:bl (⟨#[]⟩:ByteArray)=[]:=rfl;have hs:=rz h f ⟨#[]⟩ (by omega);refine lA hs h.ord ?_;rw[List.perm_ext_iff_of_nodup (nT h hs) (nT h h.ord)];intro e;rw[pU h f ⟨#[]⟩ (by omega) e];exact⟨fun h1=>h1.1,fun h1=>⟨h1, .inl h0⟩⟩
end
def pk (dir path:List UInt8):List UInt8:=if(path.drop dir.length).head? =some 47 then(path.drop dir.length).tail else path.drop dir.length
theorem ww : ∀ {a b:List UInt8},47∉a->47∉b->cb a b<0->Op.bytesLess a b=true
 | [],[],_,_,h=>by simp[cb]at h
 | [],_::_,_,_,_=>rfl
 | _::_,[],_,_,h=>by simp[cb]at h
 | x::a,y::b,ha,hb,h=>by
  unfold cb at h;unfold Op.bytesLess;simp only[List.mem_cons,not_or]at ha hb
  by_cases hxy:x=y
  ·rw[if_pos hxy]at h;rw[ww ha.2 hb.2 h,hxy];simp
  ·rw[if_neg hxy]at h;unfold de at h;rw[if_neg (fun e=>ha.1 e.symm),if_neg (fun e=>hb.1 e.symm)]at h;have h1:x<y:=by
    rw[UInt8.lt_iff_toNat_lt];unfold Lib.compareInt at h
    split at h
    ·omega
    ·split at h<;> omega
   simp[h1]
theorem wy : ∀(d a b:List UInt8),cb (d++a) (d++b)=cb a b
 | [],_,_=>rfl
 | x::d,a,b=>by
  rw[List.cons_append,List.cons_append,cb,if_pos rfl,wy d a b]
theorem GM {t:List UInt8} (h:dm t=true):bq t=true:=by
 have h47:47∉t:=(wD h).2.2.2;unfold bq;rw[cR 47 t h47];have hl:t.length<=64:=by
  unfold dm at h;simp only[Bool.and_eq_true,decide_eq_true_eq]at h;exact h.1.1.1.1.2
 simp[h];omega
structure lJ (d p t : List UInt8) : Prop where
 comp:dm t=true
 path:p=if d=[]then t else d++47::t
 last:pk d p=t
theorem ny {d p:List UInt8} (hv:bq p=true) (hp:aH p=d):lJ d p (pk d p):=by
 by_cases hm:(47:UInt8)∈p
 ·obtain⟨q,t,rfl,ht⟩:=iK p hm;rw[fJ q t ht]at hp;subst hp;have hl:pk q (q++47::t)=t:=by unfold pk; simp
  have hc:dm t=true:=lD hv t (by rw[kz,cR 47 t ht]; simp);have hq:q≠[]:=by
   intro h0;subst h0;have:=lD hv [] (by rw[kz]; simp[aW]);exact absurd this (by decide)
  exact⟨by rw[hl]; exact hc,by rw[hl,if_neg hq],rfl⟩
 ·rw[iO p hm]at hp;subst hp;have hne:=rW hv;have hc:dm p=true:=lD hv p (by rw[cR 47 p hm]; simp);have hl:pk [] p=p:=by
   unfold pk
   cases p with
   | nil=>exact absurd rfl hne
   | cons x p=>
    simp only[List.length_nil,List.drop_zero,List.head?_cons,List.tail_cons];rw[if_neg];intro h;rw[Option.some.injEq]at h;subst h;exact hm (List.mem_cons_self)
  exact⟨by rw[hl]; exact hc,by rw[hl,if_pos rfl],rfl⟩
theorem lJ.no {d p t:List UInt8} (h:lJ d p t):47∉t:=(wD h.comp).2.2.2
theorem Fd {d p q s t:List UInt8} (h:lJ d p s) (h2:lJ d q t) (hlt:cb p q<0):Op.bytesLess s t=true:=by
 refine ww h.no h2.no ?_;rw[h.path,h2.path]at hlt
 split at hlt
 ·exact hlt
 ·rw[wy]at hlt;unfold cb at hlt;rw[if_pos rfl]at hlt;exact hlt
def eL (gs:List (ByteArray×Int)):Prop:= ∀p∈gs,0<=p.2/\p.2<=1099511627776
theorem vo {gs:List (ByteArray×Int)} (h:eL gs) (n:ByteArray):0<=gF gs n/\gF gs n<=1099511627776:=by
 unfold gF
 cases hf:gs.find? fun p=>decide (p.1=n)with
 | none=>simp
 | some p=>exact h p (List.mem_of_find?_eq_some hf)
theorem Fg (tree:List bo) (d:ByteArray):cU tree d=bA tree d:=rfl
theorem vl (c:cF) (data:List UInt8):(cN c data).flatten=data:=rx
theorem nr {c:cF} (hc:dV c=true) (x:List UInt8): ∀y∈cN c x,1<=y.length/\y.length<=32768:=by
 have hv:=fX.1 hc;intro y hy;have:=ug (mx:=c.mx.toNat) (by omega) (jI) y hy;omega
theorem uA : ∀(l:List aV) (a:Int),0<=a->(∀r∈l,0<=r.size)->a+(l.map aV.size).sum<=9223372036854775807->l.foldl (fun a r=>wrap64 (a+r.size)) a=a+(l.map aV.size).sum
 | [],a,_,_,_=>by simp
 | r::l,a,h0,hs,hl=>by
  have h1:=hs r (by simp);have h2:0<=(l.map aV.size).sum:=by
   have: ∀(l:List aV),(∀r∈l,0<=r.size)->0<=(l.map aV.size).sum:=by
    intro l
    induction l with
    | nil=>simp
    | cons x l ih=>
     intro h;have h1:=h x (by simp);have h2:=ih fun r hr=>h r (by simp[hr])
     rw[List.map_cons,List.sum_cons]; omega
   exact this l fun x hx=>hs x (by simp[hx])
  rw[List.map_cons,List.sum_cons]at hl;rw[List.foldl_cons,List.map_cons,List.sum_cons,show wrap64 (a+r.size)=a+r.size by unfold wrap64; omega,uA l _ (by omega) (fun x hx=>hs x (by simp[hx])) (by omega)];omega
section
variable {k : bn} {gs : List (ByteArray × Int)} {c : cF}
theorem uk : ∀(l:List (List UInt8)),((l.map (aE k gs)).map aV.size).sum=((l.flatten.length:Nat):Int)
 | []=>by simp
 | x::l=>by
  rw[List.map_cons,List.map_cons,List.sum_cons,uk l,List.flatten_cons,List.length_append]
  show(x.length:Int)+_=_
  omega
theorem Cp {data:List UInt8} (hl:data.length<=1048576):gQ ((cN c data).map (aE k gs))=(data.length:Int):=by
 have h1:=uk (k:=k) (gs:=gs) (cN c data);rw[vl]at h1;unfold gQ;rw[uA _ _ (by omega) (fun r hr=>by
  obtain⟨x,_,rfl⟩:=List.mem_map.1 hr
  show(0:Int)<=(x.length:Int)
  omega) (by rw[h1]; omega),h1]
 omega
theorem mO (hg:eL gs) {x:List UInt8} (hx:x.length<=32768):gL (aE k gs x)=true:=by
 have h1:=vo hg (gh k 0 x);have h2:(aE k gs x).name.size=32:=fG _ _ _;have h3:(aE k gs x).gen=gF gs (gh k 0 x):=rfl;have h4:(aE k gs x).size=(x.length:Int):=rfl;unfold gL;rw[h2,h3,h4];simp only[Bool.and_eq_true,decide_eq_true_eq];exact⟨⟨⟨⟨trivial,h1.1⟩,h1.2⟩,by omega⟩,by omega⟩
theorem qG {e:bo} (h:dd e=true):(e.kind=1/\e.data.length<=1048576/\e.link.size=0)\/(e.kind=2/\e.data=[]/\e.link.size=0)\/(e.kind=3/\e.data=[]/\1<=e.link.size/\e.link.size<=512/\(bl e.link).contains 0=false):=by
 unfold dd fx at h;rw[Bool.and_eq_true]at h;have h2:=h.2
 split at h2
 ·simp only[Bool.and_eq_true,decide_eq_true_eq]at h2;exact .inl ⟨by assumption,h2⟩
 ·split at h2
  ·simp only[Bool.and_eq_true,decide_eq_true_eq]at h2;exact .inr (.inl ⟨by assumption,List.eq_nil_of_length_eq_zero h2.1,h2.2⟩)
  ·split at h2
   ·simp only[Bool.and_eq_true,decide_eq_true_eq,jB,Bool.not_eq_true']at h2;refine .inr (.inr ⟨by assumption,List.eq_nil_of_length_eq_zero h2.1, ?_, ?_,h2.2.2⟩)
    ·rw[am]; exact h2.2.1.1
    ·rw[am]; exact h2.2.1.2
   ·cases h2
theorem xd (hc:dV c=true) (hg:eL gs) {d:ByteArray} {e:bo} {nd:aV} (hv:dd e=true) (hp:aH (bl e.path)=bl d) (hn:e.kind=2->gL nd=true):ep (aT k gs c d e nd)=true:=by
 have hk:=ny (bi hv) hp;have hnm:bl (aT k gs c d e nd).name=pk (bl d) (bl e.path):=by
  show bl ⟨(gH (bl d) (bl e.path)).toArray⟩=_
  rw[ed]; rfl
 have hh:nW (aT k gs c d e nd)=true:=by
  have h1:jA e=true:=by unfold dd at hv; simp only[Bool.and_eq_true]at hv; exact hv.1.2
  unfold jA at h1;unfold nW;rw[hnm,GM hk.comp];simp only[Bool.and_eq_true,decide_eq_true_eq,Bool.not_eq_true']at h1 ⊢;refine⟨⟨trivial, ?_⟩,⟨h1.1.1,h1.1.2⟩,h1.2⟩;have h2:=hk.no
  simpa using h2
 unfold ep;rw[hh,Bool.true_and]
 rcases qG hv with⟨h1,h2,h3⟩ | ⟨h1,h2,h3⟩ | ⟨h1,h2,h3,h4,h5⟩
 ·have e1:aT k gs c d e nd=⟨⟨(gH (bl d) (bl e.path)).toArray⟩,1,e.mode,e.time,(e.data.length:Int),e.link,(cN c e.data).map (aE k gs),bG⟩:=by
   unfold aT; rw[h1]; simp
  rw[e1];unfold fg fA;rw[if_pos rfl];simp only[Bool.and_eq_true,decide_eq_true_eq,List.all_eq_true];refine⟨⟨h3,trivial⟩,fun r hr=> ?_, ?_,by omega⟩
  ·obtain⟨x,hx,rfl⟩:=List.mem_map.1 hr;have h4:=nr hc e.data x hx;unfold lC;rw[mO hg h4.2]
   show(true && decide ((1:Int)<=(x.length:Int)))=true
   simp;omega
  ·exact(Cp h2).symm
 ·have e1:aT k gs c d e nd=⟨⟨(gH (bl d) (bl e.path)).toArray⟩,2,e.mode,e.time,0,e.link,[],nd⟩:=by
   unfold aT; rw[h1]; simp
  rw[e1];unfold fg;rw[if_neg (show ¬((2:Int)=1) by decide),if_pos rfl];simp[h3,hn h1]
 ·have e1:aT k gs c d e nd=⟨⟨(gH (bl d) (bl e.path)).toArray⟩,3,e.mode,e.time,0,e.link,[],bG⟩:=by
   unfold aT; rw[h1]; simp
  rw[e1];unfold fg;rw[if_neg (show ¬((3:Int)=1) by decide),if_neg (show ¬((3:Int)=2) by decide),if_pos rfl];have h6:(0:UInt8)∉bl e.link:=by simpa using h5
  simp[h3,h4,h6]
theorem xE : ∀(l:List aI) (p:Option ByteArray),(∀it∈l,ep it=true)->l.Pairwise (fun a b=>GZ a.name b.name=true)->(∀q,p=some q-> ∀it∈l,GZ q it.name=true)->eu p l=true
 | [],_,_,_,_=>rfl
 | it::l,p,hv,hs,hp=>by
  rw[List.pairwise_cons]at hs;unfold eu;rw[hv it (by simp),xE l (some it.name) (fun x hx=>hv x (by simp[hx])) hs.2 (fun q hq x hx=>by
   simp only[Option.some.injEq]at hq;subst hq;exact hs.1 x hx)]
  cases p with
  | none=>rfl
  | some q=>
   have:=hp q rfl it (by simp);unfold kj;simp only;rw[this]; rfl
theorem qR {tree:List bo} (h:yG tree) (hc:dV c=true) (hg:eL gs) (d:ByteArray) (nd:bo->aV) (hn: ∀e∈bA tree d,e.kind=2->gL (nd e)=true):eq ((bA tree d).map fun e=>aT k gs c d e (nd e))=true:=by
 have hl:(bA tree d).length<=tree.length:=List.length_filter_le _ _;unfold eq;rw[Bool.and_eq_true,decide_eq_true_eq];refine⟨by rw[List.length_map]; have:=h.len; omega, ?_⟩;refine xE _ _ (fun it hit=> ?_) ?_ (fun q hq=>by cases hq)
 ·obtain⟨e,he,rfl⟩:=List.mem_map.1 hit;obtain⟨h1,h2⟩:=cJ.1 he;exact xd hc hg (h.val e h1) h2 (hn e he)
 ·rw[List.pairwise_map];have hk:dz (bA tree d):=h.ord.filter _;refine List.Pairwise.imp_of_mem (R:=fun a b=>iF a b<0) ?_ hk;intro a b ha hb hab;obtain⟨a1,a2⟩:=cJ.1 ha;obtain⟨b1,b2⟩:=cJ.1 hb
  show Op.bytesLess (ByteArray.toList ⟨(gH (bl d) (bl a.path)).toArray⟩) (ByteArray.toList ⟨(gH (bl d) (bl b.path)).toArray⟩)=true
  rw[cA,cA,ed,ed];exact Fd (ny (bi (h.val a a1)) a2) (ny (bi (h.val b b1)) b2) hab
end
open Go Go.RowKit Go.Maps
theorem tX (S:Nat->Prop) (k:bn) (g:Nat) (gi:Int) (data:List UInt8) (dv:Value) (w:World) (hgi:gi=(g:Int)) (hk:dX k=true) (hg:g<=1099511627776) (hv:ar S w dv data) (hl:data.length<=32768):
  Calls Tryz.prog 178 #[dW k, .int .i64 gi,dv] w fun e w'=>e= .returned (.tuple #[.string (gh k g data), .int .i64 0])/\Below w.heap.size w w':=by
 subst hgi;exact zK S k g data dv w hk hg hv hl
theorem EU {a:Act} {w:World} {b:Nat} {x0 x1 x2:Value} (h:w.heap[b]? =some (.cells #[x0,x1,x2] 26 (0,0)))
  (h4:a.tmps[6]? =some (.pointer (some ⟨b,0,none⟩))):(results Tryz.f158 a.tmps).run Tryz.prog w= .ok (.agg #[x0,x1,x2]) w:=by
 obtain⟨m0,m1,m2,_⟩:=aj h;simp only[Nat.zero_add,Nat.reduceAdd]at m1 m2;simp[results,Tryz.results158,go_sem,h4,m0,m1,m2]
theorem ET {a:Act} {w:World} {b:Nat} {a0 a1 a2 x0 x1 x2:Value} {Q:Ending->World->Prop} (h:w.heap[b]? =some (.cells #[a0,a1,a2] 26 (0,0)))
  (h4:a.tmps[6]? =some (.pointer (some ⟨b,0,none⟩))) (hd:a.defers=[])
  (hQ:Q (.returned (.agg #[x0,x1,x2])) (((w.setCell ⟨b,0,none⟩ x0).setCell ⟨b,1,none⟩ x1).setCell ⟨b,2,none⟩ x2)):
  bodyPost Tryz.prog Tryz.f158 Q Exit.ret a (((w.setCell ⟨b,0,none⟩ x0).setCell ⟨b,1,none⟩ x1).setCell ⟨b,2,none⟩ x2):=bodyPost_ret (EU (pA h) h4) hd hQ
def Gv (k:bn) (b:Nat) (w:World):Prop:=w.heap[b]? =some (.cells #[.string k.nm, .string k.st, .string k.ck, .string k.ix, .string k.tk] 42 (0,0))/\w.heap[b+1]? =some (.cells #[.string ⟨#[]⟩, .int .i64 0, .int .i64 0] 26 (0,0))
theorem Gv.below {k:bn} {b:Nat} {w w':World} (h:Gv k b w) (hb:Below w.heap.size w w'):Gv k b w':=⟨(hb.block _ (lt_of_block h.1)).trans h.1,(hb.block _ (lt_of_block h.2)).trans h.2⟩
theorem qJ (S T:Nat->Prop) (k:bn) (gs:List (ByteArray×Int)) (gv:Value) (x:List UInt8) (cv:Value) (w:World) (hk:dX k=true) (hG:dO T w gv gs) (hT: ∀i,T i->i<w.heap.size) (hgs:eL gs) (hv:ar S w cv x) (hl:x.length<=32768):
  Calls Tryz.prog 158 #[dW k,cv,gv] w fun e w'=>e= .returned (bU (aE k gs x))/\Below w.heap.size w w':=by
 obtain⟨hl0,a,cap,rfl,hn,hm,-⟩:=id hv;unfold maxLen at hm;obtain⟨n,hnd⟩: ∃n,n=x.length:=⟨_,rfl⟩;have HN:=aa hnd;obtain⟨W,hW⟩: ∃W,W=(w.alloc (.cells #[.string k.nm, .string k.st, .string k.ck, .string k.ix, .string k.tk] 42)).alloc (.cells #[.string ⟨#[]⟩, .int .i64 0, .int .i64 0] 26):=⟨_,rfl⟩;have HB:=aa (show Below w.heap.size w W by rw[hW]; exact(bH).alloc (by simp) _)
 have HX:=aa (show Gv k w.heap.size W by rw[hW]; exact⟨fD (heap_alloc_new w _) _,by have:=heap_alloc_new (w.alloc (.cells #[.string k.nm, .string k.st, .string k.ck, .string k.ix, .string k.tk] 42)) (.cells #[.string ⟨#[]⟩, .int .i64 0, .int .i64 0] 26); rw[show(w.alloc (.cells #[.string k.nm, .string k.st, .string k.ck, .string k.ix, .string k.tk] 42)).heap.size=w.heap.size+1 by simp]at this; exact this⟩)
 have HVW:=aa (show ar S w (.slice a x.length cap) x from hv);rw[<-hnd]at hl HVW ⊢;have HK:=aa hk;have HGW:=aa hG;have HGO:=aa hgs;have HTT:=aa hT;clear hv hl0 hnd hk hG hgs hT;unfold dW
 go_enter Tryz.func158,Tryz.ntmps158
 go_upto_region 1 with fail
 rw[<-hW];clear hW;have hx0:=HX.o.1;obtain⟨k0,k1,k2,k3,k4,_⟩:=aj hx0;simp only[Nat.zero_add,Nat.reduceAdd]at k1 k2 k3 k4;clear hx0;have HV1:=aa (show ar S W (.slice a n cap) x from aL.below HVW.o (by omega) HB.o);go_wp2_with fail;clear k0 k1 k2 k3 k4;refine(tX S k 0 0 x _ _ rfl HK.o (by decide) HV1.o (by rw[<-HN.o]; exact hl)).mono ?_;rintro e w1 ⟨rfl,hb1⟩;obtain⟨nm,hnm⟩: ∃nm,nm=gh k 0 x:=⟨_,rfl⟩
 have hnms:nm.size=32:=by rw[hnm]; exact fG _ _ _
 rw[<-hnm];have HNM:=aa hnm;have HB1:=aa (ab HB.o hb1);have HX1:=aa (HX.o.below hb1);have hlk:=wS (HGW.o.keep (w':=w1) (fun i hi _=>HB1.o.block i (HTT.o i hi))) (n:=nm) (by rw[hnms]; decide);obtain⟨gi,hgi⟩: ∃g,g=gF gs nm:=⟨_,rfl⟩;rw[<-hgi]at hlk;obtain⟨gn,hgn⟩: ∃gn:Nat,gn=gi.toNat:=⟨_,rfl⟩;have hg0:gi=(gn:Int):=by have:=vo HGO.o nm; rw[<-hgi]at this; omega
 have hgm:gn<=1099511627776:=by have:=vo HGO.o nm; rw[<-hgi]at this; omega
 have HGI:=aa hgi;rw[hg0]at hlk;have HG0:=aa hg0;have HGN:=aa hgn;have hx0:=HX1.o.1;obtain⟨k0,k1,k2,k3,k4,_⟩:=aj hx0;simp only[Nat.zero_add,Nat.reduceAdd]at k1 k2 k3 k4;clear hx0 hb1 hnm hgi hgn hg0;have HV2:=aa (show ar S w1 (.slice a n cap) x from aL.below HVW.o (by omega) HB1.o);go_wp2_with fail;refine(tX S k gn gn x _ _ rfl HK.o hgm HV2.o (by rw[<-HN.o]; exact hl)).mono ?_
 rintro e w2 ⟨rfl,hb2⟩;clear k0 k1 k2 k3 k4 hlk;have HB2:=aa (ab HB1.o hb2);have HX2:=aa (HX1.o.below hb2);have HRF:=aa (show aE k gs x=⟨gh k gn x,(gn:Int),(n:Int)⟩ by
  unfold aE;rw[<-HNM.o,<-HGI.o,<-HGN.o,<-HG0.o,<-HN.o])
 clear hb2;obtain⟨z0,z1,z2,_⟩:=aj HX2.o.2;simp only[Nat.zero_add,Nat.reduceAdd]at z1 z2;have y0:=ah (k:=0) HX2.o.2;have y1:=ah (k:=1) HX2.o.2;have y2:=ah (k:=2) HX2.o.2;obtain⟨rn,hrn⟩: ∃r,r=gh k gn x:=⟨_,rfl⟩;rw[<-hrn]at HRF ⊢;clear hrn;go_wp2_with fail;refine ET HX2.o.2 rfl rfl ⟨?_, ?_⟩
 ·rw[HRF.o]; rfl
 ·exact bL HB2.o (by omega)
def qZ (l:List UInt8):ByteArray:=(ei l).getLast?.getD ⟨#[]⟩
theorem CH {d p t:List UInt8} (h:lJ d p t):qZ p=⟨t.toArray⟩:=by
 unfold qZ ei;have h1:(aW 47 p).getLast? =some t:=by
  rw[h.path]
  split
  ·rw[cR 47 _ h.no]; rfl
  ·rw[kz,cR 47 _ h.no]; simp
 rw[List.getLast?_map,h1]; rfl
theorem zS (l:List UInt8):1<=(ei l).length:=by unfold ei; rw[List.length_map]; exact mT 47 l
theorem qY (s:ByteArray) (w:World) (hs:s.size<=16777216):Calls Tryz.prog 124 #[.string s] w fun e w'=>e= .returned (.string (qZ (bl s)))/\Below w.heap.size w w':=by
 go_enter Tryz.func124,Tryz.ntmps124
 go_wp2_with fail;refine(EO s w hs).mono ?_;rintro e w1 ⟨a,cap,rfl,hc,hm,hst,hb1⟩;obtain⟨n,hn⟩: ∃n,n=(ei (bl s)).length:=⟨_,rfl⟩;have hn1:1<=n:=by rw[hn]; exact zS _
 unfold maxLen at hm;obtain⟨x,hx⟩: ∃x,(ei (bl s))[n-1]? =some x:=⟨_,List.getElem?_eq_getElem (by omega)⟩;have HL:=aa (show qZ (bl s)=x by unfold qZ; rw[List.getLast?_eq_getElem?,<-hn,hx]; rfl);have HB1:=aa hb1;obtain⟨_,_,he,-,-,hcell⟩:=fQ.shape hst;simp only[Value.slice.injEq]at he;obtain⟨rfl,-,rfl⟩:=he;obtain⟨b,o,rfl,-,q0⟩:=hcell (n-1) x hx
 rw[<-hn]at hc ⊢;have hni:IntKind.i64.wrap ((n:Int)-1)=((n-1:Nat):Int):=by rw[IntKind.wrap_i64]; omega
 have hni2:(n:Int)-1=((n-1:Nat):Int):=by omega
 clear hst hb1 hn hx hcell;go_wp2_with fail;go_ret;exact⟨by rw[HL.o]; rfl,HB1.o⟩
end Go.Proofs.YtpffpjbkbaleiaaGreatDoor
namespace Go.Proofs.YtpffpjbkbaleiaaGreatDoor
open Go.RowKit
section
variable (k : bn) (gs : List (ByteArray × Int)) (c : cF) (tree : List bo)
def ew :Nat->ByteArray->List UInt8×List (List UInt8)
 | 0,_=>([],[])
 | f+1,d=>(cQ ((bA tree d).map fun e=>aT k gs c d e (aE k gs (ew f e.path).1)),
  ((bA tree d).flatMap fun e=>if e.kind=1 then cN c e.data else if e.kind=2 then(ew f e.path).2 else [])++[cQ ((bA tree d).map fun e=>aT k gs c d e (aE k gs (ew f e.path).1))])
def kh (f:Nat) (d:ByteArray):List aI:=(bA tree d).map fun e=>aT k gs c d e (aE k gs (ew k gs c tree f e.path).1)
def eJ (f:Nat) (e:bo):List (List UInt8):=if e.kind=1 then cN c e.data else if e.kind=2 then(ew k gs c tree f e.path).2 else []
theorem eh (f:Nat) (d:ByteArray):ew k gs c tree (f+1) d=(cQ (kh k gs c tree f d),(bA tree d).flatMap (eJ k gs c tree f)++[cQ (kh k gs c tree f d)]):=rfl
def kQ :Nat->ByteArray->Bool
 | 0,_=>false
 | f+1,d=>(bA tree d).any (fun e=>decide (e.kind=2) && kQ f e.path) || decide (32768<(ew k gs c tree (f+1) d).1.length)
end
section
variable {k : bn} {gs : List (ByteArray × Int)} {c : cF} {tree : List bo}
theorem iJ {d:ByteArray} {e:bo} (h:e.kind≠2) (a b:aV):aT k gs c d e a=aT k gs c d e b:=by
 unfold aT; rw[if_neg h,if_neg h]
def xD (k:bn) (gs:List (ByteArray×Int)) (rec:ByteArray->Except Int (List UInt8×List (List UInt8))) (e:bo):aV:=match rec e.path with
 | .ok p=>aE k gs p.1
 | .error _=>bG
def ve (c:cF) (rec:ByteArray->Except Int (List UInt8×List (List UInt8))) (e:bo):List (List UInt8):=if e.kind=1 then cN c e.data else if e.kind=2 then(match rec e.path with | .ok p=>p.2 | .error _=>[])else []
theorem xn {rec:ByteArray->Except Int (List UInt8×List (List UInt8))} {d:ByteArray} : ∀(L:List bo) (its:List aI) (cs:List (List UInt8)),(∀e∈L,e.kind=2-> ∃p,rec e.path= .ok p)->
  cV k gs c rec d L its cs= .ok (its++L.map (fun e=>aT k gs c d e (xD k gs rec e)),cs++L.flatMap (ve c rec))
 | [],its,cs,_=>by simp[cV]
 | e::L,its,cs,h=>by
  have ih:=fun its cs=>xn (d:=d) L its cs fun x hx=>h x (by simp[hx])
  by_cases h1:e.kind=1
  ·rw[cV,if_pos h1,ih,iJ (b:=xD k gs rec e) (by omega)];rw[List.map_cons,List.flatMap_cons,show ve c rec e=cN c e.data by unfold ve; rw[if_pos h1]];simp
  ·by_cases h2:e.kind=2
   ·obtain⟨p,hp⟩:=h e (by simp) h2;rw[cV,if_neg h1,if_pos h2,hp];simp only;rw[ih,List.map_cons,List.flatMap_cons,show ve c rec e=p.2 by unfold ve; rw[if_neg h1,if_pos h2,hp],show xD k gs rec e=aE k gs p.1 by unfold xD; rw[hp]];simp
   ·rw[cV,if_neg h1,if_neg h2,ih,iJ (b:=xD k gs rec e) h2];rw[List.map_cons,List.flatMap_cons,show ve c rec e=[] by unfold ve; rw[if_neg h1,if_neg h2]];simp
theorem xo {rec:ByteArray->Except Int (List UInt8×List (List UInt8))} {d:ByteArray} : ∀(L:List bo) (its:List aI) (cs:List (List UInt8)),(∀e∈L,e.kind=2->(∃p,rec e.path= .ok p)\/rec e.path= .error 2)->
  (∃e∈L,e.kind=2/\rec e.path= .error 2)->cV k gs c rec d L its cs= .error 2
 | [],its,cs,_,h=>by obtain⟨e,he,_⟩:=h; cases he
 | e::L,its,cs,h,hx=>by
  have ih:=fun its cs hx=>xo (d:=d) L its cs (fun x hx=>h x (by simp[hx])) hx
  by_cases h1:e.kind=1
  ·rw[cV,if_pos h1];refine ih _ _ ?_;obtain⟨x,hx,h3,h4⟩:=hx
   rcases List.mem_cons.1 hx with rfl | hx
   ·omega
   ·exact⟨x,hx,h3,h4⟩
  ·by_cases h2:e.kind=2
   ·rw[cV,if_neg h1,if_pos h2]
    rcases h e (by simp) h2 with⟨p,hp⟩ | hp
    ·rw[hp];simp only;refine ih _ _ ?_;obtain⟨x,hx,h3,h4⟩:=hx
     rcases List.mem_cons.1 hx with rfl | hx
     ·rw[hp]at h4; cases h4
     ·exact⟨x,hx,h3,h4⟩
    ·rw[hp]
   ·rw[cV,if_neg h1,if_neg h2];refine ih _ _ ?_;obtain⟨x,hx,h3,h4⟩:=hx
    rcases List.mem_cons.1 hx with rfl | hx
    ·exact absurd h3 h2
    ·exact⟨x,hx,h3,h4⟩
theorem GH {f:Nat} {d:ByteArray} (h:kQ k gs c tree (f+1) d=false):(∀e∈bA tree d,e.kind=2->kQ k gs c tree f e.path=false)/\(ew k gs c tree (f+1) d).1.length<=32768:=by
 unfold kQ at h;rw[Bool.or_eq_false_iff,decide_eq_false_iff_not,List.any_eq_false]at h;refine⟨fun e he hk=> ?_,by omega⟩;have:=h.1 e he
 simpa [hk]using this
theorem Bg (h:yG tree) (hc:dV c=true) (hg:eL gs): ∀(f:Nat) (d:ByteArray),(bl d).length<=512->512<f+(bl d).length->cO k gs c tree f d=if kQ k gs c tree f d=true then .error 2 else .ok (ew k gs c tree f d)
 | 0,d,h1,h2=>by omega
 | f+1,d,h1,h2=>by
  have ih: ∀e∈bA tree d,cO k gs c tree f e.path=if kQ k gs c tree f e.path=true then .error 2 else .ok (ew k gs c tree f e.path):=fun e he=>by
   obtain⟨he1,he2⟩:=cJ.1 he;have h3:=bi (h.val e he1);have h4:=cE h3;rw[he2]at h4;exact Bg h hc hg f e.path (iS h3) (by omega)
  have hf: ∀e∈bA tree d,1<=f:=fun e he=>by
   obtain⟨he1,he2⟩:=cJ.1 he;have h3:=bi (h.val e he1);have h4:=cE h3;have h5:=iS h3;rw[he2]at h4;omega
  rw[cO,Fg]
  by_cases hb: ∃e∈bA tree d,e.kind=2/\kQ k gs c tree f e.path=true
  ·obtain⟨e,he,hk,hbe⟩:=hb;rw[xo (bA tree d) [] [] (fun x hx hk=>by
    rw[ih x hx]
    cases hbx:kQ k gs c tree f x.path
    ·exact .inl ⟨_,if_neg (by simp)⟩
    ·exact .inr (if_pos rfl)) ⟨e,he,hk,by rw[ih e he,hbe]; simp⟩]
   have hbt:kQ k gs c tree (f+1) d=true:=by
    unfold kQ;rw[Bool.or_eq_true,List.any_eq_true];exact .inl ⟨e,he,by simp[hk,hbe]⟩
   rw[hbt];simp
  ·have hnb: ∀e∈bA tree d,e.kind=2->kQ k gs c tree f e.path=false:=fun e he hk=>by
    cases hbe:kQ k gs c tree f e.path
    ·rfl
    ·exact absurd ⟨e,he,hk,hbe⟩ hb
   have hok: ∀e∈bA tree d,e.kind=2->cO k gs c tree f e.path= .ok (ew k gs c tree f e.path):=fun e he hk=>by
    rw[ih e he,hnb e he hk]; simp
   rw[xn (bA tree d) [] [] fun e he hk=>⟨_,hok e he hk⟩];simp only[List.nil_append];have e1:(bA tree d).map (fun e=>aT k gs c d e (xD k gs (cO k gs c tree f) e))=kh k gs c tree f d:=by
    refine List.map_congr_left fun e he=> ?_
    by_cases hk:e.kind=2
    ·rw[show xD k gs (cO k gs c tree f) e=aE k gs (ew k gs c tree f e.path).1 by unfold xD; rw[hok e he hk]]
    ·exact iJ hk _ _
   have e2:(bA tree d).flatMap (ve c (cO k gs c tree f))=(bA tree d).flatMap (eJ k gs c tree f):=by
    rw[List.flatMap_def,List.flatMap_def]
    congr 1
    refine List.map_congr_left fun e he=> ?_
    unfold ve eJ
    by_cases h1:e.kind=1
    ·rw[if_pos h1,if_pos h1]
    ·rw[if_neg h1,if_neg h1]
     by_cases hk:e.kind=2
     ·rw[if_pos hk,if_pos hk,hok e he hk]
     ·rw[if_neg hk,if_neg hk]
   rw[e1,e2];have hvn:eq (kh k gs c tree f d)=true:=qR h hc hg d _ fun e he hk=>by
    refine mO hg ?_;have h6:=hf e he;obtain⟨g,rfl⟩: ∃g,f=g+1:=⟨f-1,by omega⟩;exact(GH (hnb e he hk)).2
   rw[if_pos hvn];have hany:((bA tree d).any fun e=>decide (e.kind=2) && kQ k gs c tree f e.path)=false:=by
    rw[List.any_eq_false];intro e he
    by_cases hk:e.kind=2
    ·simp[hk,hnb e he hk]
    ·simp[hk]
   have hbt:kQ k gs c tree (f+1) d=decide (32768<(cQ (kh k gs c tree f d)).length):=by
    unfold kQ;rw[hany,Bool.false_or,eh]
   rw[hbt,eh]
   by_cases hl:(cQ (kh k gs c tree f d)).length<=32768
   ·rw[if_pos hl,if_neg (by simp; omega)]
   ·rw[if_neg hl,if_pos (by simp; omega)]
end
def vA :List (ByteArray×List UInt8)->ByteArray->List UInt8->List (ByteArray×List UInt8)
 | [],n,x=>[(n,x)]
 | p::cs,n,x=>if p.1=n then(n,x)::cs else p::vA cs n x
def qu (bs:List bu):List (ByteArray×List UInt8):=bs.foldl (fun cs b=>vA cs b.ref.name b.con) []
section
variable (k : bn) (gs : List (ByteArray × Int))
def nK (s:List bu×Bool) (x:List UInt8):List bu×Bool:=match s.1.find? (fun b=>decide (b.ref=aE k gs x))with
 | some b=>(s.1,s.2 || !decide (b.con=x))
 | none=>(s.1++[⟨aE k gs x,x⟩],s.2)
def eK (cs:List (List UInt8)) (s:List bu×Bool):List bu×Bool:=cs.foldl (nK k gs) s
end
section
variable {k : bn} {gs : List (ByteArray × Int)}
theorem zU (s:List bu×Bool) (x:List UInt8):(nK k gs s x).1=gJ k gs s.1 x:=by
 unfold nK gJ
 cases hf:s.1.find? (fun b=>decide (b.ref=aE k gs x))with
 | some b=>
  have h1:=List.find?_some hf;have h2:=List.mem_of_find?_eq_some hf;rw[if_pos (List.mem_map.2 ⟨b,h2,by simpa using h1⟩)]
 | none=>
  rw[if_neg];intro hm;obtain⟨b,hb,he⟩:=List.mem_map.1 hm;have:=List.find?_eq_none.1 hf b hb;simp[he]at this
theorem ji : ∀(cs:List (List UInt8)) (s:List bu×Bool),(eK k gs cs s).1=bP k gs cs s.1
 | [],_=>rfl
 | x::cs,s=>by
  show(eK k gs cs (nK k gs s x)).1=bP k gs cs (gJ k gs s.1 x)
  rw[ji cs,zU]
end
open Go Go.RowKit Go.Maps
def oF (k:bn) (c:cF) (tv gv v:Value) (lg cl:Bool):List Value:=bT k++cG c++[tv,gv,v, .bool lg, .bool cl]
structure fC (w : World) (base bb : Nat) (k : bn) (c : cF) (tv gv v : Value) (lg : Bool) (s : List bu × Bool) : Prop where
 box:w.heap[bb]? =some (.cells (oF k c tv gv v lg s.2).toArray 130 (0,0))
 own: ∃zs:List gS,zs.map Prod.snd=s.1/\dt w base v zs
theorem fC.below {w w':World} {base bb:Nat} {k:bn} {c:cF} {tv gv v:Value} {lg:Bool} {s:List bu×Bool} (h:fC w base bb k c tv gv v lg s) (hb:Below w.heap.size w w'):fC w' base bb k c tv gv v lg s:=by
 obtain⟨zs,h1,h2⟩:=h.own;exact⟨(hb.block _ (lt_of_block h.box)).trans h.box,zs,h1,h2.below hb⟩
structure dF (base bb : Nat) (v v' : Value) (w w' : World) : Prop where
 below:Below base w w'
 same: ∀i,i<w.heap.size->i≠bb->v.ownBlock≠some i->w'.heap[i]? =w.heap[i]?
 place: ∀i,v'.ownBlock=some i->v.ownBlock=some i\/w.heap.size<=i
theorem dF.refl (base bb:Nat) (v:Value) (w:World):dF base bb v v w w:=⟨Below.refl _ _,fun _ _ _ _=>rfl,fun _ h=> .inl h⟩
theorem dF.trans {base bb:Nat} {v v1 v2:Value} {A B C:World} (h:dF base bb v v1 A B) (k:dF base bb v1 v2 B C):dF base bb v v2 A C:=by
 have hs:=h.below.size;refine⟨h.below.trans k.below,fun i h1 h2 h3=>(k.same i (by omega) h2 (fun e=> ?_)).trans (h.same i h1 h2 h3),fun i e=> ?_⟩
 ·rcases h.place i e with e2 | e2
  ·exact h3 e2
  ·omega
 ·rcases k.place i e with e2 | e2
  ·exact h.place i e2
  ·exact .inr (by omega)
theorem dF.ofBelow {base bb:Nat} {v:Value} {w w':World} (h:Below w.heap.size w w') (hb:base<=w.heap.size):dF base bb v v w w':=⟨h.mono hb,fun k h1 _ _=>h.block k h1,fun _ e=> .inl e⟩
theorem dF.row {w w':World} {base bb B sz n:Nat} {k:bn} {c:cF} {tv gv v v' u:Value} {lg:Bool} {s:List bu×Bool} {t:TypeId} {xs:List Value} (h:fC w base bb k c tv gv v lg s) (hk:dF base bb v v' w w') (hr:w.ownsRow B t sz u n xs) (h1:t≠130) (h2:t≠53):w'.ownsRow B t sz u n xs:=
 bZ hr (fun i hi hu=>by
  obtain⟨cs,hc⟩:=au hr hu;refine hk.same i hi (fun e=> ?_) (fun e=> ?_)
  ·subst e; exact h1 (aC hc h.box)
  ·obtain⟨zs,_,ho⟩:=h.own;obtain⟨cs2,hc2⟩:=au ho.row e;exact h2 (aC hc hc2))
theorem dF.blk {w w':World} {base bb i:Nat} {k:bn} {c:cF} {tv gv v v':Value} {lg:Bool} {s:List bu×Bool} {cs:Array Value} {t:TypeId} {z:Nat×Nat} (h:fC w base bb k c tv gv v lg s) (hk:dF base bb v v' w w') (hx:w.heap[i]? =some (.cells cs t z)) (h1:t≠130) (h2:t≠53):w'.heap[i]? =some (.cells cs t z):=
 (hk.same i (lt_of_block hx) (fun e=>by subst e; exact h1 (aC hx h.box)) (fun e=>by
  obtain⟨zs,_,ho⟩:=h.own;obtain⟨cs2,hc2⟩:=au ho.row e;exact h2 (aC hx hc2))).trans hx
theorem fC.clash {w:World} {base bb:Nat} {k:bn} {c:cF} {tv gv v:Value} {lg cl:Bool} {bs:List bu} (h:fC w base bb k c tv gv v lg (bs,cl)) (cl':Bool) (hb:base<=bb):fC (w.setCell ⟨bb,14,none⟩ (.bool cl')) base bb k c tv gv v lg (bs,cl')/\dF base bb v v w (w.setCell ⟨bb,14,none⟩ (.bool cl')):=by
 obtain⟨zs,h1,h2⟩:=h.own;have hs: ∀j,j≠bb->(w.setCell ⟨bb,14,none⟩ (.bool cl')).heap[j]? =w.heap[j]? :=fun j hj=>Below.heap_setCell _ _ _ _ hj
 have hne: ∀ {t:TypeId} {n sz:Nat} {u:Value} {xs:List Value},w.ownsRow base t sz u n xs->t≠130->(w.setCell ⟨bb,14,none⟩ (.bool cl')).ownsRow base t sz u n xs:=fun hr ht=>bZ hr (fun i hi hu=>hs i (fun e=>by
  obtain⟨cs,hc⟩:=au hr hu;subst e;exact ht (aC hc h.box)))
 refine⟨⟨?_,zs,h1,hne h2.row (by decide),fun z hz=>hne (h2.dat z hz) (by decide)⟩,(Below.refl _ _).grown (aN w bb 14 _) ?_ (fun i hi=>by cases hi; exact hb),fun i hi e1 _=>hs i e1,fun i e=> .inl e⟩
 ·have:=dD (k:=14) h.box (.bool cl')
  simpa [oF,bT,cG]using this
 ·have:=lt_of_block h.box; omega
theorem fC.push {w w2:World} {base bb:Nat} {k:bn} {c:cF} {tv gv v v' dv:Value} {lg cl:Bool} {bs:List bu} {zs:List gS} {b:bu} (hz:zs.map Prod.snd=bs) (h:dt w base v zs) (hx:w.heap[bb]? =some (.cells (oF k c tv gv v lg cl).toArray 130 (0,0)))
  (hn:w.ownsRow base 5 1 dv b.con.length (b.con.map ak)) (hown:w2.ownsRow base 53 4 v' (zs.length+1) (eE zs++iD dv b)) (hg:w.grownBy w2 v.ownBlock) (hpl: ∀k,v'.ownBlock=some k->v.ownBlock=some k\/w.heap.size<=k) (hbe:base<=bb):
  fC (w2.setCell ⟨bb,12,none⟩ v') base bb k c tv gv v' lg (bs++[b],cl)/\dF base bb v v' w (w2.setCell ⟨bb,12,none⟩ v'):=by
 have hlt:=lt_of_block hx;have hbz:base<=w.heap.size:=by omega
 have hne:v.ownBlock≠some bb:=fun e=>by
  obtain⟨cs,hc⟩:=au h.row e;exact absurd (aC hx hc) (by decide)
 have hne':v'.ownBlock≠some bb:=fun e=>by
  rcases hpl bb e with e | e
  ·exact hne e
  ·omega
 have hb2:=(hg.block bb hlt (fun e=>hne e.symm)).trans hx;have hdat: ∀(u:Value) (ds:List UInt8),w.ownsRow base 5 1 u ds.length (ds.map ak)->(w2.setCell ⟨bb,12,none⟩ v').ownsRow base 5 1 u ds.length (ds.map ak):=by
  intro u ds hd;refine bZ hd (fun i hi hu=> ?_);obtain⟨cs,hc⟩:=au hd hu;rw[Below.heap_setCell _ _ _ _ (show i≠bb from fun e=>absurd (aC (e▸hc) hx) (by decide))];refine hg.block i hi (fun e=> ?_);obtain⟨cs2,hc2⟩:=au h.row e.symm;exact absurd (aC hc hc2) (by decide)
 refine⟨⟨?_,zs++[(dv,b)],by simp[hz], ?_,fun z hz=> ?_⟩,⟨?_,fun i hi e1 e3=> ?_,fun i e=> ?_⟩⟩
 ·have:=dD (k:=12) hb2 v'
  simpa [oF,bT,cG]using this
 ·rw[List.length_append,List.length_singleton,oT];exact hown.kept (aN _ _ _ _) (.inr (fun e=>hne' e))
 ·rcases List.mem_append.1 hz with hz | hz
  ·exact hdat _ _ (h.dat z hz)
  ·rw[List.mem_singleton]at hz;subst hz;exact hdat _ _ hn
 ·exact((Below.refl _ _).grown hg hbz (fun i hi=>(h.row.lt i hi).1)).grown (aN w2 bb 12 v') (Nat.le_trans hbz hg.size) (fun i hi=>by cases hi; exact hbe)
 ·rw[Below.heap_setCell _ _ _ _ (show i≠bb from e1)];exact hg.block i hi (fun e=>e3 e.symm)
 ·rcases hpl i e with e | e
  ·exact .inl e
  ·exact .inr (by omega)
theorem Ii {a:Act} {w:World} {b:Nat} {x0 x1 x2:Value} (h:w.heap[b]? =some (.cells #[x0,x1,x2] 26 (0,0)))
  (h4:a.tmps[4]? =some (.pointer (some ⟨b,0,none⟩))):(results Tryz.f126 a.tmps).run Tryz.prog w= .ok (.agg #[x0,x1,x2]) w:=by
 obtain⟨m0,m1,m2,_⟩:=aj h;simp only[Nat.zero_add,Nat.reduceAdd]at m1 m2;simp[results,Tryz.results126,go_sem,h4,m0,m1,m2]
theorem vB {a:Act} {w:World} {b:Nat} {a0 a1 a2 x0 x1 x2:Value} {Q:Ending->World->Prop} (h:w.heap[b]? =some (.cells #[a0,a1,a2] 26 (0,0)))
  (h4:a.tmps[4]? =some (.pointer (some ⟨b,0,none⟩))) (hd:a.defers=[])
  (hQ:Q (.returned (.agg #[x0,x1,x2])) (((w.setCell ⟨b,0,none⟩ x0).setCell ⟨b,1,none⟩ x1).setCell ⟨b,2,none⟩ x2)):
  bodyPost Tryz.prog Tryz.f126 Q Exit.ret a (((w.setCell ⟨b,0,none⟩ x0).setCell ⟨b,1,none⟩ x1).setCell ⟨b,2,none⟩ x2):=bodyPost_ret (Ii (pA h) h4) hd hQ
theorem yU {bs:List bu} {j:Nat} {b:bu} (h:bs[j]? =some b):qu (bs.take (j+1))=vA (qu (bs.take j)) b.ref.name b.con:=by
 unfold qu;rw[bS h,List.foldl_append]
 rfl
theorem bW.miss' {S:Nat->Prop} {w:World} {n:ByteArray} {v:Value} {x:List UInt8} (hv:ar S w v x): ∀ {m:List (Value×Value)} {cs:List (ByteArray×List UInt8)},bW S w m cs->(∀p∈m,p.1≠Value.string n)->bW S w (m++[(.string n,v)]) (vA cs n x)
 | [],[],_,_=>⟨rfl,hv,trivial⟩
 | [],_::_,h,_=>False.elim h
 | _::_,[],h,_=>False.elim h
 | (k,u)::m,(n',b')::cs,h,hm=>by
  have hne:n'≠n:=fun e=>hm (k,u) (by simp) (by rw[h.1,e])
  rw[vA,if_neg hne];exact⟨h.1,h.2.1,bW.miss' hv h.2.2 (fun p hp=>hm p (by simp[hp]))⟩
theorem bW.hit' {S:Nat->Prop} {w:World} {n:ByteArray} : ∀ {m:List (Value×Value)} {cs:List (ByteArray×List UInt8)},bW S w m cs->(∃p∈m,p.1=Value.string n)-> ∃m1 old m2,m=m1++(.string n,old)::m2/\ ∀(w':World) (S':Nat->Prop) (v:Value) (x:List UInt8),(∀v bs,ar S w v bs->ar S' w' v bs)->ar S' w' v x->bW S' w' (m1++(.string n,v)::m2) (vA cs n x)
 | [],[],_,⟨_,hp,_⟩=>by simp at hp
 | [],_::_,h,_=>False.elim h
 | _::_,[],h,_=>False.elim h
 | (k,u)::m,(n',b')::cs,h,hp=>by
  have hmono: ∀ {w':World} {S':Nat->Prop},(∀v bs,ar S w v bs->ar S' w' v bs)->bW S w m cs->bW S' w' m cs:=by
   intro w' S' hm;have: ∀ {m:List (Value×Value)} {cs:List (ByteArray×List UInt8)},bW S w m cs->bW S' w' m cs:=by
    intro m
    induction m with
    | nil=>intro cs h; cases cs with
     | nil=>trivial
     | cons=>exact h
    | cons p m ih=>intro cs h; cases cs with
     | nil=>exact h
     | cons q cs=>exact⟨h.1,hm _ _ h.2.1,ih h.2.2⟩
   exact this
  by_cases hn:n'=n
  ·subst hn;refine⟨[],u,m,by rw[h.1]; rfl,fun w' S' v x hm hv=> ?_⟩;rw[vA,if_pos rfl];exact⟨rfl,hv,hmono hm h.2.2⟩
  ·obtain⟨p,hp1,hp2⟩:=hp;have hp3:p∈m:=by
    rcases List.mem_cons.1 hp1 with rfl | hp3
    ·have:=h.1.symm.trans hp2;simp only[Value.string.injEq]at this;exact absurd this hn
    ·exact hp3
   obtain⟨m1,old,m2,h1,h2⟩:=bW.hit' h.2.2 ⟨p,hp3,hp2⟩;refine⟨(k,u)::m1,old,m2,by rw[h1]; rfl,fun w' S' v x hm hv=> ?_⟩;rw[vA,if_neg hn];exact⟨h.1,hm _ _ h.2.1,h2 w' S' v x hm hv⟩
def iX (S:Nat->Prop) (w:World) (v:Value) (bs:List bu):Prop:= ∃zs:List gS,zs.map Prod.snd=bs/\aL S w 4 v zs.length (eE zs)/\ ∀z∈zs,ar S w z.1 z.2.con/\bK z.2.ref
theorem qh : ∀ {zs:List gS} {k:Nat} {z:gS},zs[k]? =some z-> ∀j,j<4->(eE zs)[k*4+j]? =(iD z.1 z.2)[j]?
 | [],k,_,h,_,_=>by simp at h
 | x::zs,0,z,h,j,hj=>by
  simp at h; subst h;unfold eE;rw[List.flatMap_cons,Nat.zero_mul,Nat.zero_add,List.getElem?_append_left (by exact hj)]
 | x::zs,k+1,z,h,j,hj=>by
  have:=qh (zs:=zs) (k:=k) (z:=z) (by simpa using h) j hj;unfold eE at this ⊢;rw[List.flatMap_cons,List.getElem?_append_right (by show 4<=_; omega),<-this]
  congr 1
  show(k+1)*4+j-4=_
  omega
theorem nj {S:Nat->Prop} {w:World} {a:Option Addr} {n cap:Nat} {zs:List gS} (h:aL S w 4 (.slice a n cap) zs.length (eE zs)) {k:Nat} {z:gS} (hz:zs[k]? =some z):
  ∃b o,a=some ⟨b,o,none⟩/\S b/\b<w.heap.size/\ ∀j,j<4->w.cell? ⟨b,o+k*4+j,none⟩=(iD z.1 z.2)[j]? :=by
 obtain⟨_,a',cap',he,_,_,h0⟩:=h
 cases he
 have hlt:=(List.getElem?_eq_some_iff.1 hz).1
 rcases h0 with h0 | ⟨b,o,rfl,hS,hc⟩
 ·omega
 ·have g:=fun j (hj:j<4)=>hc (k*4+j) _ ((qh hz j hj).trans (List.getElem?_eq_getElem (l:=iD z.1 z.2) hj))
  have g0:=g 0 (by omega);refine⟨b,o,rfl,hS,aP (a:=⟨b,o+(k*4+0),none⟩) g0,fun j hj=> ?_⟩;rw[Nat.add_assoc,g j hj];exact(List.getElem?_eq_getElem (l:=iD z.1 z.2) hj).symm
theorem iX.below {S:Nat->Prop} {w w':World} {v:Value} {bs:List bu} (h:iX S w v bs) (hb:Below w.heap.size w w'):iX S w' v bs:=by
 obtain⟨zs,h1,h2,h3⟩:=h;exact⟨zs,h1,aL.below h2 (by omega) hb,fun z hz=>⟨aL.below (h3 z hz).1 (by omega) hb,(h3 z hz).2⟩⟩
def Gn (S:Nat->Prop) (bs:List bu) (w:World) (e:Ending) (w':World):Prop:= ∃mb m,e= .returned (.map (some mb))/\w.heap.size<=mb/\dw Tryz.prog 9 w' mb m/\bW S w' m (qu bs)/\Below w.heap.size w w'
theorem vg (S:Nat->Prop) (bs:List bu) (v:Value) (w:World) (hv:iX S w v bs) (hl:bs.length<=1000000):Calls Tryz.prog 36 #[v] w (Gn S bs w):=by
 obtain⟨zs,hzs,hrow,hdat⟩:=hv;obtain⟨_,a,cap,rfl,hcp,hm,-⟩:=id hrow;unfold maxLen at hm;have HROW:=aa hrow;have HDAT:=aa hdat
 have HZS:=aa hzs;obtain⟨n,hn⟩: ∃n,n=zs.length:=⟨_,rfl⟩;have hln:n<=1000000:=by rw[hn,<-List.length_map (f:=Prod.snd),hzs]; exact hl
 rw[<-hn]at hcp ⊢;have HN:=aa hn;have hmm:= @run_makeMap Tryz.prog;obtain⟨W0,hW0⟩: ∃W0,W0=w.alloc (.map #[] 0):=⟨_,rfl⟩;have HM0:=aa (show dw Tryz.prog 9 W0 w.heap.size [] by rw[hW0]; exact dw.made w);have HB0:=aa (show Below w.heap.size w W0 by rw[hW0]; exact bH);clear hrow hdat hzs hn hl
 go_enter Tryz.func36,Tryz.ntmps36
 go_upto_region 2 with(fail)
 rw[<-hW0];clear hW0 hmm;go_wp2_with fail
 go_loopw [4] (fun i wr=> ∃(j:Nat) (m:List (Value×Value)),j<=n/\i= .int .i64 (j:Int)/\dw Tryz.prog 9 wr w.heap.size m/\bW S wr m (qu (bs.take j))/\Below w.heap.size w wr) (fun i _=>n-(intOf i).toNat)
 case atStart=>exact⟨0,[],Nat.zero_le _,rfl,HM0.o,trivial,HB0.o⟩
 case round=>
  obtain⟨j,m,hj,rfl,hms,hen,hb⟩:=hrel;have HMS:=aa hms;have HEN:=aa hen;have HB:=aa hb;clear hms hen hb
  by_cases hlt:j<n
  ·obtain⟨z,hz⟩: ∃z,zs[j]? =some z:=⟨zs[j]'(by rw[<-HN.o]; exact hlt),by simp⟩;obtain⟨b,o,rfl,-,hbl,hcl⟩:=nj HROW.o hz;have hzd:=HDAT.o z (List.mem_of_getElem? hz);have HZD:=aa hzd;have HZN:=aa (show bs[j]? =some z.2 by rw[<-HZS.o,List.getElem?_map,hz]; rfl);obtain⟨_,za,zc,hzv,-,-,-⟩:=id hzd.1;have g:=fun i (hi:i<4)=>(HB.o.cell (p:=⟨b,o+j*4+i,none⟩) hbl).trans (hcl i hi)
   have q0:=g 0 (by omega);have q3:=g 3 (by omega);simp only[iD,vN,Nat.add_zero]at q0 q3;rw[hzv]at q3;obtain⟨zl,hzl⟩: ∃zl,zl=z.2.con.length:=⟨_,rfl⟩;rw[<-hzl]at q3;obtain⟨nm,hnm⟩: ∃nm,nm=z.2.ref.name:=⟨_,rfl⟩;rw[<-hnm]at q0;have hnms:nm.size<=maxLen:=by rw[hnm]; exact hzd.2.nm
   have ht:Tryz.prog.underlying 55=some (.map 9 29):=Tryz.underlying55;have HTY:=aa ht;have HST:=aa (show qu (bs.take (j+1))=vA (qu (bs.take j)) nm z.2.con by rw[yU HZN.o,hnm]);have HBV:=aa (show ∀W:World,Below w.heap.size w W->ar S W (.slice za zl zc) z.2.con from fun W hW=>by rw[hzl,<-hzv]; exact aL.below hzd.1 (by omega) hW);have hbw:w.heap.size<wr.heap.size:=HMS.o.lt
   clear ht hz hcl hzd hzv g hzl hnm;go_wp2_with fail;refine az [some 12,none] (by kernel_rfl) (by kernel_rfl) (by kernel_rfl) ?_;simp only[bC,List.take_succ_cons,List.take_zero,List.drop_succ_cons,List.drop_zero];have HMD:=aa (HMS.o.same (w':=wr.drew) rfl)
   repeat (first | (refine aK rfl ?_; simp only[Act.put,aZ,bg,bh]) | (refine aS rfl (fun K hK=> ?_); go_simp; refine hK _ ?_; clear hK K))
   refine aR ?_;refine bJ rfl (fun K hK=> ?_);have hby: ∀(w9:World),wr.drew.grownBy w9 (some w.heap.size)->Below w.heap.size w w9:=fun w9 hg=>(HB.o.trans ((Below.refl wr.heap.size wr).drew.mono HB.o.size)).grown hg (Nat.le_of_lt hbw) (fun i hi=>by cases hi; exact Nat.le_refl _)
   have HBY:=aa hby
   have hkeep: ∀(w9:World),wr.drew.grownBy w9 (some w.heap.size)-> ∀v bs,ar S wr v bs->ar S w9 v bs:=fun w9 hg v bs hv=>by
    obtain⟨h1,a9,cap9,rfl,h2,h3,h4⟩:=hv;refine⟨h1,a9,cap9,rfl,h2,h3, ?_⟩
    rcases h4 with h4 | ⟨b9,o9,rfl,hS,hc⟩
    ·exact .inl h4
    ·refine .inr ⟨b9,o9,rfl,hS,fun i u hi=> ?_⟩;have q:=hc i u hi;rw[<-q];refine World.cell?_of_block (hg.block b9 (aP (a:=⟨b9,o9+i,none⟩) q) (fun e=> ?_));have:b9=w.heap.size:=by simpa using e
     subst this;obtain⟨es,clock,hb9,_⟩:=HMS.o;simp[World.cell?,hb9]at q
   have HKP:=aa hkeep;clear hby hkeep
   by_cases hin: ∃p∈m,p.1=Value.string nm
   ·obtain⟨m1,old,m2,rfl,hnew⟩:=HEN.o.hit' hin;have HNW:=aa hnew;clear hin hnew;go_wp2_with (at_mapUpdate; go_must (refine kD cD rfl _ _ _ _ rfl HTY.o w.heap.size m1 m2 (.string nm) (.slice za zl zc) old HMD.o rfl rfl rfl ?_); intro w9 hm9 hg9);have HM9:=aa hm9;have HG9:=aa hg9;clear hm9 hg9;go_wp2_with fail
    go_roundw
    case rel=>exact⟨j+1,_,by omega,by go_num,HM9.o,by rw[HST.o]; exact HNW.o w9 S _ _ (HKP.o w9 HG9.o) (HBV.o w9 (HBY.o w9 HG9.o)),HBY.o w9 HG9.o⟩
    case measure=>simp[intOf]; omega
   ·have hno: ∀p∈m,p.1≠Value.string nm:=fun p hp e=>hin ⟨p,hp,e⟩
    have HNO:=aa hno;clear hin hno;go_wp2_with (at_mapUpdate; go_must (refine eU cD rfl _ _ _ _ rfl HTY.o w.heap.size m HMD.o rfl (.string nm) (.slice za zl zc) rfl rfl (dh hnms) HNO.o ?_); intro w9 hm9 hg9);have HM9:=aa hm9;have HG9:=aa hg9;clear hm9 hg9;go_wp2_with fail
    go_roundw
    case rel=>exact⟨j+1,_,by omega,by go_num,HM9.o,by rw[HST.o]; exact bW.miss' (HBV.o w9 (HBY.o w9 HG9.o)) (HEN.o.mono (HKP.o w9 HG9.o)) HNO.o,HBY.o w9 HG9.o⟩
    case measure=>simp[intOf]; omega
  ·have hk2:j=n:=by omega
   subst hk2;go_wp2_with fail;go_ret;have h1:=HEN.o;rw[List.take_of_length_le (by rw[<-HZS.o,List.length_map,<-HN.o]; exact Nat.le_refl _)]at h1;exact⟨_,m,rfl,Nat.le_refl _,HMS.o,h1,HB.o⟩
end Go.Proofs.YtpffpjbkbaleiaaGreatDoor
