/- Texts of this proof, one after the other: OpM, FrameU, OpV. -/
import Derived.Test.YtpffpjbkbaleiaaGreatDoorCCompletesI
set_option maxRecDepth 100000
set_option maxHeartbeats 8000000
namespace Go.Proofs.YtpffpjbkbaleiaaGreatDoor
open Go.ChangeShapes Go.WideShapes Go.ChangeAt Go.RowKit Go.Lib Go.Shelf
section
variable {H : Type} {enc : TypeId × Value → H} {P : Program} {W : World} {base : Nat}
theorem GU (a:Addr) (i j:Nat):(a.add i).add j=a.add (i+j):=by
 unfold Addr.add
 by_cases hi:i=0
 ·simp[hi]
 ·by_cases hj:j=0
  ·simp[hi,hj]
  ·simp[hi,hj]; omega
theorem NI {α:Type} {R:List Value->α->Prop} {t e:TypeId} {sz:Nat} {spare:Nat->Bool} {held:Bool} {fuel:Nat} {cs0:List Value} {y0:DataW H×List MemPlace} (ht:P.underlying t=some (.slice e)) (hc:P.cellsOf e=sz) (hpos:0<sz)
  (hR: ∀n cs y,DataW.trod enc P W base spare held n e cs=some y-> ∃x,R cs x) (hs: ∀c x,R c x->c.length=sz)
  (hf:DataW.trod enc P W base spare held fuel t cs0=some y0): ∃v,cs0=[v]/\ ∃xs:List α,cN (fun _=>True) W sz R v xs:=by
 rcases DataW.trod_slice ht hf with⟨ha,_⟩ | ⟨a,len0,cap0,elems,rest,n,_,ha,_,hb,hl,hm,ho,he,_,_⟩
 ·exact⟨_,ha,[],cN.nil⟩
 ·refine⟨_,ha, ?_⟩;rw[hc]at he;have each: ∀i,i<len0-> ∃cs x,R cs x/\cs.length=sz/\ ∀j,j<sz->W.cell? (a.add (i*sz+j))=cs[j]? :=by intro i hi;have h1:=he i hi;rw[bG (by omega),dF]at h1;obtain⟨cs,ha,hy⟩:=h1;obtain⟨x,hx⟩:=hR n cs _ hy;refine⟨cs,x,hx,hs cs x hx,fun j hj=> ?_⟩;have h3:=World.cells?_some ha;rw[<-GU];exact h3.2.2 j hj
  have main: ∀m,m<=len0-> ∃(cells:List Value) (xs:List α),xs.length=m/\cells.length=m*sz/\eO R cells xs/\ ∀(j:Nat) u,cells[j]? =some u->W.cell? (a.add j)=some u:=by
   intro m
   induction m with
   | zero=>intro _; exact⟨[],[],rfl,by simp,rfl,fun j u hj=>by simp at hj⟩
   | succ m ih=>
    intro hm;obtain⟨cells,xs,h1,h2,h3,h4⟩:=ih (by omega);obtain⟨cs,x,hx,hn,hk⟩:=each m (by omega);refine⟨cells++cs,xs++[x],by simp[h1],by rw[ag,h2,hn,iT]; omega,eO.snoc h3 hx,fun j u hj=> ?_⟩
    rcases dK j cells.length with hd | hd
    ·rw[bH hd]at hj; exact h4 j u hj
    ·rw[bC hd]at hj;have hq:=(aD.1 hj).1;have:=hk (j-cells.length) (by omega);rw[h2,show m*sz+(j-m*sz)=j by omega]at this;rw[this,<-h2]; exact hj
  obtain⟨cells,xs,h1,h2,h3,h4⟩:=main len0 (ai _);subst h1;refine⟨xs,cells,⟨h2,some a,cap0,rfl,hl,hm, ?_⟩,h3⟩
  rcases eC xs.length with h0 | h0
  ·exact .inl h0
  ·right
   have hp:0<cells.length:=by rw[h2]; exact Nat.mul_pos h0 hpos
   have hh:=h4 0 cells[0] (by simp[hp]);have hg:a.spot=none:=by simpa [Addr.add]using World.cell?_spot hh
   obtain⟨b,o,sp⟩:=a;simp only at hg;subst hg;refine⟨b,o,rfl,trivial,fun j u hj=> ?_⟩;have:=h4 j u hj;rw[tf]at this; exact this
theorem Nh {α:Type} {R:List Value->α->Prop} {t e:TypeId} {sz b0:Nat} {spare:Nat->Bool} {held:Bool} {v:Value} {d:DataW H} {ps:List MemPlace} (ht:P.underlying t=some (.slice e)) (hc:P.cellsOf e=sz) (hpos:0<sz)
  (hR: ∀n cs y,DataW.trod enc P W base spare held n e cs=some y-> ∃x,R cs x) (hs: ∀c x,R c x->c.length=sz)
  (hval:Value.okWide P W .any b0 t v) (h:DataW.Trod enc P W base spare held t v d ps): ∃xs:List α,cN (fun _=>True) W sz R v xs:=by
 obtain⟨a0,len0,cap0,rfl⟩:=okWide_slice ht hval;obtain⟨fuel,hf⟩:=h;obtain⟨v,h1,h2⟩:=NI ht hc hpos hR hs hf;simp[Value.cells]at h1;subst h1;exact h2
end
section
variable {H : Type} {enc : TypeId × Value → H} {W : World} {base b0 : Nat} {spare : Nat → Bool} {held : Bool} {v : Value} {d : DataW H} {ps : List MemPlace}
theorem pS {P:Program} {t:TypeId} {fs:Array Field} {fuel:Nat} {cs:List Value} {x:DataW H×List MemPlace} (ht:P.underlying t=some (.struct fs)) (h:DataW.trod enc P W base spare held fuel t cs=some x) (i:Nat) {f:Field} (hf:fs[i]? =some f):
  ∃n y,DataW.trod enc P W base spare held n f.type ((cs.drop f.offset).take (P.cellsOf f.type))=some y:=by
 obtain⟨xs,n,_,_,_,ha,hF⟩:=DataW.trod_struct ht h;have hi:i<xs.length:=by rw[ha]; exact(aM.1 hf).1
 exact⟨n,xs[i],by rw[hF i f hf]; simp[hi]⟩
theorem Gx {P:Program} {t:TypeId} {fs:Array Field} {fuel:Nat} {cs:List Value} {x:DataW H×List MemPlace} (ht:P.underlying t=some (.struct fs)) (h:DataW.trod enc P W base spare held fuel t cs=some x):cs.length=P.cellsOf t:=by obtain⟨xs,n,_,_,hl,_,_⟩:=DataW.trod_struct ht h;exact hl
theorem Mg :Tryz.prog.cellsOf 9=1:=by kernel_rfl
theorem Cx :Tryz.prog.cellsOf 3=1:=by kernel_rfl
theorem OK :Tryz.prog.cellsOf 5=1:=by kernel_rfl
theorem JB :Tryz.prog.cellsOf 29=1:=by kernel_rfl
theorem Cw :Tryz.prog.cellsOf 79=6:=by kernel_rfl
theorem QG {α:Type} {cs:List α} (h:cs.length=6): ∃c0 c1 c2 c3 c4 c5,cs=[c0,c1,c2,c3,c4,c5]:=by
 match cs,h with
 | [c0,c1,c2,c3,c4,c5],_=>exact⟨c0,c1,c2,c3,c4,c5,rfl⟩
def Ce (c:List Value) (b:UInt8):Prop:=c=[aY b]
theorem KK {n:Nat} {cs:List Value} {y:DataW H×List MemPlace} (h:DataW.trod enc Tryz.prog W base spare held n 5 cs=some y): ∃b,Ce cs b:=by
 obtain⟨a,e,_,hw⟩:=DataW.trod_int Tryz.underlying5 h;have h1:0<=a/\a<=255:=by simp only[Lit.wf,aF,aJ]at hw;exact⟨hw.1,hw.2⟩
 refine⟨UInt8.ofNat a.toNat, ?_⟩;unfold Ce;rw[mu (by omega),e,Int.toNat_of_nonneg h1.1]
theorem Bn {S:Nat->Prop} {w:World} {v:Value} {bs:List UInt8} (h:cN S w 1 Ce v bs):bD S w v bs:=by
 obtain⟨cells,h1,h2⟩:=h;have: ∀(bs:List UInt8) (cells:List Value),eO Ce cells bs->cells=bs.map aY:=by
  intro bs
  induction bs with
  | nil=>intro cells h; exact h
  | cons x bs ih=>
   rintro cells ⟨c,rest,rfl,hc,hr⟩;rw[ih rest hr,show c=[aY x]from hc]; rfl
 rw[this bs cells h2]at h1;exact h1
theorem Fg {S:Nat->Prop} {w:World} {v:Value} {bs:List UInt8} (h:bD S w v bs):el S w v bs:=h
end
section
variable {H : Type} {enc : TypeId × Value → H}
theorem Rb {C:Checked} {os:Os} {f:FuncId} {fn:Func} {s:OpenSpec} {conds:List PathCond} {apart:Bool} {laid:List (String×DataW Unit)} (modest:Bool) (w0:World) (args:Array Value) (fuel:Nat) (hos:w0.os=os)
  (hsh:(w0.forCall (fun _ _=>0) ⟨#[],args,[]⟩).Shaped C.prog)
  (hok:Input.okWideB C.prog (w0.forCall (fun _ _=>0) ⟨#[],args,[]⟩) f ⟨#[],args,[]⟩=true)
  (hs:(DataW.whole enc C.prog (w0.forCall (fun _ _=>0) ⟨#[],args,[]⟩).memory fn.params.toList s.vars apart args.toList fuel).isSome=true)
  (hconds:conds.all (PathCond.test C.prog ⟨fn.params.toList,(Option.get _ hs).1,s.bare.plain.varTypes C.prog,(Option.get _ hs).2.1⟩)=true) (hkk: ∀k,s.cond=some k->k H ((Option.get _ hs).1++(Option.get _ hs).2.1)=true)
  (hsz:s.bare.sizedB enc C.prog fn apart (w0.forCall (fun _ _=>0) ⟨#[],args,[]⟩).memory args fuel=true) (hl:laidMetH C.prog laid (w0.forCall (fun _ _=>0) ⟨#[],args,[]⟩).memory):
  ∃(w:World) (tape:Tape) (i:Input),w.os=os/\(w.forCall tape i).Shaped C.prog/\i.vars=[]/\Input.okWide C.prog (w.forCall tape i) .any w.heap.size f i/\
   s.preRow enc C.prog fn conds apart laid (w.forCall tape i).memory i.args/\({modest:=modest} :Assume).holds C.prog (lone (Frame.enter C.prog f i.args .normal) [] (w.forCall tape i)):=
 ⟨w0,fun _ _=>0,⟨#[],args,[]⟩,hos,hsh,(Input.okWide_of_okWideB (base:=0) hok).1,(Input.okWide_of_okWideB hok).2,OpenSpec.preRow_of_cond fuel (Option.some_get hs).symm hconds hkk hsz hl,by simp only[Assume.holds];exact⟨by simp,by simp,fun _=>Modest.zero,by simp,by simp⟩⟩
end
theorem ud {H:Type} {d:DataW H} {l:List (DataW H)} (h:d∈l):Rows.uptoBulk d<=Rows.uptoBulkAll l:=by
 induction l with
 | nil=>cases h
 | cons x r ih=>
  simp only[Rows.uptoBulkAll]
  cases aT.1 h with
  | inl e=>subst e; omega
  | inr e=>have:=ih e; omega
theorem EZ {H:Type} {l:List (DataW H)} (hk:Rows.uptoSmall H l=true):Rows.uptoBulkAll l<=1048576:=fq hk
section
variable {H : Type} {enc : TypeId × Value → H} {P : Program} {W : World} {base b0 : Nat} {spare : Nat → Bool} {held : Bool} {v : Value} {d : DataW H} {ps : List MemPlace}
def Ch (d:DataW H):Prop:=Rows.uptoBulk d<=1048576
theorem Me (d:DataW H):1<=Rows.uptoBulk d:=by
 cases d
 case lit l=>cases l<;> simp[Rows.uptoBulk]
 all_goals simp[Rows.uptoBulk]
theorem Ct : ∀(l:List (DataW H)),l.length<=Rows.uptoBulkAll l
 | []=>by simp[Rows.uptoBulkAll]
 | d::l=>by have h1:=Ct l;have h2:=Me d;simp only[Rows.uptoBulkAll,az]; omega
theorem MA {l:List (DataW H)} (h:Rows.uptoSmall H l=true) {d:DataW H} (hd:d∈l):Ch d:=an (ud hd) (EZ h)
theorem Lj {es rest:List (DataW H)} (h:Ch (.slice es rest)):es.length<=1048576/\ ∀d∈es,Ch d:=by unfold Ch at h;simp only[Rows.uptoBulk]at h;have h1:=Ct es;refine⟨by omega,fun d hd=> ?_⟩;have:=ud hd;unfold Ch; omega
theorem OH {ds:List (DataW H)} (h:Ch (.agg ds)): ∀d∈ds,Ch d:=fun d hd=>by unfold Ch at h;simp only[Rows.uptoBulk]at h;have:=ud hd;unfold Ch; omega
theorem zG {P:Program} {t:TypeId} {fs:Array Field} {fuel:Nat} {cs:List Value} {x:DataW H×List MemPlace} (ht:P.underlying t=some (.struct fs)) (h:DataW.trod enc P W base spare held fuel t cs=some x) (hL:Ch x.1) (i:Nat) {f:Field} (hf:fs[i]? =some f):
  ∃n y,DataW.trod enc P W base spare held n f.type ((cs.drop f.offset).take (P.cellsOf f.type))=some y/\Ch y.1:=by
 obtain⟨xs,n,_,hx,_,ha,hF⟩:=DataW.trod_struct ht h;have hi:i<xs.length:=by rw[ha]; exact(aM.1 hf).1
 refine⟨n,xs[i],by rw[hF i f hf]; simp[hi], ?_⟩;rw[hx]at hL;exact OH hL _ (aP.2 ⟨_,List.getElem_mem hi,rfl⟩)
theorem Ja {α:Type} {P:Program} {R:List Value->α->Prop} {t e:TypeId} {sz:Nat} {fuel:Nat} {cs0:List Value} {y0:DataW H×List MemPlace} (ht:P.underlying t=some (.slice e)) (hc:P.cellsOf e=sz) (hpos:0<sz)
  (hR: ∀n cs y,DataW.trod enc P W base spare held n e cs=some y->Ch y.1-> ∃x,R cs x) (hs: ∀c x,R c x->c.length=sz)
  (hf:DataW.trod enc P W base spare held fuel t cs0=some y0) (hL:Ch y0.1): ∃v,cs0=[v]/\ ∃xs:List α,cN (fun _=>True) W sz R v xs/\xs.length<=1048576:=by
 rcases DataW.trod_slice ht hf with⟨ha,_⟩ | ⟨a,len0,cap0,elems,rest,n,_,ha,hu,hb,hl,hm,he,hh,_,_⟩
 ·exact⟨_,ha,[],cN.nil,by simp⟩
 ·refine⟨_,ha, ?_⟩;rw[hc]at hh;rw[hu]at hL;obtain⟨hg,hn⟩:=Lj hL;rw[aw,he]at hg;have each: ∀i,i<len0-> ∃cs x,R cs x/\cs.length=sz/\ ∀j,j<sz->W.cell? (a.add (i*sz+j))=cs[j]? :=by intro i hi;have h1:=hh i hi;rw[bG (by omega),dF]at h1;obtain⟨cs,ha,hy⟩:=h1;obtain⟨x,hx⟩:=hR n cs _ hy (hn _ (aP.2 ⟨_,List.getElem_mem (by omega),rfl⟩));refine⟨cs,x,hx,hs cs x hx,fun j hj=> ?_⟩;have h3:=World.cells?_some ha;rw[<-GU];exact h3.2.2 j hj
  have main: ∀m,m<=len0-> ∃(cells:List Value) (xs:List α),xs.length=m/\cells.length=m*sz/\eO R cells xs/\ ∀(j:Nat) u,cells[j]? =some u->W.cell? (a.add j)=some u:=by
   intro m
   induction m with
   | zero=>intro _; exact⟨[],[],rfl,by simp,rfl,fun j u hj=>by simp at hj⟩
   | succ m ih=>
    intro hm;obtain⟨cells,xs,h1,h2,h3,h4⟩:=ih (by omega);obtain⟨cs,x,hx,hq,hp⟩:=each m (by omega);refine⟨cells++cs,xs++[x],by simp[h1],by rw[ag,h2,hq,iT]; omega,eO.snoc h3 hx,fun j u hj=> ?_⟩
    rcases dK j cells.length with hd | hd
    ·rw[bH hd]at hj; exact h4 j u hj
    ·rw[bC hd]at hj;have hv:=(aD.1 hj).1;have:=hp (j-cells.length) (by omega);rw[h2,show m*sz+(j-m*sz)=j by omega]at this;rw[this,<-h2]; exact hj
  obtain⟨cells,xs,h1,h2,h3,h4⟩:=main len0 (ai _);subst h1;refine⟨xs,⟨cells,⟨h2,some a,cap0,rfl,hl,hm, ?_⟩,h3⟩,hg⟩
  rcases eC xs.length with h0 | h0
  ·exact .inl h0
  ·right
   have hr:0<cells.length:=by rw[h2]; exact Nat.mul_pos h0 hpos
   have ho:=h4 0 cells[0] (by simp[hr]);have hk:a.spot=none:=by simpa [Addr.add]using World.cell?_spot ho
   obtain⟨b,o,sp⟩:=a;simp only at hk;subst hk;refine⟨b,o,rfl,trivial,fun j u hj=> ?_⟩;have:=h4 j u hj;rw[tf]at this; exact this
end
section
variable {H : Type} {enc : TypeId × Value → H} {W : World} {base b0 : Nat} {spare : Nat → Bool} {held : Bool} {v : Value} {d : DataW H} {ps : List MemPlace}
theorem Gv {n:Nat} {t:TypeId} {cs:List Value} {x:DataW H×List MemPlace} {P:Program} (ht:P.underlying t=some .string) (h:DataW.trod enc P W base spare held n t cs=some x) (hL:Ch x.1): ∃s:ByteArray,cs=[.string s]/\s.size<=maxLen/\s.size<=1048576:=by obtain⟨s,e,hx,hw⟩:=DataW.trod_string ht h;refine⟨s,e,hw, ?_⟩;rw[hx]at hL;unfold Ch at hL;simp only[Rows.uptoBulk]at hL;have h4:s.data.toList.length=s.size:=rfl;omega
theorem Em {α:Type} {R:List Value->α->Prop} {X:α->Prop} : ∀ {xs:List α} {cells:List Value},eO (fun c x=>R c x/\X x) cells xs->eO R cells xs/\ ∀x∈xs,X x
 | [],_,h=>⟨h,by simp⟩
 | x::xs,_,⟨c,rest,e,hx,hr⟩=>by
  obtain⟨h1,h2⟩:=Em hr;refine⟨⟨c,rest,e,hx.1,h1⟩,fun y hy=> ?_⟩
  rcases aT.1 hy with rfl | hy
  ·exact hx.2
  ·exact h2 y hy
theorem KL {n:Nat} {cs:List Value} {y:DataW H×List MemPlace} (h:DataW.trod enc Tryz.prog W base spare held n 79 cs=some y) (hL:Ch y.1): ∃e,mj (fun _=>True) W cs e/\e.path.size<=1048576/\e.data.length<=1048576:=by
 have hl:=Gx fV h;rw[Cw]at hl;obtain⟨c0,c1,c2,c3,c4,c5,rfl⟩:=QG hl;obtain⟨n0,y0,h0,ha⟩:=zG fV h hL 0 rfl;obtain⟨n1,y1,h1⟩:=pS fV h 1 rfl;obtain⟨n2,y2,h2⟩:=pS fV h 2 rfl;obtain⟨n3,y3,h3⟩:=pS fV h 3 rfl;obtain⟨n4,y4,h4,hb⟩:=zG fV h hL 4 rfl
 obtain⟨n5,y5,h5⟩:=pS fV h 5 rfl;simp only[List.getElem_toArray,List.getElem_cons_zero,List.getElem_cons_succ,Mg,Cx,JB]at h0 h1 h2 h3 h4 h5;obtain⟨a0,e0,g0,k0⟩:=Gv ee h0 ha;obtain⟨a1,e1,_,g1⟩:=DataW.trod_int io h1;obtain⟨a2,e2,_,g2⟩:=DataW.trod_int io h2;obtain⟨a3,e3,_,g3⟩:=DataW.trod_int io h3
 obtain⟨a4,e4,bs,g4,gb⟩:=Ja (R:=Ce) dm OK (by omega) (fun n cs y hy _=>KK hy) (fun c x hc=>by rw[show c=[aY x]from hc]; rfl) h4 hb;obtain⟨a5,e5,_,g5⟩:=DataW.trod_string ee h5;simp at e0 e1 e2 e3 e4 e5;subst e0 e1 e2 e3 e4 e5;exact⟨⟨a0,a1,a2,a3,bs,a5⟩,⟨_,rfl,Fg (Bn g4),⟨g0,g5,g1,g2,g3⟩⟩,k0,gb⟩
theorem FS (hval:Value.okWide Tryz.prog W .any b0 46 v) (h:DataW.Trod enc Tryz.prog W base spare held 46 v d ps) (hL:Ch d): ∃xs,dY (fun _=>True) W v xs/\ ∀e∈xs,e.path.size<=1048576/\e.data.length<=1048576:=by
 obtain⟨a0,len0,cap0,rfl⟩:=okWide_slice Tryz.underlying46 hval;obtain⟨fuel,hf⟩:=h;obtain⟨v,h1,xs,⟨cells,h2,h3⟩,_⟩:=Ja (R:=fun c e=>mj (fun _=>True) W c e/\e.path.size<=1048576/\e.data.length<=1048576) Tryz.underlying46 Cw (by omega) (fun n cs y hy ha=>KL hy ha) (fun c x hx=>mj.len c x hx.1) hf hL;simp[Value.cells]at h1;subst h1;obtain⟨h4,h5⟩:=Em h3
 exact⟨xs,⟨cells,h2,h4⟩,h5⟩
def PP (c:List Value) (z:Int):Prop:=c=[.int .i64 z]
def PQ (S:Nat->Prop) (w:World) (v:Value) (l:List Int):Prop:=cN S w 1 PP v l
theorem NC {n:Nat} {cs:List Value} {y:DataW H×List MemPlace} (h:DataW.trod enc Tryz.prog W base spare held n 3 cs=some y): ∃z,PP cs z:=by obtain⟨a,e,_,_⟩:=DataW.trod_int io h;exact⟨a,e⟩
theorem Kw (hval:Value.okWide Tryz.prog W .any b0 65 v) (h:DataW.Trod enc Tryz.prog W base spare held 65 v d ps): ∃xs,PQ (fun _=>True) W v xs:=
 @Nh H enc Tryz.prog W base Int PP 65 3 1 b0 spare held v d ps Tryz.underlying65 Cx (by omega) (fun n cs y hy=>NC hy) (fun c x hc=>by rw[show c=[_]from hc]; rfl) hval h
end
end Go.Proofs.YtpffpjbkbaleiaaGreatDoor
