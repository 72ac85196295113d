/- Texts of this proof, one after the other: AwS, Few, Few24, ShrA, Same, ShrB, LawNed, Frame, OpM. -/
import Derived.Test.YtpffpjbkbaleiaaGreatDoorCNeedsH
set_option maxRecDepth 100000
set_option maxHeartbeats 8000000
namespace Go.Proofs.YtpffpjbkbaleiaaGreatDoor
open Go Go.RowKit Go.Maps
theorem uk {k:bI} {c:dN} {tree:List bD} {gs:List (ByteArray×Int)} {r:aG} {bs:List bM} {w w':World} {e:Ending} (h:tY (cW k c tree gs) w e w') (hb:cW k c tree gs= .ok (r,bs)) (hr: ∀b∈bs,aW b.ref):
  Below w.heap.size w w'/\ ∃a cap,e= .returned (.tuple #[aX r, .slice a bs.length cap, .int .i64 0])/\bs.length<=cap/\cap<=maxLen/\gR (fun i=>w.heap.size<=i) w' (.slice a bs.length cap) bs:=by
 rw[hb]at h;obtain⟨h1,v,zs,h2,h3',h4⟩:=h;have h3:zs.map Prod.snd=bs:=h3';have hlen:bs.length=zs.length:=by rw[<-h3,List.length_map]
 obtain⟨a,cap,rfl,h5,h6⟩:=aj h4.row;refine⟨h1,a,cap,by rw[hlen]; exact h2,by omega,h6,zs,h3, ?_,fun z hz=>⟨aS.weak (bq (h4.dat z hz)) (fun i hi=>hi.1),hr _ (by rw[<-h3]; exact List.mem_map.2 ⟨z,hz,rfl⟩)⟩⟩;rw[hlen];exact aS.weak (bq h4.row) (fun i hi=>hi.1)
theorem kV {S:Nat->Prop} {w w':World} {a:Option Addr} {n cap:Nat} {bs:List bM} (h:gR S w (.slice a n cap) bs) (hb:Below w.heap.size w w') {k:Nat} {b:bM} (hk:bs[k]? =some b):
  ∃bk o za zc,a=some ⟨bk,o,none⟩/\bk<w.heap.size/\aD S w' (.slice za b.con.length zc) b.con/\w'.cell? ⟨bk,o+k*4,none⟩=some (.string b.ref.name)/\w'.cell? ⟨bk,o+k*4+1,none⟩=some (.int .i64 b.ref.gen)/\w'.cell? ⟨bk,o+k*4+2,none⟩=some (.int .i64 b.ref.size)/\w'.cell? ⟨bk,o+k*4+3,none⟩=some (.slice za b.con.length zc):=by
 obtain⟨zs,h1,h2,h3⟩:=h;rw[<-h1,List.getElem?_map,Option.map_eq_some_iff]at hk;obtain⟨z,hz,rfl⟩:=hk;obtain⟨bk,o,rfl,-,hlt,hc⟩:=uj h2 hz;have hd:=(h3 z (List.mem_of_getElem? hz)).1;obtain⟨_,za,zc,hzv,-,-,-⟩:=id hd;have g:=fun i (hi:i<4)=>(hb.cell (p:=⟨bk,o+k*4+i,none⟩) hlt).trans (hc i hi)
 have q0:=g 0 (by omega);have q1:=g 1 (by omega);have q2:=g 2 (by omega);have q3:=g 3 (by omega);simp only[jC,Bw,Nat.add_zero]at q0 q1 q2 q3;rw[hzv]at q3;exact⟨bk,o,za,zc,rfl,hlt,by rw[<-hzv]; exact aS.below hd (by omega) hb,q0,q1,q2,q3⟩
def DK :List Value:=[.string ⟨#[97]⟩, .int .i64 1, .int .i64 0, .int .i64 0, .slice none 0 0, .string ⟨#[]⟩, .string ⟨#[100]⟩, .int .i64 2, .int .i64 0, .int .i64 0, .slice none 0 0, .string ⟨#[]⟩, .string ⟨#[100,47,108]⟩, .int .i64 3, .int .i64 5, .int .i64 6, .slice none 0 0, .string ⟨#[97]⟩]
theorem xW (S:Nat->Prop) (w:World):bR (qt S w) DK io:=by
 refine⟨[.string ⟨#[97]⟩, .int .i64 1, .int .i64 0, .int .i64 0, .slice none 0 0, .string ⟨#[]⟩],_,rfl,⟨.slice none 0 0,rfl,bH.nil _ _,⟨by decide,by decide,by decide,by decide,by decide⟩⟩, ?_⟩;refine⟨[.string ⟨#[100]⟩, .int .i64 2, .int .i64 0, .int .i64 0, .slice none 0 0, .string ⟨#[]⟩],_,rfl,⟨.slice none 0 0,rfl,bH.nil _ _,⟨by decide,by decide,by decide,by decide,by decide⟩⟩, ?_⟩
 exact⟨[.string ⟨#[100,47,108]⟩, .int .i64 3, .int .i64 5, .int .i64 6, .slice none 0 0, .string ⟨#[97]⟩],[],rfl,⟨.slice none 0 0,rfl,bH.nil _ _,⟨by decide,by decide,by decide,by decide,by decide⟩⟩,rfl⟩
theorem wN {S:Nat->Prop} {w:World} {b o n c:Nat} {x:bM} {bs:List bM} (h:gR S w (.slice (some ⟨b,o,none⟩) (n+1) c) (x::bs)):gR S w (.slice (some ⟨b,o+4,none⟩) n (c-1)) bs:=by
 obtain⟨zs,h1,h2,h3⟩:=h
 cases zs with
 | nil=>simp at h1
 | cons z zs=>
  simp only[List.map_cons,List.cons.injEq]at h1;refine⟨zs,h1.2, ?_,fun y hy=>h3 y (by simp[hy])⟩;obtain⟨h4,a',c',he,h5,h6,h7⟩:=h2;simp only[Value.slice.injEq,List.length_cons]at he;obtain⟨rfl,hn,rfl⟩:=he;have hzl:(eF (z::zs)).length=4+(eF zs).length:=by unfold eF; rw[List.flatMap_cons,List.length_append]; rfl
  simp only[List.length_cons]at h4 h5 h7;refine⟨by omega,some ⟨b,o+4,none⟩,c-1,by rw[show n=zs.length by omega],by omega,by omega, ?_⟩
  rcases h7 with h7 | ⟨b9,o9,he9,hS,hc⟩
  ·omega
  ·cases he9
   refine .inr ⟨b,o+4,rfl,hS,fun j u hj=> ?_⟩;have:=hc (4+j) u (by
    unfold eF at hj ⊢;rw[List.flatMap_cons,List.getElem?_append_right (by show 4<=_; omega)];rw[show 4+j-(jC z.1 z.2).length=j by show 4+j-4=j; omega];exact hj)
   rwa [<-Nat.add_assoc]at this
theorem Fa :aW (be dg [] [0]):=fN (by simp) (by decide)
theorem EZ :aW ke:=fN (by simp) (by decide)
theorem yZ :aW fV:=fN (by simp) (by decide+kernel)
theorem uf (w:World) (hE:kS w):Calls Tryz.prog 14 #[] w fun e w'=>e= .returned (.bool true)/\Below w.heap.size w w':=by
 have HE:=ab hE;obtain⟨W0,hW0⟩: ∃W0,W0=w.alloc (.cells #[.int .u8 0] 5):=⟨_,rfl⟩;have hb0:Below w.heap.size w W0:=by rw[hW0]; exact(Below.refl _ _).alloc (Nat.le_refl _) _
 have HB0:=ab hb0;have hby:aD (fun i=>i=w.heap.size) W0 (.slice (some ⟨w.heap.size,0,none⟩) 1 1) [0]:=tJ (cells:=[au 0]) (by rw[hW0]; exact bZ w _) rfl (by decide);have hit:=rM _ [0] _ W0 hby (hE.below hb0).env;unfold ub at hit;rw[FQ]at hit;have HIT:=ab hit;clear hE hb0 hby hit
 go_enter Tryz.func14,Tryz.ntmps14
 go_wp2_with fail;rw[<-hW0];clear hW0;refine HIT.out.mono ?_;rintro e w1 ⟨hb1,iv,rfl,hiv⟩;obtain⟨ia,ic,rfl,-,-,-⟩:=aL.shape hiv dO.len;have HB1:=ab (ag HB0.out hb1);clear hb1 hiv HIT;go_wp2_with fail;refine(vk w1).mono ?_;rintro e w2 ⟨rfl,hb2⟩;have HB2:=ab (ag HB1.out hb2);clear hb2;go_wp2_with fail;refine(nb w2).mono ?_;rintro e w3 ⟨rfl,hb3⟩
 have HB3:=ab (ag HB2.out hb3);clear hb3;go_wp2_with fail;refine(qZ (fun _=>True) (fun _=>True) dg jN [] [] (.slice none 0 0) (.map none) w3 (by decide) (dI.nil _ _) (.inl ⟨rfl,rfl⟩) (HE.out.below HB3.out)).mono ?_;rintro e w4 hres;obtain⟨hb4,a4,c4,rfl,hc4,hm4,hbl4⟩:=uk hres FK (by intro b hb; simp only[List.mem_singleton]at hb; subst hb; exact Fa)
 obtain⟨r,hr⟩: ∃r,r=be dg [] [0]:=⟨_,rfl⟩;rw[<-hr]at hbl4 ⊢;have HB4:=ab (ag HB3.out hb4);have HBL4:=ab hbl4;unfold maxLen at hm4;simp only[List.length_singleton]at hc4 ⊢;clear hres hb4 hbl4 hr;unfold aX;go_wp2_with fail;obtain⟨W5,hW5⟩: ∃W5:World,W5=(w4.alloc (.cells #[.string r.name, .int .i64 r.gen, .int .i64 r.size] 26)).drew:=⟨_,rfl⟩;have hb5:Below w4.heap.size w4 W5:=by rw[hW5]; exact((Below.refl _ _).alloc (Nat.le_refl _) _).drew
 have HF5:=ab (show W5.heap[w4.heap.size]? =some (.cells #[.string r.name, .int .i64 r.gen, .int .i64 r.size] 26 (0,0)) by rw[hW5]; exact bZ w4 _);obtain⟨bk,o,za,zc,rfl,hbk,hcon,q0,q1,q2,q3⟩:=kV HBL4.out hb5 (k:=0) (b:=⟨r,[0]⟩) rfl;simp only[List.length_singleton,Nat.zero_mul,Nat.add_zero]at hcon q0 q1 q2 q3;have hcv:=kZ hcon;have r0:=aa (k:=0) HF5.out
 have r1:=aa (k:=1) HF5.out;have r2:=aa (k:=2) HF5.out;simp only[aN]at r0 r1 r2;have HB5:=ab (ag HB4.out hb5);clear hb5 hcon;refine am [some 32] (by kernel_rfl) (by kernel_rfl) (by kernel_rfl) ?_;simp only[aZ,List.take_succ_cons,List.take_zero];rw[<-hW5];clear hW5
 repeat (first | (refine aw rfl ?_; simp only[Act.put,aA,aB,aC]) | (refine aJ rfl (fun K hK=> ?_); go_simp; refine hK _ ?_; clear hK K))
 refine aI ?_;go_wp2_with fail;obtain⟨W6,hW6⟩: ∃W6:World,W6=W5.alloc (.cells DK.toArray 79):=⟨_,rfl⟩;have hb6:Below W5.heap.size W5 W6:=by rw[hW6]; exact(Below.refl _ _).alloc (Nat.le_refl _) _
 have HB6:=ab (ag HB5.out hb6);have HTR:=ab (show dI (fun i=>i=W5.heap.size) W6 (.slice (some ⟨W5.heap.size,0,none⟩) 3 3) io from⟨DK,tJ (by rw[hW6]; exact bZ W5 _) rfl (by decide),xW _ _⟩);have hW6':W6=W5.alloc (.cells #[.string ⟨#[97]⟩, .int .i64 1, .int .i64 0, .int .i64 0, .slice none 0 0, .string ⟨#[]⟩, .string ⟨#[100]⟩, .int .i64 2, .int .i64 0, .int .i64 0, .slice none 0 0, .string ⟨#[]⟩, .string ⟨#[100,47,108]⟩, .int .i64 3, .int .i64 5, .int .i64 6, .slice none 0 0, .string ⟨#[97]⟩] 79):=hW6
 rw[<-hW6'];clear hW6 hW6' hb6 q0 q1 q2 q3 r0 r1 r2 hcv;refine(vk W6).mono ?_;rintro e w7 ⟨rfl,hb7⟩;have HB7:=ab (ag HB6.out hb7);have HT7:=ab (dI.below HTR.out hb7);clear hb7;go_wp2_with fail;refine(nb w7).mono ?_;rintro e w8 ⟨rfl,hb8⟩;have HB8:=ab (ag HB7.out hb8);have HT8:=ab (dI.below HT7.out hb8);clear hb8;go_wp2_with fail;refine(qZ _ (fun _=>True) dg jN io [] _ (.map none) w8 (by decide) HT8.out (.inl ⟨rfl,rfl⟩) (HE.out.below HB8.out)).mono ?_
 rintro e w9 hres;obtain⟨hb9,a9,c9,rfl,hc9,hm9,hbl9⟩:=uk hres FL (by intro b hb; simp only[List.mem_cons,List.not_mem_nil,or_false]at hb; rcases hb with rfl | rfl; exact EZ; exact yZ);have HB9:=ab (ag HB8.out hb9);have HBL9:=ab hbl9;unfold maxLen at hm9;simp only[List.length_cons,List.length_nil,Nat.reduceAdd]at hc9 HBL9 ⊢;clear hres hb9 hbl9;unfold aX
 obtain⟨rt,hrt⟩: ∃rt,rt=fV:=⟨_,rfl⟩;have HRT:=ab hrt;rw[<-hrt]at HBL9 ⊢;clear hrt
 go_upto_region 7 with(fail)
 obtain⟨W10,hW10⟩: ∃W10:World,W10=w9.alloc (.cells #[.string rt.name, .int .i64 rt.gen, .int .i64 rt.size] 26):=⟨_,rfl⟩;rw[<-hW10];have hb10:Below w9.heap.size w9 W10:=by rw[hW10]; exact(Below.refl _ _).alloc (Nat.le_refl _) _
 have HB10:=ab (ag HB9.out hb10);have HF10:=ab (show W10.heap[w9.heap.size]? =some (.cells #[.string rt.name, .int .i64 rt.gen, .int .i64 rt.size] 26 (0,0)) by rw[hW10]; exact bZ w9 _);obtain⟨bb,oo,ya,yc,rfl,hbb,hcon,q0,q1,q2,q3⟩:=kV HBL9.out hb10 (k:=0) (b:=⟨ke,kI⟩) rfl;have hcv:(convert 29 9 (.slice ya 8 yc)).run Tryz.prog W10= .ok (.string ⟨#[1,1,108,3,5,6,1,97]⟩) W10:=kZ hcon
 replace q3:W10.cell? ⟨bb,oo+0*4+3,none⟩=some (.slice ya 8 yc):=q3
 simp only[Nat.zero_mul,Nat.add_zero]at q0 q1 q2 q3;have HBL10:=ab (HBL9.out.below hb10);clear hW10 hb10 hcon
 go_upto_region 9 with(fail)
 clear q0 q1 q2 q3 hcv;go_wp2_with fail;refine(sZ _ _ _ _ (wN (n:=1) HBL10.out) (by simp)).mono ?_;rintro e w11 ⟨mb,mm,rfl,hmb,hms,hen,hb11⟩;have HB11:=ab (ag HB10.out hb11);have HC11:=ab (show bt (fun _=>True) w11 (.map (some mb)) oR from by
  rw[HRT.out]at hen;exact .inr ⟨mb,mm,rfl,trivial,hms.is,bA.wide hen⟩)
 have HF11:=ab ((hb11.block _ (lt_of_block HF10.out)).trans HF10.out);have HBL11:=ab (HBL10.out.below hb11);clear hb11 hmb hms hen HBL10 HF10;have r0:=aa (k:=0) HF11.out;have r1:=aa (k:=1) HF11.out;have r2:=aa (k:=2) HF11.out;simp only[aN]at r0 r1 r2;go_wp2_with fail;have HRO:=ab (show aW rt by rw[HRT.out]; exact yZ);have HLA:=ab (show nt oR rt= .error 10 by rw[HRT.out]; exact Gw)
 have HMI:=ab (show vz oR rt= .ok [ke] by rw[HRT.out]; exact GA);have HL1:=ab (show eM oR rt ⟨#[97]⟩= .ok lP by rw[HRT.out]; exact Gz);have HL2:=ab (show eM oR rt ⟨#[100,47,108]⟩= .error 10 by rw[HRT.out]; exact FV);refine(vw _ (.map (some mb)) oR rt w11 HC11.out (HE.out.below HB11.out).env HRO.out).mono ?_;rintro e w12 ⟨hb12,hl12⟩;rw[HLA.out]at hl12
 obtain⟨rfl,-⟩:=hl12;have HB12:=ab (ag HB11.out hb12);have HC12:=ab (HC11.out.below hb12);have HF12:=ab ((hb12.block _ (lt_of_block HF11.out)).trans HF11.out);have HBL12:=ab (HBL11.out.below hb12);clear hb12 HC11 HF11 HBL11 r0 r1 r2;have r0:=aa (k:=0) HF12.out;have r1:=aa (k:=1) HF12.out;have r2:=aa (k:=2) HF12.out;simp only[aN]at r0 r1 r2;go_wp2_with fail
 refine(kP (by decide) _ (.map (some mb)) rt w12 HC12.out (HE.out.below HB12.out).env HRO.out).mono ?_;rintro e w13 ⟨hb13,hm13⟩;rw[HMI.out]at hm13;obtain⟨mv,rfl,hmv⟩:=hm13;obtain⟨ma,mc,rfl,-,-,-⟩:=aL.shape hmv fc.len;have HMV:=ab hmv;have HB13:=ab (ag HB12.out hb13);have HC13:=ab (HC12.out.below hb13);have HF13:=ab ((hb13.block _ (lt_of_block HF12.out)).trans HF12.out)
 have HBL13:=ab (HBL12.out.below hb13);clear hb13 hmv HC12 HF12 HBL12 r0 r1 r2;have r0:=aa (k:=0) HF13.out;have r1:=aa (k:=1) HF13.out;have r2:=aa (k:=2) HF13.out;simp only[aN]at r0 r1 r2;go_wp2_with fail;refine(kN _ (.map (some mb)) oR rt ⟨#[97]⟩ w13 HC13.out (HE.out.below HB13.out).env HRO.out).mono ?_;rintro e w14 ⟨hb14,hl14⟩;rw[HL1.out]at hl14;obtain⟨lv,rfl,hlv,-⟩:=hl14
 have HB14:=ab (ag HB13.out hb14);have HC14:=ab (HC13.out.below hb14);have HF14:=ab ((hb14.block _ (lt_of_block HF13.out)).trans HF13.out);have HBL14:=ab (HBL13.out.below hb14);have HMV14:=ab (aL.below HMV.out (by omega) hb14 (fun _ _ _ h=>h));obtain⟨la,lc,rfl,-,-,-⟩:=aL.shape hlv fc.len;clear hb14 hlv HC13 HF13 HBL13 HMV r0 r1 r2;unfold iT
 go_upto_region 13 with(fail)
 obtain⟨W15,hW15⟩: ∃W15:World,W15=w14.alloc (.cells #[.string lP.name, .int .i64 lP.kind, .int .i64 lP.mode, .int .i64 lP.time, .int .i64 lP.size, .string lP.link, .slice la lP.chunks.length lc, .string lP.node.name, .int .i64 lP.node.gen, .int .i64 lP.node.size] 28):=⟨_,rfl⟩;rw[<-hW15];have hb15:Below w14.heap.size w14 W15:=by rw[hW15]; exact(Below.refl _ _).alloc (Nat.le_refl _) _
 have HI15:=ab (show W15.heap[w14.heap.size]? =some (.cells #[.string lP.name, .int .i64 lP.kind, .int .i64 lP.mode, .int .i64 lP.time, .int .i64 lP.size, .string lP.link, .slice la lP.chunks.length lc, .string lP.node.name, .int .i64 lP.node.gen, .int .i64 lP.node.size] 28 (0,0)) by rw[hW15]; exact bZ w14 _);have HB15:=ab (ag HB14.out hb15);have HC15:=ab (HC14.out.below hb15)
 have HF15:=ab ((hb15.block _ (lt_of_block HF14.out)).trans HF14.out);have HBL15:=ab (HBL14.out.below hb15);have HMV15:=ab (aL.below HMV14.out (by omega) hb15 (fun _ _ _ h=>h));clear hb15 hW15 HC14 HF14 HBL14 HMV14;have r0:=aa (k:=0) HF15.out;have r1:=aa (k:=1) HF15.out;have r2:=aa (k:=2) HF15.out;simp only[aN]at r0 r1 r2;go_wp2_with fail;refine(kN _ (.map (some mb)) oR rt ⟨#[100,47,108]⟩ W15 HC15.out (HE.out.below HB15.out).env HRO.out).mono ?_
 rintro e w16 ⟨hb16,hl16⟩;rw[HL2.out]at hl16;obtain⟨rfl,-⟩:=hl16;have HB16:=ab (ag HB15.out hb16);have HI16:=ab ((hb16.block _ (lt_of_block HI15.out)).trans HI15.out);have HBL16:=ab (HBL15.out.below hb16);have HMV16:=ab (aL.below HMV15.out (by omega) hb16 (fun _ _ _ h=>h));clear hb16 HC15 HF15 HBL15 HMV15 HI15 r0 r1 r2
 go_upto_region 14 with(fail)
 obtain⟨W17,hW17⟩: ∃W17:World,W17=(w16.alloc (.cells #[.string ⟨#[]⟩, .int .i64 0, .int .i64 0, .int .i64 0, .int .i64 0, .string ⟨#[]⟩, .slice none 0 0, .string ⟨#[]⟩, .int .i64 0, .int .i64 0] 28)).drew:=⟨_,rfl⟩;have hb17:Below w16.heap.size w16 W17:=by rw[hW17]; exact((Below.refl _ _).alloc (Nat.le_refl _) _).drew
 have HB17:=ab (ag HB16.out hb17);have hi17:=(hb17.block _ (lt_of_block HI16.out)).trans HI16.out;have i1:=aa (k:=1) hi17;simp only[aN]at i1
 replace i1:W17.cell? ⟨w14.heap.size,1,none⟩=some (.int .i64 1):=i1
 obtain⟨mb2,mo2,rfl,-,p0,p1,p2⟩:=cR HMV16.out hb17 (k:=0) (r:=ke) rfl;obtain⟨rd,hrd⟩: ∃rd,rd=ke:=⟨_,rfl⟩;rw[<-hrd]at p0 p1 p2;obtain⟨b9,o9,y9,z9,he9,-,-,q0,q1,q2,-⟩:=kV HBL16.out hb17 (k:=0) (b:=⟨ke,kI⟩) rfl
 cases he9
 simp only at q0 q1 q2;rw[<-hrd]at q0 q1 q2;simp only[Nat.zero_mul,Nat.add_zero]at p0 p1 p2 q0 q1 q2;clear hi17 hb17 hrd;refine am [some 35] (by kernel_rfl) (by kernel_rfl) (by kernel_rfl) ?_;simp only[aZ,List.take_succ_cons,List.take_zero];rw[<-hW17];clear hW17
 repeat (first | (refine aw rfl ?_; simp only[Act.put,aA,aB,aC]) | (refine aJ rfl (fun K hK=> ?_); go_simp; refine hK _ ?_; clear hK K))
 refine aI ?_;go_wp2_with fail;go_ret;exact⟨rfl,HB17.out⟩
open Go Go.RowKit Go.Maps Go.MapKept
def pQ (v:Value):Option (DataW Unit×List MemPlace):=match v with
 | .slice _ _ _=>some (.nil,[])
 | _=>none
def gu (S:Nat->Prop) (w:World) (cv:Value) (cs:List (ByteArray×List UInt8)):Prop:=
 (cv= .map none/\cs=[])\/ ∃b es clock,cv= .map (some b)/\S b/\w.heap[b]? =some (.map es clock)/\es.size<=maxLen/\Stamped es clock/\(∀x∈es.toList,∃l,keyOf Tryz.prog 9 x.key=some l)/\bA S w (es.toList.map fun e=>(e.key,e.val)) cs
theorem bA.len {S:Nat->Prop} {w:World} : ∀ {m:List (Value×Value)} {cs:List (ByteArray×List UInt8)},bA S w m cs->m.length=cs.length
 | [],[],_=>rfl
 | [],_::_,h=>False.elim h
 | _::_,[],h=>False.elim h
 | (_,_)::_,(_,_)::_,h=>by simp[bA.len h.2.2]
theorem bA.vals {S:Nat->Prop} {w:World} : ∀ {m:List (Value×Value)} {cs:List (ByteArray×List UInt8)},bA S w m cs-> ∀p∈m,∃n bs,p.1= .string n/\aD S w p.2 bs
 | [],[],_,_,hp=>by simp at hp
 | [],_::_,h,_,_=>False.elim h
 | _::_,[],h,_,_=>False.elim h
 | (k,v)::m,(n,bs)::cs,h,p,hp=>by
  rcases List.mem_cons.1 hp with rfl | hp
  ·exact⟨n,bs,h.1,h.2.1⟩
  ·exact bA.vals h.2.2 p hp
theorem gu.at {S:Nat->Prop} {w:World} {cv:Value} {cs:List (ByteArray×List UInt8)} (h:gu S w cv cs):bt S w cv cs:=by
 rcases h with h | ⟨b,es,clock,h1,h2,h3,h4,h5,h6,h7⟩
 ·exact .inl h
 ·refine .inr ⟨b,_,h1,h2,⟨es,clock,h3,rfl, ?_, ?_⟩,h7⟩
  ·rw[List.map_map];exact h5.2.2
  ·intro p hp;obtain⟨x,hx,rfl⟩:=List.mem_map.1 hp;exact h6 x hx
theorem gu.below {S:Nat->Prop} {w w':World} {cv:Value} {cs:List (ByteArray×List UInt8)} (h:gu S w cv cs) (hb:Below w.heap.size w w'):gu S w' cv cs:=by
 rcases h with h | ⟨b,es,clock,h1,h2,h3,h4,h5,h6,h7⟩
 ·exact .inl h
 ·exact .inr ⟨b,es,clock,h1,h2,(hb.block b (Array.getElem?_eq_some_iff.1 h3).1).trans h3,h4,h5,h6,h7.mono (fun v bs hv=>aS.below hv (by omega) hb)⟩
theorem gu.owns {S:Nat->Prop} {w:World} {b:Nat} {cs:List (ByteArray×List UInt8)} (h:gu S w (.map (some b)) cs):b<w.heap.size/\ ∃es clock,w.heap[b]? =some (.map es clock)/\es.size=cs.length/\ ∃D,w.ownsMap (H:=Unit) Tryz.prog 9 pQ b es.size D:=by
 rcases h with⟨h,_⟩ | ⟨b',es,clock,h1,h2,h3,h4,h5,h6,h7⟩
 ·cases h
 ·cases h1
  have hF:WideElems.Fit Tryz.prog 9 pQ es clock:=⟨h4,h5,fun x hx=>by
   obtain⟨l,hl⟩:=h6 x hx;obtain⟨n,bs,_,hb⟩:=h7.vals (x.key,x.val) (List.mem_map.2 ⟨x,hx,rfl⟩);obtain⟨_,a,cap,hv,_⟩:=hb;simp only at hv;simp[WideElems.rd,hl,hv,pQ]⟩
  have hs:es.size=cs.length:=by have:=h7.len; simpa using this
  exact⟨(Array.getElem?_eq_some_iff.1 h3).1,es,clock,h3,hs,_,⟨es,clock,h3,hF,Nat.le_refl _,rfl⟩⟩
theorem vV {w:World} {b:Nat} {es:Array MapEntry} {clock:Nat} (hb:w.heap[b]? =some (.map es clock)) (ty:TypeId):(Builtin.len_ #[55] ty #[.map (some b)]).run Tryz.prog w= .ok (.int .i64 (es.size:Int)) w:=by
 simp[Builtin.len_,run_underlying Tryz.underlying55,MapKept.run_getObj_map hb,goInt,Result.andThen]
def Gm (cs:List (ByteArray×List UInt8)) (w:World) (e:Ending) (w':World):Prop:= ∃b,e= .returned (.bool b)/\Below w.heap.size w w'/\(b=true->cs.length<=40)
theorem zN (S:Nat->Prop) (cv:Value) (cs:List (ByteArray×List UInt8)) (w:World) (hc:gu S w cv cs):Calls Tryz.prog 24 #[cv] w (Gm cs w):=by
 go_enter Tryz.func24,Tryz.ntmps24
 rcases id hc with⟨rfl,rfl⟩ | ⟨mb,_,_,rfl,_⟩
 ·have hr:=fun(w:World)=>run_range_nilMap (P:=Tryz.prog) w 55 9 29 Tryz.underlying55
  have hn:=fun(w:World) (ty:TypeId) (a b:Nat) (s:Array Nat)=>run_next_nilMap (P:=Tryz.prog) w ty a b s
  have hln:=fun(w:World) (ty:TypeId)=>Maps.len_nil (P:=Tryz.prog) (w:=w) (k:=9) (e:=29) Tryz.underlying55 ty
  clear hc;go_wp2_with fail
  go_loopw [4] (fun n wr=>wr=w.alloc (.mapIter none 0 #[] 0)) (fun _ _=>0)
  case atStart=>exact rfl
  case round=>
   obtain rfl:=hrel;go_wp2_with fail;go_ret;exact⟨_,rfl,(Below.refl _ _).alloc (Nat.le_refl _) _,fun _=>by simp⟩
 ·obtain⟨hmb,es,clock,hes,hsz,D,hown⟩:=gu.owns hc;have HES:=ab hes;have HSZ:=ab hsz;have HOWN:=ab hown;clear hc hes hsz hown;go_wp2_with (at_range; go_must (refine wpList_range_own _ rfl _ 55 rfl 9 29 jW Tryz.underlying55 pQ mb es.size D rfl HOWN.out ?_); intro w0 hrg0 hg0 hs0);have HR0:=ab hrg0;have HB0:=ab (show Below w.heap.size w w0 from⟨hg0.os,hg0.tape,hg0.output,hg0.size,fun k hk=>hg0.block k hk (by simp)⟩)
  clear hrg0 hg0 hs0
  try go_frame
  go_loopw [4] (fun n wr=> ∃left cnt,wr.ranges Tryz.prog 9 pQ mb w.heap.size es.size D left cnt/\Below w.heap.size w wr) (fun _ wr=>wr.rangeLeft mb w.heap.size)
  case atStart=>exact⟨_,_,HR0.out,HB0.out⟩
  case round=>
   obtain⟨left,cnt,hrg,hb⟩:=hrel;have HRG:=ab hrg;have HB:=ab hb;have hlm:=fun(ty:TypeId)=>vV ((hb.block mb hmb).trans HES.out) ty
   clear hrg hb HR0 HB0;go_wp2_with (at_next; go_must (refine wpList_next_ranges _ rfl _ rfl 9 jW pQ Value.string (fun c:Option Addr×Nat×Nat=>Value.slice c.1 c.2.1 c.2.2) (fun key kl h=>by cases key<;> simp[keyOf,Tryz.underlying9,mapKey]at h; exact⟨_,rfl⟩) (fun v y h=>by cases v<;> simp[pQ]at h; exact⟨(_,_,_),rfl⟩) mb w.heap.size es.size D left cnt rfl HRG.out ?_ ?_))
   ·intro _ _;go_wp2_with fail;go_ret;exact⟨_,rfl,HB.out,fun h=>by rw[<-HSZ.out]; have:=of_decide_eq_true h; omega⟩
   ·intro key ca cn cc kl y1 y2 w1 cnt1 _ _ _ _ hrg1 hlt1 hg1 hs1 hen;have HB1:=ab (show Below w.heap.size w w1 from HB.out.grown hg1 HB.out.size (fun k hk=>by cases hk; exact Nat.le_refl _));have HRG1:=ab hrg1;clear hrg1 hg1 hs1 hlm;go_wp2_with fail
    ·go_ret;exact⟨_,rfl,HB1.out,fun h=>by cases h⟩
    ·go_roundw
     case rel=>exact⟨_,cnt1,HRG1.out,HB1.out⟩
     case measure=>rw[HRG1.out.left_eq,HRG.out.left_eq]; omega
end Go.Proofs.YtpffpjbkbaleiaaGreatDoor
namespace Go.Proofs.YtpffpjbkbaleiaaGreatDoor
open Go Go.RowKit Go.Maps
def lx (x y:List aG):Int×Int:=y.foldl (fun p r=>if r∈x then(wrap64 (p.1+r.size),p.2)else(p.1,wrap64 (p.2+r.size))) (0,0)
theorem ze {x y:List aG} {r:aG} (h:r∈x):lx x (y++[r])=(wrap64 ((lx x y).1+r.size),(lx x y).2):=by unfold lx; rw[List.foldl_append]; simp[h]
theorem wg {x y:List aG} {r:aG} (h:r∉x):lx x (y++[r])=((lx x y).1,wrap64 ((lx x y).2+r.size)):=by unfold lx; rw[List.foldl_append]; simp[h]
def tQ (a b:Except Int (List aG)):Except Int (Int×Int):=match a with
 | .error x=> .error x
 | .ok x=>match b with
  | .error y=> .error y
  | .ok y=> .ok (lx x y)
def sR (res:Except Int (Int×Int)) (w:World) (e:Ending) (w':World):Prop:=Below w.heap.size w w'/\match res with
 | .error x=>e= .returned (.tuple #[.int .i64 0, .int .i64 0, .int .i64 x])/\x≠0
 | .ok p=>e= .returned (.tuple #[.int .i64 p.1, .int .i64 p.2, .int .i64 0])
theorem xP (S:Nat->Prop) (cv:Value) (cs:List (ByteArray×List UInt8)) (need:aG->Except Int (List aG)) (ra rb:aG) (w:World) (hc:bt S w cv cs) (henv:fE w) (hra:aW ra) (hrb:aW rb)
  (hn:mu cs need) (hnd: ∀l,need ra= .ok l->l.Nodup):
  Calls Tryz.prog 45 #[aX ra,aX rb,cv] w (sR (tQ (need ra) (need rb)) w):=by
 have HND:=ab hnd;have hmm:= @run_makeMap Tryz.prog;clear hnd;obtain⟨W0,hW0⟩: ∃W0:World,W0=(w.alloc (.cells #[.string ra.name, .int .i64 ra.gen, .int .i64 ra.size] 26)).alloc (.cells #[.string rb.name, .int .i64 rb.gen, .int .i64 rb.size] 26):=⟨_,rfl⟩;have HB0:=ab (show Below w.heap.size w W0 by rw[hW0]; exact((Below.refl _ _).alloc (Nat.le_refl _) _).alloc (by simp) _);have HA0:=ab (show W0.heap[w.heap.size]? =some (.cells #[.string ra.name, .int .i64 ra.gen, .int .i64 ra.size] 26 (0,0)) by rw[hW0]; exact(Below.heap_alloc _ _ _ (by simp)).trans (heap_alloc_new w _))
 have HC0:=ab (show W0.heap[w.heap.size+1]? =some (.cells #[.string rb.name, .int .i64 rb.gen, .int .i64 rb.size] 26 (0,0)) by rw[hW0]; have:=heap_alloc_new (w.alloc (.cells #[.string ra.name, .int .i64 ra.gen, .int .i64 ra.size] 26)) (.cells #[.string rb.name, .int .i64 rb.gen, .int .i64 rb.size] 26); simpa using this);have HC:=ab hc;have HE:=ab henv;have HN:=ab hn;have HRA:=ab hra
 have HRB:=ab hrb;have p0:=ah (k:=0) HA0.out;have p1:=ah (k:=1) HA0.out;have p2:=ah (k:=2) HA0.out;simp only[aN]at p0 p1 p2;unfold aX;clear hc henv hn hra hrb
 go_enter Tryz.func45,Tryz.ntmps45
 go_wp2_with fail;rw[<-hW0];clear hW0;have hfa:=HN.out.refs S cv ra W0 (HC.out.below HB0.out) (HE.out.below HB0.out) HRA.out;have HFA:=ab hfa;clear hfa;unfold aX at HFA;refine HFA.out.mono ?_;rintro e w1 ⟨hb1,hr1⟩;have HB1:=ab (ag HB0.out hb1);have HC1:=ab ((hb1.block _ (lt_of_block HC0.out)).trans HC0.out);clear hb1 p0 p1 p2 HFA
 cases hx:need ra with
 | error x=>
  rw[hx]at hr1;obtain⟨rfl,hx0⟩:=hr1;have HSE:=ab (show tQ (need ra) (need rb)= .error x by rw[hx]; rfl);have HX:=ab hx0;have e1:(x != 0)=true:=by simp[hx0]
  clear hx0 hx;go_wp2_with fail
  go_ret3
  exact⟨HB1.out,by rw[HSE.out]; exact⟨rfl,HX.out⟩⟩
 | ok xs=>
  rw[hx]at hr1;obtain⟨v,rfl,hv⟩:=hr1;have HXL:=ab (HN.out.le HRA.out hx);have HXN:=ab (HND.out _ hx);have HXE:=ab hx;obtain⟨a,cap,rfl,hcp,hm,-⟩:=aL.shape hv fc.len;unfold maxLen at hm;have HV:=ab hv;clear hv hx;have p0:=ah (k:=0) HC1.out;have p1:=ah (k:=1) HC1.out;have p2:=ah (k:=2) HC1.out;simp only[aN]at p0 p1 p2;have hfb:=HN.out.refs S cv rb w1 (HC.out.below HB1.out) (HE.out.below HB1.out) HRB.out
  have HFB:=ab hfb;clear hfb;unfold aX at HFB;go_wp2_with fail;refine HFB.out.mono ?_;rintro e w2 ⟨hb2,hr2⟩;clear p0 p1 p2 HFB;have HB2:=ab (ag HB1.out hb2);have HV2:=ab (aL.below HV.out (by omega) hb2 (fun _ _ _ h=>h));clear hb2
  cases hy:need rb with
  | error y=>
   rw[hy]at hr2;obtain⟨rfl,hx0⟩:=hr2;have HSE:=ab (show tQ (need ra) (need rb)= .error y by rw[HXE.out,hy]; rfl);have HX:=ab hx0;have e1:(y != 0)=true:=by simp[hx0]
   clear hx0 hy;go_wp2_with fail
   go_ret3
   exact⟨HB2.out,by rw[HSE.out]; exact⟨rfl,HX.out⟩⟩
  | ok ys=>
   rw[hy]at hr2;obtain⟨u,rfl,hu⟩:=hr2;have HYL:=ab (HN.out.le HRB.out hy);have HSE:=ab (show tQ (need ra) (need rb)= .ok (lx xs ys) by rw[HXE.out,hy]; rfl);obtain⟨a2,cap2,rfl,hcp2,hm2,-⟩:=aL.shape hu fc.len;unfold maxLen at hm2;have HU:=ab hu;have hxl:=HXL.out;have hyl:=HYL.out;clear hu hy
   go_upto_region 8 with(fail)
   obtain⟨W,hW⟩: ∃W:World,W=w2.alloc (.map #[] 0):=⟨_,rfl⟩;have HBW:=ab (show Below w2.heap.size w2 W by rw[hW]; exact(Below.refl _ _).alloc (Nat.le_refl _) _);have HK:=ab (show cb W w2.heap.size [] by rw[hW]; exact cb.made w2);rw[<-hW];clear hW;go_wp2_with fail
   go_loopw [14,40] (fun q i wr=> ∃k:Nat,k<=xs.length/\i= .int .i64 k/\Below w2.heap.size w2 wr/\cb wr w2.heap.size (xs.take k)) (fun _ i _=>xs.length-(intOf i).toNat)
   case atStart=>exact⟨0,Nat.zero_le _,rfl,HBW.out,HK.out⟩
   case round=>
    obtain⟨k,hk,rfl,hb,hst⟩:=hrel;have HB:=ab hb;have HST:=ab hst;clear hb hst
    by_cases hlt:k<xs.length
    ·obtain⟨r,hr⟩: ∃r,xs[k]? =some r:=⟨xs[k],by simp[hlt]⟩;obtain⟨b,o,rfl,hrok,q0,q1,q2⟩:=cR HV2.out HB.out hr;have HRO:=ab hrok;have HSN:=ab (bh hr);have HNI:=ab (show r∉xs.take k by
      have h:=HXN.out;rw[<-List.take_append_drop (k+1) xs,bh hr,List.append_assoc]at h;have h2:=(List.nodup_append.1 h).2.2;exact fun e=>h2 r e r (by simp) rfl)
     clear hr hrok
     go_upto_region 11 with(fail)
     obtain⟨W3,hW3⟩: ∃W3:World,W3=wr.alloc (.cells #[.string r.name, .int .i64 r.gen, .int .i64 r.size] 26):=⟨_,rfl⟩;have hbw:Below wr.heap.size wr W3:=by rw[hW3]; exact(Below.refl _ _).alloc (Nat.le_refl _) _
     have HBX:=ab (show W3.heap[wr.heap.size]? =some (.cells #[.string r.name, .int .i64 r.gen, .int .i64 r.size] 26 (0,0)) by rw[hW3]; exact heap_alloc_new wr _);have HB3:=ab (ag HB.out hbw);have HST3:=ab (HST.out.same (hbw.block _ HST.out.map.lt));rw[<-hW3];have p0:=ah (k:=0) HBX.out;have p1:=ah (k:=1) HBX.out;have p2:=ah (k:=2) HBX.out;simp only[aN]at p0 p1 p2
     have hz1:=HB3.out.size;clear hW3 hbw q0 q1 q2;go_wp2_with (refine cL rfl _ _ _ rfl w2.heap.size _ HST3.out (by go_simp) r HRO.out (by go_simp; rfl) (by go_simp) HNI.out ?_; intro w4 h4 hg4; have HST4:=ab (show cb w4 w2.heap.size (xs.take (k+1)) by rw[HSN.out]; exact h4); have HB4:=ab (HB3.out.grown hg4 hz1 (fun j hj=>by cases hj; omega)); clear h4 hg4)
     go_roundw
     case rel=>exact⟨k+1,by omega,by go_num,HB4.out,HST4.out⟩
     case measure=>simp[intOf]; omega
    ·obtain rfl:k=xs.length:=by omega
     have HSX:=ab (show cb wr w2.heap.size xs by have:=HST.out; rwa [List.take_of_length_le (Nat.le_refl _)]at this);obtain⟨w5,hw5⟩: ∃w5,w5=wr:=⟨_,rfl⟩;subst hw5;go_wp2_with fail
     go_loopw [15,16,18,49] (fun p q z i wr=> ∃k:Nat,k<=ys.length/\i= .int .i64 k/\p= .int .i64 (lx xs (ys.take k)).1/\q= .int .i64 (lx xs (ys.take k)).2/\Below w5.heap.size w5 wr) (fun _ _ _ i _=>ys.length-(intOf i).toNat)
     case atStart=>exact⟨0,Nat.zero_le _,rfl,rfl,rfl,Below.refl _ _⟩
     case round=>
      obtain⟨k,hk,rfl,rfl,rfl,hb⟩:=hrel;have HBR:=ab hb;clear hb
      by_cases hlt:k<ys.length
      ·obtain⟨r,hr⟩: ∃r,ys[k]? =some r:=⟨ys[k],by simp[hlt]⟩;obtain⟨b,o,rfl,hrok,q0,q1,q2⟩:=cR HU.out (HB.out.trans (HBR.out.mono HB.out.size)) hr;have HRO:=ab hrok;have HSN:=ab (bh hr);clear hr hrok
       go_upto_region 17 with(fail)
       obtain⟨W3,hW3⟩: ∃W3:World,W3=wr.alloc (.cells #[.string r.name, .int .i64 r.gen, .int .i64 r.size] 26):=⟨_,rfl⟩;have hbw:Below wr.heap.size wr W3:=by rw[hW3]; exact(Below.refl _ _).alloc (Nat.le_refl _) _
       have HBX:=ab (show W3.heap[wr.heap.size]? =some (.cells #[.string r.name, .int .i64 r.gen, .int .i64 r.size] 26 (0,0)) by rw[hW3]; exact heap_alloc_new wr _);have HB3:=ab (ag HBR.out hbw);have hlk:=(HSX.out.same (HB3.out.block _ HSX.out.map.lt)).look HRO.out;rw[<-hW3];have p0:=ah (k:=0) HBX.out;have p1:=ah (k:=1) HBX.out;have p2:=ah (k:=2) HBX.out;simp only[aN]at p0 p1 p2
       unfold aX at hlk;clear hW3 hbw q0 q1 q2
       by_cases hin:r∈xs
       ·have e1:decide (r∈xs)=true:=by simp[hin]
        rw[e1]at hlk;have HS:=ab (ze (y:=ys.take k) hin);rw[<-HSN.out]at HS;clear hin e1;go_wp2_with fail
        go_roundw
        case rel=>exact⟨k+1,by omega,by go_num,by rw[HS.out],by rw[HS.out],HB3.out⟩
        case measure=>simp[intOf]; omega
       ·have e1:decide (r∈xs)=false:=by simp[hin]
        rw[e1]at hlk;have HS:=ab (wg (y:=ys.take k) hin);rw[<-HSN.out]at HS;clear hin e1;go_wp2_with fail
        go_roundw
        case rel=>exact⟨k+1,by omega,by go_num,by rw[HS.out],by rw[HS.out],HB3.out⟩
        case measure=>simp[intOf]; omega
      ·obtain rfl:k=ys.length:=by omega
       go_wp2_with fail
       go_ret3
       have hz:=HB2.out.size;refine⟨ag HB2.out (HB.out.trans (HBR.out.mono HB.out.size)), ?_⟩;rw[HSE.out,List.take_of_length_le (Nat.le_refl _)]
       rfl
end Go.Proofs.YtpffpjbkbaleiaaGreatDoor
namespace Go.Proofs.YtpffpjbkbaleiaaGreatDoor
open Go.RowKit
theorem zR (S:Nat->Prop) (v:Value) (rs:List aG) (x:aG) (w:World) (hv:aM S w v rs) (_hx:aW x):
  Calls Tryz.prog 39 #[v,aX x] w fun e w'=>e= .returned (.bool (decide (x∈rs)))/\Below w.heap.size w w':=by
 obtain⟨a,cap,rfl,hc,hm,-⟩:=aL.shape hv fc.len;unfold maxLen at hm;have HV:=ab hv;have HB0:=ab ((Below.refl w.heap.size w).alloc (Nat.le_refl _) (.cells #[.string x.name, .int .i64 x.gen, .int .i64 x.size] 26));have HBX:=ab (heap_alloc_new w (.cells #[.string x.name, .int .i64 x.gen, .int .i64 x.size] 26));unfold aX;clear hv
 go_enter Tryz.func39,Tryz.ntmps39
 go_wp2_with fail
 go_loopw [5] (fun i wr=> ∃k:Nat,k<=rs.length/\i= .int .i64 k/\x∉rs.take k/\Below w.heap.size w wr/\wr.heap[w.heap.size]? =some (.cells #[.string x.name, .int .i64 x.gen, .int .i64 x.size] 26 (0,0))) (fun i _=>rs.length-(intOf i).toNat)
 case atStart=>exact⟨0,Nat.zero_le _,rfl,by simp,HB0.out,HBX.out⟩
 case round=>
  obtain⟨k,hk,rfl,hn,hb,hbx⟩:=hrel;have HN:=ab hn;have HB:=ab hb;have HBY:=ab hbx;clear hn hb hbx
  by_cases hlt:k<rs.length
  ·obtain⟨r,hr⟩: ∃r,rs[k]? =some r:=⟨rs[k],by simp[hlt]⟩;have HR:=ab hr;have HSN:=ab (bh hr);have heq:=yJ r x;obtain⟨W,hW⟩: ∃W:World,W=wr.drew:=⟨_,rfl⟩;have HBW:=ab (show Below w.heap.size w W by rw[hW]; exact HB.out.drew);have HBZ:=ab (show W.heap[w.heap.size]? =some (.cells #[.string x.name, .int .i64 x.gen, .int .i64 x.size] 26 (0,0)) by rw[hW]; exact HBY.out)
   obtain⟨b,o,rfl,hrok,q0,q1,q2⟩:=cR HV.out HBW.out hr;have p0:=ah (k:=0) HBZ.out;have p1:=ah (k:=1) HBZ.out;have p2:=ah (k:=2) HBZ.out;simp only[aN]at p0 p1 p2;unfold aX at heq;clear hr hrok
   by_cases hm:r=x
   ·have e1:decide (r=x)=true:=by simp[hm]
    rw[e1]at heq;have HT:=ab (show decide (x∈rs)=true by rw[<-hm]; simp[List.mem_of_getElem? HR.out]);clear e1 hm;go_wp2_with fail;refine am [some 6] (by kernel_rfl) (by kernel_rfl) (by kernel_rfl) ?_;simp only[aZ,List.take_succ_cons,List.take_zero];rw[<-hW];clear hW
    repeat (first | (refine aw rfl ?_; simp only[Act.put,aA,aB,aC]) | (refine aJ rfl (fun K hK=> ?_); go_simp; refine hK _ ?_; clear hK K))
    refine aI ?_;go_wp2_with fail;go_ret;exact⟨an HT.out.symm,HBW.out⟩
   ·have e1:decide (r=x)=false:=by simp[hm]
    rw[e1]at heq;have HT:=ab (show x∉rs.take (k+1) by rw[HSN.out]; simp only[List.mem_append,List.mem_singleton,not_or]; exact⟨HN.out,fun e=>hm e.symm⟩);clear e1 hm;go_wp2_with fail;refine am [some 6] (by kernel_rfl) (by kernel_rfl) (by kernel_rfl) ?_;simp only[aZ,List.take_succ_cons,List.take_zero];rw[<-hW];clear hW
    repeat (first | (refine aw rfl ?_; simp only[Act.put,aA,aB,aC]) | (refine aJ rfl (fun K hK=> ?_); go_simp; refine hK _ ?_; clear hK K))
    refine aI ?_;go_wp2_with fail
    go_roundw
    case rel=>exact⟨k+1,by omega,by go_num,HT.out,HBW.out,HBZ.out⟩
    case measure=>simp[intOf]; omega
  ·obtain rfl:k=rs.length:=by omega
   have HT:=ab (show decide (x∈rs)=false by have:=HN.out; rw[List.take_of_length_le (Nat.le_refl _)]at this; simp[this]);go_wp2_with fail;go_ret;exact⟨an HT.out.symm,HB.out⟩
theorem tL (S T:Nat->Prop) (v u:Value) (rs ss:List aG) (w:World) (hv:aM S w v rs) (hu:aM T w u ss):
  Calls Tryz.prog 44 #[v,u] w fun e w'=>e= .returned (.bool (decide (rs=ss)))/\Below w.heap.size w w':=by
 obtain⟨a,cap,rfl,hc,hm,-⟩:=aL.shape hv fc.len;obtain⟨a2,cap2,rfl,hc2,hm2,-⟩:=aL.shape hu fc.len;unfold maxLen at hm hm2;have HV:=ab hv;have HU:=ab hu;clear hv hu
 by_cases hl:rs.length=ss.length
 ·have HL:=ab hl;have hl2:ss.length=rs.length:=hl.symm;rw[hl2]at HU hc2 ⊢;clear hl hl2
  go_enter Tryz.func44,Tryz.ntmps44
  go_wp2_with fail
  go_loopw [5] (fun i wr=> ∃k:Nat,k<=rs.length/\i= .int .i64 k/\rs.take k=ss.take k/\Below w.heap.size w wr) (fun i _=>rs.length-(intOf i).toNat)
  case atStart=>exact⟨0,Nat.zero_le _,rfl,by simp,Below.refl _ _⟩
  case round=>
   obtain⟨k,hk,rfl,hn,hb⟩:=hrel;have HN:=ab hn;have HB:=ab hb;clear hn hb
   by_cases hlt:k<rs.length
   ·obtain⟨r,hr⟩: ∃r,rs[k]? =some r:=⟨rs[k],by simp[hlt]⟩;obtain⟨x,hx⟩: ∃x,ss[k]? =some x:=⟨ss[k]'(by have:=HL.out; omega),by simp⟩;have HR:=ab hr;have HX:=ab hx;have heq:=yJ r x;obtain⟨W,hW⟩: ∃W:World,W=wr.drew:=⟨_,rfl⟩;have HBW:=ab (show Below w.heap.size w W by rw[hW]; exact HB.out.drew);obtain⟨b,o,rfl,hrok,q0,q1,q2⟩:=cR HV.out HBW.out hr
    obtain⟨b2,o2,rfl,hrok2,p0,p1,p2⟩:=cR (by have:=HU.out; rw[HL.out]at this; exact this) HBW.out hx;unfold aX at heq;clear hr hrok hx hrok2
    by_cases hm:r=x
    ·have e1:decide (r=x)=true:=by simp[hm]
     rw[e1]at heq;have HT:=ab (show rs.take (k+1)=ss.take (k+1) by rw[bh HR.out,bh HX.out,HN.out,hm]);clear e1 hm;go_wp2_with fail;refine am [some 9] (by kernel_rfl) (by kernel_rfl) (by kernel_rfl) ?_;simp only[aZ,List.take_succ_cons,List.take_zero];rw[<-hW];clear hW
     repeat (first | (refine aw rfl ?_; simp only[Act.put,aA,aB,aC]) | (refine aJ rfl (fun K hK=> ?_); go_simp; refine hK _ ?_; clear hK K))
     refine aI ?_;go_wp2_with fail
     go_roundw
     case rel=>exact⟨k+1,by omega,by go_num,HT.out,HBW.out⟩
     case measure=>simp[intOf]; omega
    ·have e1:decide (r=x)=false:=by simp[hm]
     rw[e1]at heq;have HT:=ab (show decide (rs=ss)=false by
      rw[decide_eq_false_iff_not];intro e;have h1:=HR.out;rw[e,HX.out]at h1;exact hm (Option.some.inj h1).symm)
     clear e1 hm;go_wp2_with fail;refine am [some 9] (by kernel_rfl) (by kernel_rfl) (by kernel_rfl) ?_;simp only[aZ,List.take_succ_cons,List.take_zero];rw[<-hW];clear hW
     repeat (first | (refine aw rfl ?_; simp only[Act.put,aA,aB,aC]) | (refine aJ rfl (fun K hK=> ?_); go_simp; refine hK _ ?_; clear hK K))
     refine aI ?_;go_wp2_with fail;go_ret;exact⟨an HT.out.symm,HBW.out⟩
   ·obtain rfl:k=rs.length:=by omega
    have HT:=ab (show decide (rs=ss)=true by
     have:=HN.out;rw[List.take_of_length_le (Nat.le_refl _),List.take_of_length_le (by rw[HL.out]; exact Nat.le_refl _)]at this;simp[this])
    go_wp2_with fail;go_ret;exact⟨an HT.out.symm,HB.out⟩
 ·have HT:=ab (show decide (rs=ss)=false by rw[decide_eq_false_iff_not]; intro e; exact hl (by rw[e]));have e1:((rs.length:Int) != (ss.length:Int))=true:=by simp; omega
  clear hl
  go_enter Tryz.func44,Tryz.ntmps44
  go_wp2_with fail;go_ret;exact⟨an HT.out.symm,Below.refl _ _⟩
open Go Go.RowKit Go.Maps
theorem tP (S:Nat->Prop) (cv:Value) (cs:List (ByteArray×List UInt8)) (need:aG->Except Int (List aG)) (ra rb:aG) (w:World) (hc:bt S w cv cs) (henv:fE w) (hra:aW ra) (hrb:aW rb)
  (hn:BJ cs need) (hle: ∀r l,aW r->need r= .ok l->l.length<=1000000000):
  Calls Tryz.prog 46 #[aX ra,aX rb,cv] w (sR (tQ (need ra) (need rb)) w):=by
 have HND:=ab hle;clear hle;obtain⟨W0,hW0⟩: ∃W0:World,W0=(w.alloc (.cells #[.string ra.name, .int .i64 ra.gen, .int .i64 ra.size] 26)).alloc (.cells #[.string rb.name, .int .i64 rb.gen, .int .i64 rb.size] 26):=⟨_,rfl⟩;have HB0:=ab (show Below w.heap.size w W0 by rw[hW0]; exact((Below.refl _ _).alloc (Nat.le_refl _) _).alloc (by simp) _);have HA0:=ab (show W0.heap[w.heap.size]? =some (.cells #[.string ra.name, .int .i64 ra.gen, .int .i64 ra.size] 26 (0,0)) by rw[hW0]; exact(Below.heap_alloc _ _ _ (by simp)).trans (heap_alloc_new w _))
 have HC0:=ab (show W0.heap[w.heap.size+1]? =some (.cells #[.string rb.name, .int .i64 rb.gen, .int .i64 rb.size] 26 (0,0)) by rw[hW0]; have:=heap_alloc_new (w.alloc (.cells #[.string ra.name, .int .i64 ra.gen, .int .i64 ra.size] 26)) (.cells #[.string rb.name, .int .i64 rb.gen, .int .i64 rb.size] 26); simpa using this);have HC:=ab hc;have HE:=ab henv;have HN:=ab hn;have HRA:=ab hra
 have HRB:=ab hrb;have p0:=ah (k:=0) HA0.out;have p1:=ah (k:=1) HA0.out;have p2:=ah (k:=2) HA0.out;simp only[aN]at p0 p1 p2;unfold aX;clear hc henv hn hra hrb
 go_enter Tryz.func46,Tryz.ntmps46
 go_wp2_with fail;rw[<-hW0];clear hW0;have hfa:=HN.out S cv ra W0 (HC.out.below HB0.out) (HE.out.below HB0.out) HRA.out;have HFA:=ab hfa;clear hfa;unfold aX at HFA;refine HFA.out.mono ?_;rintro e w1 ⟨hb1,hr1⟩;have HB1:=ab (ag HB0.out hb1);have HC1:=ab ((hb1.block _ (lt_of_block HC0.out)).trans HC0.out);clear hb1 p0 p1 p2 HFA
 cases hx:need ra with
 | error x=>
  rw[hx]at hr1;obtain⟨rfl,hx0⟩:=hr1;have HSE:=ab (show tQ (need ra) (need rb)= .error x by rw[hx]; rfl);have HX:=ab hx0;have e1:(x != 0)=true:=by simp[hx0]
  clear hx0 hx;go_wp2_with fail
  go_ret3
  exact⟨HB1.out,by rw[HSE.out]; exact⟨rfl,HX.out⟩⟩
 | ok xs=>
  rw[hx]at hr1;obtain⟨v,rfl,hv⟩:=hr1;have HXL:=ab (HND.out _ _ HRA.out hx);have HXE:=ab hx;obtain⟨a,cap,rfl,hcp,hm,-⟩:=aL.shape hv fc.len;unfold maxLen at hm;have HV:=ab hv;clear hv hx;have p0:=ah (k:=0) HC1.out;have p1:=ah (k:=1) HC1.out;have p2:=ah (k:=2) HC1.out;simp only[aN]at p0 p1 p2;have hfb:=HN.out S cv rb w1 (HC.out.below HB1.out) (HE.out.below HB1.out) HRB.out
  have HFB:=ab hfb;clear hfb;unfold aX at HFB;go_wp2_with fail;refine HFB.out.mono ?_;rintro e w2 ⟨hb2,hr2⟩;clear p0 p1 p2 HFB;have HB2:=ab (ag HB1.out hb2);have HV2:=ab (aL.below HV.out (by omega) hb2 (fun _ _ _ h=>h));clear hb2
  cases hy:need rb with
  | error y=>
   rw[hy]at hr2;obtain⟨rfl,hx0⟩:=hr2;have HSE:=ab (show tQ (need ra) (need rb)= .error y by rw[HXE.out,hy]; rfl);have HX:=ab hx0;have e1:(y != 0)=true:=by simp[hx0]
   clear hx0 hy;go_wp2_with fail
   go_ret3
   exact⟨HB2.out,by rw[HSE.out]; exact⟨rfl,HX.out⟩⟩
  | ok ys=>
   rw[hy]at hr2;obtain⟨u,rfl,hu⟩:=hr2;have HYL:=ab (HND.out _ _ HRB.out hy);have HSE:=ab (show tQ (need ra) (need rb)= .ok (lx xs ys) by rw[HXE.out,hy]; rfl);obtain⟨a2,cap2,rfl,hcp2,hm2,-⟩:=aL.shape hu fc.len;unfold maxLen at hm2;have HU:=ab hu;have hxl:=HXL.out;have hyl:=HYL.out;clear hu hy;go_wp2_with fail
   go_loopw [12,13,14] (fun p q i wr=> ∃k:Nat,k<=ys.length/\i= .int .i64 k/\p= .int .i64 (lx xs (ys.take k)).1/\q= .int .i64 (lx xs (ys.take k)).2/\Below w2.heap.size w2 wr) (fun _ _ i _=>ys.length-(intOf i).toNat)
   case atStart=>exact⟨0,Nat.zero_le _,rfl,rfl,rfl,Below.refl _ _⟩
   case round=>
    obtain⟨k,hk,rfl,rfl,rfl,hb⟩:=hrel;have HB:=ab hb;clear hb
    by_cases hlt:k<ys.length
    ·obtain⟨r,hr⟩: ∃r,ys[k]? =some r:=⟨ys[k],by simp[hlt]⟩;obtain⟨b,o,rfl,hrok,q0,q1,q2⟩:=cR HU.out HB.out hr;have HRO:=ab hrok;have HR:=ab hr;have HSN:=ab (bh hr);have HVR:=ab (aL.below HV2.out (by omega) HB.out (fun _ _ _ h=>h));clear hr hrok;go_wp2_with fail;refine(zR _ _ xs r _ HVR.out HRO.out).mono ?_;rintro e w3 ⟨rfl,hb3⟩;have HB3:=ab (ag HB.out hb3)
     obtain⟨_,_,e9,-,p0,p1,p2⟩:=cR HU.out HB3.out HR.out
     cases e9
     clear hb3 q0 q1 q2
     by_cases hin:r∈xs
     ·rw[show decide (r∈xs)=true from decide_eq_true hin];have HS:=ab (ze (y:=ys.take k) hin);rw[<-HSN.out]at HS;clear hin;go_wp2_with fail
      go_roundw
      case rel=>exact⟨k+1,by omega,by go_num,by rw[HS.out],by rw[HS.out],HB3.out⟩
      case measure=>simp[intOf]; omega
     ·rw[show decide (r∈xs)=false from decide_eq_false hin];have HS:=ab (wg (y:=ys.take k) hin);rw[<-HSN.out]at HS;clear hin;go_wp2_with fail
      go_roundw
      case rel=>exact⟨k+1,by omega,by go_num,by rw[HS.out],by rw[HS.out],HB3.out⟩
      case measure=>simp[intOf]; omega
    ·obtain rfl:k=ys.length:=by omega
     go_wp2_with fail
     go_ret3
     refine⟨ag HB2.out HB.out, ?_⟩;rw[HSE.out,List.take_of_length_le (Nat.le_refl _)]
     rfl
end Go.Proofs.YtpffpjbkbaleiaaGreatDoor
namespace Go.Proofs.YtpffpjbkbaleiaaGreatDoor
open Go Go.RowKit
def Ga (r:Except Int (List aG)):List aG×Int:=match r with
 | .error x=>([],x)
 | .ok l=>(l,0)
def GD (r:Except Int (Int×Int)):Int×Int×Int:=match r with
 | .error x=>(0,0,x)
 | .ok p=>(p.1,p.2,0)
def Ek (l:List aG) (x:Int) (w:World) (e:Ending) (w':World):Prop:=Below w.heap.size w w'/\ ∃a cap,e= .returned (.tuple #[.slice a l.length cap, .int .i64 x])/\aM (fun _=>True) w' (.slice a l.length cap) l/\l.length<=cap/\cap<=maxLen
theorem eS.flat {res:Except Int (List aG)} {l:List aG} {x:Int} {w w':World} {e:Ending} (h:eS res w e w') (he:Ga res=(l,x)):Ek l x w e w':=by
 obtain⟨hb,h⟩:=h;refine⟨hb, ?_⟩
 cases res with
 | error y=>
  obtain⟨rfl,-⟩:=h
  cases he
  exact⟨none,0,rfl,aL.nil,Nat.le_refl _,Nat.zero_le _⟩
 | ok rs=>
  obtain⟨v,rfl,hv⟩:=h
  cases he
  obtain⟨a,cap,rfl,h1,h2,-⟩:=aL.shape hv fc.len;exact⟨a,cap,rfl,aM.same hv (fun _ _ _=>⟨trivial,rfl⟩),h1,h2⟩
theorem sR.flat {res:Except Int (Int×Int)} {p q x:Int} {w w':World} {e:Ending} (h:sR res w e w') (he:GD res=(p,q,x)):Below w.heap.size w w'/\e= .returned (.tuple #[.int .i64 p, .int .i64 q, .int .i64 x]):=by
 obtain⟨hb,h⟩:=h;refine⟨hb, ?_⟩
 cases res with
 | error y=>obtain⟨rfl,-⟩:=h; cases he; rfl
 | ok r=>cases he; exact h
theorem kQ (S T:Nat->Prop) (v u:Value) (rs:List aG) (w:World) (hv:aM S w v rs) (hu:aM T w u rs):
  Calls Tryz.prog 44 #[v,u] w fun e w'=>e= .returned (.bool true)/\Below w.heap.size w w':=by
 have:=tL S T v u rs rs w hv hu
 rwa [show decide (rs=rs)=true from decide_eq_true rfl]at this
theorem CH (cv:Value) (ra rb:aG) (cs:List (ByteArray×List UInt8)) (w:World) (he:kS w) (hra:aW ra) (hrb:aW rb) (hc:gu (fun _=>True) w cv cs):
  Calls Tryz.prog 12 #[aX ra,aX rb,cv] w fun e w'=>e= .returned (.bool true)/\Below w.heap.size w w':=by
 have HE:=ab he;have HRA:=ab hra;have HRB:=ab hrb;have HC:=ab hc;clear he hra hrb hc;obtain⟨W0,hW0⟩: ∃W0:World,W0=(w.alloc (.cells #[.string ra.name, .int .i64 ra.gen, .int .i64 ra.size] 26)).alloc (.cells #[.string rb.name, .int .i64 rb.gen, .int .i64 rb.size] 26):=⟨_,rfl⟩;have HB0:=ab (show Below w.heap.size w W0 by rw[hW0]; exact((Below.refl _ _).alloc (Nat.le_refl _) _).alloc (by simp) _)
 have HXA0:=ab (show W0.heap[w.heap.size]? =some (.cells #[.string ra.name, .int .i64 ra.gen, .int .i64 ra.size] 26 (0,0)) by rw[hW0]; exact(Below.heap_alloc _ _ _ (by simp)).trans (heap_alloc_new w _));have HXB0:=ab (show W0.heap[w.heap.size+1]? =some (.cells #[.string rb.name, .int .i64 rb.gen, .int .i64 rb.size] 26 (0,0)) by rw[hW0]; have:=heap_alloc_new (w.alloc (.cells #[.string ra.name, .int .i64 ra.gen, .int .i64 ra.size] 26)) (.cells #[.string rb.name, .int .i64 rb.gen, .int .i64 rb.size] 26); simpa using this)
 unfold aX
 go_enter Tryz.func12,Tryz.ntmps12
 go_wp2_with fail;rw[<-hW0];clear hW0;refine(uf _ (HE.out.below HB0.out)).mono ?_;rintro e w1 ⟨rfl,hb1⟩;have HB1:=ab (ag HB0.out hb1);have HXA1:=ab ((hb1.block _ (lt_of_block HXA0.out)).trans HXA0.out);have HXB1:=ab ((hb1.block _ (lt_of_block HXB0.out)).trans HXB0.out);clear hb1;go_wp2_with fail;refine(zN _ cv cs _ (HC.out.below HB1.out)).mono ?_;rintro e w2 ⟨fb,rfl,hb2,hfw⟩
 have HBw2:=ab (ag HB1.out hb2);have HXAw2:=ab ((hb2.block _ (lt_of_block HXA1.out)).trans HXA1.out);have HXBw2:=ab ((hb2.block _ (lt_of_block HXB1.out)).trans HXB1.out);clear hb2
 cases fb
 ·clear hfw;go_wp2_with fail;go_ret;exact⟨rfl,HBw2.out⟩
 ·have h80:cs.length<=80:=Nat.le_trans (hfw rfl) (by decide);have HNK:=ab (vC h80);have HNR:=ab (tI h80);have HMR:=ab (tq h80);have HMM:=ab (kP h80);obtain⟨⟨l,x⟩,hlx⟩: ∃p,Ga (jF cs ra)=p:=⟨_,rfl⟩;obtain⟨⟨m,y⟩,hmy⟩: ∃p,Ga (vz cs ra)=p:=⟨_,rfl⟩;obtain⟨⟨p,q,z⟩,hpq⟩: ∃p,GD (tQ (jF cs ra) (jF cs rb))=p:=⟨_,rfl⟩
  have HLX:=ab hlx;have HMY:=ab hmy;have HPQ:=ab hpq;clear hfw h80 hlx hmy hpq;have p0:=ah (k:=0) HXAw2.out;have p1:=ah (k:=1) HXAw2.out;have p2:=ah (k:=2) HXAw2.out;have q0:=ah (k:=0) HXBw2.out;have q1:=ah (k:=1) HXBw2.out;have q2:=ah (k:=2) HXBw2.out;simp only[aN]at p0 p1 p2 q0 q1 q2;have hca:=HNK.out.refs (fun _=>True) cv ra w2 (HC.out.at.below HBw2.out) (HE.out.below HBw2.out).env HRA.out
  have HCA:=ab hca;unfold aX at HCA;clear hca;go_wp2_with fail;refine HCA.out.mono ?_;rintro e w3 hr;obtain⟨hb,xa,xc,rfl,hv,h1,h2⟩:=hr.flat HLX.out;unfold maxLen at h2;have HBw3:=ab (ag HBw2.out hb);have HVw3:=ab hv;have HXAw3:=ab ((hb.block _ (lt_of_block HXAw2.out)).trans HXAw2.out);have HXBw3:=ab ((hb.block _ (lt_of_block HXBw2.out)).trans HXBw2.out);clear hb hv p0 p1 p2 q0 q1 q2
  have p0:=ah (k:=0) HXAw3.out;have p1:=ah (k:=1) HXAw3.out;have p2:=ah (k:=2) HXAw3.out;have q0:=ah (k:=0) HXBw3.out;have q1:=ah (k:=1) HXBw3.out;have q2:=ah (k:=2) HXBw3.out;simp only[aN]at p0 p1 p2 q0 q1 q2;have hca:=HNR.out (fun _=>True) cv ra w3 (HC.out.at.below HBw3.out) (HE.out.below HBw3.out).env HRA.out;have HCB:=ab hca;unfold aX at HCB
  clear hca;go_wp2_with fail;refine HCB.out.mono ?_;rintro e w4 hr;obtain⟨hb,ya,yc,rfl,hv,h1,h2⟩:=hr.flat HLX.out;unfold maxLen at h2;have HBw4:=ab (ag HBw3.out hb);have HVw4:=ab hv;have HXAw4:=ab ((hb.block _ (lt_of_block HXAw3.out)).trans HXAw3.out);have HXBw4:=ab ((hb.block _ (lt_of_block HXBw3.out)).trans HXBw3.out);have HVA4:=ab (aL.below HVw3.out (by omega) hb (fun _ _ _ h=>h))
  clear hb hv p0 p1 p2 q0 q1 q2;have p0:=ah (k:=0) HXAw4.out;have p1:=ah (k:=1) HXAw4.out;have p2:=ah (k:=2) HXAw4.out;have q0:=ah (k:=0) HXBw4.out;have q1:=ah (k:=1) HXBw4.out;have q2:=ah (k:=2) HXBw4.out;simp only[aN]at p0 p1 p2 q0 q1 q2;have hca:=HMM.out (fun _=>True) cv ra w4 (HC.out.at.below HBw4.out) (HE.out.below HBw4.out).env HRA.out;have HCC:=ab hca
  unfold aX at HCC;clear hca;go_wp2_with fail;refine HCC.out.mono ?_;rintro e w5 hr;obtain⟨hb,ma,mc,rfl,hv,h1,h2⟩:=hr.flat HMY.out;unfold maxLen at h2;have HBw5:=ab (ag HBw4.out hb);have HVw5:=ab hv;have HXAw5:=ab ((hb.block _ (lt_of_block HXAw4.out)).trans HXAw4.out);have HXBw5:=ab ((hb.block _ (lt_of_block HXBw4.out)).trans HXBw4.out);have HVA5:=ab (aL.below HVA4.out (by omega) hb (fun _ _ _ h=>h))
  have HVB5:=ab (aL.below HVw4.out (by omega) hb (fun _ _ _ h=>h));clear hb hv p0 p1 p2 q0 q1 q2;have p0:=ah (k:=0) HXAw5.out;have p1:=ah (k:=1) HXAw5.out;have p2:=ah (k:=2) HXAw5.out;have q0:=ah (k:=0) HXBw5.out;have q1:=ah (k:=1) HXBw5.out;have q2:=ah (k:=2) HXBw5.out;simp only[aN]at p0 p1 p2 q0 q1 q2;have hca:=HMR.out (fun _=>True) cv ra w5 (HC.out.at.below HBw5.out) (HE.out.below HBw5.out).env HRA.out
  have HCD:=ab hca;unfold aX at HCD;clear hca;go_wp2_with fail;refine HCD.out.mono ?_;rintro e w6 hr;obtain⟨hb,na,nc,rfl,hv,h1,h2⟩:=hr.flat HMY.out;unfold maxLen at h2;have HBw6:=ab (ag HBw5.out hb);have HVw6:=ab hv;have HXAw6:=ab ((hb.block _ (lt_of_block HXAw5.out)).trans HXAw5.out);have HXBw6:=ab ((hb.block _ (lt_of_block HXBw5.out)).trans HXBw5.out);have HVA6:=ab (aL.below HVA5.out (by omega) hb (fun _ _ _ h=>h))
  have HVB6:=ab (aL.below HVB5.out (by omega) hb (fun _ _ _ h=>h));have HVC6:=ab (aL.below HVw5.out (by omega) hb (fun _ _ _ h=>h));clear hb hv p0 p1 p2 q0 q1 q2;go_wp2_with fail;refine(kQ _ _ _ _ l _ HVA6.out HVB6.out).mono ?_;rintro e w7 ⟨rfl,hb⟩;have HBw7:=ab (ag HBw6.out hb);have HVC7:=ab (aL.below HVC6.out (by omega) hb (fun _ _ _ h=>h));have HVD7:=ab (aL.below HVw6.out (by omega) hb (fun _ _ _ h=>h))
  have HXAw7:=ab ((hb.block _ (lt_of_block HXAw6.out)).trans HXAw6.out);have HXBw7:=ab ((hb.block _ (lt_of_block HXBw6.out)).trans HXBw6.out);clear hb;go_wp2_with fail;refine(kQ _ _ _ _ m _ HVC7.out HVD7.out).mono ?_;rintro e w8 ⟨rfl,hb⟩;have HBw8:=ab (ag HBw7.out hb);have HXAw8:=ab ((hb.block _ (lt_of_block HXAw7.out)).trans HXAw7.out);have HXBw8:=ab ((hb.block _ (lt_of_block HXBw7.out)).trans HXBw7.out)
  clear hb;have p0:=ah (k:=0) HXAw8.out;have p1:=ah (k:=1) HXAw8.out;have p2:=ah (k:=2) HXAw8.out;have q0:=ah (k:=0) HXBw8.out;have q1:=ah (k:=1) HXBw8.out;have q2:=ah (k:=2) HXBw8.out;simp only[aN]at p0 p1 p2 q0 q1 q2;have hca:=xP (fun _=>True) cv cs (jF cs) ra rb w8 (HC.out.at.below HBw8.out) (HE.out.below HBw8.out).env HRA.out HRB.out HNK.out (fun l h=>CI h)
  have HCE:=ab hca;unfold aX at HCE;clear hca;go_wp2_with fail;refine HCE.out.mono ?_;rintro e w9 hr;obtain⟨hb,rfl⟩:=hr.flat HPQ.out;have HBw9:=ab (ag HBw8.out hb);have HXAw9:=ab ((hb.block _ (lt_of_block HXAw8.out)).trans HXAw8.out);have HXBw9:=ab ((hb.block _ (lt_of_block HXBw8.out)).trans HXBw8.out);clear hb hr p0 p1 p2 q0 q1 q2;have p0:=ah (k:=0) HXAw9.out;have p1:=ah (k:=1) HXAw9.out
  have p2:=ah (k:=2) HXAw9.out;have q0:=ah (k:=0) HXBw9.out;have q1:=ah (k:=1) HXBw9.out;have q2:=ah (k:=2) HXBw9.out;simp only[aN]at p0 p1 p2 q0 q1 q2;have hca:=tP (fun _=>True) cv cs (jF cs) ra rb w9 (HC.out.at.below HBw9.out) (HE.out.below HBw9.out).env HRA.out HRB.out HNR.out (fun r l hr h=>HNK.out.le hr h);have HCF:=ab hca;unfold aX at HCF
  clear hca;go_wp2_with fail;refine HCF.out.mono ?_;rintro e w10 hr;obtain⟨hb,rfl⟩:=hr.flat HPQ.out;have HBw10:=ab (ag HBw9.out hb);clear hb hr p0 p1 p2 q0 q1 q2;go_wp2_with fail;go_ret;exact⟨rfl,HBw10.out⟩
end Go.Proofs.YtpffpjbkbaleiaaGreatDoor
namespace Go.Proofs.YtpffpjbkbaleiaaGreatDoor
open Go.ChangeShapes Go.WideShapes Go.ChangeAt Go.RowKit Go.Lib Go.Shelf
open Go.ChangeMaps (open_string shut_string)
section
variable {H : Type} {enc : TypeId × Value → H}
theorem FP {a:Assume} {C:Checked} {os:Os} {f:FuncId} {fn:Func} {s:ChangeSpec} {conds:List PathCond} {apart fresh handsOn again:Bool} {X:World->Array Value->Prop}
  (hX: ∀(w w':World) (args:Array Value),w.heap=w'.heap->X w args->X w' args)
  (own:ownKnob C.prog.godebug=none) (started:os.Started) (noInit:C.prog.inits.idxOf? f=none) (hfn:C.prog.funcs[f]? =some fn)
  (witness: ∃(w:World) (tape:Tape) (i:Input),w.os=os/\(w.forCall tape i).Shaped C.prog/\i.vars=[]/\Input.okWide C.prog (w.forCall tape i) .any w.heap.size f i/\
   ((s.pre enc C.prog fn conds apart (w.forCall tape i).memory i.args/\X (w.forCall tape i).memory i.args)/\sizedMet enc C.prog fn (OpenSpec.ofChange s) apart (w.forCall tape i).memory i.args)/\a.holds C.prog (lone (Frame.enter C.prog f i.args .normal) [] (w.forCall tape i)))
  (contract: ∀(W:World) (base:Nat) (args:Array Value) (ds gs:List (DataW H)) (before:List MemPlace),
   (∀(j:Nat) t v,fn.params[j]? =some t->args[j]? =some v->Value.okWide C.prog W .any base t v)->
   DataW.Whole enc C.prog fn.params.toList s.vars apart W args.toList ds gs before->
   (DataW.weightsEach C.prog (fn.params.toList++s.plain.varTypes C.prog) (ds++gs)).all (· <=reachBytes)=true->X W args->W.ShapedOpen C.prog->
   Calls C.prog f args W fun e W'=> ∃v,e= .returned v/\s.post enc C.prog fn apart fresh handsOn again W args v W'):
  ReturnsInHanded a C os f .any (fun w args=>(s.pre enc C.prog fn conds apart w args/\X w args)/\sizedMet enc C.prog fn (OpenSpec.ofChange s) apart w args) (s.post enc C.prog fn apart fresh handsOn again):=by
 refine returnsInHanded_of_calls own started noInit witness ?_;intro w tape i _ hsh _ hok hpre hholds;obtain⟨_,_,_,fn',hfn',_,_,_,_,hval⟩:=hok;have e:fn'=fn:=Option.some.inj (hfn'.symm.trans hfn);subst e;obtain⟨⟨⟨ds,gs,before,hw,hc⟩,hx⟩,hz⟩:=hpre;have hw':=DataW.Whole.of_heap (w':=w.forCall tape i) (by rfl) hw;refine(contract (w.forCall tape i) w.heap.size i.args ds gs before hval hw' (hz.weights hw) (hX _ _ _ (by rfl) hx) hsh).mono fun e W' ⟨v,he,hp⟩=> ?_
 subst he;exact ChangeSpec.post_blind hp
end
def vl :List (String×DataW Unit):=[("math/bits.deBruijn64tab",Rows.laid_math_bits_deBruijn64tab),("kinkeep/sha256.initial",Rows.laid_kinkeep_sha256_initial),("kinkeep/sha256.constants",Rows.laid_kinkeep_sha256_constants),("kinkeep/hmac.pads",Rows.laid_kinkeep_hmac_pads),("unicode/utf8.acceptRanges",Rows.laid_unicode_utf8_acceptRanges),("unicode/utf8.first",Rows.laid_unicode_utf8_first)]
theorem own :ownKnob Tryz.prog.godebug=none:=by kernel_rfl
theorem zr :(Rows.laid_unicode_utf8_acceptRanges:DataW Unit)=acceptData:=by kernel_rfl
theorem zD :(Rows.laid_math_bits_deBruijn64tab:DataW Unit)=tabData .u8 (Lib.deBruijn64tab.map fun(n:Nat)=>(n:Int)):=by kernel_rfl
theorem xg :(Rows.laid_kinkeep_sha256_initial:DataW Unit)=tabData .u32 (mO.list.map fun(n:Nat)=>(n:Int)):=by kernel_rfl
theorem sY :(Rows.laid_kinkeep_sha256_constants:DataW Unit)=tabData .u32 (kc.map fun(n:Nat)=>(n:Int)):=by kernel_rfl
theorem EV :(Rows.laid_kinkeep_hmac_pads:DataW Unit)=tabData .u8 [54,92]:=by kernel_rfl
theorem kF {P:Program} {w:World} {n:String} {k:IntKind} {zs:List Int} {g:Nat} {t e:TypeId} {N:Nat} (hg:P.globalNamed n=some g) (hty:(P.globals[g]?).map (·.type)=some t)
  (ht:P.underlying t=some (.array N e)) (he:P.underlying e=some (.int k)) (hce:P.cellsOf e=1) (hct:P.cellsOf t=N) (h:VarReads P w n (tabData k zs)) (j:Nat):w.cell? ⟨g,j,none⟩=(zs.map fun z=>Value.int k z)[j]? :=by
 obtain⟨g',t',cs,fuel,p,hg',hty',hvar,hd⟩:=h;obtain rfl:=Option.some.inj (hg.symm.trans hg');obtain rfl:=Option.some.inj (hty.symm.trans hty');rw[World.var?_cell hg hvar j,<-Array.getElem?_toList,cells_of_tab ht he hce hct hd]
theorem nT {w:World} {b k:Nat} {v:Value} (h:w.cell? ⟨b,k,none⟩=some v):b<w.heap.size:=by
 by_cases hb:b<w.heap.size
 ·exact hb
 ·exfalso
  have:w.heap[b]? =none:=Array.getElem?_eq_none (by omega);simp[World.cell?,this]at h
theorem FO {W:World} (hL:laidMetH Tryz.prog vl W) (hsh:W.ShapedOpen Tryz.prog):kS W:=by
 rw[MakeChecks.laidMetH_plain _ _ _ (by kernel_rfl)]at hL;have h1:=Lib.laidMet.reads hL (.head _);have h2:=Lib.laidMet.reads hL (.tail _ (.head _));have h3:=Lib.laidMet.reads hL (.tail _ (.tail _ (.head _)));have h4:=Lib.laidMet.reads hL (.tail _ (.tail _ (.tail _ (.head _))));have h5:=Lib.laidMet.reads hL (.tail _ (.tail _ (.tail _ (.tail _ (.head _)))));have h6:=Lib.laidMet.reads hL (.tail _ (.tail _ (.tail _ (.tail _ (.tail _ (.head _))))))
 rw[zD]at h1;rw[xg]at h2;rw[sY]at h3;rw[EV]at h4;rw[zr]at h5;have c1:=kF (g:=6) (t:=213) (e:=5) (N:=64) (by kernel_rfl) (by kernel_rfl) (by kernel_rfl) (by kernel_rfl) (by kernel_rfl) (by kernel_rfl) h1;have c2:=kF (g:=2) (t:=216) (e:=215) (N:=8) (by kernel_rfl) (by kernel_rfl) (by kernel_rfl) (by kernel_rfl) (by kernel_rfl) (by kernel_rfl) h2
 have c3:=kF (g:=5) (t:=252) (e:=215) (N:=64) (by kernel_rfl) (by kernel_rfl) (by kernel_rfl) (by kernel_rfl) (by kernel_rfl) (by kernel_rfl) h3;have c4:=kF (g:=0) (t:=221) (e:=5) (N:=2) (by kernel_rfl) (by kernel_rfl) (by kernel_rfl) (by kernel_rfl) (by kernel_rfl) (by kernel_rfl) h4;have hp0:W.cell? ⟨0,0,none⟩=some (.int .u8 54):=c4 0;have hp1:W.cell? ⟨0,1,none⟩=some (.int .u8 92):=c4 1
 have hI:iw W:=fun j x hj=>by
  rw[c2 j];simp[hj,fO]
 have hK:fp W:=fun j x hj=>by
  rw[c3 j];simp[hj,fO]
 have hD:TabAt 6 Lib.deBruijn64tab W:=fun j hj=>by
  rw[c1 j];simp[hj]
 have hi0:=hI 0 0x6a09e667 rfl;have hk0:=hK 0 0x428a2f98 rfl;have hd0:=hD 0 (by decide);refine⟨⟨?_, ?_⟩,⟨hI,hK,⟨hp0,hp1⟩,nT hi0,nT hk0,nT hp0⟩,⟨hD,nT hd0⟩⟩
 ·exact cell_of_shapedOpen_int (zero:= #[.int .i64 0]) (t:=3) hsh (of_decide_eq_true (by kernel_rfl)) (by kernel_rfl) rfl (by kernel_rfl) (by kernel_rfl) Tryz.underlying3
 ·exact utf8Tabs_of_readsT (U8Types.of196 Tryz.laysValid) ⟨by kernel_rfl,by kernel_rfl,by kernel_rfl,by kernel_rfl,by kernel_rfl,by kernel_rfl,by kernel_rfl⟩ (Pinned.utf8First_eq▸h6) h5
end Go.Proofs.YtpffpjbkbaleiaaGreatDoor
namespace Go.Proofs.YtpffpjbkbaleiaaGreatDoor
open Go.ChangeShapes Go.WideShapes Go.ChangeAt Go.RowKit Go.Lib Go.Shelf
section
variable {H : Type} {enc : TypeId × Value → H} {P : Program} {W : World} {base : Nat}
theorem Ep (a:Addr) (i j:Nat):(a.add i).add j=a.add (i+j):=by
 unfold Addr.add
 by_cases hi:i=0
 ·simp[hi]
 ·by_cases hj:j=0
  ·simp[hi,hj]
  ·simp[hi,hj]; omega
theorem Ds {α:Type} {R:List Value->α->Prop} {t e:TypeId} {sz:Nat} {spare:Nat->Bool} {held:Bool} {fuel:Nat} {cs0:List Value} {y0:DataW H×List MemPlace} (ht:P.underlying t=some (.slice e)) (hc:P.cellsOf e=sz) (hpos:0<sz)
  (hR: ∀n cs y,DataW.trod enc P W base spare held n e cs=some y-> ∃x,R cs x) (hs: ∀c x,R c x->c.length=sz)
  (hf:DataW.trod enc P W base spare held fuel t cs0=some y0): ∃v,cs0=[v]/\ ∃xs:List α,aL (fun _=>True) W sz R v xs:=by
 rcases DataW.trod_slice ht hf with⟨hcs,_⟩ | ⟨a,len0,cap0,elems,rest,n,_,hcs,_,hb,hl,hm,hlen,hel,_,_⟩
 ·exact⟨_,hcs,[],aL.nil⟩
 ·refine⟨_,hcs, ?_⟩;rw[hc]at hel;have each: ∀i,i<len0-> ∃cs x,R cs x/\cs.length=sz/\ ∀j,j<sz->W.cell? (a.add (i*sz+j))=cs[j]? :=by
   intro i hi;have h1:=hel i hi;rw[List.getElem?_eq_getElem (by omega),Option.bind_eq_some_iff]at h1;obtain⟨cs,hcs,hy⟩:=h1;obtain⟨x,hx⟩:=hR n cs _ hy;refine⟨cs,x,hx,hs cs x hx,fun j hj=> ?_⟩;have h3:=World.cells?_some hcs;rw[<-Ep];exact h3.2.2 j hj
  have main: ∀m,m<=len0-> ∃(cells:List Value) (xs:List α),xs.length=m/\cells.length=m*sz/\bR R cells xs/\ ∀(j:Nat) u,cells[j]? =some u->W.cell? (a.add j)=some u:=by
   intro m
   induction m with
   | zero=>intro _; exact⟨[],[],rfl,by simp,rfl,fun j u hj=>by simp at hj⟩
   | succ m ih=>
    intro hm;obtain⟨cells,xs,h1,h2,h3,h4⟩:=ih (by omega);obtain⟨cs,x,hx,hcl,hcc⟩:=each m (by omega);refine⟨cells++cs,xs++[x],by simp[h1],by rw[List.length_append,h2,hcl,Nat.add_mul]; omega,bR.snoc h3 hx,fun j u hj=> ?_⟩
    rcases Nat.lt_or_ge j cells.length with hj2 | hj2
    ·rw[List.getElem?_append_left hj2]at hj; exact h4 j u hj
    ·rw[List.getElem?_append_right hj2]at hj;have hlt:=(List.getElem?_eq_some_iff.1 hj).1;have:=hcc (j-cells.length) (by omega);rw[h2,show m*sz+(j-m*sz)=j by omega]at this;rw[this,<-h2]; exact hj
  obtain⟨cells,xs,h1,h2,h3,h4⟩:=main len0 (Nat.le_refl _);subst h1;refine⟨xs,cells,⟨h2,some a,cap0,rfl,hl,hm, ?_⟩,h3⟩
  rcases Nat.eq_zero_or_pos xs.length with h0 | h0
  ·exact .inl h0
  ·right
   have hpl:0<cells.length:=by rw[h2]; exact Nat.mul_pos h0 hpos
   have hc0:=h4 0 cells[0] (by simp[hpl]);have hsp:a.spot=none:=by simpa [Addr.add]using World.cell?_spot hc0
   obtain⟨b,o,sp⟩:=a;simp only at hsp;subst hsp;refine⟨b,o,rfl,trivial,fun j u hj=> ?_⟩;have:=h4 j u hj;rw[nS]at this; exact this
end
section
variable {H : Type} {enc : TypeId × Value → H} {W : World} {base b0 : Nat} {spare : Nat → Bool} {held : Bool} {v : Value} {d : DataW H} {ps : List MemPlace}
theorem lg {P:Program} {t:TypeId} {fs:Array Field} {fuel:Nat} {cs:List Value} {x:DataW H×List MemPlace} (ht:P.underlying t=some (.struct fs)) (h:DataW.trod enc P W base spare held fuel t cs=some x) (i:Nat) {f:Field} (hf:fs[i]? =some f):
  ∃n y,DataW.trod enc P W base spare held n f.type ((cs.drop f.offset).take (P.cellsOf f.type))=some y:=by
 obtain⟨xs,n,_,_,_,hlen,hF⟩:=DataW.trod_struct ht h;have hi:i<xs.length:=by rw[hlen]; exact(Array.getElem?_eq_some_iff.1 hf).1
 exact⟨n,xs[i],by rw[hF i f hf]; simp[hi]⟩
theorem xV {P:Program} {t:TypeId} {fs:Array Field} {fuel:Nat} {cs:List Value} {x:DataW H×List MemPlace} (ht:P.underlying t=some (.struct fs)) (h:DataW.trod enc P W base spare held fuel t cs=some x):cs.length=P.cellsOf t:=by
 obtain⟨xs,n,_,_,hl,_,_⟩:=DataW.trod_struct ht h;exact hl
theorem Cb :Tryz.prog.cellsOf 9=1:=by kernel_rfl
theorem Ca :Tryz.prog.cellsOf 3=1:=by kernel_rfl
theorem Eu :Tryz.prog.cellsOf 5=1:=by kernel_rfl
theorem Gv {α:Type} {cs:List α} (h:cs.length=3): ∃c0 c1 c2,cs=[c0,c1,c2]:=by
 match cs,h with
 | [c0,c1,c2],_=>exact⟨c0,c1,c2,rfl⟩
theorem Dg {n:Nat} {cs:List Value} {y:DataW H×List MemPlace} (h:DataW.trod enc Tryz.prog W base spare held n 26 cs=some y): ∃r,fc cs r:=by
 have hl:=xV Tryz.underlying26 h;rw[oD]at hl;obtain⟨c0,c1,c2,rfl⟩:=Gv hl;obtain⟨n0,y0,h0⟩:=lg Tryz.underlying26 h 0 rfl;obtain⟨n1,y1,h1⟩:=lg Tryz.underlying26 h 1 rfl;obtain⟨n2,y2,h2⟩:=lg Tryz.underlying26 h 2 rfl;simp only[List.getElem_toArray,List.getElem_cons_zero,List.getElem_cons_succ,Cb,Ca]at h0 h1 h2;obtain⟨s,e0,_,hs⟩:=DataW.trod_string Tryz.underlying9 h0
 obtain⟨g,e1,_,hg⟩:=DataW.trod_int Tryz.underlying3 h1;obtain⟨z,e2,_,hz⟩:=DataW.trod_int Tryz.underlying3 h2;simp at e0 e1 e2;subst e0 e1 e2;exact⟨⟨s,g,z⟩,rfl,⟨hs,hg,hz⟩⟩
def tZ (c:List Value) (b:UInt8):Prop:=c=[au b]
theorem AA {n:Nat} {cs:List Value} {y:DataW H×List MemPlace} (h:DataW.trod enc Tryz.prog W base spare held n 5 cs=some y): ∃b,tZ cs b:=by
 obtain⟨a,e,_,hw⟩:=DataW.trod_int Tryz.underlying5 h;have h1:0<=a/\a<=255:=by
  simp only[Lit.wf,Bool.and_eq_true,decide_eq_true_eq]at hw;exact⟨hw.1,hw.2⟩
 refine⟨UInt8.ofNat a.toNat, ?_⟩;unfold tZ;rw[iP (by omega),e,Int.toNat_of_nonneg h1.1]
theorem sX {S:Nat->Prop} {w:World} {v:Value} {bs:List UInt8} (h:aL S w 1 tZ v bs):aD S w v bs:=by
 obtain⟨cells,h1,h2⟩:=h;have: ∀(bs:List UInt8) (cells:List Value),bR tZ cells bs->cells=bs.map au:=by
  intro bs
  induction bs with
  | nil=>intro cells h; exact h
  | cons x bs ih=>
   rintro cells ⟨c,rest,rfl,hc,hr⟩;rw[ih rest hr,show c=[au x]from hc]; rfl
 rw[this bs cells h2]at h1;exact h1
theorem xK {n:Nat} {cs:List Value} {y:DataW H×List MemPlace} (h:DataW.trod enc Tryz.prog W base spare held n 29 cs=some y): ∃v,cs=[v]/\ ∃bs,aD (fun _=>True) W v bs:=by
 obtain⟨v,h1,bs,h2⟩:=Ds (R:=tZ) Tryz.underlying29 Eu (by omega) (fun n cs y hy=>AA hy) (fun c x hc=>by rw[show c=[au x]from hc]; rfl) h;exact⟨v,h1,bs,sX h2⟩
theorem yI {n:Nat} {sp:Nat->Bool} : ∀ {es:List MapEntry},(∀x∈es,∃y,WideElems.rd Tryz.prog 9 (WideElems.elemAt enc Tryz.prog W base sp held n 29) x=some y)-> ∃cs,bA (fun _=>True) W (es.map fun e=>(e.key,e.val)) cs
 | [],_=>⟨[],trivial⟩
 | x::es,h=>by
  obtain⟨cs,hcs⟩:=yI (es:=es) (fun y hy=>h y (by simp[hy]));obtain⟨y,hy⟩:=h x (by simp);have hk:=WideElems.rd_key hy;obtain⟨z,hz,_⟩:=WideElems.rd_val hy;have hkey: ∃s,x.key= .string s:=by
   cases hx:x.key<;> rw[hx]at hk<;> simp[keyOf,Tryz.underlying9,mapKey]at hk
   exact⟨_,rfl⟩
  obtain⟨s,hs⟩:=hkey;unfold WideElems.elemAt at hz
  split at hz
  ·obtain⟨v,h1,bs,h2⟩:=xK hz;have hv:x.val=v:=by
    rename_i hfm
    cases hxv:x.val<;> rw[hxv]at h1 hfm<;> simp_all [Value.cells,Value.formed,Tryz.underlying29]
   exact⟨(s,bs)::cs,hs,by rw[hv]; exact h2,hcs⟩
  ·cases hz
theorem Ao (hval:Value.okWide Tryz.prog W .any b0 55 v) (h:DataW.Trod enc Tryz.prog W base spare held 55 v d ps): ∃cs,gu (fun _=>True) W v cs:=by
 obtain⟨a,rfl⟩:=okWide_map Tryz.underlying55 hval;obtain⟨fuel,hf⟩:=h
 rcases WideElems.open_map Tryz.underlying55 hf with⟨hcs,_⟩ | ⟨b,es,clock,n,_,hcs,hb,_,hF,_⟩
 ·simp[Value.cells]at hcs;subst hcs;exact⟨[], .inl ⟨rfl,rfl⟩⟩
 ·simp[Value.cells]at hcs;subst hcs;obtain⟨cs,hents⟩:=yI hF.reads;exact⟨cs, .inr ⟨b,es,clock,rfl,trivial,hb,hF.size,hF.stamped,fun x hx=>by
   obtain⟨y,hy⟩:=hF.reads x hx;exact⟨y.1,WideElems.rd_key hy⟩,hents⟩⟩
theorem FJ {v:Value} {l:List Value} (h:v.cells.toList=l) (hl:1<l.length):v= .agg l.toArray:=by
 cases v
 case agg cs=>simp only[Value.cells]at h; rw[<-h]
 all_goals (exfalso; simp only[Value.cells]at h; rw[<-h]at hl; simp at hl)
theorem vJ (h:DataW.Trod enc Tryz.prog W base spare held 26 v d ps): ∃r,v=aX r/\aW r:=by
 obtain⟨fuel,hf⟩:=h;obtain⟨r,h1,h2⟩:=Dg hf;exact⟨r,FJ h1 (by simp),h2⟩
end
end Go.Proofs.YtpffpjbkbaleiaaGreatDoor
