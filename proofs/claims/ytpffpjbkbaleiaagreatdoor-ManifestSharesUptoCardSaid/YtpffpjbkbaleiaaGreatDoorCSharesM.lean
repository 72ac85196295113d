/- ManifestShares: for every input of bulk at most 1048576 the law returns true, and each argument reads afterwards as it read before (the tied card of the second form). -/
import Derived.Test.YtpffpjbkbaleiaaGreatDoorCSharesI
set_option maxRecDepth 100000
set_option maxHeartbeats 8000000
namespace Go.Proofs.YtpffpjbkbaleiaaGreatDoor
open Go.ChangeShapes Go.WideShapes Go.ChangeAt Go.RowKit Go.Lib Go.Shelf
open Go.ChangeMaps (open_string shut_string)
namespace CShares
theorem QD (os:Os) (started:os.Started) (H:Type) (enc:TypeId×Value->H) (F:Stop.Interp):
  ReturnsInHanded {} Tryz.checked os 13 .any ((Rows.OpenSpec.upto Rows.manifestSharesSpec).preRow enc Tryz.prog Tryz.f13 Rows.manifestSharesUptoRow.domain false Rows.manifestSharesUptoRow.laid) (((Rows.OpenSpec.upto Rows.manifestSharesSpec).at F).post enc Tryz.prog Tryz.f13 false true false false):=by
 refine returnsInHanded_of_row (C:=Tryz.checked) (s:=Rows.OpenSpec.upto Rows.manifestSharesSpec) own started (by kernel_rfl) Tryz.func13
  (Rv (enc:=enc) (C:=Tryz.checked) false (World.laidAll Tryz.prog os Qh) #[.slice none 0 0, .int .i64 0, .slice none 0 0, .int .i64 0] 8 (World.laidAll_os _ _ _)
   (World.shaped_of_ZipB (by kernel_rfl) (by kernel_rfl)) (by kernel_rfl) (by kernel_rfl) (by kernel_rfl) (fun k hk=>by cases hk; kernel_rfl) (by kernel_rfl)
   (by rw[MakeChecks.laidMetH_plain _ _ _ (by kernel_rfl)]; exact laidMet_laidAll _ (by kernel_rfl) (by kernel_rfl))) ?_
 intro W base args ds gs before hf hW _ hd _ hL hq _;have hm:=hd _ rfl;have ha: ∀(j:Nat) t v,Tryz.f13.params[j]? =some t->args[j]? =some v->Value.okWide Tryz.prog W .any base t v:=hf;have hc:=hW;obtain⟨p,q,hn,hV,rfl,_,_⟩:=hW;have hA:DataW.TrodAll enc Tryz.prog W 0 (fun _=>true) true Tryz.f13.params.toList args.toList ds p:=hn;rw[Tryz.params13]at hA ha
 obtain⟨rfl,rfl⟩:=trodVars_none hV;simp only[cg]at hc hm;obtain⟨v0,v1,v2,v3,d0,d1,d2,d3,p0,p1,p2,p3,rfl,rfl,rfl,h0,h1,h2,h3⟩:=trodAll_four hA;obtain⟨tree,ht,hp⟩:=Ga (ha 0 46 v0 rfl rfl) h0 (MJ hm (by simp));obtain⟨iv,rfl,-,-,-⟩:=open_int gN (ha 1 3 v1 rfl rfl) h1;obtain⟨data,ho⟩:=FZ (ha 2 29 v2 rfl rfl) h2
 obtain⟨tm,rfl,-,-,hr⟩:=open_int gN (ha 3 3 v3 rfl rfl) h3;have hg: ∀x∈p0,x.block<W.heap.size:=fun x hx=>by simpa using hc.lt x (by simp[hx])
 have hh: ∀x∈p1,x.block<W.heap.size:=fun x hx=>by simpa using hc.lt x (by simp[hx])
 have hj: ∀x∈p2,x.block<W.heap.size:=fun x hx=>by simpa using hc.lt x (by simp[hx])
 have hl: ∀x∈p3,x.block<W.heap.size:=fun x hx=>by simpa using hc.lt x (by simp[hx])
 refine(Ob tree iv tm data v0 v2 W (Qy hL hq) ht (fun e he=>by have:=(hp e he).1; omega) ho hr).mono fun e W' ⟨he,hb⟩=> ?_
 subst he;exact⟨_,rfl,_,_,_,[],_,[],hc,trodAll_mk1 (shut_bool Tryz.underlying4 _),trodAll_mk4 (Below.trod tP (by kernel_rfl) (eS (by kernel_rfl)) h0 hb hg) (Below.trod tP (by kernel_rfl) (eS (by kernel_rfl)) h1 hb hh) (Below.trod tP (by kernel_rfl) (eS (by kernel_rfl)) h2 hb hj) (Below.trod tP (by kernel_rfl) (eS (by kernel_rfl)) h3 hb hl),rfl,hb.frame _,fun h=>by cases h⟩
theorem holds :Rows.ManifestSharesUptoSaid:=
 OpenClaim.holds_of_cond 13 Tryz.f13 rfl rfl rfl rfl rfl rfl rfl ⟨rfl,rfl,rfl,rfl,rfl⟩ rfl rfl rfl rfl rfl (by as_aux_lemma=>kernel_rfl) Tryz.func13 (by as_aux_lemma=>kernel_rfl)
  (eS (by as_aux_lemma=>kernel_rfl)) (by unfold Func.isWrapper; first | (rw[if_pos (by decide+kernel)]; kernel_rfl) | (rw[if_neg (by decide+kernel)]; exact⟨rfl,rfl⟩))
  (fun os started H enc _ F=>by rw[OpenClaim.pre_eq_preRow]; exact QD os started H enc F)
theorem card_holds :Rows.ManifestSharesUptoCardSaid:=
 Claim7.holds_tied_plain_at .later [] [.data, .data, .data, .data, .data, .pinned] true (true,"637747a898cbb1b5043b613c2220e95450f12614b9afa01ffe978641a6dbf1a0") false holds (fun _ h=>by cases h) (by as_aux_lemma=>kernel_rfl) (fun _ h=>by cases h) manifestSharesUpto_row_tie rfl ⟨rfl,rfl⟩ (by as_aux_lemma=>kernel_rfl) rfl
  (fun f fn hf hfn=>by
   obtain rfl:f=13:=bt ((show Tryz.prog.funcNamed "kinkeep/kinkeeplaw24.ManifestShares" =some 13 by kernel_rfl).symm.trans hf) |>.symm
   obtain rfl:fn=Tryz.f13:=(bt (Tryz.func13.symm.trans hfn)).symm;exact⟨by kernel_rfl,fun j t ht=>by
    rw[Tryz.params13]at ht;have hm:t∈[46,3,29,3]:=by simpa using Array.mem_of_getElem? ht
    have ha:([46,3,29,3].all fun u=> !Tryz.prog.wantsStandIn u)=true:=by kernel_rfl
    exact(show Tryz.prog.wantsStandIn t=false by simpa using cB.1 ha t hm)⟩)
  (by as_aux_lemma=>kernel_rfl)
#print axioms card_holds
end CShares
theorem manifestSharesUpto_card :Rows.ManifestSharesUptoCardSaid:=CShares.card_holds
end Go.Proofs.YtpffpjbkbaleiaaGreatDoor
