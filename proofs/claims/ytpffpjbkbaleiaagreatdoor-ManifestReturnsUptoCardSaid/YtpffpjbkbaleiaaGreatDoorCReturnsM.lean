/- ManifestReturns: for every input of bulk at most 1048576 the law returns true, and each argument reads afterwards as it read before (the tied card of the second form). -/
import Derived.Test.YtpffpjbkbaleiaaGreatDoorCReturnsJ
set_option maxRecDepth 100000
set_option maxHeartbeats 8000000
namespace Go.Proofs.YtpffpjbkbaleiaaGreatDoor
open Go.ChangeShapes Go.WideShapes Go.ChangeAt Go.RowKit Go.Lib Go.Shelf
open Go.ChangeMaps (open_string shut_string)
namespace CReturns
theorem Pa (os:Os) (started:os.Started) (H:Type) (enc:TypeId×Value->H) (F:Stop.Interp):
  ReturnsInHanded {} Tryz.checked os 10 .any ((Rows.OpenSpec.upto Rows.manifestReturnsSpec).preRow enc Tryz.prog Tryz.f10 Rows.manifestReturnsUptoRow.domain false Rows.manifestReturnsUptoRow.laid) (((Rows.OpenSpec.upto Rows.manifestReturnsSpec).at F).post enc Tryz.prog Tryz.f10 false true false false):=by
 refine returnsInHanded_of_row (C:=Tryz.checked) (s:=Rows.OpenSpec.upto Rows.manifestReturnsSpec) own started (by kernel_rfl) Tryz.func10
  (PT (enc:=enc) (C:=Tryz.checked) false (World.laidAll Tryz.prog os OA) #[.slice none 0 0] 8 (World.laidAll_os _ _ _)
   (World.shaped_of_ZipB (by kernel_rfl) (by kernel_rfl)) (by kernel_rfl) (by kernel_rfl) (by kernel_rfl) (fun k hk=>by cases hk; kernel_rfl) (by kernel_rfl)
   (by rw[MakeChecks.laidMetH_plain _ _ _ (by kernel_rfl)]; exact laidMet_laidAll _ (by kernel_rfl) (by kernel_rfl))) ?_
 intro W base args ds gs before hd hW _ ha _ hL hm _;have hh:=ha _ rfl;have hc: ∀(j:Nat) t v,Tryz.f10.params[j]? =some t->args[j]? =some v->Value.okWide Tryz.prog W .any base t v:=hd;have hf:=hW;obtain⟨p,q,hj,hV,rfl,_,_⟩:=hW;have hA:DataW.TrodAll enc Tryz.prog W 0 (fun _=>true) true Tryz.f10.params.toList args.toList ds p:=hj;rw[Tryz.params10]at hA hc
 obtain⟨rfl,rfl⟩:=trodVars_none hV;simp only[cj]at hf hh;obtain⟨v0,d0,rfl,rfl,h0⟩:=trodAll_one hA;obtain⟨tree,ht,hl⟩:=Fc (hc 0 46 v0 rfl rfl) h0 (Lv hh (by simp));have hg: ∀x∈p,x.block<W.heap.size:=fun x hx=>by simpa using hf.lt x (by simp[hx])
 refine(Mt tree v0 W (OT hL hm) ht (fun e he=>by have:=(hl e he).1; omega)).mono fun e W' ⟨he,hb⟩=> ?_
 subst he;exact⟨_,rfl,_,_,_,[],_,[],hf,trodAll_mk1 (shut_bool Tryz.underlying4 _),trodAll_mk1 (Below.trod GA (by kernel_rfl) (fN (by kernel_rfl)) h0 hb hg),rfl,hb.frame _,fun h=>by cases h⟩
theorem holds :Rows.ManifestReturnsUptoSaid:=
 OpenClaim.holds_of_cond 10 Tryz.f10 rfl rfl rfl rfl rfl rfl rfl ⟨rfl,rfl,rfl,rfl,rfl⟩ rfl rfl rfl rfl rfl (by as_aux_lemma=>kernel_rfl) Tryz.func10 (by as_aux_lemma=>kernel_rfl)
  (fN (by as_aux_lemma=>kernel_rfl)) (by unfold Func.isWrapper; first | (rw[if_pos (by decide+kernel)]; kernel_rfl) | (rw[if_neg (by decide+kernel)]; exact⟨rfl,rfl⟩))
  (fun os started H enc _ F=>by rw[OpenClaim.pre_eq_preRow]; exact Pa os started H enc F)
theorem card_holds :Rows.ManifestReturnsUptoCardSaid:=
 Claim7.holds_tied_plain_at .later [] [.data, .data, .data, .data, .data, .pinned] true (true,"637747a898cbb1b5043b613c2220e95450f12614b9afa01ffe978641a6dbf1a0") false holds (fun _ h=>by cases h) (by as_aux_lemma=>kernel_rfl) (fun _ h=>by cases h) manifestReturnsUpto_row_tie rfl ⟨rfl,rfl⟩ (by as_aux_lemma=>kernel_rfl) rfl
  (fun f fn hf hfn=>by
   obtain rfl:f=10:=bK ((show Tryz.prog.funcNamed "kinkeep/kinkeeplaw24.ManifestReturns" =some 10 by kernel_rfl).symm.trans hf) |>.symm
   obtain rfl:fn=Tryz.f10:=(bK (Tryz.func10.symm.trans hfn)).symm;exact⟨by kernel_rfl,fun j t ht=>by
    rw[Tryz.params10]at ht;have hm:t∈[46]:=by simpa using Array.mem_of_getElem? ht
    have ha:([46].all fun u=> !Tryz.prog.wantsStandIn u)=true:=by kernel_rfl
    exact(show Tryz.prog.wantsStandIn t=false by simpa using cz.1 ha t hm)⟩)
  (by as_aux_lemma=>kernel_rfl)
#print axioms card_holds
end CReturns
theorem manifestReturnsUpto_card :Rows.ManifestReturnsUptoCardSaid:=CReturns.card_holds
end Go.Proofs.YtpffpjbkbaleiaaGreatDoor
