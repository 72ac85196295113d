/- ManifestCompletes: for every input of bulk at most 1048576 the law returns true, and each argument reads afterwards as it read before (the tied card of the second form). -/
import Derived.Test.YtpffpjbkbaleiaaGreatDoorCCompletesJ
set_option maxRecDepth 100000
set_option maxHeartbeats 8000000
namespace Go.Proofs.YtpffpjbkbaleiaaGreatDoor
open Go.ChangeShapes Go.WideShapes Go.ChangeAt Go.RowKit Go.Lib Go.Shelf
open Go.ChangeMaps (open_string shut_string)
namespace CCompletes
theorem Qh (os:Os) (started:os.Started) (H:Type) (enc:TypeId×Value->H) (F:Stop.Interp):
  ReturnsInHanded {} Tryz.checked os 8 .any ((Rows.OpenSpec.upto Rows.manifestCompletesSpec).preRow enc Tryz.prog Tryz.f8 Rows.manifestCompletesUptoRow.domain false Rows.manifestCompletesUptoRow.laid) (((Rows.OpenSpec.upto Rows.manifestCompletesSpec).at F).post enc Tryz.prog Tryz.f8 false true false false):=by
 refine returnsInHanded_of_row (C:=Tryz.checked) (s:=Rows.OpenSpec.upto Rows.manifestCompletesSpec) own started (by kernel_rfl) Tryz.func8
  (Rb (enc:=enc) (C:=Tryz.checked) false (World.laidAll Tryz.prog os PJ) #[.slice none 0 0, .slice none 0 0] 8 (World.laidAll_os _ _ _)
   (World.shaped_of_ZipB (by kernel_rfl) (by kernel_rfl)) (by kernel_rfl) (by kernel_rfl) (by kernel_rfl) (fun k hk=>by cases hk; kernel_rfl) (by kernel_rfl)
   (by rw[MakeChecks.laidMetH_plain _ _ _ (by kernel_rfl)]; exact laidMet_laidAll _ (by kernel_rfl) (by kernel_rfl))) ?_
 intro W base args ds gs before hd hW _ hc _ hL ho _;have hl:=hc _ rfl;have ha: ∀(j:Nat) t v,Tryz.f8.params[j]? =some t->args[j]? =some v->Value.okWide Tryz.prog W .any base t v:=hd;have hf:=hW;obtain⟨p,q,hm,hV,rfl,_,_⟩:=hW;have hA:DataW.TrodAll enc Tryz.prog W 0 (fun _=>true) true Tryz.f8.params.toList args.toList ds p:=hm;rw[Tryz.params8]at hA ha
 obtain⟨rfl,rfl⟩:=trodVars_none hV;simp only[ci]at hf hl;obtain⟨v0,v1,d0,d1,p0,p1,rfl,rfl,rfl,h0,h1⟩:=trodAll_two hA;obtain⟨tree,ht,hn⟩:=FS (ha 0 46 v0 rfl rfl) h0 (MA hl (by simp));obtain⟨gone,hg⟩:=Kw (ha 1 65 v1 rfl rfl) h1;have hh: ∀x∈p0,x.block<W.heap.size:=fun x hx=>by simpa using hf.lt x (by simp[hx])
 have hj: ∀x∈p1,x.block<W.heap.size:=fun x hx=>by simpa using hf.lt x (by simp[hx])
 refine(Mi tree gone v0 v1 W (Qc hL ho) ht (fun e he=>by have:=(hn e he).1; omega) hg).mono fun e W' ⟨he,hb⟩=> ?_
 subst he;exact⟨_,rfl,_,_,_,[],_,[],hf,trodAll_mk1 (shut_bool Tryz.underlying4 _),trodAll_mk2 (Below.trod BC (by kernel_rfl) (fq (by kernel_rfl)) h0 hb hh) (Below.trod BC (by kernel_rfl) (fq (by kernel_rfl)) h1 hb hj),rfl,hb.frame _,fun h=>by cases h⟩
theorem holds :Rows.ManifestCompletesUptoSaid:=
 OpenClaim.holds_of_cond 8 Tryz.f8 rfl rfl rfl rfl rfl rfl rfl ⟨rfl,rfl,rfl,rfl,rfl⟩ rfl rfl rfl rfl rfl (by as_aux_lemma=>kernel_rfl) Tryz.func8 (by as_aux_lemma=>kernel_rfl)
  (fq (by as_aux_lemma=>kernel_rfl)) (by unfold Func.isWrapper; first | (rw[if_pos (by decide+kernel)]; kernel_rfl) | (rw[if_neg (by decide+kernel)]; exact⟨rfl,rfl⟩))
  (fun os started H enc _ F=>by rw[OpenClaim.pre_eq_preRow]; exact Qh os started H enc F)
theorem card_holds :Rows.ManifestCompletesUptoCardSaid:=
 Claim7.holds_tied_plain_at .later [] [.data, .data, .data, .data, .data, .pinned] true (true,"637747a898cbb1b5043b613c2220e95450f12614b9afa01ffe978641a6dbf1a0") false holds (fun _ h=>by cases h) (by as_aux_lemma=>kernel_rfl) (fun _ h=>by cases h) manifestCompletesUpto_row_tie rfl ⟨rfl,rfl⟩ (by as_aux_lemma=>kernel_rfl) rfl
  (fun f fn hf hfn=>by
   obtain rfl:f=8:=bK ((show Tryz.prog.funcNamed "kinkeep/kinkeeplaw24.ManifestCompletes" =some 8 by kernel_rfl).symm.trans hf) |>.symm
   obtain rfl:fn=Tryz.f8:=(bK (Tryz.func8.symm.trans hfn)).symm;exact⟨by kernel_rfl,fun j t ht=>by
    rw[Tryz.params8]at ht;have hm:t∈[46,65]:=by simpa using Array.mem_of_getElem? ht
    have ha:([46,65].all fun u=> !Tryz.prog.wantsStandIn u)=true:=by kernel_rfl
    exact(show Tryz.prog.wantsStandIn t=false by simpa using cu.1 ha t hm)⟩)
  (by as_aux_lemma=>kernel_rfl)
#print axioms card_holds
end CCompletes
theorem manifestCompletesUpto_card :Rows.ManifestCompletesUptoCardSaid:=CCompletes.card_holds
end Go.Proofs.YtpffpjbkbaleiaaGreatDoor
