/- ManifestLookups: for every input of bulk at most 1048576 the law returns true, and each argument reads afterwards as it read before (the tied card of the second form). -/
import Derived.Test.YtpffpjbkbaleiaaGreatDoorCLookupsI
set_option maxRecDepth 100000
set_option maxHeartbeats 8000000
namespace Go.Proofs.YtpffpjbkbaleiaaGreatDoor
open Go.ChangeShapes Go.WideShapes Go.ChangeAt Go.RowKit Go.Lib Go.Shelf
open Go.ChangeMaps (open_string shut_string)
namespace CLookups
theorem Fw (os:Os) (started:os.Started) (H:Type) (enc:TypeId×Value->H) (F:Stop.Interp):
  ReturnsInHanded {} Tryz.checked os 7 .any ((Rows.OpenSpec.upto Rows.manifestLookupsSpec).preRow enc Tryz.prog Tryz.f7 Rows.manifestLookupsUptoRow.domain false Rows.manifestLookupsUptoRow.laid) (((Rows.OpenSpec.upto Rows.manifestLookupsSpec).at F).post enc Tryz.prog Tryz.f7 false true false false):=by
 refine returnsInHanded_of_row (C:=Tryz.checked) (s:=Rows.OpenSpec.upto Rows.manifestLookupsSpec) own started (by kernel_rfl) Tryz.func7
  (Gx (enc:=enc) (C:=Tryz.checked) false (World.laidAll Tryz.prog os EW) #[.agg #[.string ⟨#[]⟩, .int .i64 0, .int .i64 0], .map none, .string ⟨#[]⟩] 8 (World.laidAll_os _ _ _)
   (World.shaped_of_ZipB (by kernel_rfl) (by kernel_rfl)) (by kernel_rfl) (by kernel_rfl) (by kernel_rfl) (fun k hk=>by cases hk; kernel_rfl) (by kernel_rfl)
   (by rw[MakeChecks.laidMetH_plain _ _ _ (by kernel_rfl)]; exact laidMet_laidAll _ (by kernel_rfl) (by kernel_rfl))) ?_
 intro W base args ds gs before hval0 hW _ hcond _ hL hsh _;have hbk:=hcond _ rfl;have hval: ∀(j:Nat) t v,Tryz.f7.params[j]? =some t->args[j]? =some v->Value.okWide Tryz.prog W .any base t v:=hval0;have hW':=hW;obtain⟨p,q,hA0,hV,rfl,_,_⟩:=hW;have hA:DataW.TrodAll enc Tryz.prog W 0 (fun _=>true) true Tryz.f7.params.toList args.toList ds p:=hA0;rw[Tryz.params7]at hA hval
 obtain⟨rfl,rfl⟩:=trodVars_none hV;simp only[List.append_nil]at hW' hbk;obtain⟨v0,v1,v2,d0,d1,d2,p0,p1,p2,rfl,rfl,rfl,h0,h1,h2⟩:=trodAll_three hA;obtain⟨root,rfl,hr⟩:=Cz h0;obtain⟨cs,hcs⟩:=zR (hval 1 55 v1 rfl rfl) h1;obtain⟨path,rfl,rfl,rfl,w2⟩:=open_string Tryz.underlying9 (hval 2 9 v2 rfl rfl) h2;have hlt0: ∀x∈p0,x.block<W.heap.size:=fun x hx=>by simpa using hW'.lt x (by simp[hx])
 have hlt1: ∀x∈p1,x.block<W.heap.size:=fun x hx=>by simpa using hW'.lt x (by simp[hx])
 have hs:path.size<=1048576:=Bw hbk (by simp);refine(Cg v1 root path cs W (Fr hL hsh) hr (by omega) hcs).mono fun e W' ⟨he,hb⟩=> ?_
 subst he;exact⟨_,rfl,_,_,_,[],_,[],hW',trodAll_mk1 (shut_bool Tryz.underlying4 _),trodAll_mk3 (Below.trod sR (by kernel_rfl) (of_decide_eq_true (by kernel_rfl)) h0 hb hlt0) (Below.trod sR (by kernel_rfl) (of_decide_eq_true (by kernel_rfl)) h1 hb hlt1) (shut_string Tryz.underlying9 w2),rfl,hb.frame _,fun h=>by cases h⟩
theorem holds :Rows.ManifestLookupsUptoSaid:=
 OpenClaim.holds_of_cond 7 Tryz.f7 rfl rfl rfl rfl rfl rfl rfl ⟨rfl,rfl,rfl,rfl,rfl⟩ rfl rfl rfl rfl rfl (by kernel_rfl) Tryz.func7 (by kernel_rfl)
  (of_decide_eq_true (by kernel_rfl)) (by unfold Func.isWrapper; first | (rw[if_pos (by decide+kernel)]; kernel_rfl) | (rw[if_neg (by decide+kernel)]; exact⟨rfl,rfl⟩))
  (fun os started H enc _ F=>by rw[OpenClaim.pre_eq_preRow]; exact Fw os started H enc F)
theorem card_holds :Rows.ManifestLookupsUptoCardSaid:=
 Claim7.holds_tied_plain_at .later [] [.data, .data, .data, .data, .data, .pinned] true (true,"637747a898cbb1b5043b613c2220e95450f12614b9afa01ffe978641a6dbf1a0") false holds (fun _ h=>by cases h) (by kernel_rfl) (fun _ h=>by cases h) manifestLookupsUpto_row_tie rfl ⟨rfl,rfl⟩ (by kernel_rfl) rfl
  (fun f fn hf hfn=>by
   obtain rfl:f=7:=Option.some.inj ((show Tryz.prog.funcNamed "kinkeep/kinkeeplaw24.ManifestLookups" =some 7 by kernel_rfl).symm.trans hf) |>.symm
   obtain rfl:fn=Tryz.f7:=(Option.some.inj (Tryz.func7.symm.trans hfn)).symm;exact⟨by kernel_rfl,fun j t ht=>by
    rw[Tryz.params7]at ht;have hm:t∈[26,55,9]:=by simpa using Array.mem_of_getElem? ht
    have hall:([26,55,9].all fun u=> !Tryz.prog.wantsStandIn u)=true:=by kernel_rfl
    exact(show Tryz.prog.wantsStandIn t=false by simpa using List.all_eq_true.1 hall t hm)⟩)
  (by kernel_rfl)
#print axioms card_holds
end CLookups
theorem manifestLookupsUpto_card :Rows.ManifestLookupsUptoCardSaid:=CLookups.card_holds
end Go.Proofs.YtpffpjbkbaleiaaGreatDoor
