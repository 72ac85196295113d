/- ManifestLoads: for every input the law returns true, and each argument reads afterwards as it read before (the tied card). -/
import Derived.Test.YtpffpjbkbaleiaaGreatDoorCLoadsI
set_option maxRecDepth 100000
set_option maxHeartbeats 8000000
namespace Go.Proofs.YtpffpjbkbaleiaaGreatDoor
open Go.ChangeShapes Go.WideShapes Go.ChangeAt Go.RowKit Go.Lib Go.Shelf
open Go.ChangeMaps (open_string shut_string)
namespace CLoads
theorem FH (os:Os) (started:os.Started) (H:Type) (enc:TypeId×Value->H):
  ReturnsInHanded {} Tryz.checked os 6 .any (fun w args=>(Rows.manifestLoadsSpec.pre enc Tryz.prog Tryz.f6 [] false w args/\laidMetH Tryz.prog vm w)/\sizedMet enc Tryz.prog Tryz.f6 (OpenSpec.ofChange Rows.manifestLoadsSpec) false w args)
   (Rows.manifestLoadsSpec.post enc Tryz.prog Tryz.f6 false true false false):=by
 refine FC (C:=Tryz.checked) (X:=fun w _=>laidMetH Tryz.prog vm w) (fun _ _ _ hh h=>h.of_heap hh) own started (by kernel_rfl) Tryz.func6
  (ChangeSpec.witness_shaped (enc:=enc) (C:=Tryz.checked) (os:=os) (X:=fun w _=>laidMetH Tryz.prog vm w) false (World.laidAll Tryz.prog os vm) #[.agg #[.string ⟨#[]⟩, .int .i64 0, .int .i64 0], .map none] 8 (World.laidAll_os _ _ _)
   (World.shaped_of_ZipB (by kernel_rfl) (by kernel_rfl)) (by kernel_rfl) (by kernel_rfl) (by kernel_rfl)
   (by rw[MakeChecks.laidMetH_plain _ _ _ (by kernel_rfl)]; exact laidMet_laidAll _ (by kernel_rfl) (by kernel_rfl))) ?_
 intro W base args ds gs before hval0 hW _hWt hL hsh;have hval: ∀(j:Nat) t v,Tryz.f6.params[j]? =some t->args[j]? =some v->Value.okWide Tryz.prog W .any base t v:=hval0;have hW':=hW;obtain⟨p,q,hA0,hV,rfl,_,_⟩:=hW;have hA:DataW.TrodAll enc Tryz.prog W 0 (fun _=>true) true Tryz.f6.params.toList args.toList ds p:=hA0;rw[Tryz.params6]at hA hval;obtain⟨rfl,rfl⟩:=trodVars_none hV
 simp only[List.append_nil]at hW';obtain⟨v0,v1,d0,d1,p0,p1,rfl,rfl,rfl,h0,h1⟩:=trodAll_two hA;obtain⟨root,rfl,hr⟩:=CL h0;obtain⟨cs,hcs⟩:=Af (hval 1 55 v1 rfl rfl) h1;have hlt0: ∀x∈p0,x.block<W.heap.size:=fun x hx=>by simpa using hW'.lt x (by simp[hx])
 have hlt1: ∀x∈p1,x.block<W.heap.size:=fun x hx=>by simpa using hW'.lt x (by simp[hx])
 refine(Cq v1 root cs W (FB hL hsh) hr hcs).mono fun e W' ⟨he,hb⟩=> ?_
 subst he;exact⟨_,rfl,_,_,_,[],_,[],hW',trodAll_mk1 (shut_bool Tryz.underlying4 _),trodAll_mk2 (Below.trod tz (by kernel_rfl) (of_decide_eq_true (by kernel_rfl)) h0 hb hlt0) (Below.trod tz (by kernel_rfl) (of_decide_eq_true (by kernel_rfl)) h1 hb hlt1),rfl,hb.frame _,fun h=>by cases h⟩
theorem holds :Rows.ManifestLoadsSaid:=
 OpenClaim.holds_of_wide 6 Tryz.f6 rfl rfl rfl rfl rfl rfl rfl ⟨rfl,rfl,rfl,rfl,rfl⟩ rfl rfl rfl rfl rfl (by kernel_rfl) Tryz.func6 (by kernel_rfl)
  (of_decide_eq_true (by kernel_rfl)) (by unfold Func.isWrapper; first | (rw[if_pos (by decide+kernel)]; kernel_rfl) | (rw[if_neg (by decide+kernel)]; exact⟨rfl,rfl⟩))
  (fun os started H enc _=>FH os started H enc)
theorem card_holds :Rows.ManifestLoadsCardSaid:=
 Claim7.holds_tied_plain_at .later [] [.data, .data, .data, .data, .data, .pinned] true (true,"637747a898cbb1b5043b613c2220e95450f12614b9afa01ffe978641a6dbf1a0") false holds (fun _ h=>by cases h) (by kernel_rfl) (fun _ h=>by cases h) manifestLoads_row_tie rfl ⟨rfl,rfl⟩ (by kernel_rfl) rfl
  (fun f fn hf hfn=>by
   obtain rfl:f=6:=Option.some.inj ((show Tryz.prog.funcNamed "kinkeep/kinkeeplaw24.ManifestLoads" =some 6 by kernel_rfl).symm.trans hf) |>.symm
   obtain rfl:fn=Tryz.f6:=(Option.some.inj (Tryz.func6.symm.trans hfn)).symm;exact⟨by kernel_rfl,fun j t ht=>by
    rw[Tryz.params6]at ht;have hm:t∈[26,55]:=by simpa using Array.mem_of_getElem? ht
    have hall:([26,55].all fun u=> !Tryz.prog.wantsStandIn u)=true:=by kernel_rfl
    exact(show Tryz.prog.wantsStandIn t=false by simpa using List.all_eq_true.1 hall t hm)⟩)
  (by kernel_rfl)
#print axioms card_holds
end CLoads
theorem manifestLoads_card :Rows.ManifestLoadsCardSaid:=CLoads.card_holds
end Go.Proofs.YtpffpjbkbaleiaaGreatDoor
