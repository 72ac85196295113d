/- ScannerDecodes: for every input the law returns true, and each argument reads afterwards as it read before (the tied card). -/
import Derived.Test.YtnjkpcalgoefhaaGreatDoorCDecodesH
set_option maxRecDepth 100000
set_option maxHeartbeats 8000000
namespace Go.Proofs.YtnjkpcalgoefhaaGreatDoor
open Go.ChangeShapes Go.WideShapes Go.ChangeAt Go.RowKit Go.Lib Go.Shelf
open Go.ChangeMaps (open_string shut_string)
namespace CDecodes
theorem Es (os:Os) (started:os.Started) (H:Type) (enc:TypeId×Value->H):
  ReturnsInHanded {} Tryz.checked os 7 .any (fun w args=>(Rows.scannerDecodesSpec.pre enc Tryz.prog Tryz.f7 [] false w args/\laidMetH Tryz.prog tZ w)/\sizedMet enc Tryz.prog Tryz.f7 (OpenSpec.ofChange Rows.scannerDecodesSpec) false w args)
   (Rows.scannerDecodesSpec.post enc Tryz.prog Tryz.f7 false true false false):=by
 refine Eo (C:=Tryz.checked) (X:=fun w _=>laidMetH Tryz.prog tZ w) (fun _ _ _ hh h=>h.of_heap hh) own started (by kernel_rfl) Tryz.func7
  (ChangeSpec.witness_shaped (enc:=enc) (C:=Tryz.checked) (os:=os) (X:=fun w _=>laidMetH Tryz.prog tZ w) false (World.laidAll Tryz.prog os tZ) #[.slice none 0 0] 8 (World.laidAll_os _ _ _)
   (World.shaped_of_ZipB (by kernel_rfl) (by kernel_rfl)) (by kernel_rfl) (by kernel_rfl) (by kernel_rfl)
   (by rw[MakeChecks.laidMetH_plain _ _ _ (by kernel_rfl)]; exact laidMet_laidAll _ (by kernel_rfl) (by kernel_rfl))) ?_
 intro W base args ds gs before hval0 hW _hWt hL hsh;have hval: ∀(j:Nat) t v,Tryz.f7.params[j]? =some t->args[j]? =some v->Value.okWide Tryz.prog W .any base t v:=hval0;have hW':=hW;obtain⟨p,q,hA0,hV,rfl,_,_⟩:=hW;have hA:DataW.TrodAll enc Tryz.prog W 0 (fun _=>true) true Tryz.f7.params.toList args.toList ds p:=hA0;rw[Tryz.params7]at hA hval;obtain⟨rfl,rfl⟩:=trodVars_none hV
 simp only[List.append_nil]at hW';obtain⟨v0,d0,rfl,rfl,h0⟩:=trodAll_one hA;have hw:(DataW.weightsEach Tryz.prog (Tryz.f7.params.toList++_) ([d0]++[])).all (fun x=>decide (x<=reachBytes))=true:=_hWt;rw[Tryz.params7]at hw;obtain⟨bs,hbs⟩: ∃bs,aX (fun _=>True) W v0 bs:=by
  obtain⟨a0,len0,cap0,rfl⟩:=okWide_slice Tryz.underlying28 (hval 0 28 v0 rfl rfl);obtain⟨fuel,hf⟩:=h0;obtain⟨u,h1,bs,h2,-⟩:=wA hf (oM (i:=0) rfl rfl hw);simp[Value.cells]at h1;subst h1;exact⟨bs,h2⟩
 have hlt: ∀x∈p,x.block<W.heap.size:=fun x hx=>by simpa using hW'.lt x (by simp[hx])
 refine(AK v0 bs W (El hL hsh) hbs).mono fun e W' ⟨he,hb⟩=> ?_
 subst he;exact⟨_,rfl,_,_,_,[],_,[],hW',trodAll_mk1 (shut_bool Tryz.underlying4 _),trodAll_mk1 (Below.trod De (by kernel_rfl) (of_decide_eq_true (by kernel_rfl)) h0 hb hlt),rfl,hb.frame _,fun h=>by cases h⟩
theorem holds :Rows.ScannerDecodesSaid:=
 OpenClaim.holds_of_wide 7 Tryz.f7 rfl rfl rfl rfl rfl rfl rfl ⟨rfl,rfl,rfl,rfl,rfl⟩ rfl rfl rfl rfl rfl (by kernel_rfl) Tryz.func7 (by kernel_rfl)
  (of_decide_eq_true (by kernel_rfl)) (by unfold Func.isWrapper; first | (rw[if_pos (by decide+kernel)]; kernel_rfl) | (rw[if_neg (by decide+kernel)]; exact⟨rfl,rfl⟩))
  (fun os started H enc _=>Es os started H enc)
theorem card_holds :Rows.ScannerDecodesCardSaid:=
 Claim7.holds_tied_plain_at .later [] [.data, .data, .data, .data, .pinned] true (true,"b7e89b7cd8bd577262952bf9cb9c9a46816fa2cc0266a92bfc78537afd9419f4") false holds (fun _ h=>by cases h) (by kernel_rfl) (fun _ h=>by cases h) scannerDecodes_row_tie rfl ⟨rfl,rfl⟩ (by kernel_rfl) rfl
  (fun f fn hf hfn=>by
   obtain rfl:f=7:=Option.some.inj ((show Tryz.prog.funcNamed "kinkeep/kinkeeplaw22.ScannerDecodes" =some 7 by kernel_rfl).symm.trans hf) |>.symm
   obtain rfl:fn=Tryz.f7:=(Option.some.inj (Tryz.func7.symm.trans hfn)).symm;exact⟨by kernel_rfl,fun j t ht=>by
    rw[Tryz.params7]at ht;have hm:t∈[28]:=by simpa using Array.mem_of_getElem? ht
    have hall:([28].all fun u=> !Tryz.prog.wantsStandIn u)=true:=by kernel_rfl
    exact(show Tryz.prog.wantsStandIn t=false by simpa using List.all_eq_true.1 hall t hm)⟩)
  (by kernel_rfl)
#print axioms card_holds
end CDecodes
theorem scannerDecodes_card :Rows.ScannerDecodesCardSaid:=CDecodes.card_holds
end Go.Proofs.YtnjkpcalgoefhaaGreatDoor
