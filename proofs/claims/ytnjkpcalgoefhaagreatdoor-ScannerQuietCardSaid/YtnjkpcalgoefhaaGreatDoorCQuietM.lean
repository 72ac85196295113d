/- ScannerQuiet: for every input the law returns true, and each argument reads afterwards as it read before (the tied card). -/
import Derived.Test.YtnjkpcalgoefhaaGreatDoorCQuietF
set_option maxRecDepth 100000
set_option maxHeartbeats 8000000
namespace Go.Proofs.YtnjkpcalgoefhaaGreatDoor
open Go.ChangeShapes Go.WideShapes Go.ChangeAt Go.RowKit Go.Lib Go.Shelf
open Go.ChangeMaps (open_string shut_string)
namespace CQuiet
theorem zk (os:Os) (started:os.Started) (H:Type) (enc:TypeId×Value->H):
  ReturnsInHanded {} Tryz.checked os 4 .any (fun w args=>(Rows.scannerQuietSpec.pre enc Tryz.prog Tryz.f4 [] false w args/\laidMetH Tryz.prog pI w)/\sizedMet enc Tryz.prog Tryz.f4 (OpenSpec.ofChange Rows.scannerQuietSpec) false w args)
   (Rows.scannerQuietSpec.post enc Tryz.prog Tryz.f4 false true false false):=by
 refine zi (C:=Tryz.checked) (X:=fun w _=>laidMetH Tryz.prog pI w) (fun _ _ _ hh h=>h.of_heap hh) own started (by kernel_rfl) Tryz.func4
  (ChangeSpec.witness_shaped (enc:=enc) (C:=Tryz.checked) (os:=os) (X:=fun w _=>laidMetH Tryz.prog pI w) false (World.laidAll Tryz.prog os pI) #[.agg #[.int .i64 0, .slice none 0 0], .int .i64 0, .int .i64 0, .slice none 0 0, .string ⟨#[]⟩, .agg #[.int .i64 0, .int .i64 0, .int .i64 0, .int .i64 0, .int .u64 0]] 8 (World.laidAll_os _ _ _)
   (World.shaped_of_ZipB (by kernel_rfl) (by kernel_rfl)) (by kernel_rfl) (by kernel_rfl) (by kernel_rfl)
   (by rw[MakeChecks.laidMetH_plain _ _ _ (by kernel_rfl)]; exact laidMet_laidAll _ (by kernel_rfl) (by kernel_rfl))) ?_
 intro W base args ds gs before hval0 hW _hWt hL hsh;have hval: ∀(j:Nat) t v,Tryz.f4.params[j]? =some t->args[j]? =some v->Value.okWide Tryz.prog W .any base t v:=hval0;have hW':=hW;obtain⟨p,q,hA0,hV,rfl,_,_⟩:=hW;have hA:DataW.TrodAll enc Tryz.prog W 0 (fun _=>true) true Tryz.f4.params.toList args.toList ds p:=hA0;rw[Tryz.params4]at hA hval;obtain⟨rfl,rfl⟩:=trodVars_none hV
 simp only[List.append_nil]at hW';obtain⟨v0,v1,v2,v3,v4,v5,d0,d1,d2,d3,d4,d5,p0,p1,p2,p3,p4,p5,rfl,rfl,rfl,h0,h1,h2,h3,h4,h5⟩:=qj hA;have hw:(DataW.weightsEach Tryz.prog (Tryz.f4.params.toList++_) ([d0,d1,d2,d3,d4,d5]++[])).all (fun x=>decide (x<=reachBytes))=true:=_hWt;rw[Tryz.params4]at hw;obtain⟨fv,x,rfl,hf,hfp,-⟩:=wG h0 (fQ (i:=0) rfl rfl hw)
 obtain⟨t1,rfl,-,-,-⟩:=open_int Tryz.underlying3 (hval 1 3 v1 rfl rfl) h1;obtain⟨t2,rfl,-,-,-⟩:=open_int Tryz.underlying3 (hval 2 3 v2 rfl rfl) h2;obtain⟨tree,ht,htp⟩:=tT (hval 3 45 v3 rfl rfl) h3 (fQ (i:=3) rfl rfl hw);obtain⟨rules,rfl,-,-,-⟩:=open_string Tryz.underlying9 (hval 4 9 v4 rfl rfl) h4;obtain⟨c,rfl,hs⟩:=wF h5;have hlt0: ∀x∈p0,x.block<W.heap.size:=fun x hx=>by simpa using hW'.lt x (by simp[hx])
 have hlt1: ∀x∈p1,x.block<W.heap.size:=fun x hx=>by simpa using hW'.lt x (by simp[hx])
 have hlt2: ∀x∈p2,x.block<W.heap.size:=fun x hx=>by simpa using hW'.lt x (by simp[hx])
 have hlt3: ∀x∈p3,x.block<W.heap.size:=fun x hx=>by simpa using hW'.lt x (by simp[hx])
 have hlt4: ∀x∈p4,x.block<W.heap.size:=fun x hx=>by simpa using hW'.lt x (by simp[hx])
 have hlt5: ∀x∈p5,x.block<W.heap.size:=fun x hx=>by simpa using hW'.lt x (by simp[hx])
 refine(wP fv v3 x t1 t2 tree rules c W (zf hL hsh) hf hfp ht htp hs).mono fun e W' ⟨he,hb⟩=> ?_
 subst he;exact⟨_,rfl,_,_,_,[],_,[],hW',trodAll_mk1 (shut_bool Tryz.underlying4 _),qi (Below.trod iq (by kernel_rfl) (of_decide_eq_true (by kernel_rfl)) h0 hb hlt0) (Below.trod iq (by kernel_rfl) (of_decide_eq_true (by kernel_rfl)) h1 hb hlt1) (Below.trod iq (by kernel_rfl) (of_decide_eq_true (by kernel_rfl)) h2 hb hlt2) (Below.trod iq (by kernel_rfl) (of_decide_eq_true (by kernel_rfl)) h3 hb hlt3) (Below.trod iq (by kernel_rfl) (of_decide_eq_true (by kernel_rfl)) h4 hb hlt4) (Below.trod iq (by kernel_rfl) (of_decide_eq_true (by kernel_rfl)) h5 hb hlt5),rfl,hb.frame _,fun h=>by cases h⟩
theorem holds :Rows.ScannerQuietSaid:=
 OpenClaim.holds_of_wide 4 Tryz.f4 rfl rfl rfl rfl rfl rfl rfl ⟨rfl,rfl,rfl,rfl,rfl⟩ rfl rfl rfl rfl rfl (by kernel_rfl) Tryz.func4 (by kernel_rfl)
  (of_decide_eq_true (by kernel_rfl)) (by unfold Func.isWrapper; first | (rw[if_pos (by decide+kernel)]; kernel_rfl) | (rw[if_neg (by decide+kernel)]; exact⟨rfl,rfl⟩))
  (fun os started H enc _=>zk os started H enc)
theorem card_holds :Rows.ScannerQuietCardSaid:=
 Claim7.holds_tied_plain_at .later [] [.data, .data, .data, .data, .pinned] true (true,"b7e89b7cd8bd577262952bf9cb9c9a46816fa2cc0266a92bfc78537afd9419f4") false holds (fun _ h=>by cases h) (by kernel_rfl) (fun _ h=>by cases h) scannerQuiet_row_tie rfl ⟨rfl,rfl⟩ (by kernel_rfl) rfl
  (fun f fn hf hfn=>by
   obtain rfl:f=4:=Option.some.inj ((show Tryz.prog.funcNamed "kinkeep/kinkeeplaw22.ScannerQuiet" =some 4 by kernel_rfl).symm.trans hf) |>.symm
   obtain rfl:fn=Tryz.f4:=(Option.some.inj (Tryz.func4.symm.trans hfn)).symm;exact⟨by kernel_rfl,fun j t ht=>by
    rw[Tryz.params4]at ht;have hm:t∈[24,3,3,45,9,48]:=by simpa using Array.mem_of_getElem? ht
    have hall:([24,3,3,45,9,48].all fun u=> !Tryz.prog.wantsStandIn u)=true:=by kernel_rfl
    exact(show Tryz.prog.wantsStandIn t=false by simpa using List.all_eq_true.1 hall t hm)⟩)
  (by kernel_rfl)
#print axioms card_holds
end CQuiet
theorem scannerQuiet_card :Rows.ScannerQuietCardSaid:=CQuiet.card_holds
end Go.Proofs.YtnjkpcalgoefhaaGreatDoor
