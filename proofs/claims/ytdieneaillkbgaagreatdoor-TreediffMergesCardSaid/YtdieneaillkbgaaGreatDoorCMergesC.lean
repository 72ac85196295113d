/- Texts of this proof, one after the other: TdG, TdH, SrcM, GotC, SrcR, SrcS, SortK, SortC, Opr, TdI, TdK, ApyP, TdL, MrgQ, TdQ, TdR. -/
import Derived.Test.YtdieneaillkbgaaGreatDoorCMergesB
/- Contracts: slices.AppendSeq, Collect, SortedFunc at strings; maps.Keys. -/
namespace Go.Proofs.YtdieneaillkbgaaGreatDoor
open Go Go.RowKit Go.Maps
attribute [local go_sem] Oper.semAt_some
theorem SeqW.later {P : Program} {α : Type} {g : Nat} {lb : Array Value} {encs : α → Array Value} {D : α → World → Prop} {Kp : World → World → Prop} {S Sp : List α → Prop} {N : Nat} {w w' : World} (h : SeqW P g lb encs D Kp S Sp N w) (hb : Below w.heap.size w w') : SeqW P g lb encs D Kp S Sp N w' :=
  fun l J Jx W hW hJ hY h0 => h l J Jx W (below_next hb hW) hJ hY h0
/-- The box holds a slice of the names that have come. -/
def CollS (B bx : Nat) (w : World) (pre : List ByteArray) (W : World) : Prop :=
  (∃ v, Boxed W bx 34 v ∧ W.ownsRow B 9 1 v pre.length (pre.map Value.string)) ∧ Below B w W
theorem collS_own {B bx B' : Nat} {w : World} (hB : B ≤ B') (hw : B ≤ w.heap.size) : OwnFrom B' (CollS B bx w) := by
  rintro pre X Y row ⟨⟨v, h1, h2⟩, h4⟩ hg hr
  have hr2 := fun r e => (hr r e).2
  refine ⟨⟨v, h1.kept hg (fun e' => ?_), own_turn h2 hg hr2⟩, ?_⟩
  · obtain ⟨o, ho, hc⟩ := hr2 bx e'.symm
    rw [show X.heap[bx]? = _ from h1] at ho; cases ho; cases hc
  · refine h4.grown hg (Nat.le_trans hw h4.size) (fun k e => ?_)
    have := (hr k e).1
    omega
def CollSA (B bx : Nat) (w : World) (mk : ByteArray → Act) (pre : List ByteArray) (x : ByteArray) (a : Act) (W : World) : Prop := CollS B bx w pre W ∧ pre.length < 4096 ∧ a = mk x
theorem collSA_own {B bx B' : Nat} {w : World} {mk : ByteArray → Act} (hB : B ≤ B') (hw : B ≤ w.heap.size) : OwnFrom B' (fun (s : List ByteArray × ByteArray × Act) W => CollSA B bx w mk s.1 s.2.1 s.2.2 W) := by
  rintro ⟨pre, x, a⟩ X Y row ⟨h1, h3, h5⟩ hg hr
  exact ⟨collS_own hB hw pre X Y row h1 hg hr, h3, h5⟩
def astrAct (bx gf : Nat) (lb : Array Value) (x : ByteArray) : Act := { tmps := #[.slice none 0 0, .func (.func gf) #[] lb, .pointer (some ⟨bx, 0, none⟩), undef, .slice none 0 0, .string x, .func (.func gf) #[] lb, .string x, undef, undef, undef, undef, undef], defers := [] }
set_option maxRecDepth 100000 in
set_option maxHeartbeats 2000000 in
theorem appendSeq_strs (gf : Nat) (lb : Array Value) (eg : ∀ args w, (callFunc gf args).run Tryz.prog w = .ok (.enter gf args) w) (S Sp : List ByteArray → Prop) (w : World) (hseq : SeqW Tryz.prog gf lb (fun x : ByteArray => #[.string x]) KeyD (KeyKp w.heap.size) S Sp 4096 w) :
    Calls Tryz.prog 93 #[.slice none 0 0, .func (.func gf) #[] lb] w fun e w' => ∃ v xs, e = .returned v ∧ S xs ∧ w'.ownsRow w.heap.size 9 1 v xs.length (xs.map Value.string) ∧ Below w.heap.size w w' := by
  have HSEQ := Lib.hid hseq
  have HEG := Lib.hid eg
  clear hseq eg
  refine (callsIn_wide (n := 4)).1 (callsIn_of_wp_marks Tryz.func93 rfl trivial ?_ rfl)
  simp only [Tryz.ntmps93, List.size_toArray, List.length_cons, List.length_nil, Nat.reduceAdd, Nat.reduceSub, Array.replicate_succ, Array.replicate_zero, List.push_toArray, List.append_toArray, List.nil_append, List.cons_append]
  refine (wpIn_wide (n := 4)).2 ?_
  go_wp2_with fail
  obtain ⟨w0, hw0⟩ : ∃ w0, w0 = w.alloc (.cells #[.slice none 0 0] 34) := ⟨_, rfl⟩
  rw [← hw0]
  have HBX := Lib.hid (show Boxed w0 w.heap.size 34 (.slice none 0 0) by rw [hw0]; exact Boxed.new w _ _)
  have HB0 := Lib.hid (show Below w.heap.size w w0 by rw [hw0]; exact (Below.refl _ _).alloc (Nat.le_refl _) _)
  have hsz0 : w0.heap.size = w.heap.size + 1 := by rw [hw0]; simp
  clear hw0
  obtain ⟨hty, ⟨i0, z0, hi1, hi2, hi3, hi4, hi5⟩, -, -⟩ := Tryz.appStrings
  refine wp_rangeW (gf := gf) (lb := lb) rfl HEG.out
    (HSEQ.out.later HB0.out) keyKp_t (keyKp_b (by omega)) (fun _ => rfl)
    (CollS w.heap.size w.heap.size w) (fun _ _ _ => False) (CollSA w.heap.size w.heap.size w (astrAct w.heap.size gf lb))
    (collS_own (by omega) (Nat.le_refl _)) (fun _ _ _ _ _ h _ _ => h) (collSA_own (by omega) (Nat.le_refl _)) ⟨⟨_, HBX.out, World.ownsRow_nil _ _ _ _⟩, HB0.out⟩ ?assign ?body ?done ?stop
  case assign =>
    rintro l pre x W hW hI hD hN
    gi_wp2
    exact ⟨KeepsOthers.refl _, ⟨Below.refl _ _, KeepsWalks.refl _⟩, hI, hN, by kernel_rfl⟩
  case body =>
    rintro l pre x a₁ W ⟨⟨⟨v, hv, hrow⟩, hB⟩, hN, rfl⟩
    have hc := hv.cell
    simp only [astrAct]
    gi_wp2_with (gi_at_builtin; refine wpListIn_append_own _ rfl _ _ 34 rfl w.heap.size 9 i0 z0 1 16 hty hi1 hi2 hi3 hi4 hi5 (by decide) _ _ _ rfl (hrow.alloc _) ⟨W.heap.size, 0, none⟩ 1 1 [.string x] rfl rfl (cells_new W _ _) (by intro u hu; rw [List.mem_singleton.1 hu]; rfl) (by unfold maxLen; omega) (by omega) (by have := hB.size; simp; omega) ?_; intro v' w1 hown' hgrow _; obtain ⟨g', cap', rfl⟩ := ownsRow_succ hown'; obtain ⟨hv1, hv2, hr2, hk2, hb2⟩ := hv.appended (by decide) hrow hB.size (Nat.le_refl _) hown' hgrow; have hc1 := hv1.cell; have hf1 := hv1.frozen)
    have hbw : Below W.heap.size W (W.alloc (.cells [.string x].toArray 9)) := (Below.refl _ _).alloc (Nat.le_refl _) _
    refine ⟨hk2, ⟨hb2, ?_⟩, ⟨_, hv2, ?_⟩, hB.trans hb2⟩
    · refine ((KeepsWalks.alloc W _).trans (KeepsWalks.of_grownBy hgrow fun j o e ho => ?_)).trans (KeepsWalks.setCell w1 _ _)
      obtain ⟨cur, hcur⟩ := own_block (own_below hrow hbw) e
      rw [hcur] at ho
      cases ho; rfl
    · rw [List.length_append, List.length_singleton, List.map_append]
      exact hr2
  case done =>
    rintro Dl ys W hDl hS ⟨⟨v, hv, hrow⟩, hB⟩ hK
    have hc := hv.cell
    go_wp2_with fail
    refine ⟨by simp, .inl ⟨_, _, rfl, run_takeDeferred hK, ?_⟩⟩
    refine ⟨_, results_tmp rfl _ _ _, v, ys, rfl, hS, ownsRow_putObj hrow _ hK rfl, hB.trans (belowK_b (w := w) (Nat.le_refl _) W Dl _ _ (by omega) hK rfl rfl)⟩
  case stop =>
    rintro Dl c pre W _ _ h _
    exact h.elim
theorem collect_strs (gf : Nat) (lb : Array Value) (eg : ∀ args w, (callFunc gf args).run Tryz.prog w = .ok (.enter gf args) w) (S Sp : List ByteArray → Prop) (w : World) (hseq : SeqW Tryz.prog gf lb (fun x : ByteArray => #[.string x]) KeyD (KeyKp w.heap.size) S Sp 4096 w) :
    Calls Tryz.prog 77 #[.func (.func gf) #[] lb] w fun e w' => ∃ v xs, e = .returned v ∧ S xs ∧ w'.ownsRow w.heap.size 9 1 v xs.length (xs.map Value.string) ∧ Below w.heap.size w w' := by
  go_enter Tryz.func77, Tryz.ntmps77
  go_wp2_with (go_at_call 93; refine (appendSeq_strs gf lb eg S Sp w hseq).mono ?_; rintro e w1 ⟨v, xs, rfl, hS, hg, hb⟩)
  go_ret
  exact ⟨v, xs, rfl, hS, hg, hb⟩
/-- THE NAMES, IN THEIR ORDER. -/
theorem sortedF_strs (gf : Nat) (lb : Array Value) (eg : ∀ args w, (callFunc gf args).run Tryz.prog w = .ok (.enter gf args) w) (ks M : List ByteArray) (Sp : List ByteArray → Prop) (w : World) (hseq : SeqW Tryz.prog gf lb (fun x : ByteArray => #[.string x]) KeyD (KeyKp w.heap.size) (fun xs => xs.Perm ks) Sp 4096 w)
    (hsz : ∀ k ∈ ks, k.size ≤ maxLen) (hlen : ks.length ≤ 4096) (hp : ks.Perm M) (hM : M.Pairwise fun a b => cmpL (bl a) (bl b) < 0) :
    Calls Tryz.prog 50 #[.func (.func gf) #[] lb, .func (.func 52) #[] #[]] w fun e w' => ∃ v, e = .returned v ∧ w'.ownsRow w.heap.size 9 1 v M.length (M.map Value.string) ∧ Below w.heap.size w w' := by
  go_enter Tryz.func50, Tryz.ntmps50
  go_wp2_with fail
  refine (collect_strs gf lb eg _ Sp w hseq).mono ?_
  rintro e w1 ⟨v, xs, rfl, hS, ho, hb⟩
  have HO := Lib.hid ho
  have HB := Lib.hid hb
  have HS := Lib.hid (hS.trans hp)
  have HSZ := Lib.hid (fun s hs => hsz s (hS.mem_iff.1 hs))
  have HLN := Lib.hid (show xs.length ≤ 4096 by rw [hS.length_eq]; exact hlen)
  obtain ⟨a, c, rfl, -, -⟩ := owns_shape ho
  clear ho hb hS hsz hlen hp
  go_wp2_with fail
  refine (sort_any w.heap.size _ xs M w1 HO.out HSZ.out HS.out hM (by have := HLN.out; omega) HB.out.size).mono ?_
  rintro e w2 ⟨rfl, ho2, hb2⟩
  have HO2 := Lib.hid ho2
  have HB2 := Lib.hid (HB.out.trans hb2)
  have HL := Lib.hid HS.out.length_eq
  clear ho2 hb2
  go_wp2_with fail
  go_ret
  refine ⟨_, rfl, ?_, HB2.out⟩
  exact HO2.out
theorem keysB_any (mb : Option Nat) (w : World) : Calls Tryz.prog 51 #[.map mb] w fun e w' => e = .returned (.func (.func 79) #[] #[.pointer (some ⟨w.heap.size, 0, none⟩)]) ∧ w'.cell? ⟨w.heap.size, 0, none⟩ = some (.map mb) ∧ Below w.heap.size w w' ∧ w'.heap.size = w.heap.size + 1 := by
  go_enter Tryz.func51, Tryz.ntmps51
  go_wp2_with fail
  go_ret
  exact ⟨rfl, cell20 (new20 w _), (Below.refl _ _).alloc (Nat.le_refl _) _, by simp⟩
theorem keysB_sorted (m : List (Value × Value)) (ks M : List ByteArray) (mb bx : Nat) (w : World) (hm : MapS Tryz.prog 9 w mb m) (hks : m.map Prod.fst = ks.map Value.string) (hsz : ∀ k ∈ ks, k.size ≤ maxLen) (hlen : ks.length ≤ 4096)
    (h1 : w.cell? ⟨bx, 0, none⟩ = some (.map (some mb))) (hp : ks.Perm M) (hM : M.Pairwise fun a b => cmpL (bl a) (bl b) < 0) :
    Calls Tryz.prog 50 #[.func (.func 79) #[] #[.pointer (some ⟨bx, 0, none⟩)], .func (.func 52) #[] #[]] w fun e w' => ∃ v, e = .returned v ∧ w'.ownsRow w.heap.size 9 1 v M.length (M.map Value.string) ∧ Below w.heap.size w w' :=
  sortedF_strs 79 _ (enters_of Tryz.func79 (by kernel_rfl) rfl) ks M _ w (keysB_seq m ks mb bx w w hm hks hsz hlen (Below.refl _ _) h1) hsz hlen hp hM
theorem keysE_any (mb : Option Nat) (w : World) : Calls Tryz.prog 76 #[.map mb] w fun e w' => e = .returned (.func (.func 92) #[] #[.pointer (some ⟨w.heap.size, 0, none⟩)]) ∧ w'.cell? ⟨w.heap.size, 0, none⟩ = some (.map mb) ∧ Below w.heap.size w w' ∧ w'.heap.size = w.heap.size + 1 := by
  go_enter Tryz.func76, Tryz.ntmps76
  go_wp2_with fail
  go_ret
  exact ⟨rfl, cell20 (new20 w _), (Below.refl _ _).alloc (Nat.le_refl _) _, by simp⟩
theorem keysE_sorted (m : List (Value × Value)) (ks M : List ByteArray) (mb bx : Nat) (w : World) (hm : MapS Tryz.prog 9 w mb m) (hks : m.map Prod.fst = ks.map Value.string) (hsz : ∀ k ∈ ks, k.size ≤ maxLen) (hlen : ks.length ≤ 4096)
    (h1 : w.cell? ⟨bx, 0, none⟩ = some (.map (some mb))) (hp : ks.Perm M) (hM : M.Pairwise fun a b => cmpL (bl a) (bl b) < 0) :
    Calls Tryz.prog 50 #[.func (.func 92) #[] #[.pointer (some ⟨bx, 0, none⟩)], .func (.func 52) #[] #[]] w fun e w' => ∃ v, e = .returned v ∧ w'.ownsRow w.heap.size 9 1 v M.length (M.map Value.string) ∧ Below w.heap.size w w' :=
  sortedF_strs 92 _ (enters_of Tryz.func92 (by kernel_rfl) rfl) ks M _ w (keysE_seq m ks mb bx w w hm hks hsz hlen (Below.refl _ _) h1) hsz hlen hp hM
end Go.Proofs.YtdieneaillkbgaaGreatDoor

/- Contracts of package treediff: sorted. -/
namespace Go.Proofs.YtdieneaillkbgaaGreatDoor
open Go.RowKit Go.Maps
theorem isSome_mem {L : List Ent} {R : Look} (h : ∀ p, findE L p = R p) : ∀ p, (R p).isSome = true → p ∈ L.map Ent.path := by
  intro p hp
  rw [← h] at hp
  exact findE_isSome.1 hp
/-- The keys of a map of entries. -/
theorem MapR.keys {S : Nat → Prop} {w : World} {mb : Nat} {R : Look} {L : List Ent} (h : MapR S w mb R) (hL : SortedE L) (hlook : ∀ p, findE L p = R p) :
    ∃ (m : List (Value × Value)) (ks : List ByteArray), MapS Tryz.prog 9 w mb m ∧ m.map Prod.fst = ks.map Value.string ∧ (∀ k ∈ ks, k.size ≤ maxLen) ∧ ks.Perm (L.map Ent.path) := by
  obtain ⟨xs, hm, h2⟩ := h
  refine ⟨xs.map pairOf, xs.map (fun x => x.2.path), hm.map, map_fst xs, fun k hk => ?_, ?_⟩
  · obtain ⟨x, hx, rfl⟩ := List.mem_map.1 hk
    exact (hm.dat x hx).2.pth
  · refine (List.perm_ext_iff_of_nodup hm.nodup hL.nodup).2 fun p => ?_
    have e1 : p ∈ xs.map (fun x => x.2.path) ↔ p ∈ (xs.map Prod.snd).map Ent.path := by rw [List.map_map]; rfl
    rw [e1, ← findE_isSome, ← findE_isSome]
    unfold hasE
    rw [h2, hlook]
theorem sorted_paths2 {L : List Ent} (h : SortedE L) : (L.map Ent.path).Pairwise fun a b => cmpL (bl a) (bl b) < 0 := by
  rw [List.pairwise_map]; exact h
theorem GotE.made {B : Nat} {w : World} {v : Value} (h : w.ownsRow B 48 6 v 0 []) : GotE B w v [] := ⟨h, by simp⟩
set_option maxRecDepth 100000 in
set_option maxHeartbeats 4000000 in
theorem sortedM_any (S : Nat → Prop) (mb : Nat) (R : Look) (L : List Ent) (w : World) (hmr : MapR S w mb R) (hL : SortedE L) (hlook : ∀ p, findE L p = R p) (hlen : L.length ≤ 4096) (hdat : ∀ e ∈ L, e.data.length ≤ 140737488355328) :
    Calls Tryz.prog 49 #[.map (some mb)] w fun e w' => ∃ v ys, e = .returned v ∧ ys.map Prod.snd = L ∧ GotE w.heap.size w' v ys ∧ Below w.heap.size w w' := by
  have HM := Lib.hid hmr
  have HL := Lib.hid hL
  have HLK := Lib.hid hlook
  have HD := Lib.hid hdat
  have HLEN := Lib.hid hlen
  obtain ⟨nn, hnn, hln⟩ := hmr.len (isSome_mem hlook) mapTy 3
  rw [List.length_map] at hnn
  obtain ⟨mc, hmk, hown0⟩ := make_ents w nn (by omega)
  clear hmr hL hlook hdat hlen
  go_enter Tryz.func49, Tryz.ntmps49
  go_wp2_with fail
  obtain ⟨w1, hw1⟩ : ∃ w1 : World, w1 = w.alloc (.cells mc 48) := ⟨_, rfl⟩
  rw [← hw1] at hown0 ⊢
  have HB1 := Lib.hid (show Below w.heap.size w w1 by rw [hw1]; exact (Below.refl _ _).alloc (Nat.le_refl _) _)
  have HG1 := Lib.hid (GotE.made hown0)
  clear hw1 hmk hln hown0
  refine (keysE_any (some mb) w1).mono ?_
  rintro e w2 ⟨rfl, hc2, hb2, -⟩
  have HC2 := Lib.hid hc2
  have HB2 := Lib.hid (below_next HB1.out hb2)
  have HG2 := Lib.hid (HG1.out.below hb2)
  clear hc2 hb2
  go_wp2_with fail
  obtain ⟨m, ks, hm, hks, hsz, hp⟩ := (HM.out.below HB2.out).keys HL.out HLK.out
  have hkl : ks.length ≤ 4096 := by have := hp.length_eq; rw [List.length_map] at this; have := HLEN.out; omega
  refine (keysE_sorted m ks (L.map Ent.path) mb _ w2 hm hks hsz hkl HC2.out hp (sorted_paths2 HL.out)).mono ?_
  rintro e w3 ⟨v3, rfl, ho3, hb3⟩
  clear hm hks hsz hp hkl m ks
  rw [List.length_map] at ho3
  obtain ⟨n, hn⟩ : ∃ n, n = L.length := ⟨_, rfl⟩
  rw [← hn] at ho3 hnn
  have HN := Lib.hid hn
  obtain ⟨a3, c3, rfl, hn3, hm3⟩ := owns_shape ho3
  have HO3 := Lib.hid ho3
  have HB3 := Lib.hid (below_next HB2.out hb3)
  have HG3 := Lib.hid (HG2.out.below hb3)
  unfold maxLen at hm3
  clear ho3 hb3 hn
  go_wp2_with fail
  go_loopw [3, 13] (fun v i wr => ∃ (k : Nat) (ys : List VEnt), k ≤ n ∧ i = .int .i64 k ∧ ys.map Prod.snd = L.take k ∧ GotE w.heap.size wr v ys ∧ Below w.heap.size w wr ∧ wr.ownsRow w2.heap.size 9 1 (.slice a3 n c3) n ((L.map Ent.path).map Value.string)) (fun _ i _ => n - (intOf i).toNat)
  case atStart => exact ⟨0, [], Nat.zero_le _, rfl, by simp, HG3.out, HB3.out, HO3.out⟩
  case round =>
    obtain ⟨k, ys, hk, rfl, hys, hgot, hbr, hrow⟩ := hrel
    have HYS := Lib.hid hys
    have HGOT := Lib.hid hgot
    have HBR := Lib.hid hbr
    have HROW := Lib.hid hrow
    obtain ⟨av, cv, hsv, hvn, hvm⟩ := owns_shape hgot.row
    subst hsv
    unfold maxLen at hvm
    have HYL := Lib.hid (show ys.length ≤ 4096 by
      have := congrArg List.length hys
      rw [List.length_map, List.length_take] at this
      have := HLEN.out
      omega)
    clear hys hgot hbr hrow
    by_cases hlt : k < n
    · obtain ⟨e, hat⟩ : ∃ e, L[k]? = some e := ⟨L[k]'(by rw [← HN.out]; exact hlt), by simp⟩
      have HAT := Lib.hid hat
      have heL := List.mem_of_getElem? hat
      have hre : R e.path = some e := by rw [← HLK.out]; exact findE_mem HL.out.nodup heL
      obtain ⟨v, hlk, hd0, hok0⟩ := (HM.out.below HBR.out).hit mapTy hre false
      obtain ⟨a1, cap1, rfl, hd1, hd2⟩ := hd0.slice
      have HD0 := Lib.hid hd0
      have HOK0 := Lib.hid hok0
      have HVD := Lib.hid (HD.out e heL)
      unfold maxLen at hd2
      unfold entV at hlk
      simp only [Bool.false_eq_true, if_false] at hlk
      obtain ⟨_, a4, c4, he3, _, _, h03⟩ := row_of_owns HROW.out
      simp only [Value.slice.injEq] at he3
      obtain ⟨rfl, -, rfl⟩ := he3
      rcases h03 with h03 | ⟨b, o, rfl, -, hcc⟩
      · omega
      have hcq := hcc k (.string e.path) (by rw [List.getElem?_map, List.getElem?_map, hat]; rfl)
      clear hat hcc heL hre hd0 hok0
      go_wp2_with fail
      refine (copiedT_flat S e _ _ HD0.out HVD.out).mono ?_
      rintro e7 w7 ⟨a', cap', rfl, ho7, hb7⟩
      have HO7 := Lib.hid ho7
      have HB7 := Lib.hid hb7
      have hsz7 : w.heap.size ≤ w7.heap.size := Nat.le_trans HBR.out.size hb7.size
      have HOW := Lib.hid (own_below HGOT.out.row hb7)
      have hyl := HYL.out
      clear hb7 ho7 hlk hcq
      go_wp2_with (at_builtin; go_must (refine wpList_app1p Tryz.appEnts rfl _ _ rfl w.heap.size (.slice av ys.length cv) ys.length (entsC ys) rfl w7 (entC (.slice a' e.data.length cap') e) _ rfl rfl entC_one HOW.out (by omega) hsz7 ?_); intro v' w8 hown8 hgrow8 _ hpl8; have HG8 := Lib.hid hgrow8; have HPU := Lib.hid (HGOT.out.push (y := (.slice a' e.data.length cap', e)) HB7.out (data_of_owns HO7.out) HOK0.out HBR.out.size hown8 hgrow8 hpl8); clear hown8 hgrow8 hpl8)
      go_wp2_with fail
      go_roundw
      case rel =>
        refine ⟨k + 1, ys ++ [(.slice a' e.data.length cap', e)], by omega, by go_num, ?_, HPU.out, ?_, ?_⟩
        · rw [List.map_append, HYS.out, List.take_add_one, HAT.out]; rfl
        · exact below_grown (below_next HBR.out HB7.out) HOW.out HG8.out (Nat.le_refl _) hsz7
        · have h1 := own_below HROW.out HB7.out
          exact h1.kept HG8.out (own_apart h1 HOW.out (by decide))
      case measure => simp [intOf]; omega
    · have hk2 : k = n := by omega
      go_wp2_with fail
      go_ret
      refine ⟨.slice av ys.length cv, ys, rfl, ?_, HGOT.out, HBR.out⟩
      rw [HYS.out, hk2, HN.out, List.take_length]
end Go.Proofs.YtdieneaillkbgaaGreatDoor

/- Maps in memory: m[k] = append(m[k], x): an entry that is taken out and stored again; appending one element that lies in a block of its own. -/
namespace Go.Proofs.YtdieneaillkbgaaGreatDoor
open Go Go.RowKit Go.Maps Go.MapKept
open Go.WideElems (findIdx_born findIdx_arr modify_last set_self)
open Go.ChangeMaps (modify_eq_set setBlock)
section
variable {P : Program} {k t e : TypeId} {w w' : World} {b : Nat} {m : List (Value × Value)} {key val z : Value}
theorem size_setBlock (w : World) (b : Nat) (o : Obj) : (setBlock w b o).heap.size = w.heap.size := by simp [setBlock]
theorem MapS.entryNew (h : MapS P k w b m) (K : Keyed P k) (ht : P.underlying t = some (.map k e)) (hz : ∀ u : World, (zeroValue e).run P u = .ok z u) (hkey : ∃ l, keyOf P k key = some l) (hm : ∀ p ∈ m, p.1 ≠ key) :
    ∃ (st : Nat) (w1 : World), (Instr.mapEntry t (.map (some b)) key).run P w = .ok (.tuple #[z, goInt st]) w1 ∧ w.grownBy w1 (some b) ∧ w1.heap.size = w.heap.size ∧ (∃ o : Obj, w1.heap[b]? = some o ∧ o.isCells = false) ∧
      ∀ (w2 : World) (val : Value), w2.heap[b]? = w1.heap[b]? → ∃ w3, (Instr.entryStore t (.map (some b)) (goInt st) val).run P w2 = .ok () w3 ∧ MapS P k w3 b (m ++ [(key, val)]) ∧ w2.grownBy w3 (some b) := by
  obtain ⟨es, clock, hb, he, hst, hk⟩ := h
  obtain ⟨kl, hkl⟩ := hkey
  obtain ⟨s1, s2, _⟩ := (stamped_iff es clock).1 hst
  rcases K.find w hkl es.toList (MapIs.keys he hk) with ⟨h1, h2⟩ | ⟨j, e0, h1, h2, h3⟩
  · refine ⟨clock, setBlock w b (.map (es.push ⟨key, z, clock⟩) (clock + 1)), ?_, grown_setBlock hb _, size_setBlock _ _ _, ⟨_, heapSame hb _, rfl⟩, fun w2 val hw => ?_⟩
    · simp [Instr.mapEntry, run_underlying ht, MapKept.run_getObj_map hb, K.check w false hkl, h1, hz, MapKept.run_setObj_map _ hb, Result.andThen, setBlock]
    · have hw2 : w2.heap[b]? = some (.map (es.push ⟨key, z, clock⟩) (clock + 1)) := hw.trans (heapSame hb _)
      refine ⟨setBlock w2 b (.map (es.push ⟨key, val, clock⟩) (clock + 1)), ?_, ⟨_, _, heapSame hw2 _, ?_, stamped_push hst h2, ?_⟩, grown_setBlock hw2 _⟩
      · have hidx : (es.push ⟨key, z, clock⟩).findIdx? (fun e => ((e.born : Nat) : Int) == ((clock : Nat) : Int)) = some es.size := by
          rw [findIdx_arr]
          have := findIdx_born (l := (es.push ⟨key, z, clock⟩).toList) (j := es.size) (e0 := ⟨key, z, clock⟩) (by
            simp only [Array.toList_push, List.map_append, List.map_cons, List.map_nil]
            refine List.nodup_append.2 ⟨s2, by simp, fun a ha c hc e1 => ?_⟩
            simp only [List.mem_singleton] at hc
            obtain ⟨x, hx, rfl⟩ := List.mem_map.1 ha
            have := s1 x hx
            omega) (by simp)
          exact this
        have hmod : (es.push ⟨key, z, clock⟩).modify es.size (fun e => { e with val := val }) = es.push ⟨key, val, clock⟩ := by
          apply Array.ext'
          rw [Array.toList_modify, Array.toList_push, Array.toList_push, ← Array.length_toList, modify_last]
        simp [Instr.entryStore, MapKept.run_getObj_map hw2, asInt, asIntOf, goInt, hidx, hmod, MapKept.run_setObj_map _ hw2, Result.andThen, setBlock]
      · simp [← he]
      · intro p hp
        rcases List.mem_append.1 hp with hp | hp
        · exact hk p hp
        · simp only [List.mem_singleton] at hp
          subst hp
          exact ⟨kl, hkl⟩
  · exact absurd h3 (hm (e0.key, e0.val) (by rw [← he]; exact List.mem_map.2 ⟨e0, List.mem_of_getElem? h2, rfl⟩))
theorem MapS.entryOld {m1 m2 : List (Value × Value)} {old : Value} (h : MapS P k w b (m1 ++ (key, old) :: m2)) (K : Keyed P k) (ht : P.underlying t = some (.map k e)) :
    ∃ (st : Nat) (w1 : World), (Instr.mapEntry t (.map (some b)) key).run P w = .ok (.tuple #[old, goInt st]) w1 ∧ w.grownBy w1 (some b) ∧ w1.heap.size = w.heap.size ∧ (∃ o : Obj, w1.heap[b]? = some o ∧ o.isCells = false) ∧
      ∀ (w2 : World) (val : Value), w2.heap[b]? = w1.heap[b]? → ∃ w3, (Instr.entryStore t (.map (some b)) (goInt st) val).run P w2 = .ok () w3 ∧ MapS P k w3 b (m1 ++ (key, val) :: m2) ∧ w2.grownBy w3 (some b) := by
  have hnd := h.nodup
  obtain ⟨es, clock, hb, he, hst, hk⟩ := h
  obtain ⟨kl, hkl⟩ := hk (key, old) (by simp)
  obtain ⟨s1, s2, _⟩ := (stamped_iff es clock).1 hst
  rcases K.find w hkl es.toList (MapIs.keys he hk) with ⟨h1, h2⟩ | ⟨j, e0, h1, h2, h3⟩
  · exfalso
    have : (key, old) ∈ es.toList.map (fun e => (e.key, e.val)) := by rw [he]; simp
    obtain ⟨x, hx, hxe⟩ := List.mem_map.1 this
    exact h2 x hx (congrArg Prod.fst hxe)
  · have hj : es[j]? = some e0 := by simpa using h2
    have hsame : es.modify j (fun e => { e with key := key }) = es := by
      apply Array.ext'
      rw [Array.toList_modify, modify_eq_set _ _ _ _ h2]
      have h3' : e0.key = key := h3
      have : ({ e0 with key := key } : MapEntry) = e0 := by rw [← h3']
      rw [this]
      exact set_self _ _ _ h2
    have hjm : j = m1.length := by
      have h4 : (m1 ++ (key, old) :: m2)[j]? = some (e0.key, e0.val) := by rw [← he, List.getElem?_map, h2]; rfl
      have h5 : ((m1 ++ (key, old) :: m2).map Prod.fst)[j]? = some key := by rw [List.getElem?_map, h4]; simp [h3]
      have h6 : ((m1 ++ (key, old) :: m2).map Prod.fst)[m1.length]? = some key := by simp
      have hjl := (List.getElem?_eq_some_iff.1 h5).1
      exact (List.getElem?_inj hjl hnd).1 (h5.trans h6.symm)
    have hold : e0.val = old := by
      have h4 : (m1 ++ (key, old) :: m2)[j]? = some (e0.key, e0.val) := by rw [← he, List.getElem?_map, h2]; rfl
      rw [hjm] at h4
      simp only [List.getElem?_append_right (Nat.le_refl _), Nat.sub_self, List.getElem?_cons_zero, Option.some.injEq, Prod.mk.injEq] at h4
      exact h4.2.symm
    refine ⟨e0.born, setBlock w b (.map es clock), ?_, grown_setBlock hb _, size_setBlock _ _ _, ⟨_, heapSame hb _, rfl⟩, fun w2 val hw => ?_⟩
    · simp [Instr.mapEntry, run_underlying ht, MapKept.run_getObj_map hb, K.check w false hkl, h1, hj, h3, K.stays w hkl, hsame, hold, MapKept.run_setObj_map _ hb, Result.andThen, setBlock]
    · have hw2 : w2.heap[b]? = some (.map es clock) := hw.trans (heapSame hb _)
      have hlist : (es.modify j (fun e' => { e' with val := val })).toList = es.toList.set j { e0 with val := val } := by rw [Array.toList_modify, modify_eq_set _ _ _ _ h2]
      refine ⟨setBlock w2 b (.map (es.modify j (fun e' => { e' with val := val })) clock), ?_, ⟨_, _, heapSame hw2 _, ?_, stamped_modify hst _ _ (fun _ _ => rfl) (fun _ _ _ => rfl), ?_⟩, grown_setBlock hw2 _⟩
      · have hidx : es.findIdx? (fun e => ((e.born : Nat) : Int) == ((e0.born : Nat) : Int)) = some j := by
          rw [findIdx_arr]
          exact findIdx_born s2 h2
        simp [Instr.entryStore, MapKept.run_getObj_map hw2, asInt, asIntOf, goInt, hidx, MapKept.run_setObj_map _ hw2, Result.andThen, setBlock]
      · rw [hlist, List.map_set, he, hjm]
        simp [h3]
      · intro p hp
        rcases List.mem_append.1 hp with hp | hp
        · exact hk p (by simp [hp])
        · rcases List.mem_cons.1 hp with rfl | hp
          · exact ⟨kl, hkl⟩
          · exact hk p (by simp [hp])
end
section
variable {P : Program} {w : World} {ops : Array Oper} {rest : List Oper} {o : Oper} {a : Act} {Q : Exit → Act → World → Prop}
/-- append(s, x) of one element, which lies in a block of its own. -/
theorem wpList_app1w {t e : TypeId} {sz bytes : Nat} (T : AppTy P t e sz bytes) (hgd : o.guard = none) (s x : Operand)
    (ho : o.op = .call { callee := .builtin .append, args := #[s, x], argTypes := #[t, t] }) (base : Nat) (v : Value) (n : Nat) (xs : List Value) (hs : a.eval s = v) (src : Addr) (news : List Value)
    (hx : a.eval x = .slice (some src) 1 1) (hl : news.length = sz) (hnews : ∀ (j : Nat) u, news[j]? = some u → w.cell? (src.add j) = some u) (h1 : ∀ u ∈ news, u.oneCell' = true) (hown : w.ownsRow base e sz v n xs) (hn : n < 1099511627775) (hbase : base ≤ w.heap.size)
    (h : ∀ v' w', w'.ownsRow base e sz v' (n + 1) (xs ++ news) → w.grownBy w' v.ownBlock → v' ≠ .slice none 0 0 → (∀ k, v'.ownBlock = some k → v.ownBlock = some k ∨ w.heap.size ≤ k) → wpList P ops Q rest (a.put o.dst v') w') : wpList P ops Q (o :: rest) a w := by
  obtain ⟨ht, ⟨i, z, h11, h12, h13, h14, h15⟩, hpos, hsm⟩ := T
  have h63 : n + 1 ≤ maxLen := by unfold maxLen; omega
  have hby : (n + 1) * bytes ≤ 140737488355328 := by
    have : (n + 1) * bytes ≤ 1099511627775 * 128 := Nat.mul_le_mul (by omega) hsm
    omega
  have hl1 : news.length = 1 * sz := by rw [hl, Nat.one_mul]
  obtain ⟨v', w', hr, h2, hg, hv⟩ := run_append_own (P := P) w base t o.type e i z sz bytes ht h11 h12 h13 h14 h15 hpos v n xs hown src 1 1 news hl1 hnews h1 h63 hby hbase
  have hpl := run_append_place (P := P) w base t o.type e i z sz bytes ht h11 h12 h13 h14 h15 v n xs hown src 1 1 news hl1 (by omega) hnews h1 h63 hby hr
  refine wpList_plain hgd fun K hK => ?_
  unfold Oper.wp execOp
  simp only [ho, resolve, invoke, builtin, Sem.run_bind, Sem.run_pure, Result.andThen_ok, List.map_toArray, List.map_cons, List.map_nil, hs, hx, hr]
  refine hK _ _ (h v' w' h2 hg (fun e => by have := (hv.1 e).2; omega) ?_)
  intro k hk
  rcases hpl with hp | hp
  · left; rw [← hp]; exact hk
  · right; rw [hp] at hk; cases hk; exact Nat.le_refl _
end
end Go.Proofs.YtdieneaillkbgaaGreatDoor

/- A list of changes in new memory. -/
namespace Go.Proofs.YtdieneaillkbgaaGreatDoor
open Go.RowKit Go.Maps
theorem Tryz.appChgs : AppTy Tryz.prog 25 58 9 120 := AppTy.mk' (z := .agg #[.int .i64 0, .string ByteArray.empty, .string ByteArray.empty, .string ByteArray.empty, .int .i64 0, .int .i64 0, .int .i64 0, .slice none 0 0, .string ByteArray.empty]) Tryz.underlying25 (by kernel_rfl) rfl (by decide) (by decide)
abbrev VChg := Value × Chg
def encC (y : VChg) : List Value := chgC y.1 y.2
def chgsC (ys : List VChg) : List Value := ys.flatMap encC
theorem chgsC_snoc (ys : List VChg) (y : VChg) : chgsC (ys ++ [y]) = chgsC ys ++ encC y := by simp [chgsC]
theorem chgC_one {a : Option Addr} {n c : Nat} {e : Chg} : ∀ u ∈ chgC (.slice a n c) e, u.oneCell' = true := by
  intro u hu
  simp only [chgC, List.mem_cons, List.not_mem_nil, or_false] at hu
  rcases hu with rfl | rfl | rfl | rfl | rfl | rfl | rfl | rfl | rfl <;> rfl
structure GotC (B : Nat) (w : World) (v : Value) (ys : List VChg) : Prop where
  row : w.ownsRow B 58 9 v ys.length (chgsC ys)
  dat : ∀ y ∈ ys, DataAt (FreeB B w v) w y.1 y.2.en.data ∧ ChgOk y.2
theorem GotC.nil (B : Nat) (w : World) : GotC B w (.slice none 0 0) [] := ⟨World.ownsRow_nil _ _ _ _, by simp⟩
theorem GotC.below {B : Nat} {w w' : World} {v : Value} {ys : List VChg} (h : GotC B w v ys) (hb : Below w.heap.size w w') : GotC B w' v ys := by
  exact ⟨own_below h.row hb, fun y hy => ⟨data_mono ((h.dat y hy).1.below hb) (fun k hk => ⟨hk.1, Nat.lt_of_lt_of_le hk.2.1 hb.size, hk.2.2⟩), (h.dat y hy).2⟩⟩
/-- A block that holds no cells has turned. -/
theorem data_turn {S : Nat → Prop} {w w' : World} {v : Value} {bs : List UInt8} {nb : Nat} (h : DataAt S w v bs) (hg : w.grownBy w' (some nb)) (ho : ∃ o : Obj, w.heap[nb]? = some o ∧ o.isCells = false) : DataAt S w' v bs := by
  obtain ⟨hl, a, cap, hv, hn, hm, h0⟩ := h
  refine ⟨hl, a, cap, hv, hn, hm, ?_⟩
  rcases h0 with h0 | ⟨b, o, ha, hb, hc⟩
  · exact .inl h0
  · refine .inr ⟨b, o, ha, hb, fun j u hj => ?_⟩
    have h1 := hc j u hj
    refine (hg.cell h1 fun e => ?_).trans rfl
    simp only [Option.some.injEq] at e
    subst e
    obtain ⟨o', ho', hc'⟩ := ho
    unfold World.cell? at h1
    rw [ho'] at h1
    cases o' <;> first | (simp at h1; done) | (simp [Obj.isCells] at hc')
theorem GotC.turn {B : Nat} {w w' : World} {v : Value} {ys : List VChg} {nb : Nat} (h : GotC B w v ys) (hg : w.grownBy w' (some nb)) (ho : ∃ o : Obj, w.heap[nb]? = some o ∧ o.isCells = false) : GotC B w' v ys := by
  refine ⟨own_turn h.row hg (fun r e => by cases e; exact ho), fun y hy => ⟨data_mono (data_turn (h.dat y hy).1 hg ho) (fun k hk => ⟨hk.1, Nat.lt_of_lt_of_le hk.2.1 hg.size, hk.2.2⟩), (h.dat y hy).2⟩⟩
/-- One more change, whose data lie in new blocks. -/
theorem GotC.push {B : Nat} {w1 w2 : World} {v v' : Value} {ys : List VChg} (h : GotC B w1 v ys) {y : VChg} (hd : DataAt (FreeB B w1 v) w1 y.1 y.2.en.data) (hok : ChgOk y.2)
    (hown : w2.ownsRow B 58 9 v' (ys.length + 1) (chgsC ys ++ encC y)) (hg : w1.grownBy w2 v.ownBlock) (hpl : ∀ k, v'.ownBlock = some k → v.ownBlock = some k ∨ w1.heap.size ≤ k) : GotC B w2 v' (ys ++ [y]) := by
  have key : ∀ z : VChg, DataAt (FreeB B w1 v) w1 z.1 z.2.en.data → DataAt (FreeB B w2 v') w2 z.1 z.2.en.data := by
    intro z hz
    have h3 := RowAt.same (w' := w2) (RowAt.mono (T := fun k => FreeB B w1 v k ∧ k < w1.heap.size) hz (fun k hk hS => ⟨hS, hk⟩) (by omega)) (fun k hk => hg.block k hk.2 hk.1.2.2)
    refine RowAt.mono h3 (fun k hk hS => ⟨hS.1.1, hk, fun e => ?_⟩) (by omega)
    rcases hpl k e.symm with h5 | h5
    · exact hS.1.2.2 h5.symm
    · have := hS.2; omega
  refine ⟨by rw [List.length_append, List.length_singleton, chgsC_snoc]; exact hown, fun z hz => ?_⟩
  rcases List.mem_append.1 hz with hz | hz
  · exact ⟨key z (h.dat z hz).1, (h.dat z hz).2⟩
  · rw [List.mem_singleton] at hz
    subst hz
    exact ⟨key z hd, hok⟩
theorem GotC.le {B B' : Nat} {w : World} {v : Value} {ys : List VChg} (h : GotC B w v ys) (hB : B' ≤ B) : GotC B' w v ys :=
  ⟨owns_le20 h.row hB, fun y hy => ⟨data_mono (h.dat y hy).1 (fun _k hk => ⟨Nat.le_trans hB hk.1, hk.2⟩), (h.dat y hy).2⟩⟩
theorem chgsC_in {S : Nat → Prop} {w : World} : ∀ {ys : List VChg}, (∀ y ∈ ys, DataAt S w y.1 y.2.en.data ∧ ChgOk y.2) → RowsIn (ChgR S w) (chgsC ys) (ys.map Prod.snd)
  | [], _ => rfl
  | y :: ys, h => ⟨encC y, chgsC ys, rfl, ⟨y.1, rfl, (h y (List.mem_cons_self ..)).1, (h y (List.mem_cons_self ..)).2⟩, chgsC_in fun z hz => h z (List.mem_cons_of_mem _ hz)⟩
theorem GotC.seq {B : Nat} {w : World} {v : Value} {ys : List VChg} (h : GotC B w v ys) : ChgsAt (fun k => B ≤ k ∧ k < w.heap.size) w v (ys.map Prod.snd) := by
  refine ⟨chgsC ys, ?_, chgsC_in (fun y hy => ⟨data_mono (h.dat y hy).1 (fun k hk => ⟨hk.1, hk.2.1⟩), (h.dat y hy).2⟩)⟩
  rw [List.length_map]
  exact RowAt.mono (row_of_owns h.row) (fun k hk hS => ⟨hS.1, hk⟩) (by omega)
end Go.Proofs.YtdieneaillkbgaaGreatDoor

/- Names by content, in plain words and in memory. -/
namespace Go.Proofs.YtdieneaillkbgaaGreatDoor
open Go Go.RowKit Go.Maps
/- Plain: the names of what goes, by content. -/
abbrev Nms := Int × ByteArray → List ByteArray
def namesG (G : List Ent) : Nms := fun c => (G.filter fun g => movB g && decide (contE g = c)).map Ent.path
theorem names_snoc (G : List Ent) (e : Ent) (c : Int × ByteArray) : namesG (G ++ [e]) c = namesG G c ++ (if (movB e && decide (contE e = c)) = true then [e.path] else []) := by
  unfold namesG
  rw [List.filter_append, List.map_append]
  congr 1
  by_cases h : (movB e && decide (contE e = c)) = true
  · rw [if_pos h, List.filter_cons_of_pos (p := fun g => movB g && decide (contE g = c)) h]; rfl
  · rw [if_neg h, List.filter_cons_of_neg (p := fun g => movB g && decide (contE g = c)) h]; rfl
theorem ent_link {e : Ent} (h : vEnt e = true) (hk : e.kind = 1) : e.link = ⟨#[]⟩ := by
  unfold vEnt vKind at h
  simp only [hk, Bool.and_eq_true, if_true, decide_eq_true_eq] at h
  have := h.2.2
  exact bl_inj (by rw [size_zero.1 this]; rfl)
theorem bytes_inj {a b : List UInt8} (h : (⟨a.toArray⟩ : ByteArray) = ⟨b.toArray⟩) : a = b := by
  have := congrArg bl h
  rwa [bl_of, bl_of] at this
/-- Alike is: of equal content. -/
theorem alike_cont {g y : Ent} (hg : vEnt g = true) (hy : vEnt y = true) (hm : movB y = true) : alikeE g y = true ↔ movB g = true ∧ contE g = contE y := by
  have h2 : ¬ (0 < g.data.length ∧ g.kind ≠ 1) := fun h => by have := data_file hg h.2; omega
  have h3 : ¬ (0 < y.data.length ∧ y.kind ≠ 1) := fun h => by have := data_file hy h.2; omega
  have e1 : g.kind = 1 → g.link = ⟨#[]⟩ := ent_link hg
  have e2 : y.kind = 1 → y.link = ⟨#[]⟩ := ent_link hy
  have hz : ∀ l : List UInt8, ¬ 0 < l.length → l = [] := fun l h => List.eq_nil_of_length_eq_zero (by omega)
  unfold movB at hm
  simp only [Bool.or_eq_true, Bool.and_eq_true, decide_eq_true_eq] at hm
  unfold alikeE movB contE
  simp only [Bool.or_eq_true, Bool.and_eq_true, decide_eq_true_eq]
  rcases hm with ⟨hm1, hm2⟩ | hm
  · rw [if_pos (show y.kind = 1 ∧ 0 < y.data.length from ⟨hm1, hm2⟩)]
    constructor
    · rintro ⟨h4, h5, h6⟩
      have hk : g.kind = 1 := h4.trans hm1
      have hl : 0 < g.data.length := by rw [h5]; exact hm2
      exact ⟨Or.inl ⟨hk, hl⟩, by rw [if_pos ⟨hk, hl⟩, h5]⟩
    · rintro ⟨h4, h5⟩
      by_cases hgk : g.kind = 1 ∧ 0 < g.data.length
      · rw [if_pos hgk] at h5
        exact ⟨hgk.1.trans hm1.symm, bytes_inj (Prod.mk.inj h5).2, by rw [e1 hgk.1, e2 hm1]⟩
      · rw [if_neg hgk] at h5
        rcases h4 with h4 | h4
        · exact absurd h4 hgk
        · rw [if_pos h4] at h5
          have := (Prod.mk.inj h5).1; omega
  · have hyd : y.data = [] := hz _ fun h => h3 ⟨h, by omega⟩
    rw [if_neg (show ¬ (y.kind = 1 ∧ 0 < y.data.length) by omega), if_pos hm]
    constructor
    · rintro ⟨h4, h5, h6⟩
      have hk : g.kind = 3 := h4.trans hm
      exact ⟨Or.inr hk, by rw [if_neg (by omega), if_pos hk, h6]⟩
    · rintro ⟨h4, h5⟩
      rcases h4 with h4 | h4
      · rw [if_pos h4] at h5
        have := (Prod.mk.inj h5).1; omega
      · rw [if_neg (by omega), if_pos h4] at h5
        refine ⟨by omega, ?_, (Prod.mk.inj h5).2⟩
        rw [hyd]
        exact hz _ fun h => h2 ⟨h, by omega⟩
theorem mate_names {R : List Ent} {y : Ent} (hR : ∀ g ∈ R, vEnt g = true) (hy : vEnt y = true) (hm : movB y = true) : (mateE R y).map Ent.path = (namesG R (contE y)).head? := by
  unfold mateE namesG
  rw [if_pos hm, List.head?_map, List.head?_filter]
  congr 1
  induction R with
  | nil => rfl
  | cons g R ih =>
    have ih := ih fun x hx => hR x (List.mem_cons_of_mem _ hx)
    have h1 := alike_cont (hR g (List.mem_cons_self ..)) hy hm
    by_cases h : alikeE g y = true
    · rw [List.find?_cons_of_pos (p := fun g => alikeE g y) h, List.find?_cons_of_pos (p := fun g => movB g && decide (contE g = contE y)) (by rw [Bool.and_eq_true, decide_eq_true_eq]; exact h1.1 h)]
    · rw [List.find?_cons_of_neg (p := fun g => alikeE g y) h, List.find?_cons_of_neg (p := fun g => movB g && decide (contE g = contE y)) (by rw [Bool.and_eq_true, decide_eq_true_eq]; exact fun hc => h (h1.2 hc)), ih]
/-- The first of the names has been taken. -/
theorem names_drop {R : List Ent} {y g : Ent} (hn : (R.map Ent.path).Nodup) (hR : ∀ g ∈ R, vEnt g = true) (hy : vEnt y = true) (hm : mateE R y = some g) (c : Int × ByteArray) :
    namesG (dropE R g.path) c = if c = contE y then (namesG R (contE y)).tail else namesG R c := by
  obtain ⟨hgR, hmv, hal⟩ := mate_some hm
  obtain ⟨hgm, hgc⟩ := (alike_cont (hR g hgR) hy hmv).1 hal
  have hhead := mate_names hR hy hmv
  rw [hm] at hhead
  have hflt : namesG (dropE R g.path) c = (namesG R c).filter fun p => decide (p ≠ g.path) := by
    unfold namesG dropE
    rw [List.filter_map, List.filter_filter, List.filter_filter]
    congr 1
    apply List.filter_congr
    intro x _
    exact Bool.and_comm _ _
  have hnd : (namesG R c).Nodup := hn.sublist (List.filter_sublist.map _)
  rw [hflt]
  by_cases hc : c = contE y
  · subst hc
    rw [if_pos rfl]
    cases hN : namesG R (contE y) with
    | nil => rw [hN] at hhead; cases hhead
    | cons p ps =>
      rw [hN] at hhead hnd
      simp only [Option.map_some, List.head?_cons, Option.some.injEq] at hhead
      rw [← hhead] at hnd ⊢
      rw [List.filter_cons_of_neg (by simp), List.tail_cons]
      refine List.filter_eq_self.2 fun q hq => ?_
      simp only [decide_eq_true_eq]
      exact fun e => (List.nodup_cons.1 hnd).1 (e ▸ hq)
  · rw [if_neg hc]
    refine List.filter_eq_self.2 fun q hq => ?_
    simp only [decide_eq_true_eq]
    rintro rfl
    unfold namesG at hq
    obtain ⟨x, hx, hxp⟩ := List.mem_map.1 hq
    obtain ⟨hxR, hxc⟩ := List.mem_filter.1 hx
    have : x = g := by
      have h1 := findE_mem hn hxR
      rw [hxp, findE_mem hn hgR] at h1
      cases h1; rfl
    subst this
    rw [Bool.and_eq_true, decide_eq_true_eq] at hxc
    exact hc (hxc.2.symm.trans hgc)
/- In memory. -/
structure Src where
  c : Int × ByteArray
  v : Value
  ps : List ByteArray
def srcP (x : Src) : Value × Value := (contV x.c.1 x.c.2, x.v)
theorem contV_inj {c d : Int × ByteArray} (h : contV c.1 c.2 = contV d.1 d.2) : c = d := by
  obtain ⟨a, b⟩ := c
  obtain ⟨a', b'⟩ := d
  simp only [contV, Value.agg.injEq, Array.mk.injEq, List.cons.injEq, Value.string.injEq, Value.int.injEq, true_and, and_true] at h
  rw [h.1, h.2]
theorem rowCont : (108 : TypeId) < Tryz.prog.types.size := of_decide_eq_true (by kernel_rfl)
theorem cellsCont : Tryz.prog.cellsOf 108 = 2 := by kernel_rfl
theorem deepCont : Tryz.prog.keyTypeAt 2 108 = true := by kernel_rfl
theorem keyTypeCont : Tryz.prog.keyType 108 = true := by kernel_rfl
theorem laidOut23 : laidOutB Tryz.prog = true := by kernel_rfl
theorem lawCont : Keyed Tryz.prog 108 := Keyed.of_law (deep_law_laid laidOut23 (m := 2) (by omega) rowCont deepCont (by rw [Tryz.underlying108]))
theorem sizeCont : ∃ n, Tryz.prog.types.size + 1 = n + 3 := ⟨Tryz.prog.types.size - 2, by have : 2 ≤ Tryz.prog.types.size := of_decide_eq_true (by kernel_rfl); omega⟩
theorem keyCont {k : Int} {s : ByteArray} (h1 : s.size ≤ maxLen) (h2 : (Lit.int .i64 k).wf = true) : ∃ l, keyOf Tryz.prog 108 (contV k s) = some l := by
  have c1 : Tryz.prog.cellsOf 9 = 1 := by kernel_rfl
  have c2 : Tryz.prog.cellsOf 3 = 1 := by kernel_rfl
  have hl : ∃ ls, Tryz.prog.keyLits (Tryz.prog.types.size + 1) 108 [.int .i64 k, .string s] = some ls := by
    obtain ⟨n, hn⟩ := sizeCont
    rw [hn]
    simp [Program.keyLits, Tryz.underlying108, Tryz.underlying9, Tryz.underlying3, cellsCont, c1, c2, h1, h2]
  obtain ⟨ls, hls⟩ := hl
  refine ⟨.string (keyBytes ls), ?_⟩
  have hf : (contV k s).formed Tryz.prog 108 = true := by simp [contV, Value.formed, Tryz.underlying108, cellsCont]
  have hc : (contV k s).cells.toList = [.int .i64 k, .string s] := rfl
  unfold keyOf
  rw [Tryz.underlying108]
  simp only [keyTypeCont, hf, hc, hls, Bool.and_self, if_true, Option.map_some]
end Go.Proofs.YtdieneaillkbgaaGreatDoor

/- Names by content in memory: a map from contents to slices of names. -/
namespace Go.Proofs.YtdieneaillkbgaaGreatDoor
open Go Go.RowKit Go.Maps
theorem contTy : Tryz.prog.underlying 106 = some (.map 108 34) := Tryz.underlying106
theorem zeroStrs (u : World) : (zeroValue 34).run Tryz.prog u = .ok (.slice none 0 0) u := by kernel_rfl
theorem src_new {xs : List Src} {c : Int × ByteArray} (h : ∀ x ∈ xs, x.c ≠ c) : ∀ p ∈ xs.map srcP, p.1 ≠ contV c.1 c.2 := by
  intro p hp
  obtain ⟨x, hx, rfl⟩ := List.mem_map.1 hp
  exact fun e => h x hx (contV_inj e)
theorem src_dec (xs : List Src) (c : Int × ByteArray) : (∀ x ∈ xs, x.c ≠ c) ∨ ∃ a x b, xs = a ++ x :: b ∧ x.c = c := by
  cases h : xs.find? (fun x => decide (x.c = c)) with
  | none => exact Or.inl fun x hx => by simpa using List.find?_eq_none.1 h x hx
  | some x =>
    obtain ⟨a, b, rfl⟩ := List.append_of_mem (List.mem_of_find?_eq_some h)
    exact Or.inr ⟨a, x, b, rfl, by simpa using List.find?_some h⟩
theorem src_nodup {k : TypeId} {w : World} {sb : Nat} {a b : List Src} {x : Src} (h : MapS Tryz.prog k w sb ((a ++ x :: b).map srcP)) : ∀ y, y ∈ a ∨ y ∈ b → y.c ≠ x.c := by
  have hn := h.nodup
  rw [List.map_map, List.map_append, List.map_cons] at hn
  obtain ⟨_, h2, h3⟩ := List.nodup_append.1 hn
  rintro y (hy | hy) e
  · exact h3 _ (List.mem_map_of_mem hy) _ (List.mem_cons_self ..) (by simp [srcP, e])
  · exact (List.nodup_cons.1 h2).1 (List.mem_map.2 ⟨y, hy, by simp [srcP, e]⟩)
/-- The rows of names belong to the call. -/
structure SrcL (B : Nat) (w : World) (sb : Nat) (N : Nms) (xs : List Src) : Prop where
  map : MapS Tryz.prog 108 w sb (xs.map srcP)
  row : ∀ x ∈ xs, w.ownsRow B 9 1 x.v x.ps.length (x.ps.map Value.string)
  apart : ∀ x ∈ xs, ∀ y ∈ xs, x.c ≠ y.c → x.v.ownBlock = none ∨ x.v.ownBlock ≠ y.v.ownBlock
  lk : ∀ x ∈ xs, N x.c = x.ps
  no : ∀ c, (∀ x ∈ xs, x.c ≠ c) → N c = []
def SrcO (B : Nat) (w : World) (sb : Nat) (N : Nms) : Prop := ∃ xs, SrcL B w sb N xs
section
variable {B : Nat} {w w' : World} {sb : Nat} {N : Nms}
theorem SrcO.made (B : Nat) (w : World) : SrcO B (w.alloc (.map #[] 0)) w.heap.size (fun _ => []) := ⟨[], MapS.made w, by simp, by simp, by simp, by simp⟩
theorem SrcO.lt (h : SrcO B w sb N) : sb < w.heap.size := by obtain ⟨_, h⟩ := h; exact h.map.lt
theorem SrcO.below (h : SrcO B w sb N) (hb : Below w.heap.size w w') : SrcO B w' sb N := by
  obtain ⟨xs, h⟩ := h
  exact ⟨xs, h.map.same (hb.block sb h.map.lt), fun x hx => own_below (h.row x hx) hb, h.apart, h.lk, h.no⟩
theorem map_obj {k : TypeId} {m : List (Value × Value)} (h : MapS Tryz.prog k w sb m) : ∃ o : Obj, w.heap[sb]? = some o ∧ o.isCells = false := by
  obtain ⟨es, clock, hb, _⟩ := h
  exact ⟨_, hb, rfl⟩
/-- Another map has turned. -/
theorem SrcO.other {nb : Nat} (h : SrcO B w sb N) (hg : w.grownBy w' (some nb)) (hne : sb ≠ nb) (ho : ∃ o : Obj, w.heap[nb]? = some o ∧ o.isCells = false) : SrcO B w' sb N := by
  obtain ⟨xs, h⟩ := h
  exact ⟨xs, h.map.same (hg.block sb h.map.lt fun e => hne (Option.some.inj e)), fun x hx => own_turn (h.row x hx) hg (fun r e => by cases e; exact ho), h.apart, h.lk, h.no⟩
theorem own_ne_map {k : TypeId} {m : List (Value × Value)} {v : Value} {n : Nat} {ys : List Value} (hm : MapS Tryz.prog k w sb m) (ho : w.ownsRow B 9 1 v n ys) : some sb ≠ v.ownBlock := by
  intro e
  obtain ⟨cur, hc⟩ := own_block ho e.symm
  obtain ⟨es, clock, hb, _⟩ := hm
  rw [hb] at hc; cases hc
theorem own_old {v : Value} {n : Nat} {ys : List Value} (ho : w.ownsRow B 9 1 v n ys) : ∀ k, v.ownBlock = some k → k < w.heap.size := fun _k hk => (own_lt ho hk).2
/-- sources[c] = append(sources[c], p), in its two halves. -/
theorem SrcO.entry (h : SrcO B w sb N) {c : Int × ByteArray} (hs : c.2.size ≤ maxLen) (hk : (Lit.int .i64 c.1).wf = true) :
    ∃ (st : Nat) (v0 : Value) (w1 : World), (Instr.mapEntry 106 (.map (some sb)) (contV c.1 c.2)).run Tryz.prog w = .ok (.tuple #[v0, goInt st]) w1 ∧ w.grownBy w1 (some sb) ∧ w1.heap.size = w.heap.size ∧
      w1.ownsRow B 9 1 v0 (N c).length ((N c).map Value.string) ∧
      ∀ (w2 : World) (v' : Value) (p : ByteArray), w1.grownBy w2 v0.ownBlock → w2.ownsRow B 9 1 v' ((N c).length + 1) ((N c).map Value.string ++ [.string p]) → (∀ k, v'.ownBlock = some k → v0.ownBlock = some k ∨ w1.heap.size ≤ k) →
        ∃ w3, (Instr.entryStore 106 (.map (some sb)) (goInt st) v').run Tryz.prog w2 = .ok () w3 ∧ SrcO B w3 sb (fun d => if d = c then N c ++ [p] else N d) ∧ w2.grownBy w3 (some sb) := by
  obtain ⟨xs, h⟩ := h
  have ho := map_obj h.map
  rcases src_dec xs c with hn | ⟨a, x, b, rfl, rfl⟩
  · have hN : N c = [] := h.no c hn
    obtain ⟨st, w1, h1, h2, h3, ho1, h4⟩ := h.map.entryNew lawCont contTy zeroStrs (keyCont hs hk) (src_new hn)
    refine ⟨st, _, w1, h1, h2, h3, by rw [hN]; exact World.ownsRow_nil _ _ _ _, fun w2 v' p hg hrow hpl => ?_⟩
    rw [hN] at hrow
    have hm1 : w2.heap[sb]? = w1.heap[sb]? := hg.block sb (by rw [h3]; exact h.map.lt) (by simp [Value.ownBlock])
    obtain ⟨w3, h5, h6, h7⟩ := h4 w2 v' hm1
    have ho2 : ∃ o : Obj, w2.heap[sb]? = some o ∧ o.isCells = false := by rw [hm1]; exact ho1
    have hr1 : ∀ y ∈ xs, w1.ownsRow B 9 1 y.v y.ps.length (y.ps.map Value.string) := fun y hy => own_turn (h.row y hy) h2 (fun r e => by cases e; exact ho)
    have hr3 : ∀ y ∈ xs, w3.ownsRow B 9 1 y.v y.ps.length (y.ps.map Value.string) := fun y hy => by
      refine own_turn ((hr1 y hy).kept hg ?_) h7 (fun r e => by cases e; exact ho2)
      cases y.v.ownBlock with
      | none => exact .inl rfl
      | some k => exact .inr (by simp [Value.ownBlock])
    have hap : ∀ y ∈ xs, v'.ownBlock = none ∨ v'.ownBlock ≠ y.v.ownBlock := fun y hy => by
      cases hv : v'.ownBlock with
      | none => exact .inl rfl
      | some k =>
        refine .inr fun e => ?_
        rcases hpl k hv with h8 | h8
        · simp [Value.ownBlock] at h8
        · have := own_old (hr1 y hy) k e.symm; omega
    refine ⟨w3, h5, ⟨xs ++ [⟨c, v', [p]⟩], by rw [List.map_append]; exact h6, fun y hy => ?_, fun y hy z hz hne => ?_, fun y hy => ?_, fun d hd => ?_⟩, h7⟩
    · rcases List.mem_append.1 hy with hy | hy
      · exact hr3 y hy
      · rw [List.mem_singleton.1 hy]
        exact own_turn hrow h7 (fun r e => by cases e; exact ho2)
    · rcases List.mem_append.1 hy with hy | hy <;> rcases List.mem_append.1 hz with hz | hz
      · exact h.apart y hy z hz hne
      · rw [List.mem_singleton.1 hz]
        rcases hap y hy with h8 | h8
        · show y.v.ownBlock = none ∨ y.v.ownBlock ≠ v'.ownBlock
          rw [h8]
          cases y.v.ownBlock with
          | none => exact .inl rfl
          | some k => exact .inr (by simp)
        · exact .inr (Ne.symm h8)
      · rw [List.mem_singleton.1 hy]
        exact hap z hz
      · rw [List.mem_singleton.1 hy, List.mem_singleton.1 hz] at hne
        exact absurd rfl hne
    · rcases List.mem_append.1 hy with hy | hy
      · rw [if_neg (hn y hy)]; exact h.lk y hy
      · rw [List.mem_singleton.1 hy, if_pos rfl, hN]; rfl
    · have hdc : d ≠ c := fun e => hd _ (List.mem_append_right _ (List.mem_singleton.2 rfl)) e.symm
      rw [if_neg hdc]
      exact h.no d fun y hy => hd y (List.mem_append_left _ hy)
  · have hmx : x ∈ a ++ x :: b := by simp
    have hN : N x.c = x.ps := h.lk x hmx
    have hne := src_nodup h.map
    have hmap := h.map
    rw [List.map_append, List.map_cons] at hmap
    obtain ⟨st, w1, h1, h2, h3, ho1, h4⟩ := MapS.entryOld (key := contV x.c.1 x.c.2) (old := x.v) hmap lawCont contTy
    have hr1 : ∀ y ∈ a ++ x :: b, w1.ownsRow B 9 1 y.v y.ps.length (y.ps.map Value.string) := fun y hy => own_turn (h.row y hy) h2 (fun r e => by cases e; exact ho)
    refine ⟨st, x.v, w1, h1, h2, h3, by rw [hN]; exact hr1 x hmx, fun w2 v' p hg hrow hpl => ?_⟩
    rw [hN] at hrow ⊢
    have hnb : some sb ≠ x.v.ownBlock := own_ne_map h.map (h.row x hmx)
    have hm1 : w2.heap[sb]? = w1.heap[sb]? := hg.block sb (by rw [h3]; exact h.map.lt) hnb
    obtain ⟨w3, h5, h6, h7⟩ := h4 w2 v' hm1
    have ho2 : ∃ o : Obj, w2.heap[sb]? = some o ∧ o.isCells = false := by rw [hm1]; exact ho1
    have hin : ∀ y, y ∈ a ∨ y ∈ b → y ∈ a ++ x :: b := by
      rintro y (hy | hy) <;> simp [hy]
    have hr3 : ∀ y, y ∈ a ∨ y ∈ b → w3.ownsRow B 9 1 y.v y.ps.length (y.ps.map Value.string) := fun y hy =>
      own_turn ((hr1 y (hin y hy)).kept hg (h.apart y (hin y hy) x hmx (hne y hy))) h7 (fun r e => by cases e; exact ho2)
    have hap : ∀ y, y ∈ a ∨ y ∈ b → v'.ownBlock = none ∨ v'.ownBlock ≠ y.v.ownBlock := fun y hy => by
      cases hv : v'.ownBlock with
      | none => exact .inl rfl
      | some k =>
        refine .inr fun e => ?_
        rcases hpl k hv with h8 | h8
        · rcases h.apart y (hin y hy) x hmx (hne y hy) with h9 | h9
          · rw [h9] at e; cases e
          · exact h9 (e.symm.trans h8.symm)
        · have := own_old (hr1 y (hin y hy)) k e.symm; omega
    have hsp : ∀ y, y ∈ a ++ (⟨x.c, v', x.ps ++ [p]⟩ : Src) :: b → y = ⟨x.c, v', x.ps ++ [p]⟩ ∨ y ∈ a ∨ y ∈ b := by
      intro y hy
      rcases List.mem_append.1 hy with hy | hy
      · exact .inr (.inl hy)
      · rcases List.mem_cons.1 hy with hy | hy
        · exact .inl hy
        · exact .inr (.inr hy)
    refine ⟨w3, h5, ⟨a ++ ⟨x.c, v', x.ps ++ [p]⟩ :: b, by rw [List.map_append, List.map_cons]; exact h6, fun y hy => ?_, fun y hy z hz hyz => ?_, fun y hy => ?_, fun d hd => ?_⟩, h7⟩
    · rcases hsp y hy with rfl | hy
      · have := own_turn hrow h7 (fun r e => by cases e; exact ho2)
        rw [List.length_append, List.length_singleton, List.map_append]
        exact this
      · exact hr3 y hy
    · rcases hsp y hy with rfl | hy <;> rcases hsp z hz with rfl | hz
      · exact absurd rfl hyz
      · exact hap z hz
      · rcases hap y hy with h8 | h8
        · show y.v.ownBlock = none ∨ y.v.ownBlock ≠ v'.ownBlock
          rw [h8]
          cases y.v.ownBlock with
          | none => exact .inl rfl
          | some k => exact .inr (by simp)
        · exact .inr (Ne.symm h8)
      · exact h.apart y (hin y hy) z (hin z hz) hyz
    · rcases hsp y hy with rfl | hy
      · rw [if_pos rfl]
      · rw [if_neg (hne y hy)]; exact h.lk y (hin y hy)
    · have hdc : d ≠ x.c := fun e => hd ⟨x.c, v', x.ps ++ [p]⟩ (by simp) e.symm
      rw [if_neg hdc]
      refine h.no d fun y hy => ?_
      rcases List.mem_append.1 hy with hy | hy
      · exact hd y (by simp [hy])
      · rcases List.mem_cons.1 hy with rfl | hy
        · exact Ne.symm hdc
        · exact hd y (by simp [hy])
end
/- The rows of names are read alone. -/
structure SrcR (T : Nat → Prop) (w : World) (sb : Nat) (N : Nms) (xs : List Src) : Prop where
  map : MapS Tryz.prog 108 w sb (xs.map srcP)
  row : ∀ x ∈ xs, RowAt T w 1 x.v x.ps.length (x.ps.map Value.string)
  lk : ∀ x ∈ xs, N x.c = x.ps
  no : ∀ c, (∀ x ∈ xs, x.c ≠ c) → N c = []
def SrcT (T : Nat → Prop) (w : World) (sb : Nat) (N : Nms) : Prop := ∃ xs, SrcR T w sb N xs
/-- Blocks of names. -/
def StrB (B : Nat) (w : World) (k : Nat) : Prop := B ≤ k ∧ k < w.heap.size ∧ ∃ cs, w.heap[k]? = some (.cells cs 9 (0, 0))
section
variable {B : Nat} {T : Nat → Prop} {w w' : World} {sb : Nat} {N : Nms}
theorem SrcO.read (h : SrcO B w sb N) : SrcT (StrB B w) w sb N := by
  obtain ⟨xs, h⟩ := h
  refine ⟨xs, h.map, fun x hx => RowAt.weak (row_of_owns (h.row x hx)) fun k hk => ?_, h.lk, h.no⟩
  obtain ⟨cur, hc⟩ := own_block (h.row x hx) hk.2
  exact ⟨hk.1, (Array.getElem?_eq_some_iff.1 hc).1, cur, hc⟩
theorem SrcT.lt (h : SrcT T w sb N) : sb < w.heap.size := by obtain ⟨_, h⟩ := h; exact h.map.lt
theorem SrcT.below (h : SrcT T w sb N) (hb : Below w.heap.size w w') : SrcT T w' sb N := by
  obtain ⟨xs, h⟩ := h
  exact ⟨xs, h.map.same (hb.block sb h.map.lt), fun x hx => RowAt.below (h.row x hx) (by omega) hb, h.lk, h.no⟩
theorem row_turn {nb : Nat} {v : Value} {n : Nat} {cs : List Value} (h : RowAt T w 1 v n cs) (hg : w.grownBy w' (some nb)) (hf : ¬ T nb) : RowAt T w' 1 v n cs := by
  have h2 := RowAt.mono (T := fun k => T k ∧ k < w.heap.size) h (fun k hk hS => ⟨hS, hk⟩) (by omega)
  have h3 := h2.same (w' := w') (fun k hk => hg.block k hk.2 (fun e => hf (by cases e; exact hk.1)))
  exact RowAt.weak h3 (fun k hk => hk.1)
theorem SrcT.other {nb : Nat} (h : SrcT T w sb N) (hg : w.grownBy w' (some nb)) (hne : sb ≠ nb) (hf : ¬ T nb) : SrcT T w' sb N := by
  obtain ⟨xs, h⟩ := h
  exact ⟨xs, h.map.same (hg.block sb h.map.lt fun e => hne (Option.some.inj e)), fun x hx => row_turn (h.row x hx) hg hf, h.lk, h.no⟩
theorem SrcT.get (h : SrcT T w sb N) {c : Int × ByteArray} (hs : c.2.size ≤ maxLen) (hk : (Lit.int .i64 c.1).wf = true) :
    ∃ v, (Instr.lookup 106 (.map (some sb)) (contV c.1 c.2) false).run Tryz.prog w = .ok v w ∧ RowAt T w 1 v (N c).length ((N c).map Value.string) := by
  obtain ⟨xs, h⟩ := h
  rcases src_dec xs c with hn | ⟨a, x, b, rfl, rfl⟩
  · refine ⟨_, h.map.is.miss lawCont contTy (zeroStrs w) (keyCont hs hk) (src_new hn) false, ?_⟩
    rw [h.no c hn]
    exact RowAt.nil _ _ _
  · have hmx : x ∈ a ++ x :: b := by simp
    refine ⟨x.v, h.map.is.hit lawCont contTy (keyCont hs hk) (List.mem_map.2 ⟨x, hmx, rfl⟩) false, ?_⟩
    rw [h.lk x hmx]
    exact h.row x hmx
theorem SrcT.set (h : SrcT T w sb N) (hf : ¬ T sb) {c : Int × ByteArray} (hs : c.2.size ≤ maxLen) (hk : (Lit.int .i64 c.1).wf = true) {v : Value} {ps : List ByteArray} (hv : RowAt T w 1 v ps.length (ps.map Value.string)) :
    ∃ w', (Instr.mapUpdate 106 (.map (some sb)) (contV c.1 c.2) v).run Tryz.prog w = .ok () w' ∧ SrcT T w' sb (fun d => if d = c then ps else N d) ∧ w.grownBy w' (some sb) := by
  obtain ⟨xs, h⟩ := h
  rcases src_dec xs c with hn | ⟨a, x, b, rfl, rfl⟩
  · obtain ⟨w', h1, h2, h3⟩ := h.map.put lawCont contTy (keyCont hs hk) (src_new hn) v
    refine ⟨w', h1, ⟨xs ++ [⟨c, v, ps⟩], by rw [List.map_append]; exact h2, fun y hy => ?_, fun y hy => ?_, fun d hd => ?_⟩, h3⟩
    · rcases List.mem_append.1 hy with hy | hy
      · exact row_turn (h.row y hy) h3 hf
      · rw [List.mem_singleton.1 hy]; exact row_turn hv h3 hf
    · rcases List.mem_append.1 hy with hy | hy
      · rw [if_neg (hn y hy)]; exact h.lk y hy
      · rw [List.mem_singleton.1 hy, if_pos rfl]
    · have hdc : d ≠ c := fun e => hd _ (List.mem_append_right _ (List.mem_singleton.2 rfl)) e.symm
      rw [if_neg hdc]
      exact h.no d fun y hy => hd y (List.mem_append_left _ hy)
  · have hne := src_nodup h.map
    have hmap := h.map
    rw [List.map_append, List.map_cons] at hmap
    obtain ⟨w', h1, h2, h3⟩ := MapS.over (key := contV x.c.1 x.c.2) (old := x.v) hmap lawCont contTy v
    have hsp : ∀ y, y ∈ a ++ (⟨x.c, v, ps⟩ : Src) :: b → y = ⟨x.c, v, ps⟩ ∨ y ∈ a ∨ y ∈ b := by
      intro y hy
      rcases List.mem_append.1 hy with hy | hy
      · exact .inr (.inl hy)
      · rcases List.mem_cons.1 hy with hy | hy
        · exact .inl hy
        · exact .inr (.inr hy)
    have hin : ∀ y, y ∈ a ∨ y ∈ b → y ∈ a ++ x :: b := by
      rintro y (hy | hy) <;> simp [hy]
    refine ⟨w', h1, ⟨a ++ ⟨x.c, v, ps⟩ :: b, by rw [List.map_append, List.map_cons]; exact h2, fun y hy => ?_, fun y hy => ?_, fun d hd => ?_⟩, h3⟩
    · rcases hsp y hy with rfl | hy
      · exact row_turn hv h3 hf
      · exact row_turn (h.row y (hin y hy)) h3 hf
    · rcases hsp y hy with rfl | hy
      · rw [if_pos rfl]
      · rw [if_neg (hne y hy)]; exact h.lk y (hin y hy)
    · have hdc : d ≠ x.c := fun e => hd ⟨x.c, v, ps⟩ (by simp) e.symm
      rw [if_neg hdc]
      refine h.no d fun y hy => ?_
      rcases List.mem_append.1 hy with hy | hy
      · exact hd y (by simp [hy])
      · rcases List.mem_cons.1 hy with rfl | hy
        · exact Ne.symm hdc
        · exact hd y (by simp [hy])
end
end Go.Proofs.YtdieneaillkbgaaGreatDoor

/- A slice of structs that a call made, in the sort's words. -/
namespace Go.Proofs.YtdieneaillkbgaaGreatDoor
open Go Go.Sort Go.RowKit Go.Lib
theorem own_holdsK {w : World} {base : Nat} {e : TypeId} {k : Nat} {v : Value} {n : Nat} {xs : List Value} (h : w.ownsRow base e k v n xs) (hv : v ≠ .slice none 0 0) :
    ∃ g cap, v = .slice (some ⟨g, 0, none⟩) n cap ∧ base ≤ g ∧ g < w.heap.size ∧ n ≤ cap ∧ cap ≤ maxLen ∧ Holds id w g 0 xs.toArray := by
  rcases h.2 with ⟨e0, _⟩ | ⟨g, cap, cur, rfl, hb, hg, hn, hm, hs, ht⟩
  · exact absurd e0 hv
  · have hlt : g < w.heap.size := by
      rcases Nat.lt_or_ge g w.heap.size with h' | h'
      · exact h'
      · rw [Array.getElem?_eq_none h'] at hg; cases hg
    refine ⟨g, cap, rfl, hb, hlt, hn, hm, fun j hj => ?_⟩
    have hj1 : j < xs.length := by simpa using hj
    have hj' : j < n * k := by rw [← h.1]; exact hj1
    refine ⟨?_, by simp [World.frozen?, hg]⟩
    have e1 : (cur.toList.take (n * k))[j]? = xs[j]? := by rw [ht]
    rw [List.getElem?_take, if_pos hj', Array.getElem?_toList, List.getElem?_eq_getElem hj1] at e1
    simp only [World.cell?, hg, Nat.zero_add]
    simp only [Option.isSome_none, Bool.false_eq_true, if_false]
    rw [e1]
    simp [getElem!_pos, hj1]
theorem own_putRowK {w : World} {base : Nat} {e : TypeId} {g n cap q k : Nat} {xs ys : List Value} (h : w.ownsRow base e k (.slice (some ⟨g, 0, none⟩) n cap) n xs) (hy : ys.length = n * k) :
    (putRow id (Sort.ahead w q) g 0 ys.toArray).ownsRow base e k (.slice (some ⟨g, 0, none⟩) n cap) n ys := by
  rcases h.2 with ⟨e0, _⟩ | ⟨g', cap', cur, e0, hb, hg, hn, hm, hs, ht⟩
  · cases e0
  · injection e0 with e1 _ e3
    injection e1 with e1
    injection e1 with e1
    subst e1; subst e3
    have hnk : n * k ≤ cur.size := by rw [hs]; exact Nat.mul_le_mul_right k hn
    refine ⟨hy, .inr ⟨g, cap, putCells id 0 ys.toArray cur, rfl, hb, ?_, hn, hm, by simpa [putCells] using hs, ?_⟩⟩
    · simp [putRow, mapBlock, Sort.ahead, Array.getElem?_modify, hg, onCells]
    · apply List.ext_getElem?
      intro j
      rw [List.getElem?_take, Array.getElem?_toList]
      by_cases hj : j < n * k
      · have hjc : j < cur.size := by omega
        have hjy : j < ys.length := by omega
        rw [if_pos hj]
        simp only [putCells, Array.getElem?_mapIdx, Array.getElem?_eq_getElem hjc, Option.map_some]
        rw [if_pos (by simp; omega), List.getElem?_eq_getElem hjy]
        simp [getElem!_pos, hjy]
      · rw [if_neg hj, List.getElem?_eq_none (by omega)]
theorem flat_get {α : Type} {enc : α → List Value} {k : Nat} (hk : ∀ x, (enc x).length = k) (h0 : 0 < k) : ∀ (d : List α) (t : Nat), (d.flatMap enc)[t]? = (d[t / k]?).bind fun x => (enc x)[t % k]?
  | [], t => by simp
  | x :: d, t => by
    rw [List.flatMap_cons]
    by_cases ht : t < k
    · rw [List.getElem?_append_left (by rw [hk]; exact ht), Nat.div_eq_of_lt ht, Nat.mod_eq_of_lt ht]
      simp
    · rw [List.getElem?_append_right (by rw [hk]; omega), hk, flat_get hk h0 d (t - k)]
      have h1 : t / k = (t - k) / k + 1 := by rw [Nat.div_eq_sub_div h0 (by omega)]
      have h2 : (t - k) % k = t % k := by rw [Nat.mod_eq_sub_mod (by omega : t ≥ k)]
      rw [h1, h2]
      simp
theorem flat_len {α : Type} {enc : α → List Value} {k : Nat} (hk : ∀ x, (enc x).length = k) : ∀ (d : List α), (d.flatMap enc).length = d.length * k
  | [] => by simp
  | x :: d => by rw [List.flatMap_cons, List.length_append, hk, flat_len hk d, List.length_cons, Nat.add_mul, Nat.one_mul]; omega
theorem flatK_list {α : Type} [Inhabited α] {enc : α → List Value} {k : Nat} (hk : ∀ x, (enc x).length = k) (h0 : 0 < k) (d : List α) : flatK enc k d.toArray = (d.flatMap enc).toArray := by
  apply Array.ext'
  apply List.ext_getElem?
  intro t
  rw [flat_get hk h0]
  rw [Array.getElem?_toList]
  by_cases ht : t < d.length * k
  · have hd : t / k < d.length := Nat.div_lt_of_lt_mul (by rw [Nat.mul_comm]; exact ht)
    have hm : t % k < k := Nat.mod_lt _ h0
    have hs : t < (flatK enc k d.toArray).size := by rw [size_flatK]; simpa using ht
    rw [Array.getElem?_eq_getElem hs, ← getElem!_pos _ t hs, get_flatK _ _ _ t (by simpa using ht), List.getElem?_eq_getElem hd]
    simp only [Option.bind_some]
    rw [List.getElem?_eq_getElem (by rw [hk]; exact hm)]
    have e1 : d.toArray[t / k]! = d[t / k] := by simp [getElem!_pos, hd]
    rw [e1, getElem!_pos _ _ (by rw [hk]; exact hm)]
  · rw [Array.getElem?_eq_none (by rw [size_flatK]; simpa using ht), List.getElem?_eq_none (by
      rw [Nat.not_lt] at ht
      exact (Nat.le_div_iff_mul_le h0).2 ht)]
    rfl
end Go.Proofs.YtdieneaillkbgaaGreatDoor

/- Contracts of package treediff: the order of changes; slices.SortFunc at changes. -/
namespace Go.Proofs.YtdieneaillkbgaaGreatDoor
open Go Go.RowKit Go.Maps Go.Sort Go.Lib Go.Shelf
def cmpC (x y : Chg) : Int := if x.kind ≠ y.kind then x.kind - y.kind else cmpL (bl x.path) (bl y.path)
def ltC (x y : Chg) : Prop := x.kind < y.kind ∨ (x.kind = y.kind ∧ cmpL (bl x.path) (bl y.path) < 0)
theorem cmpC_lt {x y : Chg} : cmpC x y < 0 ↔ ltC x y := by
  unfold cmpC ltC
  by_cases h : x.kind = y.kind
  · rw [if_neg (by simpa using h)]; constructor
    · intro hc; exact Or.inr ⟨h, hc⟩
    · rintro (hc | hc)
      · omega
      · exact hc.2
  · rw [if_pos h]; constructor
    · intro hc; exact Or.inl (by omega)
    · rintro (hc | hc)
      · omega
      · exact absurd hc.1 h
theorem two_alloc (w : World) (o1 o2 : Obj) (q : Nat) : ((w.alloc o1).alloc o2).drewN q = grow (w.drewN q) #[o1, o2] := by
  rw [alloc_eq_grow, alloc_eq_grow, grow_grow]; rfl
def KindOk (c : Chg) : Prop := 1 ≤ c.kind ∧ c.kind ≤ 4
set_option maxRecDepth 100000 in
set_option maxHeartbeats 2000000 in
theorem cmpC_any (x y : Chg) (a b : Option Addr) (n m c d : Nat) (w : World) (hx : KindOk x) (hy : KindOk y) (hp : x.path.size ≤ maxLen) :
    Calls Tryz.prog 70 #[chgV (.slice a n c) x, chgV (.slice b m d) y] w fun e w' => e = .returned (.int .i64 (cmpC x y)) ∧ ∃ q os', w' = grow (w.drewN q) os' := by
  obtain ⟨h1, h2⟩ := hx
  obtain ⟨h3, h4⟩ := hy
  have HP := Lib.hid hp
  obtain ⟨z, hz⟩ : ∃ z, z = cmpC x y := ⟨_, rfl⟩
  have HZ := Lib.hid hz
  rw [← hz]
  clear hz hp
  unfold chgV
  by_cases hk : x.kind = y.kind
  · have e1 : (x.kind != y.kind) = false := by simp [hk]
    have HC := Lib.hid (show cmpL (bl x.path) (bl y.path) = z by rw [HZ.out]; unfold cmpC; rw [if_neg (by simpa using hk)])
    clear hk
    go_enter Tryz.func70, Tryz.ntmps70
    go_wp2_with fail
    refine (compare_drew x.path y.path _ HP.out).mono ?_
    rintro e w1 ⟨rfl, q, rfl⟩
    rw [HC.out]
    go_wp2_with fail
    go_ret
    exact ⟨rfl, q, _, two_alloc _ _ _ _⟩
  · have HC := Lib.hid (show x.kind - y.kind = z by rw [HZ.out]; unfold cmpC; rw [if_pos hk])
    have hw : IntKind.i64.wrap (x.kind - y.kind) = x.kind - y.kind := by rw [IntKind.wrap_i64]; omega
    go_enter Tryz.func70, Tryz.ntmps70
    go_wp2_with fail
    go_ret
    exact ⟨ret_int (by rw [← HC.out]), 0, _, two_alloc _ _ _ 0⟩
section
variable (L : List VChg)
abbrev InL := {y : VChg // y ∈ L}
def encL (y : InL L) : List Value := encC y.1
def cmpI (x y : InL L) : Int := cmpC x.1.2 y.1.2
theorem ltI (x y : InL L) : ltOf (cmpI L) x y = true ↔ ltC x.1.2 y.1.2 := by rw [show ltOf (cmpI L) x y = decide (cmpI L x y < 0) from rfl, decide_eq_true_eq]; exact cmpC_lt
theorem ltI_f (x y : InL L) : ltOf (cmpI L) x y = false ↔ ¬ ltC x.1.2 y.1.2 := by rw [← ltI, Bool.not_eq_true]
end
theorem ltC_irr (x : Chg) : ¬ ltC x x := by
  have := cmp_neg (bl x.path) (bl x.path)
  rintro (h | h) <;> omega
theorem cmp_lt_trans {a b c : List UInt8} (h1 : cmpL a b < 0) (h2 : cmpL b c < 0) : cmpL a c < 0 := by
  obtain ⟨h3, h4⟩ := cmp_trans a b c (by omega) (by omega)
  rcases Int.lt_or_eq_of_le h3 with h | h
  · exact h
  · have := (h4 h).1; omega
theorem ltC_trans {x y z : Chg} (h1 : ltC x y) (h2 : ltC y z) : ltC x z := by
  rcases h1 with h1 | ⟨h1, h3⟩ <;> rcases h2 with h2 | ⟨h2, h4⟩
  · exact Or.inl (by omega)
  · exact Or.inl (by omega)
  · exact Or.inl (by omega)
  · exact Or.inr ⟨by omega, cmp_lt_trans h3 h4⟩
theorem nltC {x y : Chg} : ¬ ltC x y ↔ y.kind < x.kind ∨ (x.kind = y.kind ∧ cmpL (bl y.path) (bl x.path) ≤ 0) := by
  have := cmp_neg (bl x.path) (bl y.path)
  unfold ltC
  constructor
  · intro h
    by_cases hk : x.kind = y.kind
    · exact Or.inr ⟨hk, by have : ¬ cmpL (bl x.path) (bl y.path) < 0 := fun hc => h (Or.inr ⟨hk, hc⟩); omega⟩
    · exact Or.inl (by have : ¬ x.kind < y.kind := fun hc => h (Or.inl hc); omega)
  · rintro (h | h) (hc | hc) <;> omega
theorem nltC_trans {x y z : Chg} (h1 : ¬ ltC x y) (h2 : ¬ ltC y z) : ¬ ltC x z := by
  rw [nltC] at *
  rcases h1 with h1 | ⟨h1, h3⟩ <;> rcases h2 with h2 | ⟨h2, h4⟩
  · exact Or.inl (by omega)
  · exact Or.inl (by omega)
  · exact Or.inl (by omega)
  · exact Or.inr ⟨by omega, (cmp_trans _ _ _ h4 h3).1⟩
theorem swoI (L : List VChg) : SWO (ltOf (cmpI L)) where
  irrefl x := by rw [ltI_f]; exact ltC_irr _
  trans x y z h1 h2 := by rw [ltI] at *; exact ltC_trans h1 h2
  ntrans x y z h1 h2 := by rw [ltI_f] at *; exact nltC_trans h1 h2
theorem both_n {x y : Chg} (h1 : ¬ ltC x y) (h2 : ¬ ltC y x) : x.kind = y.kind ∧ x.path = y.path := by
  rw [nltC] at h1 h2
  have e := cmp_neg (bl x.path) (bl y.path)
  refine ⟨by omega, bl_inj ((cmp_zero _ _).1 ?_)⟩
  omega
theorem aggC (w : World) : (isAgg 58).run Tryz.prog w = .ok true w := by kernel_rfl
theorem sizeC (w : World) : (Go.sizeOf 58).run Tryz.prog w = .ok 9 w := by kernel_rfl
/-- THE CHANGES, IN THEIR ORDER. -/
theorem sortC_any (B : Nat) (v : Value) (L : List VChg) (w : World) (h : GotC B w v L) (hk : ∀ y ∈ L, KindOk y.2) (hinj : ∀ x ∈ L, ∀ y ∈ L, x.2.kind = y.2.kind → x.2.path = y.2.path → x = y) (M : List Chg) (hp : (L.map Prod.snd).Perm M) (hM : M.Pairwise ltC)
    (hn : L.length < 4611686018427387904) (hb : B ≤ w.heap.size) :
    Calls Tryz.prog 69 #[v, .func (.func 70) #[] #[]] w fun e w' => e = .returned (.tuple #[]) ∧ ∃ ys, ys.map Prod.snd = M ∧ GotC B w' v ys ∧ Below B w w' := by
  by_cases hL : L = []
  · subst hL
    obtain rfl := List.nil_perm.1 hp
    obtain ⟨a, cap, rfl, -, -⟩ := owns_shape h.row
    refine (AnyF.slices_SortFunc_none Tryz.sortC a cap _ w).mono ?_
    rintro e w' ⟨rfl, rfl⟩
    exact ⟨rfl, [], rfl, h, Below.refl _ _⟩
  · have hv : v ≠ .slice none 0 0 := by
      rintro rfl
      rcases h.row.2 with ⟨_, h1⟩ | ⟨g, cap, cur, e1, _⟩
      · exact hL (List.eq_nil_of_length_eq_zero h1)
      · cases e1
    obtain ⟨g, cap, rfl, h1, h2, h3, h4, h5⟩ := own_holdsK h.row hv
    obtain ⟨y0, hy0⟩ := List.exists_mem_of_ne_nil L hL
    haveI : Inhabited (InL L) := ⟨⟨y0, hy0⟩⟩
    have hflat : ∀ d : List (InL L), flatK (encL L) 9 d.toArray = (chgsC (d.map Subtype.val)).toArray := by
      intro d
      rw [flatK_list (enc := encL L) (k := 9) (fun _ => rfl) (by decide)]
      unfold chgsC
      rw [List.flatMap_map]
      rfl
    have hsz : L.attach.toArray.size = L.length := by simp
    have hH : HoldsK (encL L) 9 w g 0 L.attach.toArray := by
      unfold HoldsK
      rw [hflat, List.attach_map_subtype_val]
      exact h5
    have eg : ∀ args w, (callFunc 70 args).run Tryz.prog w = .ok (.enter 70 args) w := enters_of Tryz.func70 (by kernel_rfl) rfl
    have hcmp : CmpLays Tryz.prog 70 #[] (encL L) 9 (cmpI L) g 0 L.attach.toArray.size w := by
      intro m os dk _ x y
      obtain ⟨a1, c1, e1, _⟩ := (h.dat _ x.2).1.slice
      obtain ⟨a2, c2, e2, _⟩ := (h.dat _ y.2).1.slice
      have := cmpC_any x.1.2 y.1.2 a1 a2 x.1.2.en.data.length y.1.2.en.data.length c1 c2 (sortWorldK (encL L) 9 w g 0 m dk os) (hk _ x.2) (hk _ y.2) (h.dat _ x.2).2.pth
      rw [← e1, ← e2] at this
      exact this
    have hS := AnyQ.slices_SortFunc_total Tryz.sortC 9 aggC sizeC (encL L) (fun _ => rfl) (fun x u hu => by
        obtain ⟨a1, c1, e1, _⟩ := (h.dat _ x.2).1.slice
        unfold encL encC at hu
        rw [e1] at hu
        exact chgC_one u hu) (cmpI L) (swoI L) 70 #[] g 0 cap L.attach.toArray w eg hcmp hH h2 (by rw [hsz]; exact hn) (fun x y hx hy => by
        rw [ltI_f] at hx hy
        obtain ⟨b1, b2⟩ := both_n hx hy
        exact Subtype.ext (hinj _ x.2 _ y.2 b1 b2))
    rw [hsz] at hS
    refine hS.mono ?_
    rintro e w' ⟨rfl, n, os, rfl⟩
    obtain ⟨Z, hZ⟩ : ∃ Z : List (InL L), Z = L.attach.mergeSort (fun x y => !(ltOf (cmpI L)) y x) := ⟨_, rfl⟩
    have hZp : Z.Perm L.attach := by rw [hZ]; exact List.mergeSort_perm _ _
    have hZs : Z.Pairwise fun x y => (!(ltOf (cmpI L)) y x) = true := by
      rw [hZ]
      refine List.pairwise_mergeSort (fun a b c hab hbc => ?_) (fun a b => ?_) _
      · simp only [Bool.not_eq_true', ltI_f] at *
        exact nltC_trans hbc hab
      · by_cases hlt : ltOf (cmpI L) b a = true
        · have : ltOf (cmpI L) a b = false := by
            rw [ltI_f]; intro hc; exact ltC_irr _ (ltC_trans ((ltI L b a).1 hlt) hc)
          simp [this]
        · simp [Bool.not_eq_true _ ▸ hlt]
    rw [← hZ]
    clear hZ hS
    have hys : (Z.map Subtype.val).Perm L := by
      have := hZp.map Subtype.val
      rwa [List.attach_map_subtype_val] at this
    have hMs : (Z.map Subtype.val).map Prod.snd = M := by
      refine List.Perm.eq_of_pairwise (le := fun a b => ¬ ltC b a) (fun a b ha hb hab hba => ?_) ?_ ?_ ((hys.map Prod.snd).trans hp)
      · obtain ⟨x, hx, rfl⟩ := List.mem_map.1 ha
        have hbM := ((hys.map Prod.snd).trans hp).symm.mem_iff.1 hb
        obtain ⟨y, hy, rfl⟩ := List.mem_map.1 hbM
        obtain ⟨b1, b2⟩ := both_n hba hab
        rw [hinj x (hys.mem_iff.1 hx) y (hys.mem_iff.1 hy) b1 b2]
      · rw [List.map_map, List.pairwise_map]
        refine hZs.imp fun {x y} hxy => ?_
        simp only [Bool.not_eq_true', ltI_f] at hxy
        exact hxy
      · exact hM.imp fun {x y} hxy hyx => ltC_irr _ (ltC_trans hxy hyx)
    have hlen : (Z.map Subtype.val).length = L.length := hys.length_eq
    have hkeep : ∀ k, k < w.heap.size → k ≠ g → (sortWorldK (encL L) 9 w g 0 n Z.toArray os).heap[k]? = w.heap[k]? := by
      intro k hk1 hk2
      unfold sortWorldK putRowK
      simp only [grow, putRow, mapBlock, Sort.ahead]
      rw [Array.getElem?_append_left (by simpa using hk1)]
      simp [Array.getElem?_modify, Ne.symm hk2]
    have hsw : w.heap.size ≤ (sortWorldK (encL L) 9 w g 0 n Z.toArray os).heap.size := by
      unfold sortWorldK putRowK
      simp [grow, putRow, mapBlock, Sort.ahead]
    refine ⟨rfl, Z.map Subtype.val, hMs, ⟨?_, fun y hy => ?_⟩, ?_⟩
    · have h7 := own_putRowK (q := n) (ys := chgsC (Z.map Subtype.val)) h.row (by unfold chgsC; rw [flat_len (enc := encC) (k := 9) (fun _ => rfl), hlen])
      rw [hlen]
      unfold sortWorldK putRowK
      rw [hflat]
      exact h7.kept (grown_grow _ os) (.inr (by simp [Value.ownBlock]))
    · obtain ⟨hd, hok⟩ := h.dat y (hys.mem_iff.1 hy)
      refine ⟨?_, hok⟩
      have h3 := RowAt.same (w' := sortWorldK (encL L) 9 w g 0 n Z.toArray os) (RowAt.mono (T := fun k => FreeB B w (.slice (some ⟨g, 0, none⟩) L.length cap) k ∧ k < w.heap.size) hd (fun k hk hS => ⟨hS, hk⟩) (by omega)) (fun k hk => hkeep k hk.2 (fun e => hk.1.2.2 (by rw [e]; rfl)))
      exact RowAt.mono h3 (fun k hk hS => ⟨hS.1.1, hk, hS.1.2.2⟩) (by omega)
    · unfold sortWorldK putRowK
      exact (below_putRow (q := n) (Below.refl B w) h1).grown (grown_grow _ os) (by simpa [putRow, mapBlock, Sort.ahead] using hb) (fun k hk => by cases hk)
end Go.Proofs.YtdieneaillkbgaaGreatDoor

/- A region that draws: one operation of several that may come next. -/
namespace Go.Proofs.YtdieneaillkbgaaGreatDoor
open Go
theorem hld_opr {P : Program} {ops : Array Oper} {Q : Exit → Act → World → Prop} {S : World → Prop} {dst : Option Tmp} {op : Op} {ty : TypeId} {pos : String} {aft : Array Edge} {g : Option (Nat × Bool)} {fuel : Nat} {listed : Array Bool} {a : Act} {w : World} (i : Nat) (hi : ops[i]? = some ⟨dst, op, ty, pos, aft, g⟩)
    (hw : Region.wanted ⟨dst, op, ty, pos, aft, g⟩ (yielded ops a.tmps) = true)
    (h : ∀ K : Act → World → Prop, (∀ a w, S w ∧ Hld P ops Q S fuel (listed.setIfInBounds i true) a w → K a w) → wpList P #[] (Exit.then K Q) [⟨dst, op, ty, pos, #[], none⟩] a w) :
    wpOp P ops Q i (fun a' w' => S w' ∧ wpAnyH P .any ops Q S fuel (listed.setIfInBounds i true) a' w') a w := by
  have hb : Bar P ops (fun a' w' => S w' ∧ wpAnyH P .any ops Q S fuel (listed.setIfInBounds i true) a' w') Q [⟨dst, op, ty, pos, aft, g⟩] a w :=
    bar_run hw (fun K hK => h K (fun a w hh => hK a w ⟨hh.1, hh.2.out⟩))
  unfold wpOp
  simp only [hi]
  exact Bar.out hb
end Go.Proofs.YtdieneaillkbgaaGreatDoor

/- Contracts of package treediff: difference: what its loops keep. -/
namespace Go.Proofs.YtdieneaillkbgaaGreatDoor
open Go.RowKit Go.Maps
theorem gone_snoc {a b : List Ent} {k : Nat} {e : Ent} (h : a[k]? = some e) : goneE (a.take (k + 1)) b = goneE (a.take k) b ++ (if keptE b e = true then [] else [e]) := by
  unfold goneE
  rw [List.take_add_one, h, List.filter_append]
  congr 1
  cases hk : keptE b e <;> simp [hk]
theorem has_snoc (L : List Ent) (e : Ent) : hasE (L ++ [e]) = addK (hasE L) e.path := by
  funext p
  unfold addK
  rw [Bool.eq_iff_iff, findE_isSome, Bool.or_eq_true, findE_isSome, decide_eq_true_eq, List.map_append, List.mem_append]
  simp only [List.map_cons, List.map_nil, List.mem_singleton]
  exact Or.comm
theorem names_add {G : List Ent} {e : Ent} (hm : movB e = true) : (fun d => if d = contE e then namesG G (contE e) ++ [e.path] else namesG G d) = namesG (G ++ [e]) := by
  funext d
  rw [names_snoc, hm]
  by_cases hd : d = contE e
  · subst hd; simp
  · rw [if_neg hd, if_neg (by simpa using fun h => hd h.symm), List.append_nil]
theorem names_same {G : List Ent} {e : Ent} (hm : movB e = false) : namesG (G ++ [e]) = namesG G := by
  funext d
  rw [names_snoc, hm]
  simp
theorem cont_size {e : Ent} (hok : EntOk e) (hd : e.data.length ≤ maxLen) : (contE e).2.size ≤ maxLen := by
  unfold contE
  split
  · rw [size_bl, bl_of]; exact hd
  · split
    · exact hok.lnk
    · decide
theorem cont_wf (e : Ent) : (Lit.int .i64 (contE e).1).wf = true := by
  unfold contE
  split
  · rfl
  · split <;> rfl
theorem make_set (w : World) : (Instr.makeMap 57 none).run Tryz.prog w = .ok (.map (some w.heap.size)) (w.alloc (.map #[] 0)) := by simp [Instr.makeMap]
theorem make_src (w : World) : (Instr.makeMap 106 none).run Tryz.prog w = .ok (.map (some w.heap.size)) (w.alloc (.map #[] 0)) := by simp [Instr.makeMap]
theorem boolTy : Tryz.prog.underlying 57 = some (.map 9 4) := Tryz.underlying57
theorem SetR.obj {w : World} {mb : Nat} {K : ByteArray → Bool} (h : SetR w mb K) : ∃ o : Obj, w.heap[mb]? = some o ∧ o.isCells = false := by obtain ⟨ps, h, _⟩ := h; exact map_obj h
theorem SrcO.obj {B : Nat} {w : World} {sb : Nat} {N : Nms} (h : SrcO B w sb N) : ∃ o : Obj, w.heap[sb]? = some o ∧ o.isCells = false := by obtain ⟨xs, h⟩ := h; exact map_obj h.map
/-- What stands between two rounds of the first loop. -/
structure LoopD1 (S T : Nat → Prop) (a b : List Ent) (w : World) (bA bB gb sb bs k : Nat) (wr : World) : Prop where
  A : MapR S wr bA (findE a)
  B : MapR T wr bB (findE b)
  G : SetR wr gb (hasE (goneE (a.take k) b))
  N : SrcO bs wr sb (namesG (goneE (a.take k) b))
  bel : Below w.heap.size w wr
theorem LoopD1.below {S T : Nat → Prop} {a b : List Ent} {w : World} {bA bB gb sb bs k : Nat} {wr w' : World} (h : LoopD1 S T a b w bA bB gb sb bs k wr) (hb : Below wr.heap.size wr w') : LoopD1 S T a b w bA bB gb sb bs k w' :=
  ⟨h.A.below hb, h.B.below hb, h.G.below hb, h.N.below hb, below_next h.bel hb⟩
theorem MapR.row {S : Nat → Prop} {w w' : World} {mb : Nat} {R : Look} {row : Option Nat} (h : MapR S w mb R) (hg : w.grownBy w' row) (hr : ∀ k, row = some k → mb ≠ k ∧ ¬ S k) : MapR S w' mb R := by
  cases row with
  | none => exact h.below ⟨hg.os, hg.tape, hg.output, hg.size, fun k hk => hg.block k hk (by simp)⟩
  | some k => exact h.other hg (hr k rfl).1 (hr k rfl).2
theorem SetR.row {w w' : World} {mb : Nat} {K : ByteArray → Bool} {row : Option Nat} (h : SetR w mb K) (hg : w.grownBy w' row) (hr : ∀ k, row = some k → mb ≠ k) : SetR w' mb K :=
  h.same (hg.block mb h.lt fun e => hr _ e.symm rfl)
theorem LoopD1.step {S T : Nat → Prop} {a b : List Ent} {w : World} {bA bB gb sb bs k : Nat} {wr : World} {e : Ent} (h : LoopD1 S T a b w bA bB gb sb bs k wr) (he : a[k]? = some e) (hk : keptE b e = true) : LoopD1 S T a b w bA bB gb sb bs (k + 1) wr := by
  have : goneE (a.take (k + 1)) b = goneE (a.take k) b := by rw [gone_snoc he, if_pos hk, List.append_nil]
  exact ⟨h.A, h.B, by rw [this]; exact h.G, by rw [this]; exact h.N, h.bel⟩
/- The second loop. -/
def stD (a b : List Ent) (k : Nat) : DSt := (b.take k).foldl (stepD a) ⟨goneE a b, []⟩
theorem stD_succ {a b : List Ent} {k : Nat} {y : Ent} (h : b[k]? = some y) : stD a b (k + 1) = stepD a (stD a b k) y := by
  unfold stD
  rw [List.take_add_one, h, List.foldl_append]; rfl
theorem stD_end (a b : List Ent) : stD a b b.length = diffS a b := by unfold stD diffS; rw [List.take_length]
theorem stD_inv {a b : List Ent} (ha : TOk a) (k : Nat) : DInv a b (b.take k) (stD a b k) := by
  have := dinv_fold ha (r := b.take k) (DInv.nil a b) (fun y hy => List.mem_of_mem_take hy)
  simpa [stD] using this
structure LoopD2 (S TS : Nat → Prop) (a b : List Ent) (w : World) (bA gb sb B2 k : Nat) (v : Value) (ys : List VChg) (wr : World) : Prop where
  A : MapR S wr bA (findE a)
  G : SetR wr gb (hasE (stD a b k).rem)
  N : SrcT TS wr sb (namesG (stD a b k).rem)
  C : GotC B2 wr v ys
  out : ys.map Prod.snd = (stD a b k).out
  bel : Below w.heap.size w wr
  bb : B2 ≤ wr.heap.size
theorem LoopD2.below {S TS : Nat → Prop} {a b : List Ent} {w : World} {bA gb sb B2 k : Nat} {v : Value} {ys : List VChg} {wr w' : World} (h : LoopD2 S TS a b w bA gb sb B2 k v ys wr) (hb : Below wr.heap.size wr w') : LoopD2 S TS a b w bA gb sb B2 k v ys w' :=
  ⟨h.A.below hb, h.G.below hb, h.N.below hb, h.C.below hb, h.out, below_next h.bel hb, Nat.le_trans h.bb hb.size⟩
theorem GotC.fresh {B : Nat} {w0 w1 : World} {v x : Value} {ys : List VChg} {bs : List UInt8} (h : GotC B w0 v ys) (hd : DataAt (fun k => w0.heap.size ≤ k ∧ k < w1.heap.size) w1 x bs) (hB : B ≤ w0.heap.size) : DataAt (FreeB B w1 v) w1 x bs :=
  data_mono hd fun k hk => ⟨Nat.le_trans hB hk.1, hk.2, fun e => by have := (own_lt h.row e.symm).2; omega⟩
theorem grown_set {w : World} (b k : Nat) (x : Value) : w.grownBy (w.setCell ⟨b, k, none⟩ x) (some b) :=
  ⟨rfl, rfl, rfl, (KeepsWalks.setCell w _ x).size, fun j _ hj => Below.heap_setCell _ _ _ j (fun e => hj (by rw [e]))⟩
theorem grown_two {w w1 w2 : World} {r : Option Nat} (h : w.grownBy w1 r) (g : w1.grownBy w2 r) : w.grownBy w2 r :=
  ⟨g.os.trans h.os, g.tape.trans h.tape, g.output.trans h.output, Nat.le_trans h.size g.size, fun k hk hne => (g.block k (Nat.lt_of_lt_of_le hk h.size) hne).trans (h.block k hk hne)⟩
theorem nine20 {w : World} {b : Nat} {a0 a1 a2 a3 a4 a5 a6 a7 a8 x0 x1 x2 x3 x4 x5 x6 x7 x8 : Value} {t : TypeId} (h : w.heap[b]? = some (.cells #[a0, a1, a2, a3, a4, a5, a6, a7, a8] t (0, 0))) :
    (((((((((w.setCell ⟨b, 0, none⟩ x0).setCell ⟨b, 1, none⟩ x1).setCell ⟨b, 2, none⟩ x2).setCell ⟨b, 3, none⟩ x3).setCell ⟨b, 4, none⟩ x4).setCell ⟨b, 5, none⟩ x5).setCell ⟨b, 6, none⟩ x6).setCell ⟨b, 7, none⟩ x7).setCell ⟨b, 8, none⟩ x8).heap[b]? = some (.cells #[x0, x1, x2, x3, x4, x5, x6, x7, x8] t (0, 0)) := by
    have h1 : (w.setCell ⟨b, 0, none⟩ x0).heap[b]? = some (.cells #[x0, a1, a2, a3, a4, a5, a6, a7, a8] t (0, 0)) := set20 h x0
    have h2 : ((w.setCell ⟨b, 0, none⟩ x0).setCell ⟨b, 1, none⟩ x1).heap[b]? = some (.cells #[x0, x1, a2, a3, a4, a5, a6, a7, a8] t (0, 0)) := set20 h1 x1
    have h3 : (((w.setCell ⟨b, 0, none⟩ x0).setCell ⟨b, 1, none⟩ x1).setCell ⟨b, 2, none⟩ x2).heap[b]? = some (.cells #[x0, x1, x2, a3, a4, a5, a6, a7, a8] t (0, 0)) := set20 h2 x2
    have h4 : ((((w.setCell ⟨b, 0, none⟩ x0).setCell ⟨b, 1, none⟩ x1).setCell ⟨b, 2, none⟩ x2).setCell ⟨b, 3, none⟩ x3).heap[b]? = some (.cells #[x0, x1, x2, x3, a4, a5, a6, a7, a8] t (0, 0)) := set20 h3 x3
    have h5 : (((((w.setCell ⟨b, 0, none⟩ x0).setCell ⟨b, 1, none⟩ x1).setCell ⟨b, 2, none⟩ x2).setCell ⟨b, 3, none⟩ x3).setCell ⟨b, 4, none⟩ x4).heap[b]? = some (.cells #[x0, x1, x2, x3, x4, a5, a6, a7, a8] t (0, 0)) := set20 h4 x4
    have h6 : ((((((w.setCell ⟨b, 0, none⟩ x0).setCell ⟨b, 1, none⟩ x1).setCell ⟨b, 2, none⟩ x2).setCell ⟨b, 3, none⟩ x3).setCell ⟨b, 4, none⟩ x4).setCell ⟨b, 5, none⟩ x5).heap[b]? = some (.cells #[x0, x1, x2, x3, x4, x5, a6, a7, a8] t (0, 0)) := set20 h5 x5
    have h7 : (((((((w.setCell ⟨b, 0, none⟩ x0).setCell ⟨b, 1, none⟩ x1).setCell ⟨b, 2, none⟩ x2).setCell ⟨b, 3, none⟩ x3).setCell ⟨b, 4, none⟩ x4).setCell ⟨b, 5, none⟩ x5).setCell ⟨b, 6, none⟩ x6).heap[b]? = some (.cells #[x0, x1, x2, x3, x4, x5, x6, a7, a8] t (0, 0)) := set20 h6 x6
    have h8 : ((((((((w.setCell ⟨b, 0, none⟩ x0).setCell ⟨b, 1, none⟩ x1).setCell ⟨b, 2, none⟩ x2).setCell ⟨b, 3, none⟩ x3).setCell ⟨b, 4, none⟩ x4).setCell ⟨b, 5, none⟩ x5).setCell ⟨b, 6, none⟩ x6).setCell ⟨b, 7, none⟩ x7).heap[b]? = some (.cells #[x0, x1, x2, x3, x4, x5, x6, x7, a8] t (0, 0)) := set20 h7 x7
    have h9 : (((((((((w.setCell ⟨b, 0, none⟩ x0).setCell ⟨b, 1, none⟩ x1).setCell ⟨b, 2, none⟩ x2).setCell ⟨b, 3, none⟩ x3).setCell ⟨b, 4, none⟩ x4).setCell ⟨b, 5, none⟩ x5).setCell ⟨b, 6, none⟩ x6).setCell ⟨b, 7, none⟩ x7).setCell ⟨b, 8, none⟩ x8).heap[b]? = some (.cells #[x0, x1, x2, x3, x4, x5, x6, x7, x8] t (0, 0)) := set20 h8 x8
    exact h9
theorem nine_grown {w : World} {b : Nat} {x0 x1 x2 x3 x4 x5 x6 x7 x8 : Value} : w.grownBy (((((((((w.setCell ⟨b, 0, none⟩ x0).setCell ⟨b, 1, none⟩ x1).setCell ⟨b, 2, none⟩ x2).setCell ⟨b, 3, none⟩ x3).setCell ⟨b, 4, none⟩ x4).setCell ⟨b, 5, none⟩ x5).setCell ⟨b, 6, none⟩ x6).setCell ⟨b, 7, none⟩ x7).setCell ⟨b, 8, none⟩ x8) (some b) := by
    have h1 : w.grownBy (w.setCell ⟨b, 0, none⟩ x0) (some b) := grown_set b 0 x0
    have h2 : w.grownBy ((w.setCell ⟨b, 0, none⟩ x0).setCell ⟨b, 1, none⟩ x1) (some b) := grown_two h1 (grown_set b 1 x1)
    have h3 : w.grownBy (((w.setCell ⟨b, 0, none⟩ x0).setCell ⟨b, 1, none⟩ x1).setCell ⟨b, 2, none⟩ x2) (some b) := grown_two h2 (grown_set b 2 x2)
    have h4 : w.grownBy ((((w.setCell ⟨b, 0, none⟩ x0).setCell ⟨b, 1, none⟩ x1).setCell ⟨b, 2, none⟩ x2).setCell ⟨b, 3, none⟩ x3) (some b) := grown_two h3 (grown_set b 3 x3)
    have h5 : w.grownBy (((((w.setCell ⟨b, 0, none⟩ x0).setCell ⟨b, 1, none⟩ x1).setCell ⟨b, 2, none⟩ x2).setCell ⟨b, 3, none⟩ x3).setCell ⟨b, 4, none⟩ x4) (some b) := grown_two h4 (grown_set b 4 x4)
    have h6 : w.grownBy ((((((w.setCell ⟨b, 0, none⟩ x0).setCell ⟨b, 1, none⟩ x1).setCell ⟨b, 2, none⟩ x2).setCell ⟨b, 3, none⟩ x3).setCell ⟨b, 4, none⟩ x4).setCell ⟨b, 5, none⟩ x5) (some b) := grown_two h5 (grown_set b 5 x5)
    have h7 : w.grownBy (((((((w.setCell ⟨b, 0, none⟩ x0).setCell ⟨b, 1, none⟩ x1).setCell ⟨b, 2, none⟩ x2).setCell ⟨b, 3, none⟩ x3).setCell ⟨b, 4, none⟩ x4).setCell ⟨b, 5, none⟩ x5).setCell ⟨b, 6, none⟩ x6) (some b) := grown_two h6 (grown_set b 6 x6)
    have h8 : w.grownBy ((((((((w.setCell ⟨b, 0, none⟩ x0).setCell ⟨b, 1, none⟩ x1).setCell ⟨b, 2, none⟩ x2).setCell ⟨b, 3, none⟩ x3).setCell ⟨b, 4, none⟩ x4).setCell ⟨b, 5, none⟩ x5).setCell ⟨b, 6, none⟩ x6).setCell ⟨b, 7, none⟩ x7) (some b) := grown_two h7 (grown_set b 7 x7)
    have h9 : w.grownBy (((((((((w.setCell ⟨b, 0, none⟩ x0).setCell ⟨b, 1, none⟩ x1).setCell ⟨b, 2, none⟩ x2).setCell ⟨b, 3, none⟩ x3).setCell ⟨b, 4, none⟩ x4).setCell ⟨b, 5, none⟩ x5).setCell ⟨b, 6, none⟩ x6).setCell ⟨b, 7, none⟩ x7).setCell ⟨b, 8, none⟩ x8) (some b) := grown_two h8 (grown_set b 8 x8)
    exact h9
theorem has_drop {L : List Ent} {p : ByteArray} : hasE (dropE L p) = delK (hasE L) p := by
  funext q
  unfold delK dropE
  rw [Bool.eq_iff_iff, findE_isSome, Bool.and_eq_true, findE_isSome, decide_eq_true_eq, List.mem_map, List.mem_map]
  constructor
  · rintro ⟨x, hx, rfl⟩
    obtain ⟨h1, h2⟩ := List.mem_filter.1 hx
    exact ⟨by simpa using h2, x, h1, rfl⟩
  · rintro ⟨hne, x, hx, rfl⟩
    exact ⟨x, List.mem_filter.2 ⟨hx, by simpa using hne⟩, rfl⟩
/-- The data of an entry that has been copied lie apart from the change's own block. -/
def ApartB (lo bz : Nat) (w : World) (k : Nat) : Prop := lo ≤ k ∧ k < w.heap.size ∧ k ≠ bz
theorem LoopD2.push {S TS : Nat → Prop} {a b : List Ent} {w : World} {bA gb sb B2 k : Nat} {v v' : Value} {ys : List VChg} {wr u w8 : World} {y : Ent} {c : Chg} {x : Value} {bz : Nat} {rem' : List Ent} (h : LoopD2 S TS a b w bA gb sb B2 k v ys wr)
    (hA : MapR S u bA (findE a)) (hG : SetR u gb (hasE rem')) (hN : SrcT TS u sb (namesG rem')) (hC : GotC B2 u v ys) (hbel : Below w.heap.size w u) (hb : b[k]? = some y) (hst : stepD a (stD a b k) y = ⟨rem', (stD a b k).out ++ [c]⟩)
    (hown : w8.ownsRow B2 58 9 v' (ys.length + 1) (chgsC ys ++ encC (x, c))) (hg : u.grownBy w8 v.ownBlock) (hpl : ∀ k, v'.ownBlock = some k → v.ownBlock = some k ∨ u.heap.size ≤ k)
    (hx : DataAt (ApartB wr.heap.size bz u) u x c.en.data) (hok : ChgOk c) (hgs : gb < B2 ∧ sb < B2 ∧ bA < B2) (hS : ∀ k, B2 ≤ k → ¬ S k) (hT : ∀ k, B2 ≤ k → ¬ TS k) (hw : w.heap.size ≤ B2) (hbu : wr.heap.size ≤ u.heap.size) : LoopD2 S TS a b w bA gb sb B2 (k + 1) v' (ys ++ [(x, c)]) w8 := by
  have hrow : ∀ k, v.ownBlock = some k → B2 ≤ k := fun k hk => (own_lt hC.row hk).1
  have hbx : DataAt (FreeB B2 u v) u x c.en.data := data_mono hx fun k hk => ⟨Nat.le_trans h.bb hk.1, hk.2.1, fun e => by
    have h1 := (own_lt h.C.row e.symm).2
    have := hk.1
    omega⟩
  have e1 : (stD a b (k + 1)).rem = rem' := by rw [stD_succ hb, hst]
  have e2 : (stD a b (k + 1)).out = (stD a b k).out ++ [c] := by rw [stD_succ hb, hst]
  have hN8 : SrcT TS w8 sb (namesG rem') := by
    cases hv : v.ownBlock with
    | none => exact hN.below (by rw [hv] at hg; exact ⟨hg.os, hg.tape, hg.output, hg.size, fun k hk => hg.block k hk (by simp)⟩)
    | some k => exact hN.other (by rw [hv] at hg; exact hg) (by have := hrow k hv; omega) (hT k (hrow k hv))
  exact ⟨hA.row hg fun k hk => ⟨by have := hrow k hk; omega, hS k (hrow k hk)⟩, by rw [e1]; exact hG.row hg fun k hk => by have := hrow k hk; omega, by rw [e1]; exact hN8,
    hC.push (y := (x, c)) hbx hok hown hg hpl, by rw [List.map_append, h.out, e2]; rfl, hbel.grown hg hbel.size fun k hk => Nat.le_trans hw (hrow k hk), Nat.le_trans h.bb (Nat.le_trans hbu hg.size)⟩
theorem slice_tail (b o n cp : Nat) (hn : n + 1 ≤ cp) : ∃ a', (∀ w, (Instr.slice 34 (.slice (some ⟨b, o, none⟩) (n + 1) cp) (some (.int .i64 1)) none none).run Tryz.prog w = .ok (.slice a' n (cp - 1)) w) ∧ (n = 0 ∨ a' = some ⟨b, o + 1, none⟩) := by
  by_cases hc : cp = 1
  · subst hc
    obtain rfl : n = 0 := by omega
    exact ⟨some ⟨b, o, none⟩, fun w => by kernel_rfl, .inl rfl⟩
  · refine ⟨some ⟨b, o + 1, none⟩, fun w => ?_, .inr rfl⟩
    have h1 : ¬ cp = (1 : Int).toNat := by simpa using hc
    have h2 : (1 : Int) ≤ (n : Int) + 1 := by omega
    simp [Instr.slice, Instr.sliceBounds, Instr.sliceBound, asIntOf, run_underlying Tryz.underlying34, h2, hc, Result.andThen, Addr.add, go_sem]
theorem row_tail {TS : Nat → Prop} {w : World} {b o n cp : Nat} {a' : Option Addr} {cs : List Value} {u0 : Value} (hl : cs.length = n) (hn : n + 1 ≤ cp) (hm : cp ≤ maxLen) (hT : TS b) (hc : ∀ (j : Nat) (u : Value), (u0 :: cs)[j]? = some u → w.cell? ⟨b, o + j, none⟩ = some u) (ha : n = 0 ∨ a' = some ⟨b, o + 1, none⟩) : RowAt TS w 1 (.slice a' n (cp - 1)) n cs := by
  refine ⟨by rw [hl, Nat.mul_one], a', cp - 1, rfl, by omega, by omega, ?_⟩
  rcases ha with ha | ha
  · exact .inl ha
  · refine .inr ⟨b, o + 1, ha, hT, fun j u hj => ?_⟩
    have := hc (j + 1) u (by simpa using hj)
    rwa [show o + (j + 1) = o + 1 + j by omega] at this
theorem data_keep {S S' : Nat → Prop} {w w' : World} {v : Value} {bs : List UInt8} (h : DataAt S w v bs) (hk : ∀ k, S k → k < w.heap.size → w'.heap[k]? = w.heap[k]?) (hs : ∀ k, S k → k < w.heap.size → S' k) : DataAt S' w' v bs := by
  have h3 := RowAt.same (w' := w') (RowAt.mono (T := fun k => S k ∧ k < w.heap.size) h (fun k hk hS => ⟨hS, hk⟩) (by omega)) (fun k hk' => hk k hk'.1 hk'.2)
  exact RowAt.weak h3 (fun k hk' => hs k hk'.1 hk'.2)
theorem own_keep {w w' : World} {B n sz : Nat} {e : TypeId} {v : Value} {xs : List Value} (h : w.ownsRow B e sz v n xs) (hk : ∀ k, B ≤ k → k < w.heap.size → w'.heap[k]? = w.heap[k]?) : w'.ownsRow B e sz v n xs := by
  refine ⟨h.1, h.2.imp id ?_⟩
  rintro ⟨g, cap, cur, h1, h2, h3, h4⟩
  exact ⟨g, cap, cur, h1, h2, (hk g h2 (Array.getElem?_eq_some_iff.1 h3).1).trans h3, h4⟩
theorem GotC.keep {B : Nat} {w w' : World} {v : Value} {ys : List VChg} (h : GotC B w v ys) (hk : ∀ k, B ≤ k → k < w.heap.size → w'.heap[k]? = w.heap[k]?) (hsz : w.heap.size ≤ w'.heap.size) : GotC B w' v ys :=
  ⟨own_keep h.row hk, fun y hy => ⟨data_keep (h.dat y hy).1 (fun k hS hlt => hk k hS.1 hlt) (fun _k hS hlt => ⟨hS.1, Nat.lt_of_lt_of_le hlt hsz, hS.2.2⟩), (h.dat y hy).2⟩⟩
theorem LoopD2.stay {S TS : Nat → Prop} {a b : List Ent} {w : World} {bA gb sb B2 k : Nat} {v : Value} {ys : List VChg} {wr : World} (h : LoopD2 S TS a b w bA gb sb B2 k v ys wr) (he : stD a b (k + 1) = stD a b k) : LoopD2 S TS a b w bA gb sb B2 (k + 1) v ys wr :=
  ⟨h.A, by rw [he]; exact h.G, by rw [he]; exact h.N, h.C, by rw [he]; exact h.out, h.bel, h.bb⟩
end Go.Proofs.YtdieneaillkbgaaGreatDoor

/- Contracts: maps.Copy of entries by their paths; Apply's closure, which takes an entry out. -/
namespace Go.Proofs.YtdieneaillkbgaaGreatDoor
open Go.RowKit Go.Maps
def ovL (L : List Ent) (R : Look) : Look := fun p => match findE L p with
  | some e => some e
  | none => R p
theorem ovL_nil (R : Look) : ovL [] R = R := by funext p; unfold ovL; simp [findE]
theorem ovL_snoc {L : List Ent} {e : Ent} {R : Look} (h : ∀ f ∈ L, f.path ≠ e.path) : putL (ovL L R) e = ovL (L ++ [e]) R := by
  funext q
  unfold putL ovL
  by_cases hq : q = e.path
  · subst hq
    rw [if_pos rfl, findE_app_none (find_none_iff.2 h)]
    simp [findE]
  · rw [if_neg hq]
    cases hg : findE L q with
    | some f => rw [findE_app_some hg]
    | none => rw [findE_app_none hg]; simp [findE, Ne.symm hq]
theorem delL_drop {L : List Ent} {p : ByteArray} : delL (findE L) p = findE (dropE L p) := by
  funext q
  unfold delL
  by_cases hq : q = p
  · subst hq
    rw [if_pos rfl]
    symm
    rw [find_none_iff]
    intro e he
    simpa [dropE] using (List.mem_filter.1 he).2
  · rw [if_neg hq]
    induction L with
    | nil => rfl
    | cons x L ih =>
      unfold dropE at ih ⊢
      by_cases hx : x.path = p
      · rw [List.filter_cons_of_neg (by simpa using hx), findE_cons, if_neg (fun e => hq (by rw [← e, hx]))]
        exact ih
      · rw [List.filter_cons_of_pos (by simpa using hx), findE_cons, findE_cons, ih]
theorem MapR.to {S : Nat → Prop} {w : World} {mb : Nat} {R R' : Look} (h : MapR S w mb R) (he : ∀ p, R p = R' p) : MapR S w mb R' := by
  obtain ⟨xs, h1, h2⟩ := h; exact ⟨xs, h1, fun p => (h2 p).trans (he p)⟩
/-- What stands between two rounds of a copy. -/
structure CopyI (S : Nat → Prop) (w : World) (db sb r : Nat) (RD : Look) (xs : List VEnt) (mm vis : List (Value × Value)) (vs : List VEnt) (wr : World) : Prop where
  hv : vis = vs.map pairOf
  sub : ∀ x ∈ vs, x ∈ xs
  nd : (vs.map (fun x => x.2.path)).Nodup
  rng : RngS Tryz.prog 9 wr sb r mm vis
  dst : MapR S wr db (ovL (vs.map Prod.snd) RD)
  dat : ∀ x ∈ xs, DataAt S wr x.1 x.2.data ∧ EntOk x.2
  grown : w.grownBy wr (some db)
theorem pair_of {xs : List VEnt} {k v : Value} (h : (k, v) ∈ xs.map pairOf) : ∃ x ∈ xs, k = .string x.2.path ∧ v = entV x.1 x.2 := by
  obtain ⟨x, hx, he⟩ := List.mem_map.1 h
  unfold pairOf at he
  exact ⟨x, hx, (Prod.mk.inj he).1.symm, (Prod.mk.inj he).2.symm⟩
theorem grown_new {w w1 w2 : World} {b r : Nat} (h : w.grownBy w1 (some b)) (g : w1.grownBy w2 (some r)) (hr : w.heap.size ≤ r) : w.grownBy w2 (some b) :=
  ⟨g.os.trans h.os, g.tape.trans h.tape, g.output.trans h.output, Nat.le_trans h.size g.size, fun k hk hne => (g.block k (Nat.lt_of_lt_of_le hk h.size) (fun e => by have := Option.some.inj e; omega)).trans (h.block k hk hne)⟩
theorem grown_bel {w w1 w2 : World} {b : Option Nat} (h : w.grownBy w1 b) (g : Below w1.heap.size w1 w2) : w.grownBy w2 b :=
  ⟨g.os.trans h.os, g.tape.trans h.tape, g.output.trans h.output, Nat.le_trans h.size g.size, fun k hk hne => (g.block k (Nat.lt_of_lt_of_le hk h.size)).trans (h.block k hk hne)⟩
set_option maxRecDepth 100000 in
set_option maxHeartbeats 2000000 in
theorem copyM_any (S : Nat → Prop) (db sb : Nat) (RD RS : Look) (w : World) (hd : MapR S w db RD) (hs : MapR S w sb RS) (hne : db ≠ sb) (hS : ∀ k, w.heap.size ≤ k → ¬ S k) :
    Calls Tryz.prog 62 #[.map (some db), .map (some sb)] w fun e w' => e = .returned (.tuple #[]) ∧ MapR S w' db (fun p => match RS p with | some e => some e | none => RD p) ∧ w.grownBy w' (some db) := by
  obtain ⟨xs, hme, hlook⟩ := hs
  have HME := Lib.hid hme
  have HLK := Lib.hid hlook
  have HD := Lib.hid hd
  have HS := Lib.hid hS
  have HNE := Lib.hid hne
  obtain ⟨mm, hmm⟩ : ∃ mm, mm = xs.map pairOf := ⟨_, rfl⟩
  have HMM := Lib.hid hmm
  have HMS := Lib.hid (show MapS Tryz.prog 9 w sb mm by rw [hmm]; exact hme.map)
  have HLT := Lib.hid (And.intro hd.lt hme.map.lt)
  clear hme hlook hd hS hne hmm
  go_enter Tryz.func62, Tryz.ntmps62
  go_wp2_with (at_range; go_must (refine wpList_rangeS rfl _ _ rfl mapTy sb _ rfl HMS.out ?_); intro w0 hrg0 hb0 hs0)
  obtain ⟨r, hr⟩ : ∃ r, r = w.heap.size := ⟨_, rfl⟩
  rw [← hr] at hrg0 ⊢
  have HR := Lib.hid hr
  have HI0 := Lib.hid (show CopyI S w db sb r RD xs mm [] [] w0 from ⟨rfl, by simp, by simp, hrg0, by rw [List.map_nil, ovL_nil]; exact HD.out.below hb0, fun x hx => ⟨(HME.out.dat x hx).1.below hb0, (HME.out.dat x hx).2⟩, hb0.os, hb0.tape, hb0.output, hb0.size, fun k hk _ => hb0.block k hk⟩)
  clear hr hs0 hrg0 hb0
  go_frame
  go_loopw [4] (fun _ wr => ∃ (vis : List (Value × Value)) (vs : List VEnt), CopyI S w db sb r RD xs mm vis vs wr) (fun _ wr => wr.rangeLeft sb r)
  case atStart => exact ⟨[], [], HI0.out⟩
  case round =>
    obtain ⟨vis, vs, hi⟩ := hrel
    have HI := Lib.hid hi
    clear hi
    go_wp2_with (at_next; go_must (refine wpList_nextS rfl _ rfl sb r _ _ rfl HI.out.rng ?_ ?_))
    · intro hdone
      have HDN := Lib.hid hdone
      clear hdone
      go_wp2_with fail
      go_end0
      refine ⟨rfl, HI.out.dst.to fun p => ?_, HI.out.grown⟩
      have hvs := vis_perm HME.out (by rw [← HI.out.hv, ← HMM.out]; exact HDN.out) HI.out.sub HI.out.nd
      unfold ovL
      rw [findE_perm (hvs.map Prod.snd) (by rw [List.map_map]; exact HI.out.nd) p, HLK.out]
    · intro key v1 w1 hmem hnew hrg1 hg1 hs1 hen
      obtain ⟨x, hx, rfl, rfl⟩ := pair_of (by rw [← HMM.out]; exact hmem)
      obtain ⟨xv, e⟩ := x
      obtain ⟨hd0, hok0⟩ := HI.out.dat _ hx
      simp only at hd0 hok0
      obtain ⟨a1, cap1, rfl, hd1, hd2⟩ := hd0.slice
      have HXM := Lib.hid hx
      have HNEW := Lib.hid (show ∀ y ∈ vs, y.2.path ≠ e.path from fun y hy he => hnew (.string y.2.path) (entV y.1 y.2) (by rw [HI.out.hv]; exact List.mem_map.2 ⟨y, hy, rfl⟩) (by rw [he]))
      have HRG1 := Lib.hid hrg1
      have HG1 := Lib.hid hg1
      have HLEFT := Lib.hid HI.out.rng.left
      have hrS : ¬ S r := HS.out r (by rw [HR.out]; exact Nat.le_refl _)
      have HRS := Lib.hid hrS
      have HDT := Lib.hid (data_grown hd0 hrS hg1)
      have HOK := Lib.hid hok0
      have hdb := HLT.out.1
      have hR := HR.out
      have HD1 := Lib.hid (HI.out.dst.other hg1 (by omega) hrS)
      simp only [entV] at hen
      unfold maxLen at hd2
      clear hmem hnew hrg1 hg1 hs1 hx hd0 hok0 hrS hdb hR
      go_upto_region 3 with (fail)
      clear hen
      obtain ⟨W, hW⟩ : ∃ W : World, W = w1.alloc (.cells #[.string e.path, .int .i64 e.kind, .int .i64 e.mode, .int .i64 e.time, .slice a1 e.data.length cap1, .string e.link] 48) := ⟨_, rfl⟩
      rw [← hW]
      have HW := Lib.hid (show Below w1.heap.size w1 W by rw [hW]; exact (Below.refl _ _).alloc (Nat.le_refl _) _)
      have HX := Lib.hid (show W.heap[w1.heap.size]? = some (.cells #[.string e.path, .int .i64 e.kind, .int .i64 e.mode, .int .i64 e.time, .slice a1 e.data.length cap1, .string e.link] 48 (0, 0)) by rw [hW]; exact new20 w1 _)
      clear hW
      have c0 := cell20 (k := 0) HX.out
      have c1 := cell20 (k := 1) HX.out
      have c2 := cell20 (k := 2) HX.out
      have c3 := cell20 (k := 3) HX.out
      have c4 := cell20 (k := 4) HX.out
      have c5 := cell20 (k := 5) HX.out
      have hltX := lt20 HX.out
      simp only [List.getElem?_toArray, List.getElem?_cons_succ, List.getElem?_cons_zero] at c0 c1 c2 c3 c4 c5
      have HPUT := Lib.hid ((HD1.out.below HW.out).put mapTy (HDT.out.below HW.out) HOK.out)
      go_wp2_with (at_mapUpdate; go_must (refine wpList_updRun rfl _ _ _ _ rfl _ _ _ rfl rfl rfl HPUT.out ?_); rintro w3 ⟨hm3, hg3⟩; have HM3 := Lib.hid hm3; have HG3 := Lib.hid hg3; clear hm3 hg3 c0 c1 c2 c3 c4 c5 hltX)
      go_roundw
      case rel =>
        have hne := HNE.out
        have hR := HR.out
        have hl := HLT.out
        have hb1 := (HW.out.block sb (Nat.lt_of_lt_of_le HI.out.rng.map.lt HG1.out.size))
        have hrg := HRG1.out.same ((HG3.out.block sb (Nat.lt_of_lt_of_le (Nat.lt_of_lt_of_le HI.out.rng.map.lt HG1.out.size) HW.out.size) (fun e => by have := Option.some.inj e; omega)).trans hb1)
          ((HG3.out.block r (Nat.lt_of_lt_of_le (Nat.lt_of_lt_of_le HI.out.rng.ltr HG1.out.size) HW.out.size) (fun e => by have := Option.some.inj e; omega)).trans (HW.out.block r (Nat.lt_of_lt_of_le HI.out.rng.ltr HG1.out.size)))
        refine ⟨_, vs ++ [(.slice a1 e.data.length cap1, e)], ⟨?_, ?_, nodup_vsnoc HI.out.nd HNEW.out, hrg, ?_, ?_, ?_⟩⟩
        · rw [List.map_append, HI.out.hv]; rfl
        · intro y hy
          rcases List.mem_append.1 hy with hy | hy
          · exact HI.out.sub y hy
          · rw [List.mem_singleton.1 hy]; exact HXM.out
        · rw [List.map_append]
          have := HM3.out
          rw [ovL_snoc (fun f hf he => by obtain ⟨y, hy, rfl⟩ := List.mem_map.1 hf; exact HNEW.out y hy he)] at this
          exact this
        · intro y hy
          obtain ⟨h1, h2⟩ := HI.out.dat y hy
          exact ⟨data_grown ((data_grown h1 HRS.out HG1.out).below HW.out) HD.out.far HG3.out, h2⟩
        · refine grown_two (grown_bel (grown_new HI.out.grown HG1.out (by omega)) HW.out) HG3.out
      case measure =>
        have hne := HNE.out
        have hR := HR.out
        have hl := HLT.out
        have hb1 := (HW.out.block sb (Nat.lt_of_lt_of_le HI.out.rng.map.lt HG1.out.size))
        have hrg := HRG1.out.same ((HG3.out.block sb (Nat.lt_of_lt_of_le (Nat.lt_of_lt_of_le HI.out.rng.map.lt HG1.out.size) HW.out.size) (fun e => by have := Option.some.inj e; omega)).trans hb1)
          ((HG3.out.block r (Nat.lt_of_lt_of_le (Nat.lt_of_lt_of_le HI.out.rng.ltr HG1.out.size) HW.out.size) (fun e => by have := Option.some.inj e; omega)).trans (HW.out.block r (Nat.lt_of_lt_of_le HI.out.rng.ltr HG1.out.size)))
        have h1 := hrg.left
        have h2 := HLEFT.out
        simp only [List.length_append, List.length_singleton] at h1
        omega
/-- An entry is taken out. -/
theorem takeC_any (S : Nat → Prop) (lb mb : Nat) (R : Look) (p : ByteArray) (w : World) (hm : MapR S w mb R) (hc : w.cell? ⟨lb, 0, none⟩ = some (.map (some mb))) (hp : p.size ≤ maxLen) :
    Calls Tryz.prog 60 #[.string p, .pointer (some ⟨lb, 0, none⟩)] w fun e w' => e = .returned (.bool (R p).isSome) ∧ MapR S w' mb (delL R p) ∧ w.grownBy w' (some mb) := by
  have HM := Lib.hid hm
  have HP := Lib.hid hp
  have HZL := Lib.hid hm.lt
  have hlt := block_lt hc
  have key : ∀ (cs : Array Value) (b : Bool), b = (R p).isSome → ∀ w0 : World, w0 = w.alloc (.cells cs 48) → ∀ w1 : World, MapR S w1 mb (delL R p) → w0.grownBy w1 (some mb) →
      Ending.returned (.bool b) = .returned (.bool (R p).isSome) ∧ MapR S w1 mb (delL R p) ∧ w.grownBy w1 (some mb) := by
    intro cs b hb w0 h0 w1 h1 h2
    subst hb h0
    exact ⟨rfl, h1, grown_two (grown_bel (grown_refl w _) ((Below.refl _ _).alloc (Nat.le_refl _) _)) h2⟩
  have KEY := Lib.hid key
  clear key
  cases hf : R p with
  | none =>
    have hlk := hm.miss mapTy (zeroE_run w) hp hf true
    have HF := Lib.hid hf
    unfold zeroE at hlk
    simp only [if_true] at hlk
    clear hm hp hf
    go_enter Tryz.func60, Tryz.ntmps60
    go_upto_region 2 with (fail)
    clear hlk
    obtain ⟨W0, hW0⟩ : ∃ W : World, W = w.alloc (.cells #[.string ByteArray.empty, .int .i64 0, .int .i64 0, .int .i64 0, .slice none 0 0, .string ByteArray.empty] 48) := ⟨_, rfl⟩
    have HW0 := Lib.hid hW0
    have hb0 : Below w.heap.size w W0 := by rw [hW0]; exact (Below.refl _ _).alloc (Nat.le_refl _) _
    rw [← hW0]
    clear hW0
    have hc0 := (hb0.cell (p := ⟨lb, 0, none⟩) hlt).trans hc
    have hlt0 := block_lt hc0
    have HDEL := Lib.hid (fun ty => (HM.out.below hb0).del mapTy HP.out ty)
    clear hb0 hc
    go_wp2_with (at_delete; go_must (refine wpList_delRun rfl _ _ _ _ rfl _ _ rfl rfl (HDEL.out _) ?_); rintro w10 ⟨hm3, hg3⟩; have HM3 := Lib.hid hm3; have HG3 := Lib.hid hg3; clear hm3 hg3)
    go_ret
    exact ⟨rfl, (KEY.out _ false (by rw [HF.out]; rfl) _ HW0.out _ HM3.out HG3.out).2⟩
  | some f =>
    obtain ⟨vf, hlk, hdf, -⟩ := hm.hit mapTy hf true
    obtain ⟨af, cf, rfl, hdf1, hdf2⟩ := hdf.slice
    unfold maxLen at hdf2
    have HF := Lib.hid hf
    unfold entV at hlk
    simp only [if_true] at hlk
    clear hm hp hf hdf
    go_enter Tryz.func60, Tryz.ntmps60
    go_upto_region 2 with (fail)
    clear hlk
    obtain ⟨W0, hW0⟩ : ∃ W : World, W = w.alloc (.cells #[.string f.path, .int .i64 f.kind, .int .i64 f.mode, .int .i64 f.time, .slice af f.data.length cf, .string f.link] 48) := ⟨_, rfl⟩
    have HW0 := Lib.hid hW0
    have hb0 : Below w.heap.size w W0 := by rw [hW0]; exact (Below.refl _ _).alloc (Nat.le_refl _) _
    rw [← hW0]
    clear hW0
    have hc0 := (hb0.cell (p := ⟨lb, 0, none⟩) hlt).trans hc
    have hlt0 := block_lt hc0
    have HDEL := Lib.hid (fun ty => (HM.out.below hb0).del mapTy HP.out ty)
    clear hb0 hc
    go_wp2_with (at_delete; go_must (refine wpList_delRun rfl _ _ _ _ rfl _ _ rfl rfl (HDEL.out _) ?_); rintro w10 ⟨hm3, hg3⟩; have HM3 := Lib.hid hm3; have HG3 := Lib.hid hg3; clear hm3 hg3)
    go_ret
    exact ⟨rfl, (KEY.out _ true (by rw [HF.out]; rfl) _ HW0.out _ HM3.out HG3.out).2⟩
end Go.Proofs.YtdieneaillkbgaaGreatDoor

/- Applying changes, in plain words: step by step. -/
namespace Go.Proofs.YtdieneaillkbgaaGreatDoor
open Go
theorem takeP_app {a : List Ent} : ∀ {xs ys : List Chg} {left : List Ent}, takeP a left (xs ++ ys) = (takeP a left xs).bind fun l => takeP a l ys
  | [], ys, left => rfl
  | c :: xs, ys, left => by
    rw [List.cons_append]
    simp only [takeP]
    by_cases h1 : c.kind = 1
    · rw [if_pos h1, if_pos h1]
      split
      · exact takeP_app
      · rfl
    · rw [if_neg h1, if_neg h1]
      by_cases h2 : c.kind = 2
      · rw [if_pos h2, if_pos h2]
        split
        · exact takeP_app
        · rfl
      · rw [if_neg h2, if_neg h2]; exact takeP_app
theorem putsP_app {left : List Ent} : ∀ {xs ys : List Chg} {s : PSt}, putsP left s (xs ++ ys) = (putsP left s xs).bind fun t => putsP left t ys
  | [], ys, s => rfl
  | c :: xs, ys, s => by
    rw [List.cons_append]
    simp only [putsP]
    cases stepP left s c with
    | none => rfl
    | some t => exact putsP_app
section
variable {a L : List Ent} {cs : List Chg} {k : Nat} {c : Chg} {s : PSt}
theorem take_step (h : takeP a a (cs.take k) = some L) (hc : cs[k]? = some c) : takeP a a (cs.take (k + 1)) = takeP a L [c] := by
  rw [List.take_add_one, hc, takeP_app, h]; rfl
theorem take_fail (h : takeP a a (cs.take k) = some L) (hc : cs[k]? = some c) (hn : takeP a L [c] = none) : takeP a a cs = none := by
  have := take_step h hc
  rw [hn] at this
  rw [← List.take_append_drop (k + 1) cs, takeP_app, this]; rfl
theorem puts_step (h : putsP L ⟨[], []⟩ (cs.take k) = some s) (hc : cs[k]? = some c) : putsP L ⟨[], []⟩ (cs.take (k + 1)) = stepP L s c := by
  rw [List.take_add_one, hc, putsP_app, h]
  show putsP L s [c] = _
  simp only [putsP]
  cases stepP L s c <;> rfl
theorem puts_fail (h : putsP L ⟨[], []⟩ (cs.take k) = some s) (hc : cs[k]? = some c) (hn : stepP L s c = none) : putsP L ⟨[], []⟩ cs = none := by
  have := puts_step h hc
  rw [hn] at this
  rw [← List.take_append_drop (k + 1) cs, putsP_app, this]; rfl
theorem take1 (h : c.kind = 1) : takeP a L [c] = if hasE L c.path = true then some (dropE L c.path) else none := by
  unfold takeP; rw [if_pos h]; rfl
theorem take2 (h : c.kind = 2) : takeP a L [c] = if (hasE L c.src && alikeAt a c.src c.en) = true then some (dropE L c.src) else none := by
  unfold takeP; rw [if_neg (by omega), if_pos h]; rfl
theorem take3 (h1 : c.kind ≠ 1) (h2 : c.kind ≠ 2) : takeP a L [c] = some L := by
  unfold takeP; rw [if_neg h1, if_neg h2]; rfl
theorem has_sub (hs : L.Sublist a) {p : ByteArray} (h : hasE L p = true) : ∃ f, findE a p = some f := by
  rw [findE_isSome] at h
  have := findE_isSome.2 ((hs.map Ent.path).subset h)
  exact Option.isSome_iff_exists.1 this
/-- Entries written over. -/
theorem over_find (M L : List Ent) (p : ByteArray) : findE (L.map (overE M)) p = (findE L p).map (overE M) := by
  induction L with
  | nil => rfl
  | cons x L ih =>
    have hx : (overE M x).path = x.path := by
      unfold overE
      split
      · rename_i y hy; exact (findE_some hy).2
      · rfl
    unfold findE at ih ⊢
    rw [List.map_cons]
    by_cases h : x.path = p
    · rw [List.find?_cons_of_pos (by simpa [hx] using h), List.find?_cons_of_pos (by simpa using h)]; rfl
    · rw [List.find?_cons_of_neg (by simpa [hx] using h), List.find?_cons_of_neg (by simpa using h), ih]
theorem over_same {M : List Ent} {x : Ent} (h : hasE M x.path = false) : overE M x = x := by
  unfold overE
  unfold hasE at h
  cases hf : findE M x.path with
  | none => rfl
  | some f => rw [hf] at h; cases h
theorem over_put {M : List Ent} {e : Ent} {p : ByteArray} (hm : hasE M e.path = false) (hL : hasE L e.path = true) :
    (if p = e.path then some e else findE (L.map (overE M)) p) = findE (L.map (overE (M ++ [e]))) p := by
  rw [over_find, over_find]
  have hMn : findE M e.path = none := by
    unfold hasE at hm
    cases hf : findE M e.path with
    | none => rfl
    | some f => rw [hf] at hm; cases hm
  by_cases hp : p = e.path
  · rw [if_pos hp, hp]
    unfold hasE at hL
    obtain ⟨f, hf⟩ := Option.isSome_iff_exists.1 hL
    rw [hf, Option.map_some]
    unfold overE
    rw [(findE_some hf).2, findE_app_none hMn]
    simp [findE]
  · rw [if_neg hp]
    cases hf : findE L p with
    | none => rfl
    | some f =>
      rw [Option.map_some, Option.map_some]
      congr 1
      unfold overE
      have hfp := (findE_some hf).2
      rw [hfp]
      cases hg : findE M p with
      | some g => rw [findE_app_some hg]
      | none =>
        rw [findE_app_none hg]
        simp [findE, Ne.symm hp]
theorem app_take (h0 : chkC a cs = 0) (h : takeP a a cs = none) : applyP a cs = ([], 13) := by
  unfold applyP applyQ; rw [if_neg (by omega), h]
theorem app_puts (h0 : chkC a cs = 0) (h : takeP a a cs = some L) (hn : putsP L ⟨[], []⟩ cs = none) : applyP a cs = ([], 13) := by
  unfold applyP applyQ; rw [if_neg (by omega), h]; simp only; rw [hn]
theorem app_done (h0 : chkC a cs = 0) (h : takeP a a cs = some L) (hs : putsP L ⟨[], []⟩ cs = some s) : applyP a cs = if checkP (sortP (resE L s)) = 0 then (sortP (resE L s), 0) else ([], 13) := by
  unfold applyP applyQ; rw [if_neg (by omega), h]; simp only; rw [hs]
theorem chk_ok (h : chkC a cs = 0) : checkP a = 0 ∧ ∀ c ∈ cs, chgOk c = true := by
  unfold chkC at h
  by_cases h1 : checkP a ≠ 0
  · rw [if_pos h1] at h; exact absurd h h1
  · rw [if_neg h1] at h
    refine ⟨by omega, fun c hc => ?_⟩
    by_cases h2 : cs.all chgOk = false
    · rw [if_pos h2] at h; omega
    · rw [Bool.not_eq_false] at h2
      exact List.all_eq_true.1 h2 c hc
/-- What the steps keep. -/
structure PInv (L : List Ent) (s : PSt) (n : Nat) : Prop where
  addV : ∀ e ∈ s.added, vEnt e = true ∧ hasE L e.path = false
  modV : ∀ e ∈ s.mods, vEnt e = true
  len : s.added.length ≤ n
  nd : (s.added.map Ent.path).Nodup
theorem PInv.nil (L : List Ent) : PInv L ⟨[], []⟩ 0 := ⟨by simp, by simp, Nat.le_refl _, by simp⟩
theorem PInv.step {n : Nat} {t : PSt} (h : PInv L s n) (hc : chgOk c = true) (hs : stepP L s c = some t) : PInv L t (n + 1) := by
  unfold stepP at hs
  by_cases h1 : c.kind = 2 ∨ c.kind = 3
  · rw [if_pos h1] at hs
    obtain ⟨hv, hp⟩ := chg_ent hc (by omega)
    split at hs
    · cases hs
    · rename_i hx
      rw [Bool.not_eq_true, Bool.or_eq_false_iff] at hx
      cases hs
      refine ⟨fun e he => ?_, h.modV, by simp; have := h.len; omega, ?_⟩
      · rcases List.mem_append.1 he with he | he
        · exact h.addV e he
        · rw [List.mem_singleton.1 he, ← hp]
          exact ⟨hv, hx.1⟩
      · rw [List.map_append, List.nodup_append]
        refine ⟨h.nd, by simp, fun p hp1 q hq hpq => ?_⟩
        simp only [List.map_cons, List.map_nil, List.mem_singleton] at hq
        subst hpq
        rw [hq, ← hp] at hp1
        rw [← findE_isSome, hx.2] at hp1
        cases hp1
  · rw [if_neg h1] at hs
    by_cases h2 : c.kind = 4
    · rw [if_pos h2] at hs
      obtain ⟨hv, hp⟩ := chg_ent hc (by omega)
      split at hs
      · split at hs
        · cases hs
        · cases hs
          refine ⟨h.addV, fun e he => ?_, by have := h.len; simp only; omega, h.nd⟩
          rcases List.mem_append.1 he with he | he
          · exact h.modV e he
          · rw [List.mem_singleton.1 he]; exact hv
      · cases hs
    · rw [if_neg h2] at hs
      cases hs
      exact ⟨h.addV, h.modV, by have := h.len; omega, h.nd⟩
theorem resE_nodup {n : Nat} (h : PInv L s n) (hL : (L.map Ent.path).Nodup) : ((resE L s).map Ent.path).Nodup := by
  rw [res_paths, List.nodup_append]
  refine ⟨hL, h.nd, fun p hp q hq hpq => ?_⟩
  subst hpq
  obtain ⟨e, he, rfl⟩ := List.mem_map.1 hq
  rw [← findE_isSome, (h.addV e he).2] at hp
  cases hp
theorem resE_vent {n : Nat} (h : PInv L s n) (hL : ∀ e ∈ L, vEnt e = true) : ∀ e ∈ resE L s, vEnt e = true := by
  intro e he
  unfold resE at he
  rcases List.mem_append.1 he with he | he
  · obtain ⟨x, hx, rfl⟩ := List.mem_map.1 he
    unfold overE
    split
    · rename_i y hy; exact h.modV _ (findE_some hy).1
    · exact hL x hx
  · exact (h.addV e he).1
theorem resE_len (L : List Ent) (s : PSt) : (resE L s).length = L.length + s.added.length := by unfold resE; simp
theorem res_look' {n : Nat} (h : PInv L s n) (p : ByteArray) : (match findE s.added p with | some e => some e | none => findE (L.map (overE s.mods)) p) = findE (resE L s) p := by
  unfold resE
  cases hf : findE (L.map (overE s.mods)) p with
  | some f =>
    rw [findE_app_some hf]
    cases hg : findE s.added p with
    | none => rfl
    | some g =>
      obtain ⟨g1, g2⟩ := findE_some hg
      have := (h.addV g g1).2
      rw [g2] at this
      rw [over_find] at hf
      unfold hasE at this
      cases hl : findE L p with
      | none => rw [hl] at hf; cases hf
      | some z => rw [hl] at this; cases this
  | none =>
    rw [findE_app_none hf]
    cases findE s.added p <;> rfl
end
end Go.Proofs.YtdieneaillkbgaaGreatDoor

/- Contracts of package treediff: Apply: what its loops keep. -/
namespace Go.Proofs.YtdieneaillkbgaaGreatDoor
open Go.RowKit Go.Maps
/-- What is older than a world. -/
def Old (w : World) (k : Nat) : Prop := k < w.heap.size
theorem chg_old {S : Nat → Prop} {w : World} {l : List Value} {c : Chg} (h : ChgR S w l c) : ChgR (Old w) w l c := by
  obtain ⟨v, h1, h2, h3⟩ := h
  exact ⟨v, h1, data_mono (data_here h2) (fun k hk => hk.2), h3⟩
theorem chgs_old {S : Nat → Prop} {w : World} {v : Value} {l : List Chg} (h : ChgsAt S w v l) : ChgsAt (Old w) w v l :=
  SeqAt.mono h (by omega) (fun _ hk _ => hk) (fun _ _ _ hr => chg_old hr)
theorem ent_old {S : Nat → Prop} {w : World} {l : List Value} {e : Ent} (h : EntR S w l e) : EntR (Old w) w l e := by
  obtain ⟨v, h1, h2, h3⟩ := h
  exact ⟨v, h1, data_mono (data_here h2) (fun k hk => hk.2), h3⟩
theorem ents_old {S : Nat → Prop} {w : World} {v : Value} {l : List Ent} (h : EntsAt S w v l) : EntsAt (Old w) w v l :=
  SeqAt.mono h (by omega) (fun _ hk _ => hk) (fun _ _ _ hr => ent_old hr)
/-- What a look-up with 'there' answers. -/
def enOr : Option Ent → Ent
  | some e => e
  | none => noEnt
theorem noEnt_ok : EntOk noEnt := ⟨by decide, by decide, by decide, by decide, by decide⟩
theorem MapR.ask {S : Nat → Prop} {w : World} {mb : Nat} {R : Look} {t : TypeId} (h : MapR S w mb R) (ht : Tryz.prog.underlying t = some (.map 9 48)) (hz : (zeroValue 48).run Tryz.prog w = .ok zeroE w) {p : ByteArray} (hp : p.size ≤ maxLen) :
    ∃ a c, (Instr.lookup t (.map (some mb)) (.string p) true).run Tryz.prog w = .ok (.tuple #[.agg #[.string (enOr (R p)).path, .int .i64 (enOr (R p)).kind, .int .i64 (enOr (R p)).mode, .int .i64 (enOr (R p)).time, .slice a (enOr (R p)).data.length c, .string (enOr (R p)).link], .bool (R p).isSome]) w ∧
      DataAt S w (.slice a (enOr (R p)).data.length c) (enOr (R p)).data ∧ EntOk (enOr (R p)) ∧ c ≤ maxLen := by
  cases hf : R p with
  | none => exact ⟨none, 0, h.miss ht hz hp hf true, DataAt.nil _ _, noEnt_ok, by decide⟩
  | some f =>
    obtain ⟨v, h1, h2, h3⟩ := h.hit ht hf true
    obtain ⟨a, c, rfl, h4, h5⟩ := h2.slice
    exact ⟨a, c, h1, h2, h3, h5⟩
theorem MapR.ask1 {S : Nat → Prop} {w : World} {mb : Nat} {R : Look} {t : TypeId} (h : MapR S w mb R) (ht : Tryz.prog.underlying t = some (.map 9 48)) (hz : (zeroValue 48).run Tryz.prog w = .ok zeroE w) {p : ByteArray} (hp : p.size ≤ maxLen) :
    ∃ a c, (Instr.lookup t (.map (some mb)) (.string p) false).run Tryz.prog w = .ok (.agg #[.string (enOr (R p)).path, .int .i64 (enOr (R p)).kind, .int .i64 (enOr (R p)).mode, .int .i64 (enOr (R p)).time, .slice a (enOr (R p)).data.length c, .string (enOr (R p)).link]) w ∧
      DataAt S w (.slice a (enOr (R p)).data.length c) (enOr (R p)).data ∧ EntOk (enOr (R p)) ∧ c ≤ maxLen := by
  cases hf : R p with
  | none => exact ⟨none, 0, h.miss ht hz hp hf false, DataAt.nil _ _, noEnt_ok, by decide⟩
  | some f =>
    obtain ⟨v, h1, h2, h3⟩ := h.hit ht hf false
    obtain ⟨a, c, rfl, h4, h5⟩ := h2.slice
    exact ⟨a, c, h1, h2, h3, h5⟩
/-- What Apply answers. -/
def AppRes (a : List Ent) (cs : List Chg) (w : World) (e : Ending) (w' : World) : Prop :=
  ∃ v ys, e = .returned (.tuple #[v, .int .i64 (applyP a cs).2]) ∧ ys.map Prod.snd = (applyP a cs).1 ∧ GotE w.heap.size w' v ys ∧ Below w.heap.size w w'
theorem app_err {a : List Ent} {cs : List Chg} {w w' : World} {n : Int} (h : applyP a cs = ([], n)) (hb : Below w.heap.size w w') : AppRes a cs w (.returned (.tuple #[.slice none 0 0, .int .i64 n])) w' :=
  ⟨_, [], by rw [h], by rw [h]; rfl, GotE.nil _ _, hb⟩
/-- Between two rounds of the first loop. -/
structure LoopA1 (a : List Ent) (w : World) (bx lb ob : Nat) (L : List Ent) (wr : World) : Prop where
  box : wr.heap[bx]? = some (.cells #[.map (some lb)] 75 (0, 0))
  lft : MapR (Old w) wr lb (findE L)
  org : MapR (Old w) wr ob (findE a)
  bel : Below w.heap.size w wr
structure Apart3 (w : World) (bx lb ob : Nat) : Prop where
  b1 : w.heap.size ≤ bx
  b2 : w.heap.size ≤ lb
  b3 : w.heap.size ≤ ob
  n1 : lb ≠ bx
  n2 : ob ≠ lb
  n3 : ob ≠ bx
section
variable {a L : List Ent} {w wr w' : World} {bx lb ob : Nat}
theorem LoopA1.below (h : LoopA1 a w bx lb ob L wr) (hb : Below wr.heap.size wr w') : LoopA1 a w bx lb ob L w' :=
  ⟨(hb.block bx (lt20 h.box)).trans h.box, h.lft.below hb, h.org.below hb, below_next h.bel hb⟩
theorem LoopA1.take (h : LoopA1 a w bx lb ob L wr) (ap : Apart3 w bx lb ob) {p : ByteArray} (hm : MapR (Old w) w' lb (delL (findE L) p)) (hg : wr.grownBy w' (some lb)) : LoopA1 a w bx lb ob (dropE L p) w' :=
  ⟨(hg.block bx (lt20 h.box) (fun e => ap.n1 (Option.some.inj e).symm)).trans h.box, by rw [← delL_drop]; exact hm, h.org.other hg ap.n2 (by have := ap.b2; unfold Old; omega), h.bel.grown hg h.bel.size (fun k e => by cases e; exact ap.b2)⟩
end
/-- Between two rounds of the second loop. -/
structure LoopA2 (w : World) (bx lb ab mb : Nat) (L : List Ent) (s : PSt) (wr : World) : Prop where
  box : wr.heap[bx]? = some (.cells #[.map (some lb)] 75 (0, 0))
  lft : MapR (Old w) wr lb (findE (L.map (overE s.mods)))
  add : MapR (Old w) wr ab (findE s.added)
  mods : SetR wr mb (hasE s.mods)
  bel : Below w.heap.size w wr
structure Apart4 (w : World) (bx lb ab mb : Nat) : Prop where
  b1 : w.heap.size ≤ bx
  b2 : w.heap.size ≤ lb
  b3 : w.heap.size ≤ ab
  b4 : w.heap.size ≤ mb
  n1 : lb ≠ bx
  n2 : ab ≠ lb
  n3 : ab ≠ bx
  n4 : mb ≠ bx
  n5 : mb ≠ lb
  n6 : mb ≠ ab
section
variable {L : List Ent} {s : PSt} {w wr w' w2 : World} {bx lb ab mb : Nat} {e : Ent}
theorem LoopA2.below (h : LoopA2 w bx lb ab mb L s wr) (hb : Below wr.heap.size wr w') : LoopA2 w bx lb ab mb L s w' :=
  ⟨(hb.block bx (lt20 h.box)).trans h.box, h.lft.below hb, h.add.below hb, h.mods.below hb, below_next h.bel hb⟩
theorem old_new {k : Nat} (h : w.heap.size ≤ k) : ¬ Old w k := by unfold Old; omega
theorem LoopA2.put (h : LoopA2 w bx lb ab mb L s wr) (ap : Apart4 w bx lb ab mb) (hn : hasE s.added e.path = false) (hm : MapR (Old w) w' ab (putL (findE s.added) e)) (hg : wr.grownBy w' (some ab)) : LoopA2 w bx lb ab mb L ⟨s.added ++ [e], s.mods⟩ w' := by
  refine ⟨(hg.block bx (lt20 h.box) (fun e => ap.n3 (Option.some.inj e).symm)).trans h.box, h.lft.other hg (Ne.symm ap.n2) (old_new ap.b3), ?_, h.mods.other hg ap.n6, h.bel.grown hg h.bel.size (fun k e => by cases e; exact ap.b3)⟩
  rw [putL_snoc (fun f hf he => by rw [← he] at hn; rw [findE_isSome.2 (List.mem_map_of_mem hf)] at hn; cases hn)] at hm
  exact hm
theorem hasE_snoc (M : List Ent) (e : Ent) : addK (hasE M) e.path = hasE (M ++ [e]) := (has_snoc M e).symm
theorem LoopA2.mod (h : LoopA2 w bx lb ab mb L s wr) (ap : Apart4 w bx lb ab mb) (hn : hasE s.mods e.path = false) (hL : hasE L e.path = true) (hm : SetR w' mb (addK (hasE s.mods) e.path)) (hg : wr.grownBy w' (some mb))
    (hl : MapR (Old w) w2 lb (putL (findE (L.map (overE s.mods))) e)) (hg2 : w'.grownBy w2 (some lb)) : LoopA2 w bx lb ab mb L ⟨s.added, s.mods ++ [e]⟩ w2 := by
  have hb1 := h.bel.grown hg h.bel.size (fun k e => by cases e; exact ap.b4)
  refine ⟨?_, hl.to fun p => over_put hn hL, (h.add.other hg (Ne.symm ap.n6) (old_new ap.b4)).other hg2 ap.n2 (old_new ap.b2), ?_, hb1.grown hg2 hb1.size (fun k e => by cases e; exact ap.b2)⟩
  · have h1 := (hg.block bx (lt20 h.box) (fun e => ap.n4 (Option.some.inj e).symm)).trans h.box
    exact (hg2.block bx (lt20 h1) (fun e => ap.n1 (Option.some.inj e).symm)).trans h1
  · rw [← hasE_snoc]
    exact hm.other hg2 ap.n5
end
theorem make_mapE0 (w : World) : (Instr.makeMap 75 none).run Tryz.prog w = .ok (.map (some w.heap.size)) (w.alloc (.map #[] 0)) := by simp [Instr.makeMap]
theorem boolZ (w : World) : (zeroValue 4).run Tryz.prog w = .ok (.bool false) w := by kernel_rfl
end Go.Proofs.YtdieneaillkbgaaGreatDoor

/- Merges of three trees, in plain words: the program's steps. -/
namespace Go.Proofs.YtdieneaillkbgaaGreatDoor
open Go
/- Deciding path by path. -/
def setL (R : Look) (p : ByteArray) (v : Option Ent) : Look := fun q => if q = p then v else R q
def seenR (x l r : List Ent) (s : List ByteArray) : Look := fun q => if hasP s q = true then decM x l r q else none
def seenK (x l r : List Ent) (s : List ByteArray) (q : ByteArray) : Bool := hasP s q && confM x l r q
theorem hasP_snoc (s : List ByteArray) (p q : ByteArray) : hasP (s ++ [p]) q = (hasP s q || decide (p = q)) := by unfold hasP; simp
theorem seenR_step (x l r : List Ent) (s : List ByteArray) (p : ByteArray) : setL (seenR x l r s) p (decM x l r p) = seenR x l r (s ++ [p]) := by
  funext q
  unfold setL seenR
  rw [hasP_snoc]
  by_cases h : q = p
  · subst h; simp
  · rw [if_neg h, decide_eq_false (fun e => h e.symm), Bool.or_false]
theorem seenK_step (x l r : List Ent) (s : List ByteArray) (p q : ByteArray) : seenK x l r (s ++ [p]) q = ((decide (q = p) && confM x l r p) || seenK x l r s q) := by
  unfold seenK
  rw [hasP_snoc]
  by_cases h : q = p
  · subst h; cases hasP s q <;> simp
  · rw [decide_eq_false (fun e => h e.symm), decide_eq_false h]; simp
theorem dec_out {x l r : List Ent} {p : ByteArray} (hl : findE l p = none) (hr : findE r p = none) : decM x l r p = none ∧ confM x l r p = false := by
  unfold decM confM; rw [hl, hr]; simp
theorem seen_end {x l r : List Ent} {s : List ByteArray} (h : ∀ q, q ∈ l.map Ent.path ∨ q ∈ r.map Ent.path → q ∈ s) : seenR x l r s = decM x l r ∧ seenK x l r s = confM x l r := by
  have key : ∀ q, hasP s q = false → findE l q = none ∧ findE r q = none := by
    intro q hq
    rw [← Bool.not_eq_true, hasP_iff] at hq
    have h1 := fun hx => hq (h q (Or.inl hx))
    have h2 := fun hx => hq (h q (Or.inr hx))
    rw [← findE_isSome] at h1 h2
    unfold hasE at h1 h2
    constructor
    · cases hf : findE l q with
      | none => rfl
      | some f => rw [hf] at h1; exact absurd rfl h1
    · cases hf : findE r q with
      | none => rfl
      | some f => rw [hf] at h2; exact absurd rfl h2
  constructor
  · funext q
    unfold seenR
    cases hq : hasP s q with
    | true => rfl
    | false => rw [(dec_out (x := x) (key q hq).1 (key q hq).2).1]; rfl
  · funext q
    unfold seenK
    cases hq : hasP s q with
    | true => rfl
    | false => rw [(dec_out (x := x) (key q hq).1 (key q hq).2).2]; rfl
/- Keeping the ancestors of what left has. -/
def fixR (R0 : Look) (l : List Ent) (F : ByteArray → Bool) : Look := fun q => if F q = true then findE l q else R0 q
structure KInv (R0 : Look) (l s : List Ent) (F : ByteArray → Bool) : Prop where
  fix : ∀ q, F q = true → fixM R0 l q = true
  done : ∀ e ∈ s, R0 e.path = some e → ∀ q, upB (bl q) (bl e.path) = true → isDirO (R0 q) = true ∨ F q = true
theorem KInv.nil (R0 : Look) (l : List Ent) : KInv R0 l [] (fun _ => false) := ⟨by simp, by simp⟩
theorem KInv.fin {R0 : Look} {l : List Ent} {F : ByteArray → Bool} (h : KInv R0 l l F) : F = fixM R0 l := by
  funext q
  rw [Bool.eq_iff_iff]
  refine ⟨h.fix q, fun hq => ?_⟩
  unfold fixM needM at hq
  rw [Bool.and_eq_true, List.any_eq_true] at hq
  obtain ⟨⟨e, he, hx⟩, hd⟩ := hq
  rw [Bool.and_eq_true, decide_eq_true_eq] at hx
  rcases h.done e he hx.1 q hx.2 with h1 | h1
  · rw [h1] at hd; cases hd
  · exact h1
theorem left_dir {l : List Ent} (hl : TOk l) {e : Ent} (he : e ∈ l) {q : ByteArray} (hq : upB (bl q) (bl e.path) = true) : isDirO (findE l q) = true :=
  allUp_iff.1 (tree_up hl e.path (by rw [findE_mem hl.nodup he]; rfl)) q hq
theorem up_trans {a b c : List UInt8} (h1 : upB a b = true) (h2 : upB b c = true) : upB a c = true := by
  obtain ⟨ha, r, hr⟩ := upB_iff.1 h1
  obtain ⟨hb, t, ht⟩ := upB_iff.1 h2
  exact upB_iff.2 ⟨ha, r ++ 47 :: t, by rw [ht, hr]; simp⟩
theorem need_of {R0 : Look} {l s : List Ent} {F : ByteArray → Bool} (h : KInv R0 l s F) {e : Ent} (he : e ∈ l) (hR : fixR R0 l F e.path = some e) {q : ByteArray} (hq : upB (bl q) (bl e.path) = true) : needM R0 l q = true := by
  unfold fixR at hR
  unfold needM
  rw [List.any_eq_true]
  by_cases hF : F e.path = true
  · have := h.fix _ hF
    unfold fixM needM at this
    rw [Bool.and_eq_true, List.any_eq_true] at this
    obtain ⟨⟨f, hf, hx⟩, _⟩ := this
    rw [Bool.and_eq_true] at hx
    exact ⟨f, hf, by rw [Bool.and_eq_true]; exact ⟨hx.1, up_trans hq hx.2⟩⟩
  · rw [if_neg hF] at hR
    exact ⟨e, he, by rw [Bool.and_eq_true, decide_eq_true_eq]; exact ⟨hR, hq⟩⟩
theorem KInv.skip {R0 : Look} {l s : List Ent} {F : ByteArray → Bool} (h : KInv R0 l s F) (hl : TOk l) {e : Ent} (he : e ∈ l) (hR : fixR R0 l F e.path ≠ some e) : KInv R0 l (s ++ [e]) F := by
  refine ⟨h.fix, fun f hf hRf q hq => ?_⟩
  rcases List.mem_append.1 hf with hf | hf
  · exact h.done f hf hRf q hq
  · rw [List.mem_singleton.1 hf] at hRf hq
    exfalso
    refine hR ?_
    unfold fixR
    split
    · exact findE_mem hl.nodup he
    · exact hRf
/-- On the way up from an entry. -/
structure UInv (R0 : Look) (l s : List Ent) (e : Ent) (F : ByteArray → Bool) (cur : List UInt8) : Prop where
  base : KInv R0 l s F
  need : ∀ q, upB (bl q) (bl e.path) = true → needM R0 l q = true
  rest : ∀ q, upB (bl q) (bl e.path) = true → (bl q = cur ∨ upB (bl q) cur = true) ∨ (isDirO (R0 q) = true ∨ F q = true)
  here : cur ≠ [] → upB cur (bl e.path) = true
theorem UInv.start {R0 : Look} {l s : List Ent} {F : ByteArray → Bool} (h : KInv R0 l s F) {e : Ent} (he : e ∈ l) (hR : fixR R0 l F e.path = some e) : UInv R0 l s e F (parentL (bl e.path)) :=
  ⟨h, fun _ hq => need_of h he hR hq, fun _ hq => Or.inl (up_step.1 hq).2, fun hp => up_step.2 ⟨hp, Or.inl rfl⟩⟩
theorem UInv.stop {R0 : Look} {l s : List Ent} {F : ByteArray → Bool} {e : Ent} (h : UInv R0 l s e F []) : KInv R0 l (s ++ [e]) F := by
  refine ⟨h.base.fix, fun f hf hRf q hq => ?_⟩
  rcases List.mem_append.1 hf with hf | hf
  · exact h.base.done f hf hRf q hq
  · rw [List.mem_singleton.1 hf] at hq
    rcases h.rest q hq with (h1 | h1) | h1
    · exact absurd h1 (upB_iff.1 hq).1
    · obtain ⟨_, r, hr⟩ := upB_iff.1 h1
      cases hb : bl q <;> simp [hb] at hr
    · exact h1
theorem UInv.up {R0 : Look} {l s : List Ent} {F : ByteArray → Bool} {e : Ent} {cur : List UInt8} (h : UInv R0 l s e F cur) (hc : cur ≠ []) (hd : isDirO (R0 ⟨cur.toArray⟩) = true ∨ F ⟨cur.toArray⟩ = true) : UInv R0 l s e F (parentL cur) := by
  refine ⟨h.base, h.need, fun q hq => ?_, fun hp => up_trans (up_step.2 ⟨hp, Or.inl rfl⟩) (h.here hc)⟩
  rcases h.rest q hq with (h1 | h1) | h1
  · rw [show q = ⟨cur.toArray⟩ from bl_inj (by rw [h1, bl_of])]; exact Or.inr hd
  · exact Or.inl (up_step.1 h1).2
  · exact Or.inr h1
def addF (F : ByteArray → Bool) (p : ByteArray) : ByteArray → Bool := fun q => decide (q = p) || F q
theorem UInv.keep {R0 : Look} {l s : List Ent} {F : ByteArray → Bool} {e : Ent} {cur : List UInt8} (h : UInv R0 l s e F cur) (hc : cur ≠ []) (hd : isDirO (fixR R0 l F ⟨cur.toArray⟩) = true) : UInv R0 l s e F (parentL cur) := by
  refine h.up hc ?_
  unfold fixR at hd
  by_cases hF : F ⟨cur.toArray⟩ = true
  · exact Or.inr hF
  · rw [if_neg hF] at hd; exact Or.inl hd
theorem UInv.mend {R0 : Look} {l s : List Ent} {F : ByteArray → Bool} {e : Ent} {cur : List UInt8} (h : UInv R0 l s e F cur) (hl : TOk l) (he : e ∈ l) (hc : cur ≠ []) (hd : isDirO (fixR R0 l F ⟨cur.toArray⟩) = false) :
    UInv R0 l s e (addF F ⟨cur.toArray⟩) (parentL cur) ∧ setL (fixR R0 l F) ⟨cur.toArray⟩ (findE l ⟨cur.toArray⟩) = fixR R0 l (addF F ⟨cur.toArray⟩) := by
  have hu : upB (bl ⟨cur.toArray⟩) (bl e.path) = true := by rw [bl_of]; exact h.here hc
  have hF : F ⟨cur.toArray⟩ = false := by
    cases hF : F ⟨cur.toArray⟩ with
    | false => rfl
    | true =>
      unfold fixR at hd
      rw [if_pos hF, left_dir hl he hu] at hd; cases hd
  have hR : isDirO (R0 ⟨cur.toArray⟩) = false := by unfold fixR at hd; rw [hF] at hd; exact hd
  have hm : ∀ q, F q = true → addF F ⟨cur.toArray⟩ q = true := fun q hq => by unfold addF; rw [hq, Bool.or_true]
  refine ⟨UInv.up ⟨⟨fun q hq => ?_, fun f hf hRf q hq => (h.base.done f hf hRf q hq).imp id (hm q)⟩, h.need, fun q hq => (h.rest q hq).imp id (fun x => x.imp id (hm q)), h.here⟩ hc (Or.inr (by unfold addF; simp)), ?_⟩
  · unfold addF at hq
    rw [Bool.or_eq_true, decide_eq_true_eq] at hq
    rcases hq with rfl | hq
    · unfold fixM; rw [h.need _ hu, hR]; rfl
    · exact h.base.fix q hq
  · funext q
    unfold setL fixR addF
    by_cases hq : q = ⟨cur.toArray⟩
    · subst hq; simp
    · rw [if_neg hq, decide_eq_false hq, Bool.false_or]
/- Leaving out what has no directory above it. -/
def outR (R0 : Look) (s : List ByteArray) : Look := fun q => if hasP s q = true then outM R0 q else R0 q
def outK (K0 : ByteArray → Bool) (R0 : Look) (s : List ByteArray) (q : ByteArray) : Bool := K0 q || (hasP s q && (outM R0 q).isNone)
theorem up_cmp {d l : List UInt8} (h : upB d l = true) : cmpL d l < 0 := by
  obtain ⟨_, r, hr⟩ := upB_iff.1 h
  have h1 := cmp_app d (47 :: r)
  rw [← hr] at h1
  rcases Int.lt_or_eq_of_le h1 with h2 | h2
  · exact h2
  · rw [(cmp_zero _ _).1 h2] at hr
    have := congrArg List.length hr
    simp at this
theorem out_par {R0 : Look} {ps : List ByteArray} (hs : ps.Pairwise fun a b => cmpL (bl a) (bl b) < 0) (hin : ∀ p, p ∈ ps ↔ (R0 p).isSome = true) {k : Nat} {p : ByteArray} (hp : ps[k]? = some p) (hd : parentL (bl p) ≠ []) :
    outR R0 (ps.take k) ⟨(parentL (bl p)).toArray⟩ = outM R0 ⟨(parentL (bl p)).toArray⟩ := by
  unfold outR
  by_cases h : hasP (ps.take k) ⟨(parentL (bl p)).toArray⟩ = true
  · rw [if_pos h]
  · rw [if_neg h]
    have hno : (⟨(parentL (bl p)).toArray⟩ : ByteArray) ∉ ps := by
      intro hm
      obtain ⟨j, hj⟩ := List.mem_iff_getElem?.1 hm
      have hlt : cmpL (bl ⟨(parentL (bl p)).toArray⟩) (bl p) < 0 := by rw [bl_of]; exact up_cmp (up_step.2 ⟨hd, Or.inl rfl⟩)
      obtain ⟨hj1, hj2⟩ := List.getElem?_eq_some_iff.1 hj
      obtain ⟨hk1, hk2⟩ := List.getElem?_eq_some_iff.1 hp
      rcases Nat.lt_trichotomy j k with hjk | hjk | hjk
      · refine h (hasP_iff.2 (List.mem_iff_getElem?.2 ⟨j, ?_⟩))
        rw [List.getElem?_take, if_pos hjk, hj]
      · subst hjk
        rw [hp] at hj
        have := Option.some.inj hj
        rw [← this, (cmp_zero _ _).2 rfl] at hlt; omega
      · have h2 := List.pairwise_iff_getElem.1 hs k j hk1 hj1 hjk
        rw [hk2, hj2] at h2
        have := cmp_neg (bl p) (bl ⟨(parentL (bl p)).toArray⟩)
        omega
    rw [hin] at hno
    unfold outM
    split
    · rfl
    · cases hx : R0 ⟨(parentL (bl p)).toArray⟩ with
      | none => rfl
      | some f => rw [hx] at hno; exact absurd rfl hno
theorem out_keep {R0 : Look} {s : List ByteArray} {p : ByteArray} (K0 : ByteArray → Bool) (hp : (R0 p).isSome = true) (h : outM R0 p = R0 p) : outR R0 (s ++ [p]) = outR R0 s ∧ outK K0 R0 (s ++ [p]) = outK K0 R0 s := by
  constructor
  · funext q
    unfold outR
    rw [hasP_snoc]
    by_cases hq : p = q
    · subst hq
      rw [decide_eq_true rfl, Bool.or_true, if_pos rfl, h]; split <;> first | rfl | exact h.symm
    · rw [decide_eq_false hq, Bool.or_false]
  · funext q
    unfold outK
    rw [hasP_snoc]
    by_cases hq : p = q
    · subst hq
      rw [h]
      cases hx : R0 p with
      | none => rw [hx] at hp; cases hp
      | some f => simp
    · rw [decide_eq_false hq, Bool.or_false]
theorem out_drop {R0 : Look} {s : List ByteArray} {p : ByteArray} (K0 : ByteArray → Bool) (h : outM R0 p = none) : outR R0 (s ++ [p]) = setL (outR R0 s) p none ∧ outK K0 R0 (s ++ [p]) = addF (outK K0 R0 s) p := by
  constructor
  · funext q
    unfold outR setL
    rw [hasP_snoc]
    by_cases hq : q = p
    · subst hq; rw [decide_eq_true rfl, Bool.or_true, if_pos rfl, if_pos rfl, h]
    · rw [decide_eq_false (fun e => hq e.symm), Bool.or_false, if_neg hq]
  · funext q
    unfold outK addF
    rw [hasP_snoc]
    by_cases hq : q = p
    · subst hq; rw [h]; simp
    · rw [decide_eq_false (fun e => hq e.symm), Bool.or_false, decide_eq_false hq, Bool.false_or]
theorem out_end {R0 : Look} {ps : List ByteArray} (hin : ∀ p, p ∈ ps ↔ (R0 p).isSome = true) (K0 : ByteArray → Bool) : outR R0 ps = outM R0 ∧ outK K0 R0 ps = fun q => K0 q || ((R0 q).isSome && !allUp R0 q) := by
  constructor
  · funext q
    unfold outR
    by_cases h : hasP ps q = true
    · rw [if_pos h]
    · rw [if_neg h]
      rw [hasP_iff, hin] at h
      unfold outM
      cases hx : R0 q with
      | none => split <;> rfl
      | some f => rw [hx] at h; exact absurd rfl h
  · funext q
    unfold outK
    congr 1
    have h1 : hasP ps q = (R0 q).isSome := by rw [Bool.eq_iff_iff, hasP_iff, hin]
    rw [h1]
    unfold outM
    cases hx : R0 q with
    | none => rfl
    | some f => cases allUp R0 q <;> rfl
theorem merge_k (x l r : List Ent) : (fun q => (confM x l r q || fixM (decM x l r) l q) || ((midM x l r q).isSome && !allUp (midM x l r) q)) = isK x l r := by
  funext q; unfold isK; rw [Bool.or_assoc]
end Go.Proofs.YtdieneaillkbgaaGreatDoor

/- Contracts of package treediff: a merge's state; equalAt, take, decide. -/
namespace Go.Proofs.YtdieneaillkbgaaGreatDoor
open Go.RowKit Go.Maps
/-- A merge's five maps. -/
structure MrgI (w0 : World) (zb : Nat) (zo : Obj) (sb xb lb rb qb cb : Nat) (x l r : List Ent) (R : Look) (K : ByteArray → Bool) (w : World) : Prop where
  box : w.heap[sb]? = some (.cells #[.map (some xb), .map (some lb), .map (some rb), .map (some qb), .map (some cb)] 78 (0, 0))
  base : MapR (Old w0) w xb (findE x)
  left : MapR (Old w0) w lb (findE l)
  rght : MapR (Old w0) w rb (findE r)
  res : MapR (Old w0) w qb R
  conf : SetR w cb K
  zed : w.heap[zb]? = some zo
  bel : Below w0.heap.size w0 w
structure MrgA (w0 : World) (zb sb xb lb rb qb cb : Nat) : Prop where
  q0 : w0.heap.size ≤ qb
  c0 : w0.heap.size ≤ cb
  q1 : sb ≠ qb
  q2 : xb ≠ qb
  q3 : lb ≠ qb
  q4 : rb ≠ qb
  c1 : sb ≠ cb
  c2 : xb ≠ cb
  c3 : lb ≠ cb
  c4 : rb ≠ cb
  c5 : qb ≠ cb
  z1 : zb ≠ qb
  z2 : zb ≠ cb
section
variable {w0 w w' : World} {zb : Nat} {zo : Obj} {sb xb lb rb qb cb : Nat} {x l r : List Ent} {R R' : Look} {K K' : ByteArray → Bool}
theorem MrgI.below (h : MrgI w0 zb zo sb xb lb rb qb cb x l r R K w) (hb : Below w.heap.size w w') : MrgI w0 zb zo sb xb lb rb qb cb x l r R K w' :=
  ⟨(hb.block sb (lt20 h.box)).trans h.box, h.base.below hb, h.left.below hb, h.rght.below hb, h.res.below hb, h.conf.below hb, (hb.block zb (lt20 h.zed)).trans h.zed, below_next h.bel hb⟩
theorem MrgI.setR (h : MrgI w0 zb zo sb xb lb rb qb cb x l r R K w) (a : MrgA w0 zb sb xb lb rb qb cb) (hm : MapR (Old w0) w' qb R') (hg : w.grownBy w' (some qb)) : MrgI w0 zb zo sb xb lb rb qb cb x l r R' K w' :=
  ⟨(hg.block sb (lt20 h.box) (fun e => a.q1 (Option.some.inj e))).trans h.box, h.base.other hg a.q2 (old_new a.q0), h.left.other hg a.q3 (old_new a.q0), h.rght.other hg a.q4 (old_new a.q0), hm, h.conf.other hg (Ne.symm a.c5), (hg.block zb (lt20 h.zed) (fun e => a.z1 (Option.some.inj e))).trans h.zed, h.bel.grown hg h.bel.size (fun k e => by cases e; exact a.q0)⟩
theorem MrgI.setK (h : MrgI w0 zb zo sb xb lb rb qb cb x l r R K w) (a : MrgA w0 zb sb xb lb rb qb cb) (hm : SetR w' cb K') (hg : w.grownBy w' (some cb)) : MrgI w0 zb zo sb xb lb rb qb cb x l r R K' w' :=
  ⟨(hg.block sb (lt20 h.box) (fun e => a.c1 (Option.some.inj e))).trans h.box, h.base.other hg a.c2 (old_new a.c0), h.left.other hg a.c3 (old_new a.c0), h.rght.other hg a.c4 (old_new a.c0), h.res.other hg a.c5 (old_new a.c0), hm, (hg.block zb (lt20 h.zed) (fun e => a.z2 (Option.some.inj e))).trans h.zed, h.bel.grown hg h.bel.size (fun k e => by cases e; exact a.c0)⟩
theorem MrgI.to (h : MrgI w0 zb zo sb xb lb rb qb cb x l r R K w) (hR : R = R') (hK : K = K') : MrgI w0 zb zo sb xb lb rb qb cb x l r R' K' w := by subst hR; subst hK; exact h
end
theorem enOr_eq {a b : Option Ent} : decide (a = b) = (decide (a.isSome = b.isSome) && decide (enOr a = enOr b)) := by
  rw [Bool.eq_iff_iff]
  cases a <;> cases b
  · simp [enOr]
  · simp [enOr]
  · simp [enOr]
  · simp only [enOr, Option.isSome_some, decide_true, Bool.true_and, decide_eq_true_eq, Option.some.injEq]
    exact decide_eq_true_iff.symm
set_option maxRecDepth 100000 in
set_option maxHeartbeats 2000000 in
theorem equalAt_any (S T : Nat → Prop) (ma mb : Nat) (RA RB : Look) (p : ByteArray) (w : World) (ha : MapR S w ma RA) (hb : MapR T w mb RB) (hp : p.size ≤ maxLen) :
    Calls Tryz.prog 74 #[.map (some ma), .map (some mb), .string p] w fun e w' => e = .returned (.bool (decide (RA p = RB p))) ∧ Below w.heap.size w w' := by
  have HA := Lib.hid ha
  have HB := Lib.hid hb
  have HP := Lib.hid hp
  have HW := Lib.hid (Below.refl w.heap.size w)
  obtain ⟨ao, co, hlk, hdo, hoo, hco⟩ := ha.ask mapTy (zeroE_run w) hp
  obtain ⟨f, hf⟩ : ∃ f, f = enOr (RA p) := ⟨_, rfl⟩
  obtain ⟨t, ht⟩ : ∃ t, t = (RA p).isSome := ⟨_, rfl⟩
  obtain ⟨g, hg⟩ : ∃ f, f = enOr (RB p) := ⟨_, rfl⟩
  obtain ⟨u, hu⟩ : ∃ t, t = (RB p).isSome := ⟨_, rfl⟩
  rw [← hf, ← ht] at hlk
  rw [← hf] at hdo hoo
  have HD := Lib.hid hdo
  have HE := Lib.hid (show decide (RA p = RB p) = (decide (t = u) && decide (f = g)) by rw [enOr_eq, hf, ht, hg, hu])
  unfold maxLen at hco
  obtain ⟨z, hz⟩ : ∃ z, z = decide (RA p = RB p) := ⟨_, rfl⟩
  rw [← hz] at HE ⊢
  have HG := Lib.hid (And.intro hg hu)
  clear ha hb hp hf ht hdo hoo hz hg hu
  go_enter Tryz.func74, Tryz.ntmps74
  go_upto_region 2 with (fail)
  obtain ⟨W1, hW1⟩ : ∃ Z : World, Z = (w).alloc (.cells #[.string f.path, .int .i64 f.kind, .int .i64 f.mode, .int .i64 f.time, .slice ao f.data.length co, .string f.link] 48) := ⟨_, rfl⟩
  rw [← hW1]
  have hb1 : Below (w).heap.size w W1 := by rw [hW1]; exact (Below.refl _ _).alloc (Nat.le_refl _) _
  have HW1 := Lib.hid (below_next HW.out hb1)
  have HO1 := Lib.hid (show (W1).heap[(w).heap.size]? = some (.cells #[.string f.path, .int .i64 f.kind, .int .i64 f.mode, .int .i64 f.time, .slice ao f.data.length co, .string f.link] 48 (0, 0)) by rw [hW1]; exact new20 _ _)
  have HZ1 := Lib.hid hb1
  clear hW1 hb1 hlk
  obtain ⟨ap, cp, hlk, hdp, hop, hcp⟩ := (HB.out.below HW1.out).ask mapTy (zeroE_run W1) HP.out
  rw [← HG.out.1, ← HG.out.2] at hlk
  rw [← HG.out.1] at hdp
  have HD2 := Lib.hid hdp
  have HZW := Lib.hid HZ1.out
  unfold maxLen at hcp
  clear hdp hop
  go_upto_region 3 with (fail)
  obtain ⟨W2, hW1⟩ : ∃ Z : World, Z = (W1).alloc (.cells #[.string g.path, .int .i64 g.kind, .int .i64 g.mode, .int .i64 g.time, .slice ap g.data.length cp, .string g.link] 48) := ⟨_, rfl⟩
  rw [← hW1]
  have hb1 : Below (W1).heap.size W1 W2 := by rw [hW1]; exact (Below.refl _ _).alloc (Nat.le_refl _) _
  have HW2 := Lib.hid (below_next HW1.out hb1)
  have HO2 := Lib.hid (show (W2).heap[(W1).heap.size]? = some (.cells #[.string g.path, .int .i64 g.kind, .int .i64 g.mode, .int .i64 g.time, .slice ap g.data.length cp, .string g.link] 48 (0, 0)) by rw [hW1]; exact new20 _ _)
  have HZ1 := Lib.hid hb1
  clear hW1 hb1 hlk
  have HO12 := Lib.hid ((HZ1.out.block _ (lt20 HO1.out)).trans HO1.out)
  have c0 := cell20 (k := 0) HO12.out
  have c1 := cell20 (k := 1) HO12.out
  have c2 := cell20 (k := 2) HO12.out
  have c3 := cell20 (k := 3) HO12.out
  have c4 := cell20 (k := 4) HO12.out
  have c5 := cell20 (k := 5) HO12.out
  have d0 := cell20 (k := 0) HO2.out
  have d1 := cell20 (k := 1) HO2.out
  have d2 := cell20 (k := 2) HO2.out
  have d3 := cell20 (k := 3) HO2.out
  have d4 := cell20 (k := 4) HO2.out
  have d5 := cell20 (k := 5) HO2.out
  have hltX := lt20 HO12.out
  have hltD := lt20 HO2.out
  simp only [List.getElem?_toArray, List.getElem?_cons_succ, List.getElem?_cons_zero] at c0 c1 c2 c3 c4 c5 d0 d1 d2 d3 d4 d5
  have hS := sameT_any _ _ f g (.slice ao f.data.length co) (.slice ap g.data.length cp) W2 (HD.out.below HW2.out) (HD2.out.below HZ1.out)
  unfold entV at hS
  by_cases htu : t = u
  · subst htu
    have HE2 := Lib.hid (show z = decide (f = g) by rw [HE.out]; simp)
    have e1 : (t == t) = true := by simp
    cases t
    all_goals (
      go_wp2_with fail
      refine hS.mono ?_
      rintro e w3 ⟨rfl, hb3⟩
      have HB3 := Lib.hid (below_next HW2.out hb3)
      clear hb3 hS c0 c1 c2 c3 c4 c5 d0 d1 d2 d3 d4 d5 hltX hltD
      go_wp2_with fail
      go_ret
      exact ⟨ret_bool HE2.out.symm, HB3.out⟩)
  · have HE2 := Lib.hid (show z = false by rw [HE.out, decide_eq_false htu]; rfl)
    have e1 : (t == u) = false := by simpa using htu
    cases t <;> cases u
    all_goals first
      | (exact absurd rfl htu)
      | (clear htu hS
         go_wp2_with fail
         go_ret
         exact ⟨ret_bool HE2.out.symm, HW2.out⟩)
theorem setL_some {R : Look} {e : Ent} {p : ByteArray} (hp : e.path = p) : putL R e = setL R p (some e) := by subst hp; rfl
/-- The result has at a path what a tree has there. -/
theorem takeM_any (w0 : World) (zb : Nat) (zo : Obj) (sb xb lb rb qb cb tb : Nat) (x l r : List Ent) (R RT : Look) (K : ByteArray → Bool) (p : ByteArray) (w : World) (hi : MrgI w0 zb zo sb xb lb rb qb cb x l r R K w) (ha : MrgA w0 zb sb xb lb rb qb cb) (ht : MapR (Old w0) w tb RT) (hp : p.size ≤ maxLen) :
    Calls Tryz.prog 75 #[.pointer (some ⟨sb, 0, none⟩), .map (some tb), .string p] w fun e w' => e = .returned (.tuple #[]) ∧ MrgI w0 zb zo sb xb lb rb qb cb x l r (setL R p (RT p)) K w' := by
  have HI := Lib.hid hi
  have HA := Lib.hid ha
  have HT := Lib.hid ht
  have HP := Lib.hid hp
  have HW := Lib.hid (Below.refl w.heap.size w)
  cases hf : RT p with
  | none =>
    have hlk := ht.miss mapTy (zeroE_run w) hp hf true
    unfold zeroE at hlk
    simp only [if_true] at hlk
    clear hi ha ht hp hf
    go_enter Tryz.func75, Tryz.ntmps75
    go_upto_region 1 with (fail)
    obtain ⟨W1, hW1⟩ : ∃ Z : World, Z = w.alloc (.cells #[.string ByteArray.empty, .int .i64 0, .int .i64 0, .int .i64 0, .slice none 0 0, .string ByteArray.empty] 48) := ⟨_, rfl⟩
    rw [← hW1]
    have hb1 : Below w.heap.size w W1 := by rw [hW1]; exact (Below.refl _ _).alloc (Nat.le_refl _) _
    have HI1 := Lib.hid (HI.out.below hb1)
    clear hW1 hb1 hlk
    have m0 := cell20 (k := 0) HI1.out.box
    have m1 := cell20 (k := 1) HI1.out.box
    have m2 := cell20 (k := 2) HI1.out.box
    have m3 := cell20 (k := 3) HI1.out.box
    have m4 := cell20 (k := 4) HI1.out.box
    have hltM := lt20 HI1.out.box
    simp only [List.getElem?_toArray, List.getElem?_cons_succ, List.getElem?_cons_zero] at m0 m1 m2 m3 m4
    have HDEL := Lib.hid (fun ty => HI1.out.res.del mapTy HP.out ty)
    go_wp2_with (at_delete; go_must (refine wpList_delRun rfl _ _ _ _ rfl _ _ rfl rfl (HDEL.out _) ?_); rintro w10 ⟨hm3, hg3⟩; have HM3 := Lib.hid hm3; have HG3 := Lib.hid hg3; clear hm3 hg3)
    go_end0
    exact ⟨rfl, HI1.out.setR HA.out HM3.out HG3.out⟩
  | some f =>
    obtain ⟨vf, hlk, hdf, hok⟩ := ht.hit mapTy hf true
    have HDF := Lib.hid hdf
    have HOK := Lib.hid hok
    have HFP := Lib.hid (ht.own hf)
    obtain ⟨af, cf, rfl, hdf1, hdf2⟩ := hdf.slice
    unfold maxLen at hdf2
    unfold entV at hlk
    simp only [if_true] at hlk
    clear hi ha ht hp hf hdf hok
    go_enter Tryz.func75, Tryz.ntmps75
    go_upto_region 1 with (fail)
    obtain ⟨W1, hW1⟩ : ∃ Z : World, Z = w.alloc (.cells #[.string f.path, .int .i64 f.kind, .int .i64 f.mode, .int .i64 f.time, .slice af f.data.length cf, .string f.link] 48) := ⟨_, rfl⟩
    rw [← hW1]
    have hb1 : Below w.heap.size w W1 := by rw [hW1]; exact (Below.refl _ _).alloc (Nat.le_refl _) _
    have HO1 := Lib.hid (show W1.heap[w.heap.size]? = some (.cells #[.string f.path, .int .i64 f.kind, .int .i64 f.mode, .int .i64 f.time, .slice af f.data.length cf, .string f.link] 48 (0, 0)) by rw [hW1]; exact new20 _ _)
    have HB1 := Lib.hid hb1
    clear hW1 hb1 hlk
    go_upto_region 2 with (fail)
    obtain ⟨V, hV⟩ : ∃ V : World, V = W1.drew := ⟨_, rfl⟩
    have hbv : Below W1.heap.size W1 V := by rw [hV]; exact (Below.refl _ _).drew
    have HBV := Lib.hid (below_next HB1.out hbv)
    have HOV := Lib.hid ((hbv.block _ (lt20 HO1.out)).trans HO1.out)
    have HIV := Lib.hid (HI.out.below HBV.out)
    clear hbv
    obtain ⟨w9, hu9, hn9, hg9⟩ := HIV.out.res.put mapTy (HDF.out.below HBV.out) HOK.out
    rw [HFP.out] at hu9
    have HN9 := Lib.hid hn9
    have HG9 := Lib.hid hg9
    unfold entV at hu9
    rw [HFP.out] at hu9
    clear hn9 hg9
    rw [HFP.out] at HOV
    refine wp_region_segs [some 6, none] (by kernel_rfl) (by kernel_rfl) (by kernel_rfl) ?_
    simp only [wpSegs, List.take_succ_cons, List.take_zero, List.drop_succ_cons, List.drop_zero]
    rw [← hV]
    have m0 := cell20 (k := 0) HIV.out.box
    have m1 := cell20 (k := 1) HIV.out.box
    have m2 := cell20 (k := 2) HIV.out.box
    have m3 := cell20 (k := 3) HIV.out.box
    have m4 := cell20 (k := 4) HIV.out.box
    have hltM := lt20 HIV.out.box
    simp only [List.getElem?_toArray, List.getElem?_cons_succ, List.getElem?_cons_zero] at m0 m1 m2 m3 m4
    have c0 := cell20 (k := 0) HOV.out
    have c1 := cell20 (k := 1) HOV.out
    have c2 := cell20 (k := 2) HOV.out
    have c3 := cell20 (k := 3) HOV.out
    have c4 := cell20 (k := 4) HOV.out
    have c5 := cell20 (k := 5) HOV.out
    have hltX := lt20 HOV.out
    simp only [List.getElem?_toArray, List.getElem?_cons_succ, List.getElem?_cons_zero] at c0 c1 c2 c3 c4 c5
    clear hV
    repeat (first | (refine seg_skip rfl ?_; simp only [Act.put, List.setIfInBounds_toArray, List.set_cons_succ, List.set_cons_zero]) | (refine seg_run rfl (fun K hK => ?_); go_simp; refine hK _ ?_; clear hK K))
    refine seg_nil ?_
    refine bar_run rfl (fun K hK => ?_)
    go_wp2_with fail
    go_end0
    refine ⟨rfl, ?_⟩
    have := HN9.out
    rw [setL_some HFP.out] at this
    exact HIV.out.setR HA.out this HG9.out
end Go.Proofs.YtdieneaillkbgaaGreatDoor

/- Contracts of package treediff: decide. -/
namespace Go.Proofs.YtdieneaillkbgaaGreatDoor
open Go.RowKit Go.Maps
theorem bel_drew {w : World} : Below w.heap.size w w.drew := (Below.refl _ _).drew
theorem equalAt_is (S T : Nat → Prop) (ma mb : Nat) (RA RB : Look) (p : ByteArray) (b : Bool) (w : World) (ha : MapR S w ma RA) (hb : MapR T w mb RB) (hp : p.size ≤ maxLen) (h : decide (RA p = RB p) = b) :
    Calls Tryz.prog 74 #[.map (some ma), .map (some mb), .string p] w fun e w' => e = .returned (.bool b) ∧ Below w.heap.size w w' := by
  rw [← h]; exact equalAt_any S T ma mb RA RB p w ha hb hp
def confK (K : ByteArray → Bool) (p : ByteArray) (c : Bool) : ByteArray → Bool := fun q => (decide (q = p) && c) || K q
theorem confK_false (K : ByteArray → Bool) (p : ByteArray) : confK K p false = K := by funext q; unfold confK; simp
theorem confK_true (K : ByteArray → Bool) (p : ByteArray) : confK K p true = addK K p := by funext q; unfold confK addK; simp
set_option maxRecDepth 100000 in
set_option maxHeartbeats 2000000 in
theorem decide_any (w0 : World) (zb : Nat) (zo : Obj) (sb xb lb rb qb cb : Nat) (x l r : List Ent) (R : Look) (K : ByteArray → Bool) (p : ByteArray) (w : World) (hi : MrgI w0 zb zo sb xb lb rb qb cb x l r R K w) (ha : MrgA w0 zb sb xb lb rb qb cb) (hp : p.size ≤ maxLen) :
    Calls Tryz.prog 46 #[.pointer (some ⟨sb, 0, none⟩), .string p] w fun e w' => e = .returned (.tuple #[]) ∧ MrgI w0 zb zo sb xb lb rb qb cb x l r (setL R p (decM x l r p)) (confK K p (confM x l r p)) w' := by
  have HI := Lib.hid hi
  have HA := Lib.hid ha
  have HP := Lib.hid hp
  clear hi ha hp
  by_cases h1 : findE l p = findE r p
  · have HD := Lib.hid (show decM x l r p = findE l p ∧ confM x l r p = false by unfold decM confM; rw [if_pos h1, decide_eq_false (fun h => h h1)]; simp)
    have HE := Lib.hid (decide_eq_true h1)
    clear h1
    go_enter Tryz.func46, Tryz.ntmps46
    go_upto_region 3 with (fail)
    obtain ⟨V, hV⟩ : ∃ V : World, V = (w).drew := ⟨_, rfl⟩
    have hbv : Below (w).heap.size w V := by rw [hV]; exact bel_drew
    have HIV := Lib.hid (HI.out.below hbv)
    clear hbv
    refine wp_region_segs [some 9, none, some 1] (by kernel_rfl) (by kernel_rfl) (by kernel_rfl) ?_
    simp only [wpSegs, List.take_succ_cons, List.take_zero, List.drop_succ_cons, List.drop_zero]
    rw [← hV]
    have m0 := cell20 (k := 0) HIV.out.box
    have m1 := cell20 (k := 1) HIV.out.box
    have m2 := cell20 (k := 2) HIV.out.box
    have m3 := cell20 (k := 3) HIV.out.box
    have m4 := cell20 (k := 4) HIV.out.box
    have hltM := lt20 HIV.out.box
    simp only [List.getElem?_toArray, List.getElem?_cons_succ, List.getElem?_cons_zero] at m0 m1 m2 m3 m4
    clear hV
    repeat (first | (refine seg_skip rfl ?_; simp only [Act.put, List.setIfInBounds_toArray, List.set_cons_succ, List.set_cons_zero]) | (refine seg_run rfl (fun K hK => ?_); go_simp; refine hK _ ?_; clear hK K))
    refine seg_nil ?_
    refine bar_run rfl (fun K hK => ?_)
    go_wp2_with fail
    refine (equalAt_is (Old w0) (Old w0) lb rb _ _ p true _ HIV.out.left HIV.out.rght HP.out HE.out).mono ?_
    rintro e w1 ⟨rfl, hb1⟩
    have HI1 := Lib.hid (HIV.out.below hb1)
    clear hb1
    clear m0 m1 m2 m3 m4 hltM
    have m0 := cell20 (k := 0) HI1.out.box
    have m1 := cell20 (k := 1) HI1.out.box
    have m2 := cell20 (k := 2) HI1.out.box
    have m3 := cell20 (k := 3) HI1.out.box
    have m4 := cell20 (k := 4) HI1.out.box
    have hltM := lt20 HI1.out.box
    simp only [List.getElem?_toArray, List.getElem?_cons_succ, List.getElem?_cons_zero] at m0 m1 m2 m3 m4
    go_wp2_with fail
    repeat (first | (refine seg_skip rfl ?_; simp only [Act.put, List.setIfInBounds_toArray, List.set_cons_succ, List.set_cons_zero]) | (refine seg_run rfl (fun K hK => ?_); go_simp; refine hK _ ?_; clear hK K))
    refine seg_nil ?_
    go_wp2_with fail
    refine (takeM_any w0 zb zo sb xb lb rb qb cb lb x l r R (findE l) K p _ HI1.out HA.out HI1.out.left HP.out).mono ?_
    rintro e w2 ⟨rfl, hi2⟩
    have HI2 := Lib.hid hi2
    clear hi2
    clear m0 m1 m2 m3 m4 hltM
    go_wp2_with fail
    go_end0
    exact ⟨rfl, by rw [HD.out.1, HD.out.2, confK_false]; exact HI2.out⟩
  · have HE := Lib.hid (decide_eq_false h1)
    by_cases h2 : findE l p = findE x p
    · have HD := Lib.hid (show decM x l r p = findE r p ∧ confM x l r p = false by unfold decM confM; rw [if_neg h1, if_pos h2, decide_eq_false (p := findE l p ≠ findE x p) (fun h => h h2)]; simp)
      have HE2 := Lib.hid (decide_eq_true h2)
      clear h1 h2
      go_enter Tryz.func46, Tryz.ntmps46
      go_upto_region 3 with (fail)
      obtain ⟨V, hV⟩ : ∃ V : World, V = (w).drew := ⟨_, rfl⟩
      have hbv : Below (w).heap.size w V := by rw [hV]; exact bel_drew
      have HIV := Lib.hid (HI.out.below hbv)
      clear hbv
      refine wp_region_segs [some 9, none, some 1] (by kernel_rfl) (by kernel_rfl) (by kernel_rfl) ?_
      simp only [wpSegs, List.take_succ_cons, List.take_zero, List.drop_succ_cons, List.drop_zero]
      rw [← hV]
      have m0 := cell20 (k := 0) HIV.out.box
      have m1 := cell20 (k := 1) HIV.out.box
      have m2 := cell20 (k := 2) HIV.out.box
      have m3 := cell20 (k := 3) HIV.out.box
      have m4 := cell20 (k := 4) HIV.out.box
      have hltM := lt20 HIV.out.box
      simp only [List.getElem?_toArray, List.getElem?_cons_succ, List.getElem?_cons_zero] at m0 m1 m2 m3 m4
      clear hV
      repeat (first | (refine seg_skip rfl ?_; simp only [Act.put, List.setIfInBounds_toArray, List.set_cons_succ, List.set_cons_zero]) | (refine seg_run rfl (fun K hK => ?_); go_simp; refine hK _ ?_; clear hK K))
      refine seg_nil ?_
      refine bar_run rfl (fun K hK => ?_)
      go_wp2_with fail
      refine (equalAt_is (Old w0) (Old w0) lb rb _ _ p false _ HIV.out.left HIV.out.rght HP.out HE.out).mono ?_
      rintro e w1 ⟨rfl, hb1⟩
      have HI1 := Lib.hid (HIV.out.below hb1)
      clear hb1
      clear m0 m1 m2 m3 m4 hltM
      have m0 := cell20 (k := 0) HI1.out.box
      have m1 := cell20 (k := 1) HI1.out.box
      have m2 := cell20 (k := 2) HI1.out.box
      have m3 := cell20 (k := 3) HI1.out.box
      have m4 := cell20 (k := 4) HI1.out.box
      have hltM := lt20 HI1.out.box
      simp only [List.getElem?_toArray, List.getElem?_cons_succ, List.getElem?_cons_zero] at m0 m1 m2 m3 m4
      go_wp2_with fail
      repeat (first | (refine seg_skip rfl ?_; simp only [Act.put, List.setIfInBounds_toArray, List.set_cons_succ, List.set_cons_zero]) | (refine seg_run rfl (fun K hK => ?_); go_simp; refine hK _ ?_; clear hK K))
      refine seg_nil ?_
      go_wp2_with fail
      clear m0 m1 m2 m3 m4 hltM
      go_upto_region 5 with (fail)
      obtain ⟨V, hV⟩ : ∃ V : World, V = (w1).drew := ⟨_, rfl⟩
      have hbv : Below (w1).heap.size w1 V := by rw [hV]; exact bel_drew
      have HIV := Lib.hid (HI1.out.below hbv)
      clear hbv
      refine wp_region_segs [some 9, none, some 1] (by kernel_rfl) (by kernel_rfl) (by kernel_rfl) ?_
      simp only [wpSegs, List.take_succ_cons, List.take_zero, List.drop_succ_cons, List.drop_zero]
      rw [← hV]
      have m0 := cell20 (k := 0) HIV.out.box
      have m1 := cell20 (k := 1) HIV.out.box
      have m2 := cell20 (k := 2) HIV.out.box
      have m3 := cell20 (k := 3) HIV.out.box
      have m4 := cell20 (k := 4) HIV.out.box
      have hltM := lt20 HIV.out.box
      simp only [List.getElem?_toArray, List.getElem?_cons_succ, List.getElem?_cons_zero] at m0 m1 m2 m3 m4
      clear hV
      repeat (first | (refine seg_skip rfl ?_; simp only [Act.put, List.setIfInBounds_toArray, List.set_cons_succ, List.set_cons_zero]) | (refine seg_run rfl (fun K hK => ?_); go_simp; refine hK _ ?_; clear hK K))
      refine seg_nil ?_
      refine bar_run rfl (fun K hK => ?_)
      go_wp2_with fail
      refine (equalAt_is (Old w0) (Old w0) lb xb _ _ p true _ HIV.out.left HIV.out.base HP.out HE2.out).mono ?_
      rintro e w1 ⟨rfl, hb1⟩
      have HI2 := Lib.hid (HIV.out.below hb1)
      clear hb1
      clear m0 m1 m2 m3 m4 hltM
      have m0 := cell20 (k := 0) HI2.out.box
      have m1 := cell20 (k := 1) HI2.out.box
      have m2 := cell20 (k := 2) HI2.out.box
      have m3 := cell20 (k := 3) HI2.out.box
      have m4 := cell20 (k := 4) HI2.out.box
      have hltM := lt20 HI2.out.box
      simp only [List.getElem?_toArray, List.getElem?_cons_succ, List.getElem?_cons_zero] at m0 m1 m2 m3 m4
      go_wp2_with fail
      repeat (first | (refine seg_skip rfl ?_; simp only [Act.put, List.setIfInBounds_toArray, List.set_cons_succ, List.set_cons_zero]) | (refine seg_run rfl (fun K hK => ?_); go_simp; refine hK _ ?_; clear hK K))
      refine seg_nil ?_
      go_wp2_with fail
      refine (takeM_any w0 zb zo sb xb lb rb qb cb rb x l r R (findE r) K p _ HI2.out HA.out HI2.out.rght HP.out).mono ?_
      rintro e w3 ⟨rfl, hi3⟩
      have HI3 := Lib.hid hi3
      clear hi3
      clear m0 m1 m2 m3 m4 hltM
      go_wp2_with fail
      go_end0
      exact ⟨rfl, by rw [HD.out.1, HD.out.2, confK_false]; exact HI3.out⟩
    · have HE2 := Lib.hid (decide_eq_false h2)
      have HDM := Lib.hid (show decM x l r p = findE l p by unfold decM; rw [if_neg h1, if_neg h2])
      have HCF := Lib.hid (show confM x l r p = !decide (findE r p = findE x p) by
        unfold confM
        rw [decide_eq_true (p := findE l p ≠ findE r p) h1, decide_eq_true (p := findE l p ≠ findE x p) h2]
        simp)
      clear h1 h2
      cases h3 : decide (findE r p = findE x p) with
      | true =>
        have HE3 := Lib.hid h3
        rw [h3] at HCF
        clear h3
        go_enter Tryz.func46, Tryz.ntmps46
        go_upto_region 3 with (fail)
        obtain ⟨V, hV⟩ : ∃ V : World, V = (w).drew := ⟨_, rfl⟩
        have hbv : Below (w).heap.size w V := by rw [hV]; exact bel_drew
        have HIV := Lib.hid (HI.out.below hbv)
        clear hbv
        refine wp_region_segs [some 9, none, some 1] (by kernel_rfl) (by kernel_rfl) (by kernel_rfl) ?_
        simp only [wpSegs, List.take_succ_cons, List.take_zero, List.drop_succ_cons, List.drop_zero]
        rw [← hV]
        have m0 := cell20 (k := 0) HIV.out.box
        have m1 := cell20 (k := 1) HIV.out.box
        have m2 := cell20 (k := 2) HIV.out.box
        have m3 := cell20 (k := 3) HIV.out.box
        have m4 := cell20 (k := 4) HIV.out.box
        have hltM := lt20 HIV.out.box
        simp only [List.getElem?_toArray, List.getElem?_cons_succ, List.getElem?_cons_zero] at m0 m1 m2 m3 m4
        clear hV
        repeat (first | (refine seg_skip rfl ?_; simp only [Act.put, List.setIfInBounds_toArray, List.set_cons_succ, List.set_cons_zero]) | (refine seg_run rfl (fun K hK => ?_); go_simp; refine hK _ ?_; clear hK K))
        refine seg_nil ?_
        refine bar_run rfl (fun K hK => ?_)
        go_wp2_with fail
        refine (equalAt_is (Old w0) (Old w0) lb rb _ _ p false _ HIV.out.left HIV.out.rght HP.out HE.out).mono ?_
        rintro e w1 ⟨rfl, hb1⟩
        have HI1 := Lib.hid (HIV.out.below hb1)
        clear hb1
        clear m0 m1 m2 m3 m4 hltM
        have m0 := cell20 (k := 0) HI1.out.box
        have m1 := cell20 (k := 1) HI1.out.box
        have m2 := cell20 (k := 2) HI1.out.box
        have m3 := cell20 (k := 3) HI1.out.box
        have m4 := cell20 (k := 4) HI1.out.box
        have hltM := lt20 HI1.out.box
        simp only [List.getElem?_toArray, List.getElem?_cons_succ, List.getElem?_cons_zero] at m0 m1 m2 m3 m4
        go_wp2_with fail
        repeat (first | (refine seg_skip rfl ?_; simp only [Act.put, List.setIfInBounds_toArray, List.set_cons_succ, List.set_cons_zero]) | (refine seg_run rfl (fun K hK => ?_); go_simp; refine hK _ ?_; clear hK K))
        refine seg_nil ?_
        go_wp2_with fail
        clear m0 m1 m2 m3 m4 hltM
        go_upto_region 5 with (fail)
        obtain ⟨V, hV⟩ : ∃ V : World, V = (w1).drew := ⟨_, rfl⟩
        have hbv : Below (w1).heap.size w1 V := by rw [hV]; exact bel_drew
        have HIV := Lib.hid (HI1.out.below hbv)
        clear hbv
        refine wp_region_segs [some 9, none, some 1] (by kernel_rfl) (by kernel_rfl) (by kernel_rfl) ?_
        simp only [wpSegs, List.take_succ_cons, List.take_zero, List.drop_succ_cons, List.drop_zero]
        rw [← hV]
        have m0 := cell20 (k := 0) HIV.out.box
        have m1 := cell20 (k := 1) HIV.out.box
        have m2 := cell20 (k := 2) HIV.out.box
        have m3 := cell20 (k := 3) HIV.out.box
        have m4 := cell20 (k := 4) HIV.out.box
        have hltM := lt20 HIV.out.box
        simp only [List.getElem?_toArray, List.getElem?_cons_succ, List.getElem?_cons_zero] at m0 m1 m2 m3 m4
        clear hV
        repeat (first | (refine seg_skip rfl ?_; simp only [Act.put, List.setIfInBounds_toArray, List.set_cons_succ, List.set_cons_zero]) | (refine seg_run rfl (fun K hK => ?_); go_simp; refine hK _ ?_; clear hK K))
        refine seg_nil ?_
        refine bar_run rfl (fun K hK => ?_)
        go_wp2_with fail
        refine (equalAt_is (Old w0) (Old w0) lb xb _ _ p false _ HIV.out.left HIV.out.base HP.out HE2.out).mono ?_
        rintro e w1 ⟨rfl, hb1⟩
        have HI2 := Lib.hid (HIV.out.below hb1)
        clear hb1
        clear m0 m1 m2 m3 m4 hltM
        have m0 := cell20 (k := 0) HI2.out.box
        have m1 := cell20 (k := 1) HI2.out.box
        have m2 := cell20 (k := 2) HI2.out.box
        have m3 := cell20 (k := 3) HI2.out.box
        have m4 := cell20 (k := 4) HI2.out.box
        have hltM := lt20 HI2.out.box
        simp only [List.getElem?_toArray, List.getElem?_cons_succ, List.getElem?_cons_zero] at m0 m1 m2 m3 m4
        go_wp2_with fail
        repeat (first | (refine seg_skip rfl ?_; simp only [Act.put, List.setIfInBounds_toArray, List.set_cons_succ, List.set_cons_zero]) | (refine seg_run rfl (fun K hK => ?_); go_simp; refine hK _ ?_; clear hK K))
        refine seg_nil ?_
        go_wp2_with fail
        refine (takeM_any w0 zb zo sb xb lb rb qb cb lb x l r R (findE l) K p _ HI2.out HA.out HI2.out.left HP.out).mono ?_
        rintro e w3 ⟨rfl, hi3⟩
        have HI3 := Lib.hid hi3
        clear hi3
        clear m0 m1 m2 m3 m4 hltM
        go_upto_region 1 with (fail)
        obtain ⟨V, hV⟩ : ∃ V : World, V = (w3).drew := ⟨_, rfl⟩
        have hbv : Below (w3).heap.size w3 V := by rw [hV]; exact bel_drew
        have HIV := Lib.hid (HI3.out.below hbv)
        clear hbv
        refine wp_region_segs [some 9, none, some 1] (by kernel_rfl) (by kernel_rfl) (by kernel_rfl) ?_
        simp only [wpSegs, List.take_succ_cons, List.take_zero, List.drop_succ_cons, List.drop_zero]
        rw [← hV]
        have m0 := cell20 (k := 0) HIV.out.box
        have m1 := cell20 (k := 1) HIV.out.box
        have m2 := cell20 (k := 2) HIV.out.box
        have m3 := cell20 (k := 3) HIV.out.box
        have m4 := cell20 (k := 4) HIV.out.box
        have hltM := lt20 HIV.out.box
        simp only [List.getElem?_toArray, List.getElem?_cons_succ, List.getElem?_cons_zero] at m0 m1 m2 m3 m4
        clear hV
        repeat (first | (refine seg_skip rfl ?_; simp only [Act.put, List.setIfInBounds_toArray, List.set_cons_succ, List.set_cons_zero]) | (refine seg_run rfl (fun K hK => ?_); go_simp; refine hK _ ?_; clear hK K))
        refine seg_nil ?_
        refine bar_run rfl (fun K hK => ?_)
        go_wp2_with fail
        refine (equalAt_is (Old w0) (Old w0) rb xb _ _ p true _ HIV.out.rght HIV.out.base HP.out HE3.out).mono ?_
        rintro e w1 ⟨rfl, hb1⟩
        have HI4 := Lib.hid (HIV.out.below hb1)
        clear hb1
        clear m0 m1 m2 m3 m4 hltM
        have m0 := cell20 (k := 0) HI4.out.box
        have m1 := cell20 (k := 1) HI4.out.box
        have m2 := cell20 (k := 2) HI4.out.box
        have m3 := cell20 (k := 3) HI4.out.box
        have m4 := cell20 (k := 4) HI4.out.box
        have hltM := lt20 HI4.out.box
        simp only [List.getElem?_toArray, List.getElem?_cons_succ, List.getElem?_cons_zero] at m0 m1 m2 m3 m4
        go_wp2_with fail
        repeat (first | (refine seg_skip rfl ?_; simp only [Act.put, List.setIfInBounds_toArray, List.set_cons_succ, List.set_cons_zero]) | (refine seg_run rfl (fun K hK => ?_); go_simp; refine hK _ ?_; clear hK K))
        refine seg_nil ?_
        go_wp2_with fail
        go_end0
        exact ⟨rfl, by rw [HDM.out, HCF.out]; simp only [Bool.not_true]; rw [confK_false]; exact HI4.out⟩
      | false =>
        have HE3 := Lib.hid h3
        rw [h3] at HCF
        clear h3
        go_enter Tryz.func46, Tryz.ntmps46
        go_upto_region 3 with (fail)
        obtain ⟨V, hV⟩ : ∃ V : World, V = (w).drew := ⟨_, rfl⟩
        have hbv : Below (w).heap.size w V := by rw [hV]; exact bel_drew
        have HIV := Lib.hid (HI.out.below hbv)
        clear hbv
        refine wp_region_segs [some 9, none, some 1] (by kernel_rfl) (by kernel_rfl) (by kernel_rfl) ?_
        simp only [wpSegs, List.take_succ_cons, List.take_zero, List.drop_succ_cons, List.drop_zero]
        rw [← hV]
        have m0 := cell20 (k := 0) HIV.out.box
        have m1 := cell20 (k := 1) HIV.out.box
        have m2 := cell20 (k := 2) HIV.out.box
        have m3 := cell20 (k := 3) HIV.out.box
        have m4 := cell20 (k := 4) HIV.out.box
        have hltM := lt20 HIV.out.box
        simp only [List.getElem?_toArray, List.getElem?_cons_succ, List.getElem?_cons_zero] at m0 m1 m2 m3 m4
        clear hV
        repeat (first | (refine seg_skip rfl ?_; simp only [Act.put, List.setIfInBounds_toArray, List.set_cons_succ, List.set_cons_zero]) | (refine seg_run rfl (fun K hK => ?_); go_simp; refine hK _ ?_; clear hK K))
        refine seg_nil ?_
        refine bar_run rfl (fun K hK => ?_)
        go_wp2_with fail
        refine (equalAt_is (Old w0) (Old w0) lb rb _ _ p false _ HIV.out.left HIV.out.rght HP.out HE.out).mono ?_
        rintro e w1 ⟨rfl, hb1⟩
        have HI1 := Lib.hid (HIV.out.below hb1)
        clear hb1
        clear m0 m1 m2 m3 m4 hltM
        have m0 := cell20 (k := 0) HI1.out.box
        have m1 := cell20 (k := 1) HI1.out.box
        have m2 := cell20 (k := 2) HI1.out.box
        have m3 := cell20 (k := 3) HI1.out.box
        have m4 := cell20 (k := 4) HI1.out.box
        have hltM := lt20 HI1.out.box
        simp only [List.getElem?_toArray, List.getElem?_cons_succ, List.getElem?_cons_zero] at m0 m1 m2 m3 m4
        go_wp2_with fail
        repeat (first | (refine seg_skip rfl ?_; simp only [Act.put, List.setIfInBounds_toArray, List.set_cons_succ, List.set_cons_zero]) | (refine seg_run rfl (fun K hK => ?_); go_simp; refine hK _ ?_; clear hK K))
        refine seg_nil ?_
        go_wp2_with fail
        clear m0 m1 m2 m3 m4 hltM
        go_upto_region 5 with (fail)
        obtain ⟨V, hV⟩ : ∃ V : World, V = (w1).drew := ⟨_, rfl⟩
        have hbv : Below (w1).heap.size w1 V := by rw [hV]; exact bel_drew
        have HIV := Lib.hid (HI1.out.below hbv)
        clear hbv
        refine wp_region_segs [some 9, none, some 1] (by kernel_rfl) (by kernel_rfl) (by kernel_rfl) ?_
        simp only [wpSegs, List.take_succ_cons, List.take_zero, List.drop_succ_cons, List.drop_zero]
        rw [← hV]
        have m0 := cell20 (k := 0) HIV.out.box
        have m1 := cell20 (k := 1) HIV.out.box
        have m2 := cell20 (k := 2) HIV.out.box
        have m3 := cell20 (k := 3) HIV.out.box
        have m4 := cell20 (k := 4) HIV.out.box
        have hltM := lt20 HIV.out.box
        simp only [List.getElem?_toArray, List.getElem?_cons_succ, List.getElem?_cons_zero] at m0 m1 m2 m3 m4
        clear hV
        repeat (first | (refine seg_skip rfl ?_; simp only [Act.put, List.setIfInBounds_toArray, List.set_cons_succ, List.set_cons_zero]) | (refine seg_run rfl (fun K hK => ?_); go_simp; refine hK _ ?_; clear hK K))
        refine seg_nil ?_
        refine bar_run rfl (fun K hK => ?_)
        go_wp2_with fail
        refine (equalAt_is (Old w0) (Old w0) lb xb _ _ p false _ HIV.out.left HIV.out.base HP.out HE2.out).mono ?_
        rintro e w1 ⟨rfl, hb1⟩
        have HI2 := Lib.hid (HIV.out.below hb1)
        clear hb1
        clear m0 m1 m2 m3 m4 hltM
        have m0 := cell20 (k := 0) HI2.out.box
        have m1 := cell20 (k := 1) HI2.out.box
        have m2 := cell20 (k := 2) HI2.out.box
        have m3 := cell20 (k := 3) HI2.out.box
        have m4 := cell20 (k := 4) HI2.out.box
        have hltM := lt20 HI2.out.box
        simp only [List.getElem?_toArray, List.getElem?_cons_succ, List.getElem?_cons_zero] at m0 m1 m2 m3 m4
        go_wp2_with fail
        repeat (first | (refine seg_skip rfl ?_; simp only [Act.put, List.setIfInBounds_toArray, List.set_cons_succ, List.set_cons_zero]) | (refine seg_run rfl (fun K hK => ?_); go_simp; refine hK _ ?_; clear hK K))
        refine seg_nil ?_
        go_wp2_with fail
        refine (takeM_any w0 zb zo sb xb lb rb qb cb lb x l r R (findE l) K p _ HI2.out HA.out HI2.out.left HP.out).mono ?_
        rintro e w3 ⟨rfl, hi3⟩
        have HI3 := Lib.hid hi3
        clear hi3
        clear m0 m1 m2 m3 m4 hltM
        go_upto_region 1 with (fail)
        obtain ⟨V, hV⟩ : ∃ V : World, V = (w3).drew := ⟨_, rfl⟩
        have hbv : Below (w3).heap.size w3 V := by rw [hV]; exact bel_drew
        have HIV := Lib.hid (HI3.out.below hbv)
        clear hbv
        refine wp_region_segs [some 9, none, some 1] (by kernel_rfl) (by kernel_rfl) (by kernel_rfl) ?_
        simp only [wpSegs, List.take_succ_cons, List.take_zero, List.drop_succ_cons, List.drop_zero]
        rw [← hV]
        have m0 := cell20 (k := 0) HIV.out.box
        have m1 := cell20 (k := 1) HIV.out.box
        have m2 := cell20 (k := 2) HIV.out.box
        have m3 := cell20 (k := 3) HIV.out.box
        have m4 := cell20 (k := 4) HIV.out.box
        have hltM := lt20 HIV.out.box
        simp only [List.getElem?_toArray, List.getElem?_cons_succ, List.getElem?_cons_zero] at m0 m1 m2 m3 m4
        clear hV
        repeat (first | (refine seg_skip rfl ?_; simp only [Act.put, List.setIfInBounds_toArray, List.set_cons_succ, List.set_cons_zero]) | (refine seg_run rfl (fun K hK => ?_); go_simp; refine hK _ ?_; clear hK K))
        refine seg_nil ?_
        refine bar_run rfl (fun K hK => ?_)
        go_wp2_with fail
        refine (equalAt_is (Old w0) (Old w0) rb xb _ _ p false _ HIV.out.rght HIV.out.base HP.out HE3.out).mono ?_
        rintro e w1 ⟨rfl, hb1⟩
        have HI4 := Lib.hid (HIV.out.below hb1)
        clear hb1
        clear m0 m1 m2 m3 m4 hltM
        have m0 := cell20 (k := 0) HI4.out.box
        have m1 := cell20 (k := 1) HI4.out.box
        have m2 := cell20 (k := 2) HI4.out.box
        have m3 := cell20 (k := 3) HI4.out.box
        have m4 := cell20 (k := 4) HI4.out.box
        have hltM := lt20 HI4.out.box
        simp only [List.getElem?_toArray, List.getElem?_cons_succ, List.getElem?_cons_zero] at m0 m1 m2 m3 m4
        go_wp2_with fail
        repeat (first | (refine seg_skip rfl ?_; simp only [Act.put, List.setIfInBounds_toArray, List.set_cons_succ, List.set_cons_zero]) | (refine seg_run rfl (fun K hK => ?_); go_simp; refine hK _ ?_; clear hK K))
        refine seg_nil ?_
        have HPUT := Lib.hid (HI4.out.conf.put boolTy HP.out)
        go_wp2_with (at_mapUpdate; go_must (refine wpList_updRun rfl _ _ _ _ rfl _ _ _ rfl rfl rfl HPUT.out ?_); rintro w6 ⟨hm6, hg6⟩; have HM6 := Lib.hid hm6; have HG6 := Lib.hid hg6; clear hm6 hg6)
        go_end0
        exact ⟨rfl, by rw [HDM.out, HCF.out]; simp only [Bool.not_false]; rw [confK_true]; exact HI4.out.setK HA.out HM6.out HG6.out⟩
end Go.Proofs.YtdieneaillkbgaaGreatDoor
