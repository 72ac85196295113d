/- Texts of this proof, one after the other: ExS0, Ex, SetG, EqUse, Awake48, LawZ, Frame, SetH, Open. -/
import Derived.Test.YtndgmcggckpgfaaGreatDoorMF
import Derived.ProofKit
import Derived.Carry
import Derived.Lay
import Derived.PinnedBridge
import Derived.Lib.LaidU8T
import Derived.SevenTiedAt
import Derived.HandedShaped
import Derived.Shelf.Vars
import Derived.Test.YtndgmcggckpgfaaGreatDoorTie
import Derived.Test.YtndgmcggckpgfaaGreatDoorCards
import Derived.Lib.SmallJoins
/- The chapter's example: the states of the drawn region, part 0 (printed by gen_ex48.py). -/
namespace Go.Proofs.YtndgmcggckpgfaaGreatDoor
open Go Go.RowKit Go.Maps
set_option maxRecDepth 100000 in
set_option maxHeartbeats 1000000 in
theorem exs8 {Q : Exit → Act → World → Prop} {w0 : World} {oa ta : Option Addr} {ol oc tl tc : Nat} (hq : ExQ Q w0 oa ol oc ta tl tc) (_hQ : ExPanic Q) {s2 s3 s6 s7 s8 s9 s10 s11 s12 s13 s14 s15 s16 s17 s18 s19 s20 s21 s22 : Value} {mb sb : Nat} {wr : World} (hb : Below w0.heap.size w0 wr) (hm : ExM w0 wr mb [(.string (nameB 49), .slice oa ol oc), (.string (nameB 50), .slice ta tl tc)]) (hs : ExS w0 wr sb (exCells ol tl)) :
    Hld Tryz.prog exOps Q (fun _ => True) 0 #[true, true, true, true, true, true, true, true, true, true, true, true, true, true, true, true, true, true, true, true, true] ⟨#[.slice (some ⟨sb, 0, none⟩) 2 2, .map (some mb), s2, s3, .slice oa ol oc, .slice ta tl tc, s6, s7, s8, s9, s10, s11, s12, s13, s14, s15, s16, s17, s18, s19, s20, s21, s22, .string (nameB 49), .slice oa ol oc, .int .i64 (ol : Int), .agg #[.string (nameB 49), .int .i64 0, .int .i64 (ol : Int)], .agg #[.int .i64 0, .int .i64 0, .int .i64 0, .string (nameB 49), .int .i64 0, .int .i64 (ol : Int), .int .i64 0, .int .i64 0, .string ⟨#[]⟩, .bool false], .string (nameB 50), .slice ta tl tc, .int .i64 (tl : Int), .agg #[.string (nameB 50), .int .i64 0, .int .i64 (tl : Int)], .agg #[.int .i64 0, .int .i64 0, .int .i64 0, .string (nameB 50), .int .i64 0, .int .i64 (tl : Int), .int .i64 0, .int .i64 0, .string ⟨#[]⟩, .bool false], .slice (some ⟨sb, 0, none⟩) 2 2, .map (some mb), .string (nameB 49), .slice oa ol oc, .string (nameB 50), .slice ta tl tc, .map (some mb)], []⟩ wr := by
  refine hld_done (by kernel_rfl) ?_
  exact hq _ _ _ _ _ _ _ _ _ _ _ _ _ _ _ _ _ _ _ _ _ wr _ (.inl rfl) hb hm hs
set_option maxRecDepth 100000 in
set_option maxHeartbeats 1000000 in
theorem exs11 {Q : Exit → Act → World → Prop} {w0 : World} {oa ta : Option Addr} {ol oc tl tc : Nat} (hq : ExQ Q w0 oa ol oc ta tl tc) (_hQ : ExPanic Q) {s2 s3 s6 s7 s8 s9 s10 s11 s12 s13 s14 s15 s16 s17 s18 s19 s20 s21 s22 : Value} {mb sb : Nat} {wr : World} (hb : Below w0.heap.size w0 wr) (hm : ExM w0 wr mb [(.string (nameB 50), .slice ta tl tc), (.string (nameB 49), .slice oa ol oc)]) (hs : ExS w0 wr sb (exCells ol tl)) :
    Hld Tryz.prog exOps Q (fun _ => True) 0 #[true, true, true, true, true, true, true, true, true, true, true, true, true, true, true, true, true, true, true, true, true] ⟨#[.slice (some ⟨sb, 0, none⟩) 2 2, .map (some mb), s2, s3, .slice oa ol oc, .slice ta tl tc, s6, s7, s8, s9, s10, s11, s12, s13, s14, s15, s16, s17, s18, s19, s20, s21, s22, .string (nameB 49), .slice oa ol oc, .int .i64 (ol : Int), .agg #[.string (nameB 49), .int .i64 0, .int .i64 (ol : Int)], .agg #[.int .i64 0, .int .i64 0, .int .i64 0, .string (nameB 49), .int .i64 0, .int .i64 (ol : Int), .int .i64 0, .int .i64 0, .string ⟨#[]⟩, .bool false], .string (nameB 50), .slice ta tl tc, .int .i64 (tl : Int), .agg #[.string (nameB 50), .int .i64 0, .int .i64 (tl : Int)], .agg #[.int .i64 0, .int .i64 0, .int .i64 0, .string (nameB 50), .int .i64 0, .int .i64 (tl : Int), .int .i64 0, .int .i64 0, .string ⟨#[]⟩, .bool false], .slice (some ⟨sb, 0, none⟩) 2 2, .map (some mb), .string (nameB 49), .slice oa ol oc, .string (nameB 50), .slice ta tl tc, .map (some mb)], []⟩ wr := by
  refine hld_done (by kernel_rfl) ?_
  exact hq _ _ _ _ _ _ _ _ _ _ _ _ _ _ _ _ _ _ _ _ _ wr _ (.inr rfl) hb hm hs
set_option maxRecDepth 100000 in
set_option maxHeartbeats 1000000 in
theorem exs7 {Q : Exit → Act → World → Prop} {w0 : World} {oa ta : Option Addr} {ol oc tl tc : Nat} (hq : ExQ Q w0 oa ol oc ta tl tc) (hQ : ExPanic Q) {s1 s2 s3 s6 s7 s8 s9 s10 s11 s12 s13 s14 s15 s16 s17 s18 s19 s20 s21 s22 s39 : Value} {mb sb : Nat} {wr : World} (hb : Below w0.heap.size w0 wr) (hm : ExM w0 wr mb [(.string (nameB 49), .slice oa ol oc)]) (hs : ExS w0 wr sb (exCells ol tl)) :
    Hld Tryz.prog exOps Q (fun _ => True) 3 #[true, true, true, true, true, true, true, true, true, true, true, true, true, true, true, true, true, false, false, true, false] ⟨#[.slice (some ⟨sb, 0, none⟩) 2 2, s1, s2, s3, .slice oa ol oc, .slice ta tl tc, s6, s7, s8, s9, s10, s11, s12, s13, s14, s15, s16, s17, s18, s19, s20, s21, s22, .string (nameB 49), .slice oa ol oc, .int .i64 (ol : Int), .agg #[.string (nameB 49), .int .i64 0, .int .i64 (ol : Int)], .agg #[.int .i64 0, .int .i64 0, .int .i64 0, .string (nameB 49), .int .i64 0, .int .i64 (ol : Int), .int .i64 0, .int .i64 0, .string ⟨#[]⟩, .bool false], .string (nameB 50), .slice ta tl tc, .int .i64 (tl : Int), .agg #[.string (nameB 50), .int .i64 0, .int .i64 (tl : Int)], .agg #[.int .i64 0, .int .i64 0, .int .i64 0, .string (nameB 50), .int .i64 0, .int .i64 (tl : Int), .int .i64 0, .int .i64 0, .string ⟨#[]⟩, .bool false], .slice (some ⟨sb, 0, none⟩) 2 2, .map (some mb), .string (nameB 49), .slice oa ol oc, .string (nameB 50), .slice ta tl tc, s39], []⟩ wr := by
  refine Hld.of (wpAnyH_all (rs := [17]) (by kernel_rfl) (by simp) fun j hj => ?_)
  obtain rfl := List.mem_singleton.1 hj
  refine hld_op 17 rfl rfl (fun K hK => ?_)
  refine wpList_ins rfl _ _ _ rfl mb _ hm.2 rfl (nameB 50) (.slice ta tl tc) (nameB_small _) rfl rfl (by simp [nameB_ne]) ?_
  intro w1 hm1 hg1
  go_wp2_with fail
  refine ⟨trivial, ?_⟩
  refine hld_take 18 rfl (by kernel_rfl) (by kernel_rfl) (by kernel_rfl) (fun c a w h => hQ c a _ _ w h) rfl trivial (by intro w' hw'; go_simp; rfl) ?_
  simp only [Act.put, List.setIfInBounds_toArray, List.set_cons_succ, List.set_cons_zero]
  refine hld_take 20 rfl (by kernel_rfl) (by kernel_rfl) (by kernel_rfl) (fun c a w h => hQ c a _ _ w h) rfl trivial (by intro w' hw'; go_simp; rfl) ?_
  simp only [Act.put, List.setIfInBounds_toArray, List.set_cons_succ, List.set_cons_zero]
  exact exs8 hq hQ (hb.grown hg1 hb.size (fun k hk => by cases hk; exact hm.1)) ⟨hm.1, hm1⟩ (hs.grown hg1 hm.2)
set_option maxRecDepth 100000 in
set_option maxHeartbeats 1000000 in
theorem exs10 {Q : Exit → Act → World → Prop} {w0 : World} {oa ta : Option Addr} {ol oc tl tc : Nat} (hq : ExQ Q w0 oa ol oc ta tl tc) (hQ : ExPanic Q) {s1 s2 s3 s6 s7 s8 s9 s10 s11 s12 s13 s14 s15 s16 s17 s18 s19 s20 s21 s22 s39 : Value} {mb sb : Nat} {wr : World} (hb : Below w0.heap.size w0 wr) (hm : ExM w0 wr mb [(.string (nameB 50), .slice ta tl tc)]) (hs : ExS w0 wr sb (exCells ol tl)) :
    Hld Tryz.prog exOps Q (fun _ => True) 3 #[true, true, true, true, true, true, true, true, true, true, true, true, true, true, false, true, true, true, false, true, false] ⟨#[.slice (some ⟨sb, 0, none⟩) 2 2, s1, s2, s3, .slice oa ol oc, .slice ta tl tc, s6, s7, s8, s9, s10, s11, s12, s13, s14, s15, s16, s17, s18, s19, s20, s21, s22, .string (nameB 49), .slice oa ol oc, .int .i64 (ol : Int), .agg #[.string (nameB 49), .int .i64 0, .int .i64 (ol : Int)], .agg #[.int .i64 0, .int .i64 0, .int .i64 0, .string (nameB 49), .int .i64 0, .int .i64 (ol : Int), .int .i64 0, .int .i64 0, .string ⟨#[]⟩, .bool false], .string (nameB 50), .slice ta tl tc, .int .i64 (tl : Int), .agg #[.string (nameB 50), .int .i64 0, .int .i64 (tl : Int)], .agg #[.int .i64 0, .int .i64 0, .int .i64 0, .string (nameB 50), .int .i64 0, .int .i64 (tl : Int), .int .i64 0, .int .i64 0, .string ⟨#[]⟩, .bool false], .slice (some ⟨sb, 0, none⟩) 2 2, .map (some mb), .string (nameB 49), .slice oa ol oc, .string (nameB 50), .slice ta tl tc, s39], []⟩ wr := by
  refine Hld.of (wpAnyH_all (rs := [14]) (by kernel_rfl) (by simp) fun j hj => ?_)
  obtain rfl := List.mem_singleton.1 hj
  refine hld_op 14 rfl rfl (fun K hK => ?_)
  refine wpList_ins rfl _ _ _ rfl mb _ hm.2 rfl (nameB 49) (.slice oa ol oc) (nameB_small _) rfl rfl (by simp [nameB_ne']) ?_
  intro w1 hm1 hg1
  go_wp2_with fail
  refine ⟨trivial, ?_⟩
  refine hld_take 18 rfl (by kernel_rfl) (by kernel_rfl) (by kernel_rfl) (fun c a w h => hQ c a _ _ w h) rfl trivial (by intro w' hw'; go_simp; rfl) ?_
  simp only [Act.put, List.setIfInBounds_toArray, List.set_cons_succ, List.set_cons_zero]
  refine hld_take 20 rfl (by kernel_rfl) (by kernel_rfl) (by kernel_rfl) (fun c a w h => hQ c a _ _ w h) rfl trivial (by intro w' hw'; go_simp; rfl) ?_
  simp only [Act.put, List.setIfInBounds_toArray, List.set_cons_succ, List.set_cons_zero]
  exact exs11 hq hQ (hb.grown hg1 hb.size (fun k hk => by cases hk; exact hm.1)) ⟨hm.1, hm1⟩ (hs.grown hg1 hm.2)
set_option maxRecDepth 100000 in
set_option maxHeartbeats 1000000 in
theorem exs18 {Q : Exit → Act → World → Prop} {w0 : World} {oa ta : Option Addr} {ol oc tl tc : Nat} (hq : ExQ Q w0 oa ol oc ta tl tc) (hQ : ExPanic Q) {s0 s1 s2 s3 s6 s7 s8 s9 s10 s11 s12 s13 s14 s15 s16 s17 s18 s19 s20 s21 s22 s33 : Value} {mb : Nat} {wr : World} (hb : Below w0.heap.size w0 wr) (hm : ExM w0 wr mb [(.string (nameB 49), .slice oa ol oc), (.string (nameB 50), .slice ta tl tc)]) :
    Hld Tryz.prog exOps Q (fun _ => True) 3 #[true, true, true, true, true, true, true, true, true, true, false, true, true, true, true, true, true, true, true, false, false] ⟨#[s0, s1, s2, s3, .slice oa ol oc, .slice ta tl tc, s6, s7, s8, s9, s10, s11, s12, s13, s14, s15, s16, s17, s18, s19, s20, s21, s22, .string (nameB 49), .slice oa ol oc, .int .i64 (ol : Int), .agg #[.string (nameB 49), .int .i64 0, .int .i64 (ol : Int)], .agg #[.int .i64 0, .int .i64 0, .int .i64 0, .string (nameB 49), .int .i64 0, .int .i64 (ol : Int), .int .i64 0, .int .i64 0, .string ⟨#[]⟩, .bool false], .string (nameB 50), .slice ta tl tc, .int .i64 (tl : Int), .agg #[.string (nameB 50), .int .i64 0, .int .i64 (tl : Int)], .agg #[.int .i64 0, .int .i64 0, .int .i64 0, .string (nameB 50), .int .i64 0, .int .i64 (tl : Int), .int .i64 0, .int .i64 0, .string ⟨#[]⟩, .bool false], s33, .map (some mb), .string (nameB 49), .slice oa ol oc, .string (nameB 50), .slice ta tl tc, .map (some mb)], []⟩ wr := by
  refine Hld.of (wpAnyH_all (rs := [10]) (by kernel_rfl) (by simp) fun j hj => ?_)
  obtain rfl := List.mem_singleton.1 hj
  refine hld_op 10 rfl rfl (fun K hK => ?_)
  go_wp2_with fail
  refine ⟨trivial, ?_⟩
  refine hld_take 19 rfl (by kernel_rfl) (by kernel_rfl) (by kernel_rfl) (fun c a w h => hQ c a _ _ w h) rfl trivial (by intro w' hw'; go_simp; rfl) ?_
  simp only [Act.put, List.setIfInBounds_toArray, List.set_cons_succ, List.set_cons_zero]
  refine hld_take 20 rfl (by kernel_rfl) (by kernel_rfl) (by kernel_rfl) (fun c a w h => hQ c a _ _ w h) rfl trivial (by intro w' hw'; go_simp; rfl) ?_
  simp only [Act.put, List.setIfInBounds_toArray, List.set_cons_succ, List.set_cons_zero]
  exact exs8 hq hQ (below_next hb ((Below.refl wr.heap.size wr).alloc (Nat.le_refl _) _)) (hm.next ((Below.refl wr.heap.size wr).alloc (Nat.le_refl _) _)) ⟨hb.size, heap_alloc_new wr _⟩
set_option maxRecDepth 100000 in
set_option maxHeartbeats 1000000 in
theorem exs21 {Q : Exit → Act → World → Prop} {w0 : World} {oa ta : Option Addr} {ol oc tl tc : Nat} (hq : ExQ Q w0 oa ol oc ta tl tc) (hQ : ExPanic Q) {s0 s1 s2 s3 s6 s7 s8 s9 s10 s11 s12 s13 s14 s15 s16 s17 s18 s19 s20 s21 s22 s33 : Value} {mb : Nat} {wr : World} (hb : Below w0.heap.size w0 wr) (hm : ExM w0 wr mb [(.string (nameB 50), .slice ta tl tc), (.string (nameB 49), .slice oa ol oc)]) :
    Hld Tryz.prog exOps Q (fun _ => True) 3 #[true, true, true, true, true, true, true, true, true, true, false, true, true, true, true, true, true, true, true, false, false] ⟨#[s0, s1, s2, s3, .slice oa ol oc, .slice ta tl tc, s6, s7, s8, s9, s10, s11, s12, s13, s14, s15, s16, s17, s18, s19, s20, s21, s22, .string (nameB 49), .slice oa ol oc, .int .i64 (ol : Int), .agg #[.string (nameB 49), .int .i64 0, .int .i64 (ol : Int)], .agg #[.int .i64 0, .int .i64 0, .int .i64 0, .string (nameB 49), .int .i64 0, .int .i64 (ol : Int), .int .i64 0, .int .i64 0, .string ⟨#[]⟩, .bool false], .string (nameB 50), .slice ta tl tc, .int .i64 (tl : Int), .agg #[.string (nameB 50), .int .i64 0, .int .i64 (tl : Int)], .agg #[.int .i64 0, .int .i64 0, .int .i64 0, .string (nameB 50), .int .i64 0, .int .i64 (tl : Int), .int .i64 0, .int .i64 0, .string ⟨#[]⟩, .bool false], s33, .map (some mb), .string (nameB 49), .slice oa ol oc, .string (nameB 50), .slice ta tl tc, .map (some mb)], []⟩ wr := by
  refine Hld.of (wpAnyH_all (rs := [10]) (by kernel_rfl) (by simp) fun j hj => ?_)
  obtain rfl := List.mem_singleton.1 hj
  refine hld_op 10 rfl rfl (fun K hK => ?_)
  go_wp2_with fail
  refine ⟨trivial, ?_⟩
  refine hld_take 19 rfl (by kernel_rfl) (by kernel_rfl) (by kernel_rfl) (fun c a w h => hQ c a _ _ w h) rfl trivial (by intro w' hw'; go_simp; rfl) ?_
  simp only [Act.put, List.setIfInBounds_toArray, List.set_cons_succ, List.set_cons_zero]
  refine hld_take 20 rfl (by kernel_rfl) (by kernel_rfl) (by kernel_rfl) (fun c a w h => hQ c a _ _ w h) rfl trivial (by intro w' hw'; go_simp; rfl) ?_
  simp only [Act.put, List.setIfInBounds_toArray, List.set_cons_succ, List.set_cons_zero]
  exact exs11 hq hQ (below_next hb ((Below.refl wr.heap.size wr).alloc (Nat.le_refl _) _)) (hm.next ((Below.refl wr.heap.size wr).alloc (Nat.le_refl _) _)) ⟨hb.size, heap_alloc_new wr _⟩
set_option maxRecDepth 100000 in
set_option maxHeartbeats 1000000 in
theorem exs6 {Q : Exit → Act → World → Prop} {w0 : World} {oa ta : Option Addr} {ol oc tl tc : Nat} (hq : ExQ Q w0 oa ol oc ta tl tc) (hQ : ExPanic Q) {s0 s1 s2 s3 s6 s7 s8 s9 s10 s11 s12 s13 s14 s15 s16 s17 s18 s19 s20 s21 s22 s37 s39 : Value} {mb sb : Nat} {wr : World} (hb : Below w0.heap.size w0 wr) (hm : ExM w0 wr mb [(.string (nameB 49), .slice oa ol oc)]) (hs : ExS w0 wr sb (exCells ol tl)) :
    Hld Tryz.prog exOps Q (fun _ => True) 5 #[true, true, true, true, true, true, true, true, true, true, true, true, true, true, true, false, true, false, false, false, false] ⟨#[s0, s1, s2, s3, .slice oa ol oc, .slice ta tl tc, s6, s7, s8, s9, s10, s11, s12, s13, s14, s15, s16, s17, s18, s19, s20, s21, s22, .string (nameB 49), .slice oa ol oc, .int .i64 (ol : Int), .agg #[.string (nameB 49), .int .i64 0, .int .i64 (ol : Int)], .agg #[.int .i64 0, .int .i64 0, .int .i64 0, .string (nameB 49), .int .i64 0, .int .i64 (ol : Int), .int .i64 0, .int .i64 0, .string ⟨#[]⟩, .bool false], .string (nameB 50), .slice ta tl tc, .int .i64 (tl : Int), .agg #[.string (nameB 50), .int .i64 0, .int .i64 (tl : Int)], .agg #[.int .i64 0, .int .i64 0, .int .i64 0, .string (nameB 50), .int .i64 0, .int .i64 (tl : Int), .int .i64 0, .int .i64 0, .string ⟨#[]⟩, .bool false], .slice (some ⟨sb, 0, none⟩) 2 2, .map (some mb), .string (nameB 49), .slice oa ol oc, s37, .slice ta tl tc, s39], []⟩ wr := by
  refine Hld.of (wpAnyH_all (rs := [15]) (by kernel_rfl) (by simp) fun j hj => ?_)
  obtain rfl := List.mem_singleton.1 hj
  refine hld_op 15 rfl rfl (fun K hK => ?_)
  go_wp2_with (go_at_call 35; refine (name50_any _).mono ?_; rintro e w1 ⟨rfl, hb1⟩)
  refine ⟨trivial, ?_⟩
  refine hld_take 19 rfl (by kernel_rfl) (by kernel_rfl) (by kernel_rfl) (fun c a w h => hQ c a _ _ w h) rfl trivial (by intro w' hw'; go_simp; rfl) ?_
  simp only [Act.put, List.setIfInBounds_toArray, List.set_cons_succ, List.set_cons_zero]
  exact exs7 hq hQ (below_next hb hb1) (hm.next hb1) (hs.next hb1)
set_option maxRecDepth 100000 in
set_option maxHeartbeats 1000000 in
theorem exs9 {Q : Exit → Act → World → Prop} {w0 : World} {oa ta : Option Addr} {ol oc tl tc : Nat} (hq : ExQ Q w0 oa ol oc ta tl tc) (hQ : ExPanic Q) {s1 s2 s3 s6 s7 s8 s9 s10 s11 s12 s13 s14 s15 s16 s17 s18 s19 s20 s21 s22 s39 : Value} {mb sb : Nat} {wr : World} (hb : Below w0.heap.size w0 wr) (hm : ExM w0 wr mb []) (hs : ExS w0 wr sb (exCells ol tl)) :
    Hld Tryz.prog exOps Q (fun _ => True) 4 #[true, true, true, true, true, true, true, true, true, true, true, true, true, true, false, true, true, false, false, true, false] ⟨#[.slice (some ⟨sb, 0, none⟩) 2 2, s1, s2, s3, .slice oa ol oc, .slice ta tl tc, s6, s7, s8, s9, s10, s11, s12, s13, s14, s15, s16, s17, s18, s19, s20, s21, s22, .string (nameB 49), .slice oa ol oc, .int .i64 (ol : Int), .agg #[.string (nameB 49), .int .i64 0, .int .i64 (ol : Int)], .agg #[.int .i64 0, .int .i64 0, .int .i64 0, .string (nameB 49), .int .i64 0, .int .i64 (ol : Int), .int .i64 0, .int .i64 0, .string ⟨#[]⟩, .bool false], .string (nameB 50), .slice ta tl tc, .int .i64 (tl : Int), .agg #[.string (nameB 50), .int .i64 0, .int .i64 (tl : Int)], .agg #[.int .i64 0, .int .i64 0, .int .i64 0, .string (nameB 50), .int .i64 0, .int .i64 (tl : Int), .int .i64 0, .int .i64 0, .string ⟨#[]⟩, .bool false], .slice (some ⟨sb, 0, none⟩) 2 2, .map (some mb), .string (nameB 49), .slice oa ol oc, .string (nameB 50), .slice ta tl tc, s39], []⟩ wr := by
  refine Hld.of (wpAnyH_all (rs := [14, 17]) (by kernel_rfl) (by simp) fun j hj => ?_)
  simp only [List.mem_cons, List.not_mem_nil, or_false] at hj
  rcases hj with rfl | rfl
  · refine hld_op 14 rfl rfl (fun K hK => ?_)
    refine wpList_ins rfl _ _ _ rfl mb _ hm.2 rfl (nameB 49) (.slice oa ol oc) (nameB_small _) rfl rfl (by simp) ?_
    intro w1 hm1 hg1
    go_wp2_with fail
    refine ⟨trivial, ?_⟩
    exact exs7 hq hQ (hb.grown hg1 hb.size (fun k hk => by cases hk; exact hm.1)) ⟨hm.1, hm1⟩ (hs.grown hg1 hm.2)
  · refine hld_op 17 rfl rfl (fun K hK => ?_)
    refine wpList_ins rfl _ _ _ rfl mb _ hm.2 rfl (nameB 50) (.slice ta tl tc) (nameB_small _) rfl rfl (by simp) ?_
    intro w1 hm1 hg1
    go_wp2_with fail
    refine ⟨trivial, ?_⟩
    exact exs10 hq hQ (hb.grown hg1 hb.size (fun k hk => by cases hk; exact hm.1)) ⟨hm.1, hm1⟩ (hs.grown hg1 hm.2)
set_option maxRecDepth 100000 in
set_option maxHeartbeats 1000000 in
theorem exs17 {Q : Exit → Act → World → Prop} {w0 : World} {oa ta : Option Addr} {ol oc tl tc : Nat} (hq : ExQ Q w0 oa ol oc ta tl tc) (hQ : ExPanic Q) {s0 s1 s2 s3 s6 s7 s8 s9 s10 s11 s12 s13 s14 s15 s16 s17 s18 s19 s20 s21 s22 s33 s39 : Value} {mb : Nat} {wr : World} (hb : Below w0.heap.size w0 wr) (hm : ExM w0 wr mb [(.string (nameB 49), .slice oa ol oc)]) :
    Hld Tryz.prog exOps Q (fun _ => True) 5 #[true, true, true, true, true, true, true, true, true, true, false, true, true, true, true, true, true, false, false, false, false] ⟨#[s0, s1, s2, s3, .slice oa ol oc, .slice ta tl tc, s6, s7, s8, s9, s10, s11, s12, s13, s14, s15, s16, s17, s18, s19, s20, s21, s22, .string (nameB 49), .slice oa ol oc, .int .i64 (ol : Int), .agg #[.string (nameB 49), .int .i64 0, .int .i64 (ol : Int)], .agg #[.int .i64 0, .int .i64 0, .int .i64 0, .string (nameB 49), .int .i64 0, .int .i64 (ol : Int), .int .i64 0, .int .i64 0, .string ⟨#[]⟩, .bool false], .string (nameB 50), .slice ta tl tc, .int .i64 (tl : Int), .agg #[.string (nameB 50), .int .i64 0, .int .i64 (tl : Int)], .agg #[.int .i64 0, .int .i64 0, .int .i64 0, .string (nameB 50), .int .i64 0, .int .i64 (tl : Int), .int .i64 0, .int .i64 0, .string ⟨#[]⟩, .bool false], s33, .map (some mb), .string (nameB 49), .slice oa ol oc, .string (nameB 50), .slice ta tl tc, s39], []⟩ wr := by
  refine Hld.of (wpAnyH_all (rs := [10, 17]) (by kernel_rfl) (by simp) fun j hj => ?_)
  simp only [List.mem_cons, List.not_mem_nil, or_false] at hj
  rcases hj with rfl | rfl
  · refine hld_op 10 rfl rfl (fun K hK => ?_)
    go_wp2_with fail
    refine ⟨trivial, ?_⟩
    refine hld_take 19 rfl (by kernel_rfl) (by kernel_rfl) (by kernel_rfl) (fun c a w h => hQ c a _ _ w h) rfl trivial (by intro w' hw'; go_simp; rfl) ?_
    simp only [Act.put, List.setIfInBounds_toArray, List.set_cons_succ, List.set_cons_zero]
    exact exs7 hq hQ (below_next hb ((Below.refl wr.heap.size wr).alloc (Nat.le_refl _) _)) (hm.next ((Below.refl wr.heap.size wr).alloc (Nat.le_refl _) _)) ⟨hb.size, heap_alloc_new wr _⟩
  · refine hld_op 17 rfl rfl (fun K hK => ?_)
    refine wpList_ins rfl _ _ _ rfl mb _ hm.2 rfl (nameB 50) (.slice ta tl tc) (nameB_small _) rfl rfl (by simp [nameB_ne]) ?_
    intro w1 hm1 hg1
    go_wp2_with fail
    refine ⟨trivial, ?_⟩
    refine hld_take 18 rfl (by kernel_rfl) (by kernel_rfl) (by kernel_rfl) (fun c a w h => hQ c a _ _ w h) rfl trivial (by intro w' hw'; go_simp; rfl) ?_
    simp only [Act.put, List.setIfInBounds_toArray, List.set_cons_succ, List.set_cons_zero]
    exact exs18 hq hQ (hb.grown hg1 hb.size (fun k hk => by cases hk; exact hm.1)) ⟨hm.1, hm1⟩
set_option maxRecDepth 100000 in
set_option maxHeartbeats 1000000 in
theorem exs20 {Q : Exit → Act → World → Prop} {w0 : World} {oa ta : Option Addr} {ol oc tl tc : Nat} (hq : ExQ Q w0 oa ol oc ta tl tc) (hQ : ExPanic Q) {s0 s1 s2 s3 s6 s7 s8 s9 s10 s11 s12 s13 s14 s15 s16 s17 s18 s19 s20 s21 s22 s33 s39 : Value} {mb : Nat} {wr : World} (hb : Below w0.heap.size w0 wr) (hm : ExM w0 wr mb [(.string (nameB 50), .slice ta tl tc)]) :
    Hld Tryz.prog exOps Q (fun _ => True) 5 #[true, true, true, true, true, true, true, true, true, true, false, true, true, true, false, true, true, true, false, false, false] ⟨#[s0, s1, s2, s3, .slice oa ol oc, .slice ta tl tc, s6, s7, s8, s9, s10, s11, s12, s13, s14, s15, s16, s17, s18, s19, s20, s21, s22, .string (nameB 49), .slice oa ol oc, .int .i64 (ol : Int), .agg #[.string (nameB 49), .int .i64 0, .int .i64 (ol : Int)], .agg #[.int .i64 0, .int .i64 0, .int .i64 0, .string (nameB 49), .int .i64 0, .int .i64 (ol : Int), .int .i64 0, .int .i64 0, .string ⟨#[]⟩, .bool false], .string (nameB 50), .slice ta tl tc, .int .i64 (tl : Int), .agg #[.string (nameB 50), .int .i64 0, .int .i64 (tl : Int)], .agg #[.int .i64 0, .int .i64 0, .int .i64 0, .string (nameB 50), .int .i64 0, .int .i64 (tl : Int), .int .i64 0, .int .i64 0, .string ⟨#[]⟩, .bool false], s33, .map (some mb), .string (nameB 49), .slice oa ol oc, .string (nameB 50), .slice ta tl tc, s39], []⟩ wr := by
  refine Hld.of (wpAnyH_all (rs := [10, 14]) (by kernel_rfl) (by simp) fun j hj => ?_)
  simp only [List.mem_cons, List.not_mem_nil, or_false] at hj
  rcases hj with rfl | rfl
  · refine hld_op 10 rfl rfl (fun K hK => ?_)
    go_wp2_with fail
    refine ⟨trivial, ?_⟩
    refine hld_take 19 rfl (by kernel_rfl) (by kernel_rfl) (by kernel_rfl) (fun c a w h => hQ c a _ _ w h) rfl trivial (by intro w' hw'; go_simp; rfl) ?_
    simp only [Act.put, List.setIfInBounds_toArray, List.set_cons_succ, List.set_cons_zero]
    exact exs10 hq hQ (below_next hb ((Below.refl wr.heap.size wr).alloc (Nat.le_refl _) _)) (hm.next ((Below.refl wr.heap.size wr).alloc (Nat.le_refl _) _)) ⟨hb.size, heap_alloc_new wr _⟩
  · refine hld_op 14 rfl rfl (fun K hK => ?_)
    refine wpList_ins rfl _ _ _ rfl mb _ hm.2 rfl (nameB 49) (.slice oa ol oc) (nameB_small _) rfl rfl (by simp [nameB_ne']) ?_
    intro w1 hm1 hg1
    go_wp2_with fail
    refine ⟨trivial, ?_⟩
    refine hld_take 18 rfl (by kernel_rfl) (by kernel_rfl) (by kernel_rfl) (fun c a w h => hQ c a _ _ w h) rfl trivial (by intro w' hw'; go_simp; rfl) ?_
    simp only [Act.put, List.setIfInBounds_toArray, List.set_cons_succ, List.set_cons_zero]
    exact exs21 hq hQ (hb.grown hg1 hb.size (fun k hk => by cases hk; exact hm.1)) ⟨hm.1, hm1⟩
set_option maxRecDepth 100000 in
set_option maxHeartbeats 1000000 in
theorem exs5 {Q : Exit → Act → World → Prop} {w0 : World} {oa ta : Option Addr} {ol oc tl tc : Nat} (hq : ExQ Q w0 oa ol oc ta tl tc) (hQ : ExPanic Q) {s0 s1 s2 s3 s6 s7 s8 s9 s10 s11 s12 s13 s14 s15 s16 s17 s18 s19 s20 s21 s22 s37 s39 : Value} {mb sb : Nat} {wr : World} (hb : Below w0.heap.size w0 wr) (hm : ExM w0 wr mb []) (hs : ExS w0 wr sb (exCells ol tl)) :
    Hld Tryz.prog exOps Q (fun _ => True) 6 #[true, true, true, true, true, true, true, true, true, true, true, true, true, true, false, false, true, false, false, false, false] ⟨#[s0, s1, s2, s3, .slice oa ol oc, .slice ta tl tc, s6, s7, s8, s9, s10, s11, s12, s13, s14, s15, s16, s17, s18, s19, s20, s21, s22, .string (nameB 49), .slice oa ol oc, .int .i64 (ol : Int), .agg #[.string (nameB 49), .int .i64 0, .int .i64 (ol : Int)], .agg #[.int .i64 0, .int .i64 0, .int .i64 0, .string (nameB 49), .int .i64 0, .int .i64 (ol : Int), .int .i64 0, .int .i64 0, .string ⟨#[]⟩, .bool false], .string (nameB 50), .slice ta tl tc, .int .i64 (tl : Int), .agg #[.string (nameB 50), .int .i64 0, .int .i64 (tl : Int)], .agg #[.int .i64 0, .int .i64 0, .int .i64 0, .string (nameB 50), .int .i64 0, .int .i64 (tl : Int), .int .i64 0, .int .i64 0, .string ⟨#[]⟩, .bool false], .slice (some ⟨sb, 0, none⟩) 2 2, .map (some mb), .string (nameB 49), .slice oa ol oc, s37, .slice ta tl tc, s39], []⟩ wr := by
  refine Hld.of (wpAnyH_all (rs := [14, 15]) (by kernel_rfl) (by simp) fun j hj => ?_)
  simp only [List.mem_cons, List.not_mem_nil, or_false] at hj
  rcases hj with rfl | rfl
  · refine hld_op 14 rfl rfl (fun K hK => ?_)
    refine wpList_ins rfl _ _ _ rfl mb _ hm.2 rfl (nameB 49) (.slice oa ol oc) (nameB_small _) rfl rfl (by simp) ?_
    intro w1 hm1 hg1
    go_wp2_with fail
    refine ⟨trivial, ?_⟩
    exact exs6 hq hQ (hb.grown hg1 hb.size (fun k hk => by cases hk; exact hm.1)) ⟨hm.1, hm1⟩ (hs.grown hg1 hm.2)
  · refine hld_op 15 rfl rfl (fun K hK => ?_)
    go_wp2_with (go_at_call 35; refine (name50_any _).mono ?_; rintro e w1 ⟨rfl, hb1⟩)
    refine ⟨trivial, ?_⟩
    refine hld_take 19 rfl (by kernel_rfl) (by kernel_rfl) (by kernel_rfl) (fun c a w h => hQ c a _ _ w h) rfl trivial (by intro w' hw'; go_simp; rfl) ?_
    simp only [Act.put, List.setIfInBounds_toArray, List.set_cons_succ, List.set_cons_zero]
    exact exs9 hq hQ (below_next hb hb1) (hm.next hb1) (hs.next hb1)
set_option maxRecDepth 100000 in
set_option maxHeartbeats 1000000 in
theorem exs13 {Q : Exit → Act → World → Prop} {w0 : World} {oa ta : Option Addr} {ol oc tl tc : Nat} (hq : ExQ Q w0 oa ol oc ta tl tc) (hQ : ExPanic Q) {s1 s2 s3 s6 s7 s8 s9 s10 s11 s12 s13 s14 s15 s16 s17 s18 s19 s20 s21 s22 s34 s39 : Value} {sb : Nat} {wr : World} (hb : Below w0.heap.size w0 wr) (hs : ExS w0 wr sb (exCells ol tl)) :
    Hld Tryz.prog exOps Q (fun _ => True) 5 #[true, true, true, true, true, true, true, true, true, true, true, false, true, true, false, true, true, false, false, true, false] ⟨#[.slice (some ⟨sb, 0, none⟩) 2 2, s1, s2, s3, .slice oa ol oc, .slice ta tl tc, s6, s7, s8, s9, s10, s11, s12, s13, s14, s15, s16, s17, s18, s19, s20, s21, s22, .string (nameB 49), .slice oa ol oc, .int .i64 (ol : Int), .agg #[.string (nameB 49), .int .i64 0, .int .i64 (ol : Int)], .agg #[.int .i64 0, .int .i64 0, .int .i64 0, .string (nameB 49), .int .i64 0, .int .i64 (ol : Int), .int .i64 0, .int .i64 0, .string ⟨#[]⟩, .bool false], .string (nameB 50), .slice ta tl tc, .int .i64 (tl : Int), .agg #[.string (nameB 50), .int .i64 0, .int .i64 (tl : Int)], .agg #[.int .i64 0, .int .i64 0, .int .i64 0, .string (nameB 50), .int .i64 0, .int .i64 (tl : Int), .int .i64 0, .int .i64 0, .string ⟨#[]⟩, .bool false], .slice (some ⟨sb, 0, none⟩) 2 2, s34, .string (nameB 49), .slice oa ol oc, .string (nameB 50), .slice ta tl tc, s39], []⟩ wr := by
  refine Hld.of (wpAnyH_all (rs := [11]) (by kernel_rfl) (by simp) fun j hj => ?_)
  obtain rfl := List.mem_singleton.1 hj
  refine hld_op 11 rfl rfl (fun K hK => ?_)
  have hmm := @run_makeMap Tryz.prog
  go_wp2_with fail
  refine ⟨trivial, ?_⟩
  exact exs9 hq hQ (below_next hb ((Below.refl wr.heap.size wr).alloc (Nat.le_refl _) _)) ⟨hb.size, MapIs.made wr⟩ (hs.next ((Below.refl wr.heap.size wr).alloc (Nat.le_refl _) _))
set_option maxRecDepth 100000 in
set_option maxHeartbeats 1000000 in
theorem exs16 {Q : Exit → Act → World → Prop} {w0 : World} {oa ta : Option Addr} {ol oc tl tc : Nat} (hq : ExQ Q w0 oa ol oc ta tl tc) (hQ : ExPanic Q) {s0 s1 s2 s3 s6 s7 s8 s9 s10 s11 s12 s13 s14 s15 s16 s17 s18 s19 s20 s21 s22 s33 s37 s39 : Value} {mb : Nat} {wr : World} (hb : Below w0.heap.size w0 wr) (hm : ExM w0 wr mb [(.string (nameB 49), .slice oa ol oc)]) :
    Hld Tryz.prog exOps Q (fun _ => True) 6 #[true, true, true, true, true, true, true, true, true, true, false, true, true, true, true, false, true, false, false, false, false] ⟨#[s0, s1, s2, s3, .slice oa ol oc, .slice ta tl tc, s6, s7, s8, s9, s10, s11, s12, s13, s14, s15, s16, s17, s18, s19, s20, s21, s22, .string (nameB 49), .slice oa ol oc, .int .i64 (ol : Int), .agg #[.string (nameB 49), .int .i64 0, .int .i64 (ol : Int)], .agg #[.int .i64 0, .int .i64 0, .int .i64 0, .string (nameB 49), .int .i64 0, .int .i64 (ol : Int), .int .i64 0, .int .i64 0, .string ⟨#[]⟩, .bool false], .string (nameB 50), .slice ta tl tc, .int .i64 (tl : Int), .agg #[.string (nameB 50), .int .i64 0, .int .i64 (tl : Int)], .agg #[.int .i64 0, .int .i64 0, .int .i64 0, .string (nameB 50), .int .i64 0, .int .i64 (tl : Int), .int .i64 0, .int .i64 0, .string ⟨#[]⟩, .bool false], s33, .map (some mb), .string (nameB 49), .slice oa ol oc, s37, .slice ta tl tc, s39], []⟩ wr := by
  refine Hld.of (wpAnyH_all (rs := [10, 15]) (by kernel_rfl) (by simp) fun j hj => ?_)
  simp only [List.mem_cons, List.not_mem_nil, or_false] at hj
  rcases hj with rfl | rfl
  · refine hld_op 10 rfl rfl (fun K hK => ?_)
    go_wp2_with fail
    refine ⟨trivial, ?_⟩
    exact exs6 hq hQ (below_next hb ((Below.refl wr.heap.size wr).alloc (Nat.le_refl _) _)) (hm.next ((Below.refl wr.heap.size wr).alloc (Nat.le_refl _) _)) ⟨hb.size, heap_alloc_new wr _⟩
  · refine hld_op 15 rfl rfl (fun K hK => ?_)
    go_wp2_with (go_at_call 35; refine (name50_any _).mono ?_; rintro e w1 ⟨rfl, hb1⟩)
    refine ⟨trivial, ?_⟩
    exact exs17 hq hQ (below_next hb hb1) (hm.next hb1)
set_option maxRecDepth 100000 in
set_option maxHeartbeats 1000000 in
theorem exs19 {Q : Exit → Act → World → Prop} {w0 : World} {oa ta : Option Addr} {ol oc tl tc : Nat} (hq : ExQ Q w0 oa ol oc ta tl tc) (hQ : ExPanic Q) {s0 s1 s2 s3 s6 s7 s8 s9 s10 s11 s12 s13 s14 s15 s16 s17 s18 s19 s20 s21 s22 s33 s39 : Value} {mb : Nat} {wr : World} (hb : Below w0.heap.size w0 wr) (hm : ExM w0 wr mb []) :
    Hld Tryz.prog exOps Q (fun _ => True) 6 #[true, true, true, true, true, true, true, true, true, true, false, true, true, true, false, true, true, false, false, false, false] ⟨#[s0, s1, s2, s3, .slice oa ol oc, .slice ta tl tc, s6, s7, s8, s9, s10, s11, s12, s13, s14, s15, s16, s17, s18, s19, s20, s21, s22, .string (nameB 49), .slice oa ol oc, .int .i64 (ol : Int), .agg #[.string (nameB 49), .int .i64 0, .int .i64 (ol : Int)], .agg #[.int .i64 0, .int .i64 0, .int .i64 0, .string (nameB 49), .int .i64 0, .int .i64 (ol : Int), .int .i64 0, .int .i64 0, .string ⟨#[]⟩, .bool false], .string (nameB 50), .slice ta tl tc, .int .i64 (tl : Int), .agg #[.string (nameB 50), .int .i64 0, .int .i64 (tl : Int)], .agg #[.int .i64 0, .int .i64 0, .int .i64 0, .string (nameB 50), .int .i64 0, .int .i64 (tl : Int), .int .i64 0, .int .i64 0, .string ⟨#[]⟩, .bool false], s33, .map (some mb), .string (nameB 49), .slice oa ol oc, .string (nameB 50), .slice ta tl tc, s39], []⟩ wr := by
  refine Hld.of (wpAnyH_all (rs := [10, 14, 17]) (by kernel_rfl) (by simp) fun j hj => ?_)
  simp only [List.mem_cons, List.not_mem_nil, or_false] at hj
  rcases hj with rfl | rfl | rfl
  · refine hld_op 10 rfl rfl (fun K hK => ?_)
    go_wp2_with fail
    refine ⟨trivial, ?_⟩
    refine hld_take 19 rfl (by kernel_rfl) (by kernel_rfl) (by kernel_rfl) (fun c a w h => hQ c a _ _ w h) rfl trivial (by intro w' hw'; go_simp; rfl) ?_
    simp only [Act.put, List.setIfInBounds_toArray, List.set_cons_succ, List.set_cons_zero]
    exact exs9 hq hQ (below_next hb ((Below.refl wr.heap.size wr).alloc (Nat.le_refl _) _)) (hm.next ((Below.refl wr.heap.size wr).alloc (Nat.le_refl _) _)) ⟨hb.size, heap_alloc_new wr _⟩
  · refine hld_op 14 rfl rfl (fun K hK => ?_)
    refine wpList_ins rfl _ _ _ rfl mb _ hm.2 rfl (nameB 49) (.slice oa ol oc) (nameB_small _) rfl rfl (by simp) ?_
    intro w1 hm1 hg1
    go_wp2_with fail
    refine ⟨trivial, ?_⟩
    exact exs17 hq hQ (hb.grown hg1 hb.size (fun k hk => by cases hk; exact hm.1)) ⟨hm.1, hm1⟩
  · refine hld_op 17 rfl rfl (fun K hK => ?_)
    refine wpList_ins rfl _ _ _ rfl mb _ hm.2 rfl (nameB 50) (.slice ta tl tc) (nameB_small _) rfl rfl (by simp) ?_
    intro w1 hm1 hg1
    go_wp2_with fail
    refine ⟨trivial, ?_⟩
    exact exs20 hq hQ (hb.grown hg1 hb.size (fun k hk => by cases hk; exact hm.1)) ⟨hm.1, hm1⟩
set_option maxRecDepth 100000 in
set_option maxHeartbeats 1000000 in
theorem exs4 {Q : Exit → Act → World → Prop} {w0 : World} {oa ta : Option Addr} {ol oc tl tc : Nat} (hq : ExQ Q w0 oa ol oc ta tl tc) (hQ : ExPanic Q) {s0 s1 s2 s3 s6 s7 s8 s9 s10 s11 s12 s13 s14 s15 s16 s17 s18 s19 s20 s21 s22 s35 s37 s39 : Value} {mb sb : Nat} {wr : World} (hb : Below w0.heap.size w0 wr) (hm : ExM w0 wr mb []) (hs : ExS w0 wr sb (exCells ol tl)) :
    Hld Tryz.prog exOps Q (fun _ => True) 7 #[true, true, true, true, true, true, true, true, true, true, true, true, false, true, false, false, true, false, false, false, false] ⟨#[s0, s1, s2, s3, .slice oa ol oc, .slice ta tl tc, s6, s7, s8, s9, s10, s11, s12, s13, s14, s15, s16, s17, s18, s19, s20, s21, s22, .string (nameB 49), .slice oa ol oc, .int .i64 (ol : Int), .agg #[.string (nameB 49), .int .i64 0, .int .i64 (ol : Int)], .agg #[.int .i64 0, .int .i64 0, .int .i64 0, .string (nameB 49), .int .i64 0, .int .i64 (ol : Int), .int .i64 0, .int .i64 0, .string ⟨#[]⟩, .bool false], .string (nameB 50), .slice ta tl tc, .int .i64 (tl : Int), .agg #[.string (nameB 50), .int .i64 0, .int .i64 (tl : Int)], .agg #[.int .i64 0, .int .i64 0, .int .i64 0, .string (nameB 50), .int .i64 0, .int .i64 (tl : Int), .int .i64 0, .int .i64 0, .string ⟨#[]⟩, .bool false], .slice (some ⟨sb, 0, none⟩) 2 2, .map (some mb), s35, .slice oa ol oc, s37, .slice ta tl tc, s39], []⟩ wr := by
  refine Hld.of (wpAnyH_all (rs := [12]) (by kernel_rfl) (by simp) fun j hj => ?_)
  obtain rfl := List.mem_singleton.1 hj
  refine hld_op 12 rfl rfl (fun K hK => ?_)
  go_wp2_with (go_at_call 35; refine (name49_any _).mono ?_; rintro e w1 ⟨rfl, hb1⟩)
  refine ⟨trivial, ?_⟩
  exact exs5 hq hQ (below_next hb hb1) (hm.next hb1) (hs.next hb1)
set_option maxRecDepth 100000 in
set_option maxHeartbeats 1000000 in
theorem exs12 {Q : Exit → Act → World → Prop} {w0 : World} {oa ta : Option Addr} {ol oc tl tc : Nat} (hq : ExQ Q w0 oa ol oc ta tl tc) (hQ : ExPanic Q) {s0 s1 s2 s3 s6 s7 s8 s9 s10 s11 s12 s13 s14 s15 s16 s17 s18 s19 s20 s21 s22 s34 s37 s39 : Value} {sb : Nat} {wr : World} (hb : Below w0.heap.size w0 wr) (hs : ExS w0 wr sb (exCells ol tl)) :
    Hld Tryz.prog exOps Q (fun _ => True) 7 #[true, true, true, true, true, true, true, true, true, true, true, false, true, true, false, false, true, false, false, false, false] ⟨#[s0, s1, s2, s3, .slice oa ol oc, .slice ta tl tc, s6, s7, s8, s9, s10, s11, s12, s13, s14, s15, s16, s17, s18, s19, s20, s21, s22, .string (nameB 49), .slice oa ol oc, .int .i64 (ol : Int), .agg #[.string (nameB 49), .int .i64 0, .int .i64 (ol : Int)], .agg #[.int .i64 0, .int .i64 0, .int .i64 0, .string (nameB 49), .int .i64 0, .int .i64 (ol : Int), .int .i64 0, .int .i64 0, .string ⟨#[]⟩, .bool false], .string (nameB 50), .slice ta tl tc, .int .i64 (tl : Int), .agg #[.string (nameB 50), .int .i64 0, .int .i64 (tl : Int)], .agg #[.int .i64 0, .int .i64 0, .int .i64 0, .string (nameB 50), .int .i64 0, .int .i64 (tl : Int), .int .i64 0, .int .i64 0, .string ⟨#[]⟩, .bool false], .slice (some ⟨sb, 0, none⟩) 2 2, s34, .string (nameB 49), .slice oa ol oc, s37, .slice ta tl tc, s39], []⟩ wr := by
  refine Hld.of (wpAnyH_all (rs := [11, 15]) (by kernel_rfl) (by simp) fun j hj => ?_)
  simp only [List.mem_cons, List.not_mem_nil, or_false] at hj
  rcases hj with rfl | rfl
  · refine hld_op 11 rfl rfl (fun K hK => ?_)
    have hmm := @run_makeMap Tryz.prog
    go_wp2_with fail
    refine ⟨trivial, ?_⟩
    exact exs5 hq hQ (below_next hb ((Below.refl wr.heap.size wr).alloc (Nat.le_refl _) _)) ⟨hb.size, MapIs.made wr⟩ (hs.next ((Below.refl wr.heap.size wr).alloc (Nat.le_refl _) _))
  · refine hld_op 15 rfl rfl (fun K hK => ?_)
    go_wp2_with (go_at_call 35; refine (name50_any _).mono ?_; rintro e w1 ⟨rfl, hb1⟩)
    refine ⟨trivial, ?_⟩
    refine hld_take 19 rfl (by kernel_rfl) (by kernel_rfl) (by kernel_rfl) (fun c a w h => hQ c a _ _ w h) rfl trivial (by intro w' hw'; go_simp; rfl) ?_
    simp only [Act.put, List.setIfInBounds_toArray, List.set_cons_succ, List.set_cons_zero]
    exact exs13 hq hQ (below_next hb hb1) (hs.next hb1)
set_option maxRecDepth 100000 in
set_option maxHeartbeats 1000000 in
theorem exs15 {Q : Exit → Act → World → Prop} {w0 : World} {oa ta : Option Addr} {ol oc tl tc : Nat} (hq : ExQ Q w0 oa ol oc ta tl tc) (hQ : ExPanic Q) {s0 s1 s2 s3 s6 s7 s8 s9 s10 s11 s12 s13 s14 s15 s16 s17 s18 s19 s20 s21 s22 s33 s37 s39 : Value} {mb : Nat} {wr : World} (hb : Below w0.heap.size w0 wr) (hm : ExM w0 wr mb []) :
    Hld Tryz.prog exOps Q (fun _ => True) 7 #[true, true, true, true, true, true, true, true, true, true, false, true, true, true, false, false, true, false, false, false, false] ⟨#[s0, s1, s2, s3, .slice oa ol oc, .slice ta tl tc, s6, s7, s8, s9, s10, s11, s12, s13, s14, s15, s16, s17, s18, s19, s20, s21, s22, .string (nameB 49), .slice oa ol oc, .int .i64 (ol : Int), .agg #[.string (nameB 49), .int .i64 0, .int .i64 (ol : Int)], .agg #[.int .i64 0, .int .i64 0, .int .i64 0, .string (nameB 49), .int .i64 0, .int .i64 (ol : Int), .int .i64 0, .int .i64 0, .string ⟨#[]⟩, .bool false], .string (nameB 50), .slice ta tl tc, .int .i64 (tl : Int), .agg #[.string (nameB 50), .int .i64 0, .int .i64 (tl : Int)], .agg #[.int .i64 0, .int .i64 0, .int .i64 0, .string (nameB 50), .int .i64 0, .int .i64 (tl : Int), .int .i64 0, .int .i64 0, .string ⟨#[]⟩, .bool false], s33, .map (some mb), .string (nameB 49), .slice oa ol oc, s37, .slice ta tl tc, s39], []⟩ wr := by
  refine Hld.of (wpAnyH_all (rs := [10, 14, 15]) (by kernel_rfl) (by simp) fun j hj => ?_)
  simp only [List.mem_cons, List.not_mem_nil, or_false] at hj
  rcases hj with rfl | rfl | rfl
  · refine hld_op 10 rfl rfl (fun K hK => ?_)
    go_wp2_with fail
    refine ⟨trivial, ?_⟩
    exact exs5 hq hQ (below_next hb ((Below.refl wr.heap.size wr).alloc (Nat.le_refl _) _)) (hm.next ((Below.refl wr.heap.size wr).alloc (Nat.le_refl _) _)) ⟨hb.size, heap_alloc_new wr _⟩
  · refine hld_op 14 rfl rfl (fun K hK => ?_)
    refine wpList_ins rfl _ _ _ rfl mb _ hm.2 rfl (nameB 49) (.slice oa ol oc) (nameB_small _) rfl rfl (by simp) ?_
    intro w1 hm1 hg1
    go_wp2_with fail
    refine ⟨trivial, ?_⟩
    exact exs16 hq hQ (hb.grown hg1 hb.size (fun k hk => by cases hk; exact hm.1)) ⟨hm.1, hm1⟩
  · refine hld_op 15 rfl rfl (fun K hK => ?_)
    go_wp2_with (go_at_call 35; refine (name50_any _).mono ?_; rintro e w1 ⟨rfl, hb1⟩)
    refine ⟨trivial, ?_⟩
    exact exs19 hq hQ (below_next hb hb1) (hm.next hb1)
set_option maxRecDepth 100000 in
set_option maxHeartbeats 1000000 in
theorem exs23 {Q : Exit → Act → World → Prop} {w0 : World} {oa ta : Option Addr} {ol oc tl tc : Nat} (hq : ExQ Q w0 oa ol oc ta tl tc) (hQ : ExPanic Q) {s0 s1 s2 s3 s6 s7 s8 s9 s10 s11 s12 s13 s14 s15 s16 s17 s18 s19 s20 s21 s22 s33 s34 s39 : Value} {wr : World} (hb : Below w0.heap.size w0 wr) :
    Hld Tryz.prog exOps Q (fun _ => True) 7 #[true, true, true, true, true, true, true, true, true, true, false, false, true, true, false, true, true, false, false, false, false] ⟨#[s0, s1, s2, s3, .slice oa ol oc, .slice ta tl tc, s6, s7, s8, s9, s10, s11, s12, s13, s14, s15, s16, s17, s18, s19, s20, s21, s22, .string (nameB 49), .slice oa ol oc, .int .i64 (ol : Int), .agg #[.string (nameB 49), .int .i64 0, .int .i64 (ol : Int)], .agg #[.int .i64 0, .int .i64 0, .int .i64 0, .string (nameB 49), .int .i64 0, .int .i64 (ol : Int), .int .i64 0, .int .i64 0, .string ⟨#[]⟩, .bool false], .string (nameB 50), .slice ta tl tc, .int .i64 (tl : Int), .agg #[.string (nameB 50), .int .i64 0, .int .i64 (tl : Int)], .agg #[.int .i64 0, .int .i64 0, .int .i64 0, .string (nameB 50), .int .i64 0, .int .i64 (tl : Int), .int .i64 0, .int .i64 0, .string ⟨#[]⟩, .bool false], s33, s34, .string (nameB 49), .slice oa ol oc, .string (nameB 50), .slice ta tl tc, s39], []⟩ wr := by
  refine Hld.of (wpAnyH_all (rs := [10, 11]) (by kernel_rfl) (by simp) fun j hj => ?_)
  simp only [List.mem_cons, List.not_mem_nil, or_false] at hj
  rcases hj with rfl | rfl
  · refine hld_op 10 rfl rfl (fun K hK => ?_)
    go_wp2_with fail
    refine ⟨trivial, ?_⟩
    refine hld_take 19 rfl (by kernel_rfl) (by kernel_rfl) (by kernel_rfl) (fun c a w h => hQ c a _ _ w h) rfl trivial (by intro w' hw'; go_simp; rfl) ?_
    simp only [Act.put, List.setIfInBounds_toArray, List.set_cons_succ, List.set_cons_zero]
    exact exs13 hq hQ (below_next hb ((Below.refl wr.heap.size wr).alloc (Nat.le_refl _) _)) ⟨hb.size, heap_alloc_new wr _⟩
  · refine hld_op 11 rfl rfl (fun K hK => ?_)
    have hmm := @run_makeMap Tryz.prog
    go_wp2_with fail
    refine ⟨trivial, ?_⟩
    exact exs19 hq hQ (below_next hb ((Below.refl wr.heap.size wr).alloc (Nat.le_refl _) _)) ⟨hb.size, MapIs.made wr⟩
set_option maxRecDepth 100000 in
set_option maxHeartbeats 1000000 in
theorem exs3 {Q : Exit → Act → World → Prop} {w0 : World} {oa ta : Option Addr} {ol oc tl tc : Nat} (hq : ExQ Q w0 oa ol oc ta tl tc) (hQ : ExPanic Q) {s0 s1 s2 s3 s6 s7 s8 s9 s10 s11 s12 s13 s14 s15 s16 s17 s18 s19 s20 s21 s22 s34 s35 s37 s39 : Value} {sb : Nat} {wr : World} (hb : Below w0.heap.size w0 wr) (hs : ExS w0 wr sb (exCells ol tl)) :
    Hld Tryz.prog exOps Q (fun _ => True) 8 #[true, true, true, true, true, true, true, true, true, true, true, false, false, true, false, false, true, false, false, false, false] ⟨#[s0, s1, s2, s3, .slice oa ol oc, .slice ta tl tc, s6, s7, s8, s9, s10, s11, s12, s13, s14, s15, s16, s17, s18, s19, s20, s21, s22, .string (nameB 49), .slice oa ol oc, .int .i64 (ol : Int), .agg #[.string (nameB 49), .int .i64 0, .int .i64 (ol : Int)], .agg #[.int .i64 0, .int .i64 0, .int .i64 0, .string (nameB 49), .int .i64 0, .int .i64 (ol : Int), .int .i64 0, .int .i64 0, .string ⟨#[]⟩, .bool false], .string (nameB 50), .slice ta tl tc, .int .i64 (tl : Int), .agg #[.string (nameB 50), .int .i64 0, .int .i64 (tl : Int)], .agg #[.int .i64 0, .int .i64 0, .int .i64 0, .string (nameB 50), .int .i64 0, .int .i64 (tl : Int), .int .i64 0, .int .i64 0, .string ⟨#[]⟩, .bool false], .slice (some ⟨sb, 0, none⟩) 2 2, s34, s35, .slice oa ol oc, s37, .slice ta tl tc, s39], []⟩ wr := by
  refine Hld.of (wpAnyH_all (rs := [11, 12]) (by kernel_rfl) (by simp) fun j hj => ?_)
  simp only [List.mem_cons, List.not_mem_nil, or_false] at hj
  rcases hj with rfl | rfl
  · refine hld_op 11 rfl rfl (fun K hK => ?_)
    have hmm := @run_makeMap Tryz.prog
    go_wp2_with fail
    refine ⟨trivial, ?_⟩
    exact exs4 hq hQ (below_next hb ((Below.refl wr.heap.size wr).alloc (Nat.le_refl _) _)) ⟨hb.size, MapIs.made wr⟩ (hs.next ((Below.refl wr.heap.size wr).alloc (Nat.le_refl _) _))
  · refine hld_op 12 rfl rfl (fun K hK => ?_)
    go_wp2_with (go_at_call 35; refine (name49_any _).mono ?_; rintro e w1 ⟨rfl, hb1⟩)
    refine ⟨trivial, ?_⟩
    exact exs12 hq hQ (below_next hb hb1) (hs.next hb1)
set_option maxRecDepth 100000 in
set_option maxHeartbeats 1000000 in
theorem exs14 {Q : Exit → Act → World → Prop} {w0 : World} {oa ta : Option Addr} {ol oc tl tc : Nat} (hq : ExQ Q w0 oa ol oc ta tl tc) (hQ : ExPanic Q) {s0 s1 s2 s3 s6 s7 s8 s9 s10 s11 s12 s13 s14 s15 s16 s17 s18 s19 s20 s21 s22 s33 s35 s37 s39 : Value} {mb : Nat} {wr : World} (hb : Below w0.heap.size w0 wr) (hm : ExM w0 wr mb []) :
    Hld Tryz.prog exOps Q (fun _ => True) 8 #[true, true, true, true, true, true, true, true, true, true, false, true, false, true, false, false, true, false, false, false, false] ⟨#[s0, s1, s2, s3, .slice oa ol oc, .slice ta tl tc, s6, s7, s8, s9, s10, s11, s12, s13, s14, s15, s16, s17, s18, s19, s20, s21, s22, .string (nameB 49), .slice oa ol oc, .int .i64 (ol : Int), .agg #[.string (nameB 49), .int .i64 0, .int .i64 (ol : Int)], .agg #[.int .i64 0, .int .i64 0, .int .i64 0, .string (nameB 49), .int .i64 0, .int .i64 (ol : Int), .int .i64 0, .int .i64 0, .string ⟨#[]⟩, .bool false], .string (nameB 50), .slice ta tl tc, .int .i64 (tl : Int), .agg #[.string (nameB 50), .int .i64 0, .int .i64 (tl : Int)], .agg #[.int .i64 0, .int .i64 0, .int .i64 0, .string (nameB 50), .int .i64 0, .int .i64 (tl : Int), .int .i64 0, .int .i64 0, .string ⟨#[]⟩, .bool false], s33, .map (some mb), s35, .slice oa ol oc, s37, .slice ta tl tc, s39], []⟩ wr := by
  refine Hld.of (wpAnyH_all (rs := [10, 12]) (by kernel_rfl) (by simp) fun j hj => ?_)
  simp only [List.mem_cons, List.not_mem_nil, or_false] at hj
  rcases hj with rfl | rfl
  · refine hld_op 10 rfl rfl (fun K hK => ?_)
    go_wp2_with fail
    refine ⟨trivial, ?_⟩
    exact exs4 hq hQ (below_next hb ((Below.refl wr.heap.size wr).alloc (Nat.le_refl _) _)) (hm.next ((Below.refl wr.heap.size wr).alloc (Nat.le_refl _) _)) ⟨hb.size, heap_alloc_new wr _⟩
  · refine hld_op 12 rfl rfl (fun K hK => ?_)
    go_wp2_with (go_at_call 35; refine (name49_any _).mono ?_; rintro e w1 ⟨rfl, hb1⟩)
    refine ⟨trivial, ?_⟩
    exact exs15 hq hQ (below_next hb hb1) (hm.next hb1)
set_option maxRecDepth 100000 in
set_option maxHeartbeats 1000000 in
theorem exs22 {Q : Exit → Act → World → Prop} {w0 : World} {oa ta : Option Addr} {ol oc tl tc : Nat} (hq : ExQ Q w0 oa ol oc ta tl tc) (hQ : ExPanic Q) {s0 s1 s2 s3 s6 s7 s8 s9 s10 s11 s12 s13 s14 s15 s16 s17 s18 s19 s20 s21 s22 s33 s34 s37 s39 : Value} {wr : World} (hb : Below w0.heap.size w0 wr) :
    Hld Tryz.prog exOps Q (fun _ => True) 8 #[true, true, true, true, true, true, true, true, true, true, false, false, true, true, false, false, true, false, false, false, false] ⟨#[s0, s1, s2, s3, .slice oa ol oc, .slice ta tl tc, s6, s7, s8, s9, s10, s11, s12, s13, s14, s15, s16, s17, s18, s19, s20, s21, s22, .string (nameB 49), .slice oa ol oc, .int .i64 (ol : Int), .agg #[.string (nameB 49), .int .i64 0, .int .i64 (ol : Int)], .agg #[.int .i64 0, .int .i64 0, .int .i64 0, .string (nameB 49), .int .i64 0, .int .i64 (ol : Int), .int .i64 0, .int .i64 0, .string ⟨#[]⟩, .bool false], .string (nameB 50), .slice ta tl tc, .int .i64 (tl : Int), .agg #[.string (nameB 50), .int .i64 0, .int .i64 (tl : Int)], .agg #[.int .i64 0, .int .i64 0, .int .i64 0, .string (nameB 50), .int .i64 0, .int .i64 (tl : Int), .int .i64 0, .int .i64 0, .string ⟨#[]⟩, .bool false], s33, s34, .string (nameB 49), .slice oa ol oc, s37, .slice ta tl tc, s39], []⟩ wr := by
  refine Hld.of (wpAnyH_all (rs := [10, 11, 15]) (by kernel_rfl) (by simp) fun j hj => ?_)
  simp only [List.mem_cons, List.not_mem_nil, or_false] at hj
  rcases hj with rfl | rfl | rfl
  · refine hld_op 10 rfl rfl (fun K hK => ?_)
    go_wp2_with fail
    refine ⟨trivial, ?_⟩
    exact exs12 hq hQ (below_next hb ((Below.refl wr.heap.size wr).alloc (Nat.le_refl _) _)) ⟨hb.size, heap_alloc_new wr _⟩
  · refine hld_op 11 rfl rfl (fun K hK => ?_)
    have hmm := @run_makeMap Tryz.prog
    go_wp2_with fail
    refine ⟨trivial, ?_⟩
    exact exs15 hq hQ (below_next hb ((Below.refl wr.heap.size wr).alloc (Nat.le_refl _) _)) ⟨hb.size, MapIs.made wr⟩
  · refine hld_op 15 rfl rfl (fun K hK => ?_)
    go_wp2_with (go_at_call 35; refine (name50_any _).mono ?_; rintro e w1 ⟨rfl, hb1⟩)
    refine ⟨trivial, ?_⟩
    exact exs23 hq hQ (below_next hb hb1)
set_option maxRecDepth 100000 in
set_option maxHeartbeats 1000000 in
theorem exs2 {Q : Exit → Act → World → Prop} {w0 : World} {oa ta : Option Addr} {ol oc tl tc : Nat} (hq : ExQ Q w0 oa ol oc ta tl tc) (hQ : ExPanic Q) {s0 s1 s2 s3 s6 s7 s8 s9 s10 s11 s12 s13 s14 s15 s16 s17 s18 s19 s20 s21 s22 s33 s34 s35 s37 s39 : Value} {wr : World} (hb : Below w0.heap.size w0 wr) :
    Hld Tryz.prog exOps Q (fun _ => True) 9 #[true, true, true, true, true, true, true, true, true, true, false, false, false, true, false, false, true, false, false, false, false] ⟨#[s0, s1, s2, s3, .slice oa ol oc, .slice ta tl tc, s6, s7, s8, s9, s10, s11, s12, s13, s14, s15, s16, s17, s18, s19, s20, s21, s22, .string (nameB 49), .slice oa ol oc, .int .i64 (ol : Int), .agg #[.string (nameB 49), .int .i64 0, .int .i64 (ol : Int)], .agg #[.int .i64 0, .int .i64 0, .int .i64 0, .string (nameB 49), .int .i64 0, .int .i64 (ol : Int), .int .i64 0, .int .i64 0, .string ⟨#[]⟩, .bool false], .string (nameB 50), .slice ta tl tc, .int .i64 (tl : Int), .agg #[.string (nameB 50), .int .i64 0, .int .i64 (tl : Int)], .agg #[.int .i64 0, .int .i64 0, .int .i64 0, .string (nameB 50), .int .i64 0, .int .i64 (tl : Int), .int .i64 0, .int .i64 0, .string ⟨#[]⟩, .bool false], s33, s34, s35, .slice oa ol oc, s37, .slice ta tl tc, s39], []⟩ wr := by
  refine Hld.of (wpAnyH_all (rs := [10, 11, 12]) (by kernel_rfl) (by simp) fun j hj => ?_)
  simp only [List.mem_cons, List.not_mem_nil, or_false] at hj
  rcases hj with rfl | rfl | rfl
  · refine hld_op 10 rfl rfl (fun K hK => ?_)
    go_wp2_with fail
    refine ⟨trivial, ?_⟩
    exact exs3 hq hQ (below_next hb ((Below.refl wr.heap.size wr).alloc (Nat.le_refl _) _)) ⟨hb.size, heap_alloc_new wr _⟩
  · refine hld_op 11 rfl rfl (fun K hK => ?_)
    have hmm := @run_makeMap Tryz.prog
    go_wp2_with fail
    refine ⟨trivial, ?_⟩
    exact exs14 hq hQ (below_next hb ((Below.refl wr.heap.size wr).alloc (Nat.le_refl _) _)) ⟨hb.size, MapIs.made wr⟩
  · refine hld_op 12 rfl rfl (fun K hK => ?_)
    go_wp2_with (go_at_call 35; refine (name49_any _).mono ?_; rintro e w1 ⟨rfl, hb1⟩)
    refine ⟨trivial, ?_⟩
    exact exs22 hq hQ (below_next hb hb1)
set_option maxRecDepth 100000 in
set_option maxHeartbeats 1000000 in
theorem exs24 {Q : Exit → Act → World → Prop} {w0 : World} {oa ta : Option Addr} {ol oc tl tc : Nat} (hq : ExQ Q w0 oa ol oc ta tl tc) (hQ : ExPanic Q) {s0 s1 s2 s3 s6 s7 s8 s9 s10 s11 s12 s13 s14 s15 s16 s17 s18 s19 s20 s21 s22 s28 s31 s32 s33 s35 s37 s39 : Value} {mb : Nat} {wr : World} (hb : Below w0.heap.size w0 wr) (hm : ExM w0 wr mb []) :
    Hld Tryz.prog exOps Q (fun _ => True) 11 #[true, true, true, true, true, false, true, true, false, false, false, true, false, true, false, false, true, false, false, false, false] ⟨#[s0, s1, s2, s3, .slice oa ol oc, .slice ta tl tc, s6, s7, s8, s9, s10, s11, s12, s13, s14, s15, s16, s17, s18, s19, s20, s21, s22, .string (nameB 49), .slice oa ol oc, .int .i64 (ol : Int), .agg #[.string (nameB 49), .int .i64 0, .int .i64 (ol : Int)], .agg #[.int .i64 0, .int .i64 0, .int .i64 0, .string (nameB 49), .int .i64 0, .int .i64 (ol : Int), .int .i64 0, .int .i64 0, .string ⟨#[]⟩, .bool false], s28, .slice ta tl tc, .int .i64 (tl : Int), s31, s32, s33, .map (some mb), s35, .slice oa ol oc, s37, .slice ta tl tc, s39], []⟩ wr := by
  refine Hld.of (wpAnyH_all (rs := [5]) (by kernel_rfl) (by simp) fun j hj => ?_)
  obtain rfl := List.mem_singleton.1 hj
  refine hld_op 5 rfl rfl (fun K hK => ?_)
  go_wp2_with (go_at_call 35; refine (name50_any _).mono ?_; rintro e w1 ⟨rfl, hb1⟩)
  refine ⟨trivial, ?_⟩
  refine hld_take 8 rfl (by kernel_rfl) (by kernel_rfl) (by kernel_rfl) (fun c a w h => hQ c a _ _ w h) rfl trivial (by intro w' hw'; go_simp; rfl) ?_
  simp only [Act.put, List.setIfInBounds_toArray, List.set_cons_succ, List.set_cons_zero]
  refine hld_take 9 rfl (by kernel_rfl) (by kernel_rfl) (by kernel_rfl) (fun c a w h => hQ c a _ _ w h) rfl trivial (by intro w' hw'; go_simp; rfl) ?_
  simp only [Act.put, List.setIfInBounds_toArray, List.set_cons_succ, List.set_cons_zero]
  exact exs14 hq hQ (below_next hb hb1) (hm.next hb1)
set_option maxRecDepth 100000 in
set_option maxHeartbeats 1000000 in
theorem exs1 {Q : Exit → Act → World → Prop} {w0 : World} {oa ta : Option Addr} {ol oc tl tc : Nat} (hq : ExQ Q w0 oa ol oc ta tl tc) (hQ : ExPanic Q) {s0 s1 s2 s3 s6 s7 s8 s9 s10 s11 s12 s13 s14 s15 s16 s17 s18 s19 s20 s21 s22 s28 s31 s32 s33 s34 s35 s37 s39 : Value} {wr : World} (hb : Below w0.heap.size w0 wr) :
    Hld Tryz.prog exOps Q (fun _ => True) 12 #[true, true, true, true, true, false, true, true, false, false, false, false, false, true, false, false, true, false, false, false, false] ⟨#[s0, s1, s2, s3, .slice oa ol oc, .slice ta tl tc, s6, s7, s8, s9, s10, s11, s12, s13, s14, s15, s16, s17, s18, s19, s20, s21, s22, .string (nameB 49), .slice oa ol oc, .int .i64 (ol : Int), .agg #[.string (nameB 49), .int .i64 0, .int .i64 (ol : Int)], .agg #[.int .i64 0, .int .i64 0, .int .i64 0, .string (nameB 49), .int .i64 0, .int .i64 (ol : Int), .int .i64 0, .int .i64 0, .string ⟨#[]⟩, .bool false], s28, .slice ta tl tc, .int .i64 (tl : Int), s31, s32, s33, s34, s35, .slice oa ol oc, s37, .slice ta tl tc, s39], []⟩ wr := by
  refine Hld.of (wpAnyH_all (rs := [5, 11]) (by kernel_rfl) (by simp) fun j hj => ?_)
  simp only [List.mem_cons, List.not_mem_nil, or_false] at hj
  rcases hj with rfl | rfl
  · refine hld_op 5 rfl rfl (fun K hK => ?_)
    go_wp2_with (go_at_call 35; refine (name50_any _).mono ?_; rintro e w1 ⟨rfl, hb1⟩)
    refine ⟨trivial, ?_⟩
    refine hld_take 8 rfl (by kernel_rfl) (by kernel_rfl) (by kernel_rfl) (fun c a w h => hQ c a _ _ w h) rfl trivial (by intro w' hw'; go_simp; rfl) ?_
    simp only [Act.put, List.setIfInBounds_toArray, List.set_cons_succ, List.set_cons_zero]
    refine hld_take 9 rfl (by kernel_rfl) (by kernel_rfl) (by kernel_rfl) (fun c a w h => hQ c a _ _ w h) rfl trivial (by intro w' hw'; go_simp; rfl) ?_
    simp only [Act.put, List.setIfInBounds_toArray, List.set_cons_succ, List.set_cons_zero]
    exact exs2 hq hQ (below_next hb hb1)
  · refine hld_op 11 rfl rfl (fun K hK => ?_)
    have hmm := @run_makeMap Tryz.prog
    go_wp2_with fail
    refine ⟨trivial, ?_⟩
    exact exs24 hq hQ (below_next hb ((Below.refl wr.heap.size wr).alloc (Nat.le_refl _) _)) ⟨hb.size, MapIs.made wr⟩
set_option maxRecDepth 100000 in
set_option maxHeartbeats 1000000 in
theorem exs25 {Q : Exit → Act → World → Prop} {w0 : World} {oa ta : Option Addr} {ol oc tl tc : Nat} (hq : ExQ Q w0 oa ol oc ta tl tc) (hQ : ExPanic Q) {s0 s1 s2 s3 s6 s7 s8 s9 s10 s11 s12 s13 s14 s15 s16 s17 s18 s19 s20 s21 s22 s23 s26 s27 s28 s31 s32 s33 s35 s37 s39 : Value} {mb : Nat} {wr : World} (hb : Below w0.heap.size w0 wr) (hm : ExM w0 wr mb []) :
    Hld Tryz.prog exOps Q (fun _ => True) 14 #[false, true, true, false, false, false, true, true, false, false, false, true, false, true, false, false, true, false, false, false, false] ⟨#[s0, s1, s2, s3, .slice oa ol oc, .slice ta tl tc, s6, s7, s8, s9, s10, s11, s12, s13, s14, s15, s16, s17, s18, s19, s20, s21, s22, s23, .slice oa ol oc, .int .i64 (ol : Int), s26, s27, s28, .slice ta tl tc, .int .i64 (tl : Int), s31, s32, s33, .map (some mb), s35, .slice oa ol oc, s37, .slice ta tl tc, s39], []⟩ wr := by
  refine Hld.of (wpAnyH_all (rs := [0]) (by kernel_rfl) (by simp) fun j hj => ?_)
  obtain rfl := List.mem_singleton.1 hj
  refine hld_op 0 rfl rfl (fun K hK => ?_)
  go_wp2_with (go_at_call 35; refine (name49_any _).mono ?_; rintro e w1 ⟨rfl, hb1⟩)
  refine ⟨trivial, ?_⟩
  refine hld_take 3 rfl (by kernel_rfl) (by kernel_rfl) (by kernel_rfl) (fun c a w h => hQ c a _ _ w h) rfl trivial (by intro w' hw'; go_simp; rfl) ?_
  simp only [Act.put, List.setIfInBounds_toArray, List.set_cons_succ, List.set_cons_zero]
  refine hld_take 4 rfl (by kernel_rfl) (by kernel_rfl) (by kernel_rfl) (fun c a w h => hQ c a _ _ w h) rfl trivial (by intro w' hw'; go_simp; rfl) ?_
  simp only [Act.put, List.setIfInBounds_toArray, List.set_cons_succ, List.set_cons_zero]
  exact exs24 hq hQ (below_next hb hb1) (hm.next hb1)
set_option maxRecDepth 100000 in
set_option maxHeartbeats 1000000 in
theorem exs0 {Q : Exit → Act → World → Prop} {w0 : World} {oa ta : Option Addr} {ol oc tl tc : Nat} (hq : ExQ Q w0 oa ol oc ta tl tc) (hQ : ExPanic Q) {s0 s1 s2 s3 s6 s7 s8 s9 s10 s11 s12 s13 s14 s15 s16 s17 s18 s19 s20 s21 s22 s23 s26 s27 s28 s31 s32 s33 s34 s35 s37 s39 : Value} {wr : World} (hb : Below w0.heap.size w0 wr) :
    Hld Tryz.prog exOps Q (fun _ => True) 15 #[false, true, true, false, false, false, true, true, false, false, false, false, false, true, false, false, true, false, false, false, false] ⟨#[s0, s1, s2, s3, .slice oa ol oc, .slice ta tl tc, s6, s7, s8, s9, s10, s11, s12, s13, s14, s15, s16, s17, s18, s19, s20, s21, s22, s23, .slice oa ol oc, .int .i64 (ol : Int), s26, s27, s28, .slice ta tl tc, .int .i64 (tl : Int), s31, s32, s33, s34, s35, .slice oa ol oc, s37, .slice ta tl tc, s39], []⟩ wr := by
  refine Hld.of (wpAnyH_all (rs := [0, 11]) (by kernel_rfl) (by simp) fun j hj => ?_)
  simp only [List.mem_cons, List.not_mem_nil, or_false] at hj
  rcases hj with rfl | rfl
  · refine hld_op 0 rfl rfl (fun K hK => ?_)
    go_wp2_with (go_at_call 35; refine (name49_any _).mono ?_; rintro e w1 ⟨rfl, hb1⟩)
    refine ⟨trivial, ?_⟩
    refine hld_take 3 rfl (by kernel_rfl) (by kernel_rfl) (by kernel_rfl) (fun c a w h => hQ c a _ _ w h) rfl trivial (by intro w' hw'; go_simp; rfl) ?_
    simp only [Act.put, List.setIfInBounds_toArray, List.set_cons_succ, List.set_cons_zero]
    refine hld_take 4 rfl (by kernel_rfl) (by kernel_rfl) (by kernel_rfl) (fun c a w h => hQ c a _ _ w h) rfl trivial (by intro w' hw'; go_simp; rfl) ?_
    simp only [Act.put, List.setIfInBounds_toArray, List.set_cons_succ, List.set_cons_zero]
    exact exs1 hq hQ (below_next hb hb1)
  · refine hld_op 11 rfl rfl (fun K hK => ?_)
    have hmm := @run_makeMap Tryz.prog
    go_wp2_with fail
    refine ⟨trivial, ?_⟩
    exact exs25 hq hQ (below_next hb ((Below.refl wr.heap.size wr).alloc (Nat.le_refl _) _)) ⟨hb.size, MapIs.made wr⟩
set_option maxRecDepth 100000 in
set_option maxHeartbeats 1000000 in
theorem ex_start {Q : Exit → Act → World → Prop} {w0 : World} {oa ta : Option Addr} {ol oc tl tc : Nat} (hq : ExQ Q w0 oa ol oc ta tl tc) (hQ : ExPanic Q) {s0 s1 s2 s3 s6 s7 s8 s9 s10 s11 s12 s13 s14 s15 s16 s17 s18 s19 s20 s21 s22 s23 s24 s25 s26 s27 s28 s29 s30 s31 s32 s33 s34 s35 s36 s37 s38 s39 : Value} {wr : World} (hb : Below w0.heap.size w0 wr) :
    Hld Tryz.prog exOps Q (fun _ => True) 21 #[false, false, false, false, false, false, false, false, false, false, false, false, false, false, false, false, false, false, false, false, false] ⟨#[s0, s1, s2, s3, .slice oa ol oc, .slice ta tl tc, s6, s7, s8, s9, s10, s11, s12, s13, s14, s15, s16, s17, s18, s19, s20, s21, s22, s23, s24, s25, s26, s27, s28, s29, s30, s31, s32, s33, s34, s35, s36, s37, s38, s39], []⟩ wr := by
  refine hld_take 1 rfl (by kernel_rfl) (by kernel_rfl) (by kernel_rfl) (fun c a w h => hQ c a _ _ w h) rfl trivial (by intro w' hw'; go_simp; rfl) ?_
  simp only [Act.put, List.setIfInBounds_toArray, List.set_cons_succ, List.set_cons_zero]
  refine hld_take 2 rfl (by kernel_rfl) (by kernel_rfl) (by kernel_rfl) (fun c a w h => hQ c a _ _ w h) rfl trivial (by intro w' hw'; go_simp; rfl) ?_
  simp only [Act.put, List.setIfInBounds_toArray, List.set_cons_succ, List.set_cons_zero]
  refine hld_take 6 rfl (by kernel_rfl) (by kernel_rfl) (by kernel_rfl) (fun c a w h => hQ c a _ _ w h) rfl trivial (by intro w' hw'; go_simp; rfl) ?_
  simp only [Act.put, List.setIfInBounds_toArray, List.set_cons_succ, List.set_cons_zero]
  refine hld_take 7 rfl (by kernel_rfl) (by kernel_rfl) (by kernel_rfl) (fun c a w h => hQ c a _ _ w h) rfl trivial (by intro w' hw'; go_simp; rfl) ?_
  simp only [Act.put, List.setIfInBounds_toArray, List.set_cons_succ, List.set_cons_zero]
  refine hld_take 13 rfl (by kernel_rfl) (by kernel_rfl) (by kernel_rfl) (fun c a w h => hQ c a _ _ w h) rfl trivial (by intro w' hw'; go_simp; rfl) ?_
  simp only [Act.put, List.setIfInBounds_toArray, List.set_cons_succ, List.set_cons_zero]
  refine hld_take 16 rfl (by kernel_rfl) (by kernel_rfl) (by kernel_rfl) (fun c a w h => hQ c a _ _ w h) rfl trivial (by intro w' hw'; go_simp; rfl) ?_
  simp only [Act.put, List.setIfInBounds_toArray, List.set_cons_succ, List.set_cons_zero]
  exact exs0 hq hQ hb

end Go.Proofs.YtndgmcggckpgfaaGreatDoor

/- The chapter's example. -/
namespace Go.Proofs.YtndgmcggckpgfaaGreatDoor
open Go Go.RowKit Go.Maps


def exA : Ref := ⟨nameB 97, 0, 1⟩
def exB : Ref := ⟨nameB 98, 0, 2⟩
def exIA : Item := ⟨⟨#[97]⟩, 1, 0, 0, 1, ⟨#[]⟩, [exA], noRef⟩
def exIB : Item := ⟨⟨#[98]⟩, 1, 0, 0, 2, ⟨#[]⟩, [exB], noRef⟩
def exOne : List UInt8 := nodeB [exIA]
def exTwo : List UInt8 := nodeB [exIA, exIB]
def exR1 : Ref := ⟨nameB 49, 0, (exOne.length : Int)⟩
def exR2 : Ref := ⟨nameB 50, 0, (exTwo.length : Int)⟩
def exC1 : List (ByteArray × List UInt8) := [(nameB 49, exOne), (nameB 50, exTwo)]
def exC2 : List (ByteArray × List UInt8) := [(nameB 50, exTwo), (nameB 49, exOne)]
theorem exNeed1 : eachP (needF exC1) [exR1, exR2] = .ok [[exR1, exA], [exR2, exA, exB]] := by kernel_rfl
theorem exNeed2 : eachP (needF exC2) [exR1, exR2] = .ok [[exR1, exA], [exR2, exA, exB]] := by kernel_rfl
theorem alloc_at {w : World} {o : Obj} {n : Nat} (h : w.heap.size = n) : (w.alloc o).heap[n]? = some o := h ▸ heap_alloc_new w o
theorem row_lit {W : World} {b n sz : Nat} {cells : List Value} {t : TypeId} (h : W.heap[b]? = some (.cells cells.toArray t (0, 0))) (hl : cells.length = n * sz) (hn : n ≤ maxLen) : RowAt (fun k => k = b) W sz (.slice (some ⟨b, 0, none⟩) n n) n cells :=
  ⟨hl, some ⟨b, 0, none⟩, n, rfl, Nat.le_refl _, hn, .inr ⟨b, 0, rfl, rfl, fun j u hj => by rw [cellH h, Nat.zero_add, List.getElem?_toArray]; exact hj⟩⟩
theorem exA_ok : RefOk exA := ⟨nameB_small _, by decide, by decide⟩
theorem exB_ok : RefOk exB := ⟨nameB_small _, by decide, by decide⟩
theorem exIA_ok : ItemOk exIA := ⟨by decide, by decide, noRef_ok⟩
theorem exIB_ok : ItemOk exIB := ⟨by decide, by decide, noRef_ok⟩
theorem exIA_small : ItSmall exIA := ⟨by decide, by decide, by decide, fun c hc => by simp only [exIA, List.mem_singleton] at hc; subst hc; exact (by decide : (32 : Nat) ≤ 65536)⟩
theorem exIB_small : ItSmall exIB := ⟨by decide, by decide, by decide, fun c hc => by simp only [exIB, List.mem_singleton] at hc; subst hc; exact (by decide : (32 : Nat) ≤ 65536)⟩
theorem exR1_ok : RefOk exR1 := ⟨nameB_small _, by kernel_rfl, by kernel_rfl⟩
theorem exR2_ok : RefOk exR2 := ⟨nameB_small _, by kernel_rfl, by kernel_rfl⟩
def ExRes (w : World) (e : Ending) (w' : World) : Prop := ∃ sv cv cs, (cs = exC1 ∨ cs = exC2) ∧ e = .returned (.tuple #[sv, cv]) ∧ SnapsAt (w.heap.size ≤ ·) w' sv [exR1, exR2] ∧ ContAt (w.heap.size ≤ ·) w' cv cs ∧ Below w.heap.size w w'
set_option maxRecDepth 100000 in
set_option maxHeartbeats 2000000 in
theorem example_any (w : World) : Calls Tryz.prog 25 #[] w (ExRes w) := by
  go_enter Tryz.func25, Tryz.ntmps25
  go_wp2_with (first | (go_at_call 35; refine (name97_any _).mono ?_; rintro e w1 ⟨rfl, hb1⟩; have HB1 := Lib.hid hb1; clear hb1) | (go_at_call 35; refine (name98_any _).mono ?_; rintro e w2 ⟨rfl, hb2⟩; have HB2 := Lib.hid (below_next HB1.out hb2); clear hb2))
  obtain ⟨W1, hW1⟩ : ∃ W1 : World, W1 = (((w2.alloc (.cells #[.string (nameB 97), .int .i64 0, .int .i64 1] 43)).alloc (.cells #[.string (nameB 98), .int .i64 0, .int .i64 2] 43)).alloc (.cells #[.string (nameB 97), .int .i64 0, .int .i64 1] 43)).alloc (.cells #[.string ⟨#[97]⟩, .int .i64 1, .int .i64 0, .int .i64 0, .int .i64 1, .string ⟨#[]⟩, .slice (some ⟨w2.heap.size + 1 + 1, 0, none⟩) 1 1, .string ⟨#[]⟩, .int .i64 0, .int .i64 0] 76) := ⟨_, rfl⟩
  rw [← hW1]
  have HBW1 := Lib.hid (show Below w.heap.size w W1 by rw [hW1]; exact below_next HB2.out ((((Below.refl w2.heap.size w2).alloc (Nat.le_refl _) _).alloc (by simp) _).alloc (by simp; omega) _ |>.alloc (by simp; omega) _))
  have HA1 := Lib.hid (show W1.heap[w2.heap.size]? = some (.cells #[.string (nameB 97), .int .i64 0, .int .i64 1] 43 (0, 0)) by rw [hW1]; exact allocH (allocH (allocH (heap_alloc_new _ _) _) _) _)
  have HA2 := Lib.hid (show W1.heap[w2.heap.size + 1]? = some (.cells #[.string (nameB 98), .int .i64 0, .int .i64 2] 43 (0, 0)) by rw [hW1]; exact allocH (allocH (alloc_at (by simp)) _) _)
  have HA3 := Lib.hid (show W1.heap[w2.heap.size + 1 + 1]? = some (.cells #[.string (nameB 97), .int .i64 0, .int .i64 1] 43 (0, 0)) by rw [hW1]; exact allocH (alloc_at (by simp)) _)
  have HA4 := Lib.hid (show W1.heap[w2.heap.size + 1 + 1 + 1]? = some (.cells #[.string ⟨#[97]⟩, .int .i64 1, .int .i64 0, .int .i64 0, .int .i64 1, .string ⟨#[]⟩, .slice (some ⟨w2.heap.size + 1 + 1, 0, none⟩) 1 1, .string ⟨#[]⟩, .int .i64 0, .int .i64 0] 76 (0, 0)) by rw [hW1]; exact alloc_at (by simp))
  have HI1 := Lib.hid (show ItemsAt (fun _ => True) W1 (.slice (some ⟨w2.heap.size + 1 + 1 + 1, 0, none⟩) 1 1) [exIA] from
    ⟨_, (row_lit (cells := [.string ⟨#[97]⟩, .int .i64 1, .int .i64 0, .int .i64 0, .int .i64 1, .string ⟨#[]⟩, .slice (some ⟨w2.heap.size + 1 + 1, 0, none⟩) 1 1, .string ⟨#[]⟩, .int .i64 0, .int .i64 0]) HA4.out rfl (by decide)).weak (fun _ _ => trivial),
      ⟨_, [], rfl, ⟨.slice (some ⟨w2.heap.size + 1 + 1, 0, none⟩) 1 1, rfl, ⟨refC exA, (row_lit (cells := refC exA) HA3.out rfl (by decide)).weak (fun _ _ => trivial), ⟨refC exA, [], rfl, ⟨rfl, exA_ok⟩, rfl⟩⟩, exIA_ok⟩, rfl⟩⟩)
  have HSZ := Lib.hid (show W1.heap.size = w2.heap.size + 1 + 1 + 1 + 1 by rw [hW1]; simp)
  clear hW1
  refine (node24_any _ _ [exIA] _ HI1.out (fun it h => by simp only [List.mem_singleton] at h; subst h; exact exIA_small) (by decide +kernel) (by decide)).mono ?_
  rintro e w3 ⟨v1, rfl, hv1, hb3⟩
  have HV1 := Lib.hid hv1
  have HBW3 := Lib.hid (below_next HBW1.out hb3)
  have HC1 := Lib.hid ((hb3.block _ (lt_of_block HA1.out)).trans HA1.out)
  have HC2 := Lib.hid ((hb3.block _ (lt_of_block HA2.out)).trans HA2.out)
  have q0 := cellH (k := 0) HC1.out
  have q1 := cellH (k := 1) HC1.out
  have q2 := cellH (k := 2) HC1.out
  have p0 := cellH (k := 0) HC2.out
  have p1 := cellH (k := 1) HC2.out
  have p2 := cellH (k := 2) HC2.out
  simp only [List.getElem?_toArray, List.getElem?_cons_succ, List.getElem?_cons_zero] at q0 q1 q2 p0 p1 p2
  obtain ⟨_, oa, oc, rfl, hoc, hom, -⟩ := hv1
  have hz3 : w2.heap.size + 1 < w3.heap.size := by have := hb3.size; have := HSZ.out; omega
  have hz4 : w2.heap.size < w3.heap.size := by omega
  clear hb3 HI1 HA1 HA2 HA3 HA4
  go_wp2_with fail
  obtain ⟨W4, hW4⟩ : ∃ W4 : World, W4 = ((w3.alloc (.cells #[.string (nameB 97), .int .i64 0, .int .i64 1] 43)).alloc (.cells #[.string (nameB 98), .int .i64 0, .int .i64 2] 43)).alloc (.cells #[.string ⟨#[97]⟩, .int .i64 1, .int .i64 0, .int .i64 0, .int .i64 1, .string ⟨#[]⟩, .slice (some ⟨w3.heap.size, 0, none⟩) 1 1, .string ⟨#[]⟩, .int .i64 0, .int .i64 0, .string ⟨#[98]⟩, .int .i64 1, .int .i64 0, .int .i64 0, .int .i64 2, .string ⟨#[]⟩, .slice (some ⟨w3.heap.size + 1, 0, none⟩) 1 1, .string ⟨#[]⟩, .int .i64 0, .int .i64 0] 76) := ⟨_, rfl⟩
  rw [← hW4]
  have HBA := Lib.hid (show Below w3.heap.size w3 W4 by rw [hW4]; exact (((Below.refl w3.heap.size w3).alloc (Nat.le_refl _) _).alloc (by simp) _).alloc (by simp; omega) _)
  have HBW4 := Lib.hid (below_next HBW3.out HBA.out)
  have HD1 := Lib.hid (show W4.heap[w3.heap.size]? = some (.cells #[.string (nameB 97), .int .i64 0, .int .i64 1] 43 (0, 0)) by rw [hW4]; exact allocH (allocH (heap_alloc_new _ _) _) _)
  have HD2 := Lib.hid (show W4.heap[w3.heap.size + 1]? = some (.cells #[.string (nameB 98), .int .i64 0, .int .i64 2] 43 (0, 0)) by rw [hW4]; exact allocH (alloc_at (by simp)) _)
  have HD3 := Lib.hid (show W4.heap[w3.heap.size + 1 + 1]? = some (.cells #[.string ⟨#[97]⟩, .int .i64 1, .int .i64 0, .int .i64 0, .int .i64 1, .string ⟨#[]⟩, .slice (some ⟨w3.heap.size, 0, none⟩) 1 1, .string ⟨#[]⟩, .int .i64 0, .int .i64 0, .string ⟨#[98]⟩, .int .i64 1, .int .i64 0, .int .i64 0, .int .i64 2, .string ⟨#[]⟩, .slice (some ⟨w3.heap.size + 1, 0, none⟩) 1 1, .string ⟨#[]⟩, .int .i64 0, .int .i64 0] 76 (0, 0)) by rw [hW4]; exact alloc_at (by simp))
  have HI2 := Lib.hid (show ItemsAt (fun _ => True) W4 (.slice (some ⟨w3.heap.size + 1 + 1, 0, none⟩) 2 2) [exIA, exIB] from
    ⟨_, (row_lit (cells := [.string ⟨#[97]⟩, .int .i64 1, .int .i64 0, .int .i64 0, .int .i64 1, .string ⟨#[]⟩, .slice (some ⟨w3.heap.size, 0, none⟩) 1 1, .string ⟨#[]⟩, .int .i64 0, .int .i64 0, .string ⟨#[98]⟩, .int .i64 1, .int .i64 0, .int .i64 0, .int .i64 2, .string ⟨#[]⟩, .slice (some ⟨w3.heap.size + 1, 0, none⟩) 1 1, .string ⟨#[]⟩, .int .i64 0, .int .i64 0]) HD3.out rfl (by decide)).weak (fun _ _ => trivial),
      ⟨[.string ⟨#[97]⟩, .int .i64 1, .int .i64 0, .int .i64 0, .int .i64 1, .string ⟨#[]⟩, .slice (some ⟨w3.heap.size, 0, none⟩) 1 1, .string ⟨#[]⟩, .int .i64 0, .int .i64 0], [.string ⟨#[98]⟩, .int .i64 1, .int .i64 0, .int .i64 0, .int .i64 2, .string ⟨#[]⟩, .slice (some ⟨w3.heap.size + 1, 0, none⟩) 1 1, .string ⟨#[]⟩, .int .i64 0, .int .i64 0], rfl, ⟨.slice (some ⟨w3.heap.size, 0, none⟩) 1 1, rfl, ⟨refC exA, (row_lit (cells := refC exA) HD1.out rfl (by decide)).weak (fun _ _ => trivial), ⟨refC exA, [], rfl, ⟨rfl, exA_ok⟩, rfl⟩⟩, exIA_ok⟩,
        ⟨_, [], rfl, ⟨.slice (some ⟨w3.heap.size + 1, 0, none⟩) 1 1, rfl, ⟨refC exB, (row_lit (cells := refC exB) HD2.out rfl (by decide)).weak (fun _ _ => trivial), ⟨refC exB, [], rfl, ⟨rfl, exB_ok⟩, rfl⟩⟩, exIB_ok⟩, rfl⟩⟩⟩)
  clear hW4 q0 q1 q2 p0 p1 p2
  refine (node24_any _ _ [exIA, exIB] _ HI2.out (fun it h => by simp only [List.mem_cons, List.not_mem_nil, or_false] at h; rcases h with rfl | rfl; exact exIA_small; exact exIB_small) (by decide +kernel) (by decide)).mono ?_
  rintro e w5 ⟨v2, rfl, hv2, hb5⟩
  have HV2 := Lib.hid hv2
  have HBW5 := Lib.hid (below_next HBW4.out hb5)
  have HV1' := Lib.hid (show BytesAt (w.heap.size ≤ ·) w5 (.slice oa (nodeB [exIA]).length oc) (nodeB [exIA]) from RowAt.below (RowAt.below (HV1.out.weak (fun k hk => Nat.le_trans HBW1.out.size hk)) (by omega) HBA.out) (by omega) hb5)
  have HV2' := Lib.hid (hv2.weak (T := (w.heap.size ≤ ·)) (fun k hk => Nat.le_trans HBW4.out.size hk))
  obtain ⟨_, ta, tc, rfl, htc, htm, -⟩ := hv2
  clear hb5 HI2 HD1 HD2 HD3 HC1 HC2
  go_upto_region 4 with (fail)
  refine hld_start (fun _ => True) (by kernel_rfl) ?_
  refine ex_start (w0 := w5) (oa := oa) (ol := (nodeB [exIA]).length) (oc := oc) (ta := ta) (tl := (nodeB [exIA, exIB]).length) (tc := tc) ?hq (fun _ _ d _ _ h => by cases d <;> exact h) (Below.refl _ _).drew
  intro s2 s3 s6 s7 s8 s9 s10 s11 s12 s13 s14 s15 s16 s17 s18 s19 s20 s21 s22 mb sb wr m hm hb hM hS
  have HHM := Lib.hid hm
  have HHB := Lib.hid hb
  have HHM2 := Lib.hid hM
  have HHS := Lib.hid hS
  clear hm hb hM hS
  go_wp2_with fail
  go_ret2
  have hz := HBW5.out.size
  have hb1 := RowAt.below HV1'.out (by omega) HHB.out
  have hb2 := RowAt.below HV2'.out (by omega) HHB.out
  have hsn : SnapsAt (w.heap.size ≤ ·) wr (.slice (some ⟨sb, 0, none⟩) 2 2) [exR1, exR2] := by
    obtain ⟨h1, h2⟩ := HHS.out
    refine ⟨_, (row_lit (n := 2) (cells := (exCells (nodeB [exIA]).length (nodeB [exIA, exIB]).length).toList) h2 rfl (by decide)).weak (fun k hk => by subst hk; exact Nat.le_trans hz h1), ⟨_, _, rfl, ⟨0, 0, 0, 0, 0, ⟨#[]⟩, false, rfl, exR1_ok⟩, ⟨_, [], rfl, ⟨0, 0, 0, 0, 0, ⟨#[]⟩, false, rfl, exR2_ok⟩, rfl⟩⟩⟩
  rcases HHM.out with rfl | rfl
  · exact ⟨_, _, exC1, .inl rfl, rfl, hsn, .inr ⟨mb, _, rfl, Nat.le_trans hz HHM2.out.1, HHM2.out.2, ⟨rfl, hb1, rfl, hb2, trivial⟩⟩, below_next HBW5.out HHB.out⟩
  · exact ⟨_, _, exC2, .inr rfl, rfl, hsn, .inr ⟨mb, _, rfl, Nat.le_trans hz HHM2.out.1, HHM2.out.2, ⟨rfl, hb2, rfl, hb1, trivial⟩⟩, below_next HBW5.out HHB.out⟩

end Go.Proofs.YtndgmcggckpgfaaGreatDoor

/- Contracts of package liveness: Counts. -/
namespace Go.Proofs.YtndgmcggckpgfaaGreatDoor
open Go.RowKit

def useC (p : Ref × Int) : List Value := [.string p.1.name, .int .i64 p.1.gen, .int .i64 p.1.size, .int .i64 p.2]
def incP (p : Ref × Int) : Ref × Int := (p.1, wrap64 (p.2 + 1))
def bumpP (r : Ref) (us : List (Ref × Int)) : List (Ref × Int) :=
  if r ∈ us.map Prod.fst then us.modify ((us.map Prod.fst).idxOf r) incP else us ++ [(r, 1)]
def bumpAll (l : List Ref) (us : List (Ref × Int)) : List (Ref × Int) := l.foldl (fun us r => bumpP r us) us
def countP (ls : List (List Ref)) : List (Ref × Int) := ls.foldl (fun us l => bumpAll l us) []
theorem modify_snoc {α : Type} (p : α) (f : α → α) : ∀ (us : List α), (us ++ [p]).modify us.length f = us ++ [f p]
  | [] => rfl
  | a :: us => by rw [List.cons_append, List.length_cons, List.modify_succ_cons, modify_snoc p f us]; rfl
theorem useC_len (p : Ref × Int) : (useC p).length = 4 := rfl
theorem uses_len : ∀ (us : List (Ref × Int)), (us.flatMap useC).length = us.length * 4
  | [] => rfl
  | p :: us => by rw [List.flatMap_cons, List.length_append, useC_len, uses_len us, List.length_cons]; omega
theorem uses_get : ∀ {us : List (Ref × Int)} {i : Nat} {p : Ref × Int}, us[i]? = some p → (us.flatMap useC)[i * 4 + 3]? = some (.int .i64 p.2)
  | [], _, _, h => by simp at h
  | q :: us, 0, p, h => by
    simp at h; subst h
    rfl
  | q :: us, i + 1, p, h => by
    rw [List.flatMap_cons, List.getElem?_append_right (by rw [useC_len]; omega), useC_len]
    have := uses_get (us := us) (i := i) (by simpa using h)
    rw [show (i + 1) * 4 + 3 - 4 = i * 4 + 3 by omega]; exact this
theorem uses_set : ∀ {us : List (Ref × Int)} {i : Nat} {p : Ref × Int} (f : Int), us[i]? = some p → (us.flatMap useC).set (i * 4 + 3) (.int .i64 f) = (us.modify i (fun q => (q.1, f))).flatMap useC
  | [], _, _, _, h => by simp at h
  | q :: us, 0, p, f, h => by
    simp [useC, List.flatMap_cons]
  | q :: us, i + 1, p, f, h => by
    rw [List.flatMap_cons, List.set_append, if_neg (by rw [useC_len]; omega), useC_len, List.modify_succ_cons, List.flatMap_cons]
    rw [show (i + 1) * 4 + 3 - 4 = i * 4 + 3 by omega, uses_set f (by simpa using h)]
theorem modify_at {us : List (Ref × Int)} {i : Nat} {p : Ref × Int} (h : us[i]? = some p) : us.modify i incP = us.modify i (fun q => (q.1, wrap64 (p.2 + 1))) := by
  apply List.ext_getElem?
  intro j
  rw [List.getElem?_modify, List.getElem?_modify]
  by_cases e : i = j
  · subst e; rw [h]; simp [incP]
  · simp [e]
theorem bumpP_keys (r : Ref) (us : List (Ref × Int)) : (bumpP r us).map Prod.fst = mentionP r (us.map Prod.fst) := by
  unfold bumpP mentionP
  split
  · apply List.ext_getElem?
    intro j
    rw [List.getElem?_map, List.getElem?_modify, List.getElem?_map]
    cases us[j]? with
    | none => simp
    | some p => by_cases e : (us.map Prod.fst).idxOf r = j <;> simp [e, incP]
  · simp
theorem bumpAll_snoc (l : List Ref) (r : Ref) (us : List (Ref × Int)) : bumpAll (l ++ [r]) us = bumpP r (bumpAll l us) := by unfold bumpAll; rw [List.foldl_append]; rfl
theorem countP_snoc (ls : List (List Ref)) (l : List Ref) : countP (ls ++ [l]) = bumpAll l (countP ls) := by unfold countP; rw [List.foldl_append]; rfl
theorem bumpAll_keys : ∀ (l : List Ref) (us : List (Ref × Int)), (bumpAll l us).map Prod.fst = menAll l (us.map Prod.fst)
  | [], _ => rfl
  | r :: l, us => by
    show (bumpAll l (bumpP r us)).map Prod.fst = menAll l (mentionP r (us.map Prod.fst))
    rw [bumpAll_keys, bumpP_keys]
theorem foldl_keys : ∀ (ls : List (List Ref)) (us : List (Ref × Int)), (ls.foldl (fun us l => bumpAll l us) us).map Prod.fst = ls.foldl (fun acc l => menAll l acc) (us.map Prod.fst)
  | [], _ => rfl
  | l :: ls, us => by
    rw [List.foldl_cons, List.foldl_cons, foldl_keys, bumpAll_keys]
theorem countP_keys (ls : List (List Ref)) : (countP ls).map Prod.fst = unionP ls := foldl_keys ls []
theorem Tryz.appUses : AppTy Tryz.prog 38 45 4 40 := AppTy.mk' (z := .agg #[.string ⟨#[]⟩, .int .i64 0, .int .i64 0, .int .i64 0]) Tryz.underlying38 (by kernel_rfl) rfl (by decide) (by decide)
theorem useC_one {p : Ref × Int} : ∀ u ∈ useC p, u.oneCell' = true := by
  intro u hu
  simp only [useC, List.mem_cons, List.not_mem_nil, or_false] at hu
  rcases hu with rfl | rfl | rfl | rfl <;> rfl
def UseR (c : List Value) (p : Ref × Int) : Prop := c = useC p ∧ RefOk p.1
theorem UseR.len (c : List Value) (p : Ref × Int) (h : UseR c p) : c.length = 4 := by rw [h.1]; rfl
def UsesAt (S : Nat → Prop) (w : World) (v : Value) (us : List (Ref × Int)) : Prop := SeqAt S w 4 UseR v us
theorem uses_rows : ∀ {us : List (Ref × Int)}, (∀ r ∈ us.map Prod.fst, RefOk r) → RowsIn UseR (us.flatMap useC) us
  | [], _ => rfl
  | p :: us, h => ⟨useC p, us.flatMap useC, rfl, ⟨rfl, h p.1 (by simp)⟩, uses_rows (fun x hx => h x (by simp at hx ⊢; exact .inr hx))⟩
def UsesRes (res : Except Int (List (Ref × Int))) (w : World) (e : Ending) (w' : World) : Prop := Below w.heap.size w w' ∧ match res with
  | .error x => e = .returned (.tuple #[.slice none 0 0, .int .i64 x]) ∧ x ≠ 0
  | .ok us => ∃ v, e = .returned (.tuple #[v, .int .i64 0]) ∧ UsesAt (w.heap.size ≤ ·) w' v us

theorem StAt.notown {w : World} {base nb mb : Nat} {v : Value} {l : List Ref} (h : StAt w base nb mb v l) {k : Nat} {cs : Array Value} {t : TypeId} {z : Nat × Nat} (hb : w.heap[k]? = some (.cells cs t z)) (h1 : t ≠ 72) (h2 : t ≠ 43) : ¬ StOwn nb mb v k := by
  rintro (e | e | e)
  · subst e
    have := hb.symm.trans h.box
    simp at this
    exact h1 this.2.1
  · subst e; exact h.idx.cells hb
  · obtain ⟨cs', hc⟩ := owns_block h.row e
    have := hb.symm.trans hc
    simp at this
    exact h2 this.2.1
theorem owns_grows {S : Nat → Prop} {w w' : World} {base : Nat} {e : TypeId} {sz : Nat} {v : Value} {n : Nat} {xs : List Value} (h : w.ownsRow base e sz v n xs) (hg : Grows S w w') (hS : ∀ k, v.ownBlock = some k → ¬ S k) : w'.ownsRow base e sz v n xs := by
  obtain ⟨hl, h2⟩ := h
  refine ⟨hl, ?_⟩
  rcases h2 with h2 | ⟨g, cap, cur, rfl, hb, hh, h3⟩
  · exact .inl h2
  · exact .inr ⟨g, cap, cur, rfl, hb, (hg.block g (lt_of_block hh) (hS g rfl)).trans hh, h3⟩
/-- The set and the uses lie apart. -/
theorem uses_apart {w : World} {base base2 nb mb : Nat} {v uv : Value} {l : List Ref} {n : Nat} {xs : List Value} (h : StAt w base nb mb v l) (ho : w.ownsRow base2 45 4 uv n xs) {k : Nat} (hk : uv.ownBlock = some k) : ¬ StOwn nb mb v k := by
  obtain ⟨cs, hc⟩ := owns_block ho hk
  exact h.notown hc (by decide) (by decide)
theorem owns_pos {w : World} {base : Nat} {e : TypeId} {sz : Nat} {a : Option Addr} {n cap : Nat} {xs : List Value} (h : w.ownsRow base e sz (.slice a n cap) n xs) (hn : 0 < n) : ∃ g, a = some ⟨g, 0, none⟩ := by
  obtain ⟨_, h2⟩ := h
  rcases h2 with ⟨_, h3⟩ | ⟨g, cap', cur, h3, _⟩
  · omega
  · simp only [Value.slice.injEq] at h3
    exact ⟨g, h3.1⟩
theorem bumpP_len (r : Ref) (us : List (Ref × Int)) : (bumpP r us).length = (mentionP r (us.map Prod.fst)).length := by rw [← bumpP_keys]; simp
theorem keys_len (us : List (Ref × Int)) : us.length = (us.map Prod.fst).length := by simp
set_option maxRecDepth 100000 in
set_option maxHeartbeats 4000000 in
theorem Counts_any (cs : List (ByteArray × List UInt8)) (need : Ref → Except Int (List Ref)) (hn : NeedOk cs need) (S T : Nat → Prop) (sv cv : Value) (roots : List Ref) (w : World) (hs : SnapsAt T w sv roots) (hc : ContAt S w cv cs) (henv : Env w) (hlen : roots.length ≤ 1000) :
    Calls Tryz.prog 16 #[sv, cv] w (UsesRes (mapE countP (eachP need roots)) w) := by
  have hrok := hs.ok
  have HOK := Lib.hid hrok
  have HN := Lib.hid hn
  have HE := Lib.hid (each_any cs need hn S T sv cv roots w hs hc henv (by omega))
  clear hn hs hc henv hrok
  go_enter Tryz.func16, Tryz.ntmps16
  go_wp2_with fail
  refine HE.out.mono ?_
  rintro e w1 ⟨hb1, hres⟩
  have HB1 := Lib.hid hb1
  clear hb1 HE
  cases hep : eachP need roots with
  | error x =>
    rw [hep] at hres
    obtain ⟨rfl, hx⟩ := hres
    have e1 : (x != 0) = true := by simp [hx]
    have HX := Lib.hid hx
    have HEP := Lib.hid hep
    clear hep hx
    go_wp2_with fail
    go_ret2
    exact ⟨HB1.out, by rw [HEP.out]; exact ⟨rfl, HX.out⟩⟩
  | ok ls =>
    rw [hep] at hres
    obtain ⟨lv, rfl, hlv⟩ := hres
    have HLV := Lib.hid hlv.lt
    have HEP := Lib.hid hep
    obtain ⟨la, lc, rfl, hlc, hlm, -⟩ := SeqAt.shape hlv ListR.len
    unfold maxLen at hlm
    have HLE := Lib.hid (eachP_le HN.out HOK.out hep)
    have hll : ls.length ≤ 1000 := by rw [eachP_len hep]; exact hlen
    clear hep hlv
    go_wp2_with fail
    refine (newSet_any w1 w1.heap.size).mono ?_
    rintro e w2 ⟨rfl, hst, hb2, hz2⟩
    have HST := Lib.hid hst
    have HB2 := Lib.hid hb2
    clear hst hb2
    go_wp2_with fail
    go_loopw [9, 27] (fun uv i wr => ∃ (k : Nat) (v : Value), k ≤ ls.length ∧ i = .int .i64 k ∧ StAt wr w1.heap.size (w1.heap.size + 1) w1.heap.size v ((countP (ls.take k)).map Prod.fst) ∧ wr.ownsRow w1.heap.size 45 4 uv (countP (ls.take k)).length ((countP (ls.take k)).flatMap useC) ∧ Below w1.heap.size w1 wr) (fun _ i _ => ls.length - (intOf i).toNat)
    case atStart => exact ⟨0, _, Nat.zero_le _, rfl, HST.out, World.ownsRow_nil _ _ _ _, HB2.out⟩
    case round =>
      obtain ⟨k, v, hk, rfl, hst, hown, hb⟩ := hrel
      have HSR := Lib.hid hst
      have HOR := Lib.hid hown
      have HBR := Lib.hid hb
      obtain ⟨ua, uc, rfl, hun, hum⟩ := owns_shape hown
      clear hst hb hown
      by_cases hlt : k < ls.length
      · obtain ⟨l, hl⟩ : ∃ l, ls[k]? = some l := ⟨ls[k], by simp [hlt]⟩
        obtain ⟨b, o, ca, cc, rfl, q0, hrf⟩ := lists_at HLV.out HBR.out hl
        have HRF := Lib.hid hrf
        obtain ⟨_, _, hv', hcc, hccm, -⟩ := SeqAt.shape hrf RefR.len
        cases hv'
        unfold maxLen at hccm
        have HSN := Lib.hid (show countP (ls.take (k + 1)) = bumpAll l (countP (ls.take k)) by rw [take_snoc' hl, countP_snoc])
        have HLEN := Lib.hid (show l.length ≤ 1000000000 ∧ (unionP (ls.take k)).length ≤ 999 * 1000000000 from ⟨HLE.out l (List.mem_of_getElem? hl), by
          have h1 := unionP_len (ls := ls.take k) (fun x hx => HLE.out x (List.mem_of_mem_take hx))
          rw [List.length_take] at h1
          have h2 : min k ls.length ≤ 999 := by omega
          exact Nat.le_trans h1 (Nat.mul_le_mul_right 1000000000 h2)⟩)
        obtain ⟨wo, hwo⟩ : ∃ wo : World, wo = wr := ⟨_, rfl⟩
        subst hwo
        clear hl hrf
        go_wp2_with fail
        go_loopw [9, 33] (fun uv i wq => ∃ (j : Nat) (v : Value), j ≤ l.length ∧ i = .int .i64 j ∧ StAt wq w1.heap.size (w1.heap.size + 1) w1.heap.size v ((bumpAll (l.take j) (countP (ls.take k))).map Prod.fst) ∧ wq.ownsRow w1.heap.size 45 4 uv (bumpAll (l.take j) (countP (ls.take k))).length ((bumpAll (l.take j) (countP (ls.take k))).flatMap useC) ∧ Below w1.heap.size w1 wq ∧ RefsAt (fun k => k < w1.heap.size) wq (.slice ca l.length cc) l) (fun _ i _ => l.length - (intOf i).toNat)
        case atStart => exact ⟨0, v, Nat.zero_le _, rfl, HSR.out, HOR.out, HBR.out, HRF.out⟩
        case round =>
          obtain ⟨j, v3, hj, rfl, hst3, hown3, hb3, hrf3⟩ := hrel
          have HML0 := Lib.hid (show (bumpAll (l.take j) (countP (ls.take k))).length < 1099511627775 by
            rw [keys_len, bumpAll_keys, countP_keys]
            have h1 := menAll_len (l.take j) (unionP (ls.take k))
            rw [List.length_take] at h1
            obtain ⟨h2, h3⟩ := HLEN.out
            have h4 : (menAll (l.take j) (unionP (ls.take k))).length ≤ 999 * 1000000000 + 1000000000 := Nat.le_trans h1 (Nat.add_le_add h3 (Nat.le_trans (Nat.min_le_right _ _) h2))
            exact Nat.lt_of_le_of_lt h4 (by decide))
          obtain ⟨us, hus⟩ : ∃ us, us = bumpAll (l.take j) (countP (ls.take k)) := ⟨_, rfl⟩
          rw [← hus] at hst3 hown3 HML0
          have HUS := Lib.hid hus
          have HS3 := Lib.hid hst3
          have HO3 := Lib.hid hown3
          have HB3 := Lib.hid hb3
          have HR3 := Lib.hid hrf3
          obtain ⟨xa, xc, hxv, hxn, hxm⟩ := owns_shape hown3
          subst hxv
          clear hst3 hown3 hb3 hrf3 hus
          by_cases hlt2 : j < l.length
          · obtain ⟨c, hc⟩ : ∃ c, l[j]? = some c := ⟨l[j], by simp [hlt2]⟩
            obtain ⟨b2, o2, rfl, hcok, p0, p1, p2⟩ := refs_at HR3.out (Below.refl _ _) hc
            have HCO := Lib.hid hcok
            have HSN2 := Lib.hid (show bumpAll (l.take (j + 1)) (countP (ls.take k)) = bumpP c us by rw [take_snoc' hc, bumpAll_snoc, HUS.out])
            have HML := Lib.hid (show (us.map Prod.fst).length < 1099511627775 by rw [← keys_len]; exact HML0.out)
            have HAL := Lib.hid ((Below.refl wr.heap.size wr).alloc (Nat.le_refl _) (.cells #[.string c.name, .int .i64 c.gen, .int .i64 c.size] 43))
            have HS4 := Lib.hid (HS3.out.below HAL.out)
            have HO4 := Lib.hid (owns_below HO3.out HAL.out)
            have HB4 := Lib.hid (below_next HB3.out HAL.out)
            have HBX4 := Lib.hid (heap_alloc_new wr (.cells #[.string c.name, .int .i64 c.gen, .int .i64 c.size] 43))
            clear hc hcok
            go_wp2_with fail
            refine (add_any w1.heap.size (w1.heap.size + 1) w1.heap.size v3 _ c _ HS4.out HCO.out HML.out HB4.out.size).mono ?_
            rintro e w4 ⟨rfl, v4, hst4, hg4, -⟩
            have HB5 := Lib.hid (show Below w1.heap.size w1 w4 from HB4.out.trans (hg4.below HB4.out.size (fun k hk => st_ge HS4.out (Nat.le_refl _) (by omega) (Nat.le_refl _) hk)))
            have HR5 := Lib.hid (show RefsAt (fun k => k < w1.heap.size) w4 (.slice (some ⟨b2, o2, none⟩) l.length cc) l from RefsAt.same HR3.out (fun k hk hS => ⟨hS, (HB5.out.block k hS).trans (HB3.out.block k hS).symm⟩))
            have HS5 := Lib.hid hst4
            have HO5 := Lib.hid (owns_grows HO4.out hg4 (fun k hk => uses_apart HS4.out HO4.out hk))
            clear p0 p1 p2
            obtain ⟨pl, hpl⟩ : ∃ pl : Nat, pl = (mentionP c (us.map Prod.fst)).idxOf c := ⟨_, rfl⟩
            rw [← hpl]
            by_cases hcm : c ∈ us.map Prod.fst
            · have hmk : mentionP c (us.map Prod.fst) = us.map Prod.fst := by unfold mentionP; rw [if_pos hcm]
              rw [hmk] at hpl HS5
              have hplt : pl < us.length := by rw [hpl, keys_len]; exact List.idxOf_lt_length_iff.2 hcm
              obtain ⟨q, hq⟩ : ∃ q, us[pl]? = some q := ⟨us[pl], by simp [hplt]⟩
              have HQ := Lib.hid hq
              have HBP := Lib.hid (show bumpP c us = us.modify pl (fun p => (p.1, wrap64 (q.2 + 1))) by unfold bumpP; rw [if_pos hcm, ← hpl, modify_at hq])
              have HBK := Lib.hid (show (bumpP c us).map Prod.fst = us.map Prod.fst by rw [bumpP_keys, hmk])
              obtain ⟨g, rfl⟩ := owns_pos HO5.out (by omega)
              have u3 := (HO5.out.cellAt (pl * 4 + 3) (by omega)).trans (uses_get HQ.out)
              have uf := HO5.out.frozenAt (pl * 4 + 3)
              have e6 : ((pl : Int) == (us.length : Int)) = false := by rw [beq_eq_false_iff_ne]; omega
              clear hcm hmk hpl hq hst4 hg4
              go_wp2_with fail
              go_roundw
              case rel =>
                have hst6 := HO5.out.stored (pl * 4 + 3) (.int .i64 (wrap64 (q.2 + 1)))
                rw [uses_set _ HQ.out, ← HBP.out] at hst6
                have hle : us.length = (bumpP c us).length := by rw [HBP.out]; simp
                have hkeep : ∀ k, StOwn (w1.heap.size + 1) w1.heap.size v4 k → k ≠ g := fun k hk e => uses_apart HS5.out HO5.out (k := k) (by rw [e]; rfl) hk
                refine ⟨j + 1, v4, by omega, by go_num, ?_, ?_, ?_, ?_⟩
                · rw [HSN2.out, HBK.out]
                  exact HS5.out.keep (fun k _ hk => Below.heap_setCell _ _ _ _ (hkeep k hk))
                · rw [HSN2.out, ← hle]; exact hst6.1
                · exact HB5.out.trans ((Grows.of_grown (S := fun k => k = g) hst6.2 (fun k hk => by cases hk; rfl)).below HB5.out.size (fun k hk => by subst hk; exact (HO5.out.lt _ rfl).1))
                · exact RefsAt.same HR5.out (fun k hk hS => ⟨hS, Below.heap_setCell _ _ _ _ (by intro e; have e2 : k = g := e; have := (HO5.out.lt g rfl).1; omega)⟩)
              case measure => simp [intOf]; omega
            · have hmk : mentionP c (us.map Prod.fst) = us.map Prod.fst ++ [c] := by unfold mentionP; rw [if_neg hcm]
              rw [hmk] at hpl HS5
              have hpl2 : pl = us.length := by rw [hpl, idxOf_mention hcm, ← keys_len]
              subst hpl2
              have HBP := Lib.hid (show bumpP c us = us ++ [(c, 1)] by unfold bumpP; rw [if_neg hcm])
              have hbx5 : w4.heap[wr.heap.size]? = some (.cells #[.string c.name, .int .i64 c.gen, .int .i64 c.size] 43 (0, 0)) := (hg4.block wr.heap.size (by simp) (fun ho => by
                rcases ho with e | e | e
                · have := lt_of_block HS3.out.box; omega
                · have := HS3.out.idx.map.lt; omega
                · have := (HS3.out.row.lt _ e).2; omega)).trans HBX4.out
              have r0 := cellH (k := 0) hbx5
              have r1 := cellH (k := 1) hbx5
              have r2 := cellH (k := 2) hbx5
              simp only [List.getElem?_toArray, List.getElem?_cons_succ, List.getElem?_cons_zero] at r0 r1 r2
              have hbz := HB5.out.size
              clear hcm hmk hpl hst4 hg4 hbx5
              go_upto_region 15 with ((at_builtin; go_must (refine wpList_app1p Tryz.appUses rfl _ _ rfl w1.heap.size (.slice xa us.length xc) us.length (us.flatMap useC) rfl w4 [.string c.name, .int .i64 c.gen, .int .i64 c.size, .int .i64 0] _ rfl rfl (useC_one (p := (c, 0))) HO5.out HML0.out hbz ?_); intro v' w6 hown' hgrow' _ hpl))
              have HS6 := Lib.hid (HS5.out.keep (w' := w6) (fun k hk ho => hgrow'.block k hk (fun e => uses_apart HS5.out HO5.out e.symm ho)))
              have HO6 := Lib.hid (show w6.ownsRow w1.heap.size 45 4 v' (us.length + 1) ((us ++ [(c, 0)]).flatMap useC) by rw [List.flatMap_append]; simpa [useC] using hown')
              have HB6 := Lib.hid (below_grown HB5.out HO5.out hgrow' (Nat.le_refl _) hbz)
              have HR6 := Lib.hid (show RefsAt (fun k => k < w1.heap.size) w6 (.slice (some ⟨b2, o2, none⟩) l.length cc) l from RefsAt.same HR5.out (fun k hk hS => ⟨hS, (HB6.out.block k hS).trans (HB5.out.block k hS).symm⟩))
              obtain ⟨va, vc, rfl, hvn, hvm⟩ := owns_shape hown'
              obtain ⟨g, rfl⟩ := owns_pos HO6.out (by omega)
              have HQ := Lib.hid (show (us ++ [(c, 0)])[us.length]? = some (c, 0) by simp)
              have u3 := (HO6.out.cellAt (us.length * 4 + 3) (by omega)).trans (uses_get HQ.out)
              have uf := HO6.out.frozenAt (us.length * 4 + 3)
              simp only at u3
              clear hown' hgrow' hpl r0 r1 r2
              go_wp2_with fail
              go_roundw
              case rel =>
                have hst6 := HO6.out.stored (us.length * 4 + 3) (.int .i64 1)
                rw [uses_set _ HQ.out] at hst6
                have hmd : (us ++ [(c, (0 : Int))]).modify us.length (fun q => (q.1, (1 : Int))) = us ++ [(c, 1)] := by
                  rw [modify_snoc]
                rw [hmd, ← HBP.out] at hst6
                have hkeep : ∀ k, StOwn (w1.heap.size + 1) w1.heap.size v4 k → k ≠ g := fun k hk e => uses_apart HS6.out HO6.out (k := k) (by rw [e]; rfl) hk
                have hle : us.length + 1 = (bumpP c us).length := by rw [HBP.out]; simp
                refine ⟨j + 1, v4, by omega, by go_num, ?_, ?_, ?_, ?_⟩
                · rw [HSN2.out, HBP.out, List.map_append]
                  exact HS6.out.keep (fun k _ hk => Below.heap_setCell _ _ _ _ (hkeep k hk))
                · rw [HSN2.out, ← hle]; exact hst6.1
                · exact HB6.out.trans ((Grows.of_grown (S := fun k => k = g) hst6.2 (fun k hk => by cases hk; rfl)).below HB6.out.size (fun k hk => by subst hk; exact (HO6.out.lt _ rfl).1))
                · exact RefsAt.same HR6.out (fun k hk hS => ⟨hS, Below.heap_setCell _ _ _ _ (by intro e; have e2 : k = g := e; have := (HO6.out.lt g rfl).1; omega)⟩)
              case measure => simp [intOf]; omega
          · obtain rfl : j = l.length := by omega
            have HUS2 := Lib.hid (show us = bumpAll l (countP (ls.take k)) by rw [HUS.out, List.take_of_length_le (Nat.le_refl _)])
            go_wp2_with fail
            go_roundw
            case rel => exact ⟨k + 1, v3, by omega, by go_num, by rw [HSN.out, ← HUS2.out]; exact HS3.out, by rw [HSN.out, ← HUS2.out]; exact HO3.out, HB3.out⟩
            case measure => simp [intOf]; omega
      · obtain rfl : k = ls.length := by omega
        have HTK := Lib.hid (show countP (ls.take ls.length) = countP ls by rw [List.take_of_length_le (Nat.le_refl _)])
        go_wp2_with fail
        go_ret2
        refine ⟨below_next HB1.out HBR.out, ?_⟩
        rw [HEP.out]
        show ∃ v, _ ∧ UsesAt _ _ v (countP ls)
        rw [← HTK.out]
        refine ⟨_, rfl, (countP (ls.take ls.length)).flatMap useC, (row_of_owns HOR.out).weak (fun k hk => Nat.le_trans HB1.out.size hk.1), uses_rows HSR.out.ok⟩

end Go.Proofs.YtndgmcggckpgfaaGreatDoor

/- Equality of uses; equality of lists of numbers. -/
namespace Go.Proofs.YtndgmcggckpgfaaGreatDoor
open Go Go.RowKit


def useV (p : Ref × Int) : Value := .agg #[.string p.1.name, .int .i64 p.1.gen, .int .i64 p.1.size, .int .i64 p.2]
theorem eqUse (p p' : Ref × Int) (w : World) : (Op.equalIn 10000 45 (useV p) (useV p')).run Tryz.prog w = .ok (decide (p = p')) w := by
  have u1 := Tryz.underlying9
  have u2 := Tryz.underlying3
  have hS : Tryz.prog.underlying 45 = some (.struct (Tryz.prog.fieldsOf 45)) := by kernel_rfl
  rw [show (10000 : Nat) = 9999 + 1 from rfl]
  unfold useV
  rw [run_equalIn_struct w 9999 45 _ _ hS (by kernel_rfl)]
  simp only [Program.fieldsOf, Tryz.underlying45]
  go_simp
  obtain ⟨⟨n, g, s⟩, c⟩ := p
  obtain ⟨⟨n', g', s'⟩, c'⟩ := p'
  have hn : n.toList = n'.toList ↔ n = n' := ⟨fun h => bl_inj (by rw [← toList_bl, ← toList_bl, h]), fun h => by rw [h]⟩
  simp only [Prod.mk.injEq, Ref.mk.injEq, hn]
  by_cases h1 : n = n' <;> by_cases h2 : g = g' <;> by_cases h3 : s = s' <;> by_cases h4 : c = c' <;> simp [h1, h2, h3, h4]
theorem ints_at {S : Nat → Prop} {w w' : World} {a : Option Addr} {n cap : Nat} {l : List Int} (hv : IntsAt S w (.slice a n cap) l) (hb : Below w.heap.size w w') {k : Nat} {x : Int} (hx : l[k]? = some x) : ∃ b o, a = some ⟨b, o, none⟩ ∧ w'.cell? ⟨b, o + k, none⟩ = some (.int .i64 x) := by
  obtain ⟨hl, a', cap', hv', _, _, h0⟩ := hv
  cases hv'
  rcases h0 with h0 | ⟨b, o, rfl, _, hc⟩
  · simp [List.eq_nil_of_length_eq_zero h0] at hx
  · have h1 := hc k (.int .i64 x) (by simp [hx])
    exact ⟨b, o, rfl, (hb.cell (block_lt h1)).trans h1⟩
set_option maxRecDepth 100000 in
set_option maxHeartbeats 2000000 in
theorem ints04_any (S T : Nat → Prop) (v u : Value) (rs ss : List Int) (w : World) (hv : IntsAt S w v rs) (hu : IntsAt T w u ss) :
    Calls Tryz.prog 21 #[v, u] w fun e w' => e = .returned (.bool (decide (rs = ss))) ∧ Below w.heap.size w w' := by
  have HV := Lib.hid hv
  have HU := Lib.hid hu
  obtain ⟨_, a, cap, rfl, hc, hm, -⟩ := hv
  obtain ⟨_, a2, cap2, rfl, hc2, hm2, -⟩ := hu
  unfold maxLen at hm hm2
  by_cases hl : rs.length = ss.length
  · have HL := Lib.hid hl
    have hl2 : ss.length = rs.length := hl.symm
    rw [hl2] at HU hc2 ⊢
    clear hl hl2
    go_enter Tryz.func21, Tryz.ntmps21
    go_wp2_with fail
    go_loopw [5] (fun i wr => ∃ k : Nat, k ≤ rs.length ∧ i = .int .i64 k ∧ rs.take k = ss.take k ∧ Below w.heap.size w wr) (fun i _ => rs.length - (intOf i).toNat)
    case atStart => exact ⟨0, Nat.zero_le _, rfl, by simp, Below.refl _ _⟩
    case round =>
      obtain ⟨k, hk, rfl, hn, hb⟩ := hrel
      have HN := Lib.hid hn
      have HB := Lib.hid hb
      clear hn hb
      by_cases hlt : k < rs.length
      · obtain ⟨r, hr⟩ : ∃ r, rs[k]? = some r := ⟨rs[k], by simp [hlt]⟩
        obtain ⟨x, hx⟩ : ∃ x, ss[k]? = some x := ⟨ss[k]'(by have := HL.out; omega), by simp⟩
        have HR := Lib.hid hr
        have HX := Lib.hid hx
        obtain ⟨W, hW⟩ : ∃ W : World, W = wr.drew := ⟨_, rfl⟩
        have HBW := Lib.hid (show Below w.heap.size w W by rw [hW]; exact HB.out.drew)
        obtain ⟨b, o, rfl, q0⟩ := ints_at HV.out HBW.out hr
        obtain ⟨b2, o2, rfl, p0⟩ := ints_at (by have := HU.out; rw [HL.out] at this; exact this) HBW.out hx
        clear hr hx
        by_cases hm : r = x
        · have e1 : (r != x) = false := by simp [hm]
          have HT := Lib.hid (show rs.take (k + 1) = ss.take (k + 1) by rw [take_snoc' HR.out, take_snoc' HX.out, HN.out, hm])
          clear hm
          go_wp2_with fail
          refine wp_region_segs [some 9] (by kernel_rfl) (by kernel_rfl) (by kernel_rfl) ?_
          simp only [wpSegs, List.take_succ_cons, List.take_zero]
          rw [← hW]
          clear hW
          repeat (first | (refine seg_skip rfl ?_; simp only [Act.put, List.setIfInBounds_toArray, List.set_cons_succ, List.set_cons_zero]) | (refine seg_run rfl (fun K hK => ?_); go_simp; refine hK _ ?_; clear hK K))
          refine seg_nil ?_
          go_wp2_with fail
          go_roundw
          case rel => exact ⟨k + 1, by omega, by go_num, HT.out, HBW.out⟩
          case measure => simp [intOf]; omega
        · have e1 : (r != x) = true := by simp [hm]
          have HT := Lib.hid (show decide (rs = ss) = false by
            rw [decide_eq_false_iff_not]
            intro e
            have h1 := HR.out
            rw [e, HX.out] at h1
            exact hm (Option.some.inj h1).symm)
          clear hm
          go_wp2_with fail
          refine wp_region_segs [some 9] (by kernel_rfl) (by kernel_rfl) (by kernel_rfl) ?_
          simp only [wpSegs, List.take_succ_cons, List.take_zero]
          rw [← hW]
          clear hW
          repeat (first | (refine seg_skip rfl ?_; simp only [Act.put, List.setIfInBounds_toArray, List.set_cons_succ, List.set_cons_zero]) | (refine seg_run rfl (fun K hK => ?_); go_simp; refine hK _ ?_; clear hK K))
          refine seg_nil ?_
          go_wp2_with fail
          go_ret
          exact ⟨ret_bool HT.out.symm, HBW.out⟩
      · obtain rfl : k = rs.length := by omega
        have HT := Lib.hid (show decide (rs = ss) = true by
          have := HN.out
          rw [List.take_of_length_le (Nat.le_refl _), List.take_of_length_le (by rw [HL.out]; exact Nat.le_refl _)] at this
          simp [this])
        go_wp2_with fail
        go_ret
        exact ⟨ret_bool HT.out.symm, HB.out⟩
  · have HT := Lib.hid (show decide (rs = ss) = false by rw [decide_eq_false_iff_not]; intro e; exact hl (by rw [e]))
    have e1 : ((rs.length : Int) != (ss.length : Int)) = true := by simp; omega
    clear hl
    go_enter Tryz.func21, Tryz.ntmps21
    go_wp2_with fail
    go_ret
    exact ⟨ret_bool HT.out.symm, Below.refl _ _⟩

end Go.Proofs.YtndgmcggckpgfaaGreatDoor

/- The chapter's example: awake returns true. -/
namespace Go.Proofs.YtndgmcggckpgfaaGreatDoor
open Go Go.RowKit Go.Maps


theorem exCount1 : mapE countP (eachP (needF exC1) [exR1, exR2]) = .ok [(exR1, 1), (exA, 2), (exR2, 1), (exB, 1)] := by kernel_rfl
theorem exCount2 : mapE countP (eachP (needF exC2) [exR1, exR2]) = .ok [(exR1, 1), (exA, 2), (exR2, 1), (exB, 1)] := by kernel_rfl
theorem exExcl1 : exclE (needF exC1) [exR1, exR2] 0 = .ok [exR1] := by kernel_rfl
theorem exExcl2 : exclE (needF exC2) [exR1, exR2] 0 = .ok [exR1] := by kernel_rfl
theorem exKeep1 : mapE (fun ls => keepTo ls (nameB 98) ls.length) (eachP (needF exC1) [exR1, exR2]) = .ok [1] := by kernel_rfl
theorem exKeep2 : mapE (fun ls => keepTo ls (nameB 98) ls.length) (eachP (needF exC2) [exR1, exR2]) = .ok [1] := by kernel_rfl
/-- What the example's contents give. -/
structure ExOk (cs : List (ByteArray × List UInt8)) : Prop where
  need : NeedOk cs (needF cs)
  count : mapE countP (eachP (needF cs) [exR1, exR2]) = .ok [(exR1, 1), (exA, 2), (exR2, 1), (exB, 1)]
  excl : exclE (needF cs) [exR1, exR2] 0 = .ok [exR1]
  keep : mapE (fun ls => keepTo ls (nameB 98) ls.length) (eachP (needF cs) [exR1, exR2]) = .ok [1]
theorem exOk_of {cs : List (ByteArray × List UInt8)} (h : cs = exC1 ∨ cs = exC2) : ExOk cs := by
  rcases h with rfl | rfl
  · exact ⟨needF_ok (by decide), exCount1, exExcl1, exKeep1⟩
  · exact ⟨needF_ok (by decide), exCount2, exExcl2, exKeep2⟩
theorem uses_at {S : Nat → Prop} {w w' : World} {a : Option Addr} {n cap : Nat} {us : List (Ref × Int)} (hv : UsesAt S w (.slice a n cap) us) (hb : Below w.heap.size w w') {k : Nat} {p : Ref × Int} (hp : us[k]? = some p) :
    ∃ b o, a = some ⟨b, o, none⟩ ∧ RefOk p.1 ∧ ∀ j, j < 4 → w'.cell? ⟨b, o + k * 4 + j, none⟩ = (useC p)[j]? := by
  obtain ⟨a', cap', hv', _, _, hx⟩ := SeqAt.shape hv UseR.len
  cases hv'
  obtain ⟨b, o, c, rfl, hS, ⟨rfl, hok⟩, _, hcl⟩ := hx k p hp
  have q0 := hcl 0 (by omega)
  have hlt : b < w.heap.size := block_lt (a := ⟨b, o + (k * 4 + 0), none⟩) (v := .string p.1.name) q0
  refine ⟨b, o, rfl, hok, fun j hj => ?_⟩
  rw [Nat.add_assoc]
  exact (hb.cell (p := ⟨b, o + (k * 4 + j), none⟩) hlt).trans (hcl j hj)
/-- Cells that read. -/
def AllC (w : World) : List (Addr × Value) → Prop
  | [] => True
  | p :: l => w.cell? p.1 = some p.2 ∧ AllC w l
theorem AllC.below {w w' : World} : ∀ {l : List (Addr × Value)}, AllC w l → Below w.heap.size w w' → AllC w' l
  | [], _, _ => trivial
  | _ :: _, h, hb => ⟨(hb.cell (block_lt h.1)).trans h.1, AllC.below h.2 hb⟩
set_option maxRecDepth 100000 in
set_option maxHeartbeats 4000000 in
theorem awake48_any (w : World) (he : Env w) : Calls Tryz.prog 9 #[] w fun e w' => e = .returned (.bool true) ∧ Below w.heap.size w w' := by
  have HE := Lib.hid he
  clear he
  go_enter Tryz.func9, Tryz.ntmps9
  go_wp2_with fail
  refine (example_any w).mono ?_
  rintro e w1 ⟨sv, cv, cs, hcs, rfl, hsv, hcv, hb1⟩
  have HX := Lib.hid (exOk_of hcs)
  have HS := Lib.hid hsv
  have HC := Lib.hid hcv
  have HB1 := Lib.hid hb1
  have HE1 := Lib.hid (HE.out.below hb1)
  obtain ⟨sa, sc, rfl, -, -, -⟩ := SeqAt.shape hsv SnapR.len
  have hcm : ∃ cm, cv = .map cm := by
    rcases hcv with ⟨rfl, _⟩ | ⟨b, m, rfl, _⟩
    · exact ⟨_, rfl⟩
    · exact ⟨_, rfl⟩
  obtain ⟨cm, rfl⟩ := hcm
  clear hcs hsv hcv hb1
  go_wp2_with fail
  refine (Counts_any cs _ HX.out.need _ _ _ _ _ _ HS.out HC.out HE1.out (by decide)).mono ?_
  rintro e w2 ⟨hb2, hres⟩
  rw [HX.out.count] at hres
  obtain ⟨uv, rfl, huv⟩ := hres
  have HB2 := Lib.hid (below_next HB1.out hb2)
  have HS2 := Lib.hid (SeqAt.below HS.out (by omega) hb2 (fun _ _ _ h => h))
  have HC2 := Lib.hid (HC.out.below hb2)
  have HE2 := Lib.hid (HE1.out.below hb2)
  have HU2 := Lib.hid huv
  obtain ⟨ua, uc, rfl, -, -, -⟩ := SeqAt.shape huv UseR.len
  clear huv hb2
  go_wp2_with fail
  refine (Exclusive_any cs _ HX.out.need _ _ _ _ _ _ _ HS2.out HC2.out HE2.out (by decide)).mono ?_
  rintro e w3 ⟨hb3, hres⟩
  rw [HX.out.excl] at hres
  obtain ⟨xv, rfl, hxv⟩ := hres
  have HB3 := Lib.hid (below_next HB2.out hb3)
  have HS3 := Lib.hid (show SnapsAt _ w3 _ _ from SeqAt.below HS2.out (by omega) hb3 (fun _ _ _ h => h))
  have HC3 := Lib.hid (HC2.out.below hb3)
  have HE3 := Lib.hid (HE2.out.below hb3)
  have HU3 := Lib.hid (show UsesAt _ w3 _ _ from SeqAt.below HU2.out (by omega) hb3 (fun _ _ _ h => h))
  have HX3 := Lib.hid hxv
  obtain ⟨xa, xc, rfl, -, -, -⟩ := SeqAt.shape hxv RefR.len
  clear hxv hb3
  go_upto_region 4 with (fail)
  refine wp_region_segs [some 26] (by kernel_rfl) (by kernel_rfl) (by kernel_rfl) ?_
  simp only [wpSegs, List.take_succ_cons, List.take_zero]
  obtain ⟨W, hW⟩ : ∃ W : World, W = w3.drew := ⟨_, rfl⟩
  rw [← hW]
  have hbw : Below w3.heap.size w3 W := by rw [hW]; exact (Below.refl _ _).drew
  have HB4 := Lib.hid (below_next HB3.out hbw)
  have HC4 := Lib.hid (HC3.out.below hbw)
  have HE4 := Lib.hid (HE3.out.below hbw)
  have HS4 := Lib.hid (show SnapsAt _ W _ _ from SeqAt.below HS3.out (by omega) hbw (fun _ _ _ h => h))
  have HU4 := Lib.hid (show UsesAt _ W _ _ from SeqAt.below HU3.out (by omega) hbw (fun _ _ _ h => h))
  have HX4 := Lib.hid (show RefsAt _ W _ _ from SeqAt.below HX3.out (by omega) hbw (fun _ _ _ h => h))
  clear hW hbw
  obtain ⟨xb, xo, rfl, -, x0, x1, x2⟩ := refs_at HX4.out (Below.refl _ _) (k := 0) (r := exR1) rfl
  obtain ⟨sb, so, a1, a2, a3, a4, a5, sp, sh, rfl, -, hs0⟩ := snaps_at HS4.out (Below.refl _ _) (k := 0) (r := exR1) rfl
  have y0 := hs0 3 (by omega)
  have y1 := hs0 4 (by omega)
  have y2 := hs0 5 (by omega)
  simp only [List.getElem?_cons_zero, List.getElem?_cons_succ, Nat.zero_mul, Nat.add_zero] at x0 x1 x2 y0 y1 y2
  have heq := eqRef exR1 exR1
  unfold refV at heq
  simp only [decide_true] at heq
  clear hs0
  obtain ⟨ub, uo, rfl, -, hu3⟩ := uses_at HU4.out (Below.refl _ _) (k := 3) (p := (exB, 1)) rfl
  have z0 := hu3 0 (by omega)
  simp only [useC, List.getElem?_cons_zero, Nat.add_zero, Nat.reduceMul, exB] at z0
  clear hu3
  repeat (first | (refine seg_skip rfl ?_; simp only [Act.put, List.setIfInBounds_toArray, List.set_cons_succ, List.set_cons_zero]) | (refine seg_run rfl (fun K hK => ?_); go_simp; refine hK _ ?_; clear hK K))
  refine seg_nil ?_
  go_wp2_with fail
  refine (Keepers_any cs _ HX.out.need _ _ _ _ _ (nameB 98) _ HS4.out HC4.out HE4.out (by decide)).mono ?_
  rintro e w5 ⟨hb5, hres⟩
  rw [HX.out.keep] at hres
  obtain ⟨kv, rfl, hkv⟩ := hres
  have HB5 := Lib.hid (below_next HB4.out hb5)
  have HS5 := Lib.hid (show SnapsAt _ w5 _ _ from SeqAt.below HS4.out (by omega) hb5 (fun _ _ _ h => h))
  have HU5 := Lib.hid (show UsesAt _ w5 _ _ from SeqAt.below HU4.out (by omega) hb5 (fun _ _ _ h => h))
  have HK5 := Lib.hid hkv
  obtain ⟨_, ka, kc, rfl, -, -, -⟩ := hkv
  clear hb5 x0 x1 x2 y0 y1 y2 z0 heq
  go_upto_region 7 with (fail)
  obtain ⟨W5, hW⟩ : ∃ W : World, W = w5.drew := ⟨_, rfl⟩
  have hbw : Below w5.heap.size w5 W5 := by rw [hW]; exact (Below.refl _ _).drew
  have HB6 := Lib.hid (below_next HB5.out hbw)
  have HS6 := Lib.hid (show SnapsAt _ W5 _ _ from SeqAt.below HS5.out (by omega) hbw (fun _ _ _ h => h))
  have HU6 := Lib.hid (show UsesAt _ W5 _ _ from SeqAt.below HU5.out (by omega) hbw (fun _ _ _ h => h))
  have HK6 := Lib.hid (show IntsAt _ W5 _ _ from RowAt.below HK5.out (by omega) hbw)
  have HWE := Lib.hid hW
  clear hW hbw
  have hu0 := uses_at HU6.out (Below.refl _ _) (k := 0) (p := (exR1, 1)) rfl
  have hu1 := uses_at HU6.out (Below.refl _ _) (k := 1) (p := (exA, 2)) rfl
  have hu2 := uses_at HU6.out (Below.refl _ _) (k := 2) (p := (exR2, 1)) rfl
  have hu3 := uses_at HU6.out (Below.refl _ _) (k := 3) (p := (exB, 1)) rfl
  have hs0 := snaps_at HS6.out (Below.refl _ _) (k := 0) (r := exR1) rfl
  have hs1 := snaps_at HS6.out (Below.refl _ _) (k := 1) (r := exR2) rfl
  obtain ⟨_, _, e0, -, hu0⟩ := hu0
  cases e0
  obtain ⟨_, _, e0, -, hu1⟩ := hu1
  cases e0
  obtain ⟨_, _, e0, -, hu2⟩ := hu2
  cases e0
  obtain ⟨_, _, e0, -, hu3⟩ := hu3
  cases e0
  obtain ⟨_, _, b1, b2, b3, b4, b5, bp, bh, e0, -, hs0⟩ := hs0
  cases e0
  obtain ⟨_, _, d1, d2, d3, d4, d5, dp, dh, e0, -, hs1⟩ := hs1
  cases e0
  have u00 := hu0 0 (by omega)
  have u01 := hu0 1 (by omega)
  have u02 := hu0 2 (by omega)
  have u03 := hu0 3 (by omega)
  have u13 := hu1 3 (by omega)
  have u20 := hu2 0 (by omega)
  have u21 := hu2 1 (by omega)
  have u22 := hu2 2 (by omega)
  have u33 := hu3 3 (by omega)
  have y0 := hs0 3 (by omega)
  have y1 := hs0 4 (by omega)
  have y2 := hs0 5 (by omega)
  have y3 := hs1 3 (by omega)
  have y4 := hs1 4 (by omega)
  have y5 := hs1 5 (by omega)
  simp only [useC, List.getElem?_cons_zero, List.getElem?_cons_succ, Nat.zero_mul, Nat.add_zero, Nat.reduceMul, Nat.reduceAdd, Nat.one_mul, Nat.add_assoc] at u00 u01 u02 u03 u13 u20 u21 u22 u33 y0 y1 y2 y3 y4 y5
  clear hu0 hu1 hu2 hu3 hs0 hs1
  have heq := eqUse (exR1, 1) (exR1, 1)
  unfold useV at heq
  simp only [decide_true] at heq
  have heq2 := eqRef exR2 exR2
  unfold refV at heq2
  simp only [decide_true] at heq2
  have HAC := Lib.hid (show AllC W5 [(⟨ub, uo, none⟩, .string exR1.name), (⟨ub, uo + 1, none⟩, .int .i64 exR1.gen), (⟨ub, uo + 2, none⟩, .int .i64 exR1.size), (⟨ub, uo + 3, none⟩, .int .i64 1), (⟨ub, uo + 7, none⟩, .int .i64 2), (⟨ub, uo + 8, none⟩, .string exR2.name), (⟨ub, uo + 9, none⟩, .int .i64 exR2.gen), (⟨ub, uo + 10, none⟩, .int .i64 exR2.size), (⟨ub, uo + 15, none⟩, .int .i64 1), (⟨sb, so + 3, none⟩, .string exR1.name), (⟨sb, so + 4, none⟩, .int .i64 exR1.gen), (⟨sb, so + 5, none⟩, .int .i64 exR1.size), (⟨sb, so + 13, none⟩, .string exR2.name), (⟨sb, so + 14, none⟩, .int .i64 exR2.gen), (⟨sb, so + 15, none⟩, .int .i64 exR2.size)] from ⟨u00, u01, u02, u03, u13, u20, u21, u22, u33, y0, y1, y2, y3, y4, y5, trivial⟩)
  clear u00 u01 u02 u03 u13 u20 u21 u22 u33 y0 y1 y2 y3 y4 y5
  refine hld_start (fun w' => AllC w' [(⟨ub, uo, none⟩, .string exR1.name), (⟨ub, uo + 1, none⟩, .int .i64 exR1.gen), (⟨ub, uo + 2, none⟩, .int .i64 exR1.size), (⟨ub, uo + 3, none⟩, .int .i64 1), (⟨ub, uo + 7, none⟩, .int .i64 2), (⟨ub, uo + 8, none⟩, .string exR2.name), (⟨ub, uo + 9, none⟩, .int .i64 exR2.gen), (⟨ub, uo + 10, none⟩, .int .i64 exR2.size), (⟨ub, uo + 15, none⟩, .int .i64 1), (⟨sb, so + 3, none⟩, .string exR1.name), (⟨sb, so + 4, none⟩, .int .i64 exR1.gen), (⟨sb, so + 5, none⟩, .int .i64 exR1.size), (⟨sb, so + 13, none⟩, .string exR2.name), (⟨sb, so + 14, none⟩, .int .i64 exR2.gen), (⟨sb, so + 15, none⟩, .int .i64 exR2.size)]) (by kernel_rfl) ?_
  rw [← HWE.out]
  refine hld_take 0 rfl (by kernel_rfl) (by kernel_rfl) (by kernel_rfl) (fun _ _ _ h => h) rfl HAC.out (by rintro w' ⟨v0, v1, v2, v3, v4, v5, v6, v7, v8, v9, v10, v11, v12, v13, v14, -⟩; simp only at v0 v1 v2 v3 v4 v5 v6 v7 v8 v9 v10 v11 v12 v13 v14; go_simp; rfl) ?_
  simp only [Act.put, List.setIfInBounds_toArray, List.set_cons_succ, List.set_cons_zero]
  refine hld_take 1 rfl (by kernel_rfl) (by kernel_rfl) (by kernel_rfl) (fun _ _ _ h => h) rfl HAC.out (by rintro w' ⟨v0, v1, v2, v3, v4, v5, v6, v7, v8, v9, v10, v11, v12, v13, v14, -⟩; simp only at v0 v1 v2 v3 v4 v5 v6 v7 v8 v9 v10 v11 v12 v13 v14; go_simp; rfl) ?_
  simp only [Act.put, List.setIfInBounds_toArray, List.set_cons_succ, List.set_cons_zero]
  refine hld_take 2 rfl (by kernel_rfl) (by kernel_rfl) (by kernel_rfl) (fun _ _ _ h => h) rfl HAC.out (by rintro w' ⟨v0, v1, v2, v3, v4, v5, v6, v7, v8, v9, v10, v11, v12, v13, v14, -⟩; simp only at v0 v1 v2 v3 v4 v5 v6 v7 v8 v9 v10 v11 v12 v13 v14; go_simp; rfl) ?_
  simp only [Act.put, List.setIfInBounds_toArray, List.set_cons_succ, List.set_cons_zero]
  refine hld_take 3 rfl (by kernel_rfl) (by kernel_rfl) (by kernel_rfl) (fun _ _ _ h => h) rfl HAC.out (by rintro w' ⟨v0, v1, v2, v3, v4, v5, v6, v7, v8, v9, v10, v11, v12, v13, v14, -⟩; simp only at v0 v1 v2 v3 v4 v5 v6 v7 v8 v9 v10 v11 v12 v13 v14; go_simp; rfl) ?_
  simp only [Act.put, List.setIfInBounds_toArray, List.set_cons_succ, List.set_cons_zero]
  refine hld_take 4 rfl (by kernel_rfl) (by kernel_rfl) (by kernel_rfl) (fun _ _ _ h => h) rfl HAC.out (by rintro w' ⟨v0, v1, v2, v3, v4, v5, v6, v7, v8, v9, v10, v11, v12, v13, v14, -⟩; simp only at v0 v1 v2 v3 v4 v5 v6 v7 v8 v9 v10 v11 v12 v13 v14; go_simp; rfl) ?_
  simp only [Act.put, List.setIfInBounds_toArray, List.set_cons_succ, List.set_cons_zero]
  refine hld_take 5 rfl (by kernel_rfl) (by kernel_rfl) (by kernel_rfl) (fun _ _ _ h => h) rfl HAC.out (by rintro w' ⟨v0, v1, v2, v3, v4, v5, v6, v7, v8, v9, v10, v11, v12, v13, v14, -⟩; simp only at v0 v1 v2 v3 v4 v5 v6 v7 v8 v9 v10 v11 v12 v13 v14; go_simp; rfl) ?_
  simp only [Act.put, List.setIfInBounds_toArray, List.set_cons_succ, List.set_cons_zero]
  refine hld_take 6 rfl (by kernel_rfl) (by kernel_rfl) (by kernel_rfl) (fun _ _ _ h => h) rfl HAC.out (by rintro w' ⟨v0, v1, v2, v3, v4, v5, v6, v7, v8, v9, v10, v11, v12, v13, v14, -⟩; simp only at v0 v1 v2 v3 v4 v5 v6 v7 v8 v9 v10 v11 v12 v13 v14; go_simp; rfl) ?_
  simp only [Act.put, List.setIfInBounds_toArray, List.set_cons_succ, List.set_cons_zero]
  refine hld_take 7 rfl (by kernel_rfl) (by kernel_rfl) (by kernel_rfl) (fun _ _ _ h => h) rfl HAC.out (by rintro w' ⟨v0, v1, v2, v3, v4, v5, v6, v7, v8, v9, v10, v11, v12, v13, v14, -⟩; simp only at v0 v1 v2 v3 v4 v5 v6 v7 v8 v9 v10 v11 v12 v13 v14; go_simp; rfl) ?_
  simp only [Act.put, List.setIfInBounds_toArray, List.set_cons_succ, List.set_cons_zero]
  refine hld_take 8 rfl (by kernel_rfl) (by kernel_rfl) (by kernel_rfl) (fun _ _ _ h => h) rfl HAC.out (by rintro w' ⟨v0, v1, v2, v3, v4, v5, v6, v7, v8, v9, v10, v11, v12, v13, v14, -⟩; simp only at v0 v1 v2 v3 v4 v5 v6 v7 v8 v9 v10 v11 v12 v13 v14; go_simp; rfl) ?_
  simp only [Act.put, List.setIfInBounds_toArray, List.set_cons_succ, List.set_cons_zero]
  refine hld_take 9 rfl (by kernel_rfl) (by kernel_rfl) (by kernel_rfl) (fun _ _ _ h => h) rfl HAC.out (by rintro w' ⟨v0, v1, v2, v3, v4, v5, v6, v7, v8, v9, v10, v11, v12, v13, v14, -⟩; simp only at v0 v1 v2 v3 v4 v5 v6 v7 v8 v9 v10 v11 v12 v13 v14; go_simp; rfl) ?_
  simp only [Act.put, List.setIfInBounds_toArray, List.set_cons_succ, List.set_cons_zero]
  refine hld_take 10 rfl (by kernel_rfl) (by kernel_rfl) (by kernel_rfl) (fun _ _ _ h => h) rfl HAC.out (by rintro w' ⟨v0, v1, v2, v3, v4, v5, v6, v7, v8, v9, v10, v11, v12, v13, v14, -⟩; simp only at v0 v1 v2 v3 v4 v5 v6 v7 v8 v9 v10 v11 v12 v13 v14; go_simp; rfl) ?_
  simp only [Act.put, List.setIfInBounds_toArray, List.set_cons_succ, List.set_cons_zero]
  refine hld_take 11 rfl (by kernel_rfl) (by kernel_rfl) (by kernel_rfl) (fun _ _ _ h => h) rfl HAC.out (by rintro w' ⟨v0, v1, v2, v3, v4, v5, v6, v7, v8, v9, v10, v11, v12, v13, v14, -⟩; simp only at v0 v1 v2 v3 v4 v5 v6 v7 v8 v9 v10 v11 v12 v13 v14; go_simp; rfl) ?_
  simp only [Act.put, List.setIfInBounds_toArray, List.set_cons_succ, List.set_cons_zero]
  refine hld_take 12 rfl (by kernel_rfl) (by kernel_rfl) (by kernel_rfl) (fun _ _ _ h => h) rfl HAC.out (by rintro w' ⟨v0, v1, v2, v3, v4, v5, v6, v7, v8, v9, v10, v11, v12, v13, v14, -⟩; simp only at v0 v1 v2 v3 v4 v5 v6 v7 v8 v9 v10 v11 v12 v13 v14; go_simp; rfl) ?_
  simp only [Act.put, List.setIfInBounds_toArray, List.set_cons_succ, List.set_cons_zero]
  refine hld_take 13 rfl (by kernel_rfl) (by kernel_rfl) (by kernel_rfl) (fun _ _ _ h => h) rfl HAC.out (by rintro w' ⟨v0, v1, v2, v3, v4, v5, v6, v7, v8, v9, v10, v11, v12, v13, v14, -⟩; simp only at v0 v1 v2 v3 v4 v5 v6 v7 v8 v9 v10 v11 v12 v13 v14; go_simp; rfl) ?_
  simp only [Act.put, List.setIfInBounds_toArray, List.set_cons_succ, List.set_cons_zero]
  refine hld_take 14 rfl (by kernel_rfl) (by kernel_rfl) (by kernel_rfl) (fun _ _ _ h => h) rfl HAC.out (by rintro w' ⟨v0, v1, v2, v3, v4, v5, v6, v7, v8, v9, v10, v11, v12, v13, v14, -⟩; simp only at v0 v1 v2 v3 v4 v5 v6 v7 v8 v9 v10 v11 v12 v13 v14; go_simp; rfl) ?_
  simp only [Act.put, List.setIfInBounds_toArray, List.set_cons_succ, List.set_cons_zero]
  refine hld_take 15 rfl (by kernel_rfl) (by kernel_rfl) (by kernel_rfl) (fun _ _ _ h => h) rfl HAC.out (by rintro w' ⟨v0, v1, v2, v3, v4, v5, v6, v7, v8, v9, v10, v11, v12, v13, v14, -⟩; simp only at v0 v1 v2 v3 v4 v5 v6 v7 v8 v9 v10 v11 v12 v13 v14; go_simp; rfl) ?_
  simp only [Act.put, List.setIfInBounds_toArray, List.set_cons_succ, List.set_cons_zero]
  refine hld_take 16 rfl (by kernel_rfl) (by kernel_rfl) (by kernel_rfl) (fun _ _ _ h => h) rfl HAC.out (by rintro w' ⟨v0, v1, v2, v3, v4, v5, v6, v7, v8, v9, v10, v11, v12, v13, v14, -⟩; simp only at v0 v1 v2 v3 v4 v5 v6 v7 v8 v9 v10 v11 v12 v13 v14; go_simp; rfl) ?_
  simp only [Act.put, List.setIfInBounds_toArray, List.set_cons_succ, List.set_cons_zero]
  refine hld_take 17 rfl (by kernel_rfl) (by kernel_rfl) (by kernel_rfl) (fun _ _ _ h => h) rfl HAC.out (by rintro w' ⟨v0, v1, v2, v3, v4, v5, v6, v7, v8, v9, v10, v11, v12, v13, v14, -⟩; simp only at v0 v1 v2 v3 v4 v5 v6 v7 v8 v9 v10 v11 v12 v13 v14; go_simp; rfl) ?_
  simp only [Act.put, List.setIfInBounds_toArray, List.set_cons_succ, List.set_cons_zero]
  refine hld_take 18 rfl (by kernel_rfl) (by kernel_rfl) (by kernel_rfl) (fun _ _ _ h => h) rfl HAC.out (by rintro w' ⟨v0, v1, v2, v3, v4, v5, v6, v7, v8, v9, v10, v11, v12, v13, v14, -⟩; simp only at v0 v1 v2 v3 v4 v5 v6 v7 v8 v9 v10 v11 v12 v13 v14; go_simp; rfl) ?_
  simp only [Act.put, List.setIfInBounds_toArray, List.set_cons_succ, List.set_cons_zero]
  refine hld_take 19 rfl (by kernel_rfl) (by kernel_rfl) (by kernel_rfl) (fun _ _ _ h => h) rfl HAC.out (by rintro w' ⟨v0, v1, v2, v3, v4, v5, v6, v7, v8, v9, v10, v11, v12, v13, v14, -⟩; simp only at v0 v1 v2 v3 v4 v5 v6 v7 v8 v9 v10 v11 v12 v13 v14; go_simp; rfl) ?_
  simp only [Act.put, List.setIfInBounds_toArray, List.set_cons_succ, List.set_cons_zero]
  refine hld_take 20 rfl (by kernel_rfl) (by kernel_rfl) (by kernel_rfl) (fun _ _ _ h => h) rfl HAC.out (by rintro w' ⟨v0, v1, v2, v3, v4, v5, v6, v7, v8, v9, v10, v11, v12, v13, v14, -⟩; simp only at v0 v1 v2 v3 v4 v5 v6 v7 v8 v9 v10 v11 v12 v13 v14; go_simp; rfl) ?_
  simp only [Act.put, List.setIfInBounds_toArray, List.set_cons_succ, List.set_cons_zero]
  refine hld_take 21 rfl (by kernel_rfl) (by kernel_rfl) (by kernel_rfl) (fun _ _ _ h => h) rfl HAC.out (by rintro w' ⟨v0, v1, v2, v3, v4, v5, v6, v7, v8, v9, v10, v11, v12, v13, v14, -⟩; simp only at v0 v1 v2 v3 v4 v5 v6 v7 v8 v9 v10 v11 v12 v13 v14; go_simp; rfl) ?_
  simp only [Act.put, List.setIfInBounds_toArray, List.set_cons_succ, List.set_cons_zero]
  refine hld_take 22 rfl (by kernel_rfl) (by kernel_rfl) (by kernel_rfl) (fun _ _ _ h => h) rfl HAC.out (by rintro w' ⟨v0, v1, v2, v3, v4, v5, v6, v7, v8, v9, v10, v11, v12, v13, v14, -⟩; simp only at v0 v1 v2 v3 v4 v5 v6 v7 v8 v9 v10 v11 v12 v13 v14; go_simp; rfl) ?_
  simp only [Act.put, List.setIfInBounds_toArray, List.set_cons_succ, List.set_cons_zero]
  refine hld_take 23 rfl (by kernel_rfl) (by kernel_rfl) (by kernel_rfl) (fun _ _ _ h => h) rfl HAC.out (by rintro w' ⟨v0, v1, v2, v3, v4, v5, v6, v7, v8, v9, v10, v11, v12, v13, v14, -⟩; simp only at v0 v1 v2 v3 v4 v5 v6 v7 v8 v9 v10 v11 v12 v13 v14; go_simp; rfl) ?_
  simp only [Act.put, List.setIfInBounds_toArray, List.set_cons_succ, List.set_cons_zero]
  refine hld_take 24 rfl (by kernel_rfl) (by kernel_rfl) (by kernel_rfl) (fun _ _ _ h => h) rfl HAC.out (by rintro w' ⟨v0, v1, v2, v3, v4, v5, v6, v7, v8, v9, v10, v11, v12, v13, v14, -⟩; simp only at v0 v1 v2 v3 v4 v5 v6 v7 v8 v9 v10 v11 v12 v13 v14; go_simp; rfl) ?_
  simp only [Act.put, List.setIfInBounds_toArray, List.set_cons_succ, List.set_cons_zero]
  refine hld_take 25 rfl (by kernel_rfl) (by kernel_rfl) (by kernel_rfl) (fun _ _ _ h => h) rfl HAC.out (by rintro w' ⟨v0, v1, v2, v3, v4, v5, v6, v7, v8, v9, v10, v11, v12, v13, v14, -⟩; simp only at v0 v1 v2 v3 v4 v5 v6 v7 v8 v9 v10 v11 v12 v13 v14; go_simp; rfl) ?_
  simp only [Act.put, List.setIfInBounds_toArray, List.set_cons_succ, List.set_cons_zero]
  refine hld_take 26 rfl (by kernel_rfl) (by kernel_rfl) (by kernel_rfl) (fun _ _ _ h => h) rfl HAC.out (by rintro w' ⟨v0, v1, v2, v3, v4, v5, v6, v7, v8, v9, v10, v11, v12, v13, v14, -⟩; simp only at v0 v1 v2 v3 v4 v5 v6 v7 v8 v9 v10 v11 v12 v13 v14; go_simp; rfl) ?_
  simp only [Act.put, List.setIfInBounds_toArray, List.set_cons_succ, List.set_cons_zero]
  refine hld_take 27 rfl (by kernel_rfl) (by kernel_rfl) (by kernel_rfl) (fun _ _ _ h => h) rfl HAC.out (by rintro w' ⟨v0, v1, v2, v3, v4, v5, v6, v7, v8, v9, v10, v11, v12, v13, v14, -⟩; simp only at v0 v1 v2 v3 v4 v5 v6 v7 v8 v9 v10 v11 v12 v13 v14; go_simp; rfl) ?_
  simp only [Act.put, List.setIfInBounds_toArray, List.set_cons_succ, List.set_cons_zero]
  refine hld_take 28 rfl (by kernel_rfl) (by kernel_rfl) (by kernel_rfl) (fun _ _ _ h => h) rfl HAC.out (by rintro w' ⟨v0, v1, v2, v3, v4, v5, v6, v7, v8, v9, v10, v11, v12, v13, v14, -⟩; simp only at v0 v1 v2 v3 v4 v5 v6 v7 v8 v9 v10 v11 v12 v13 v14; go_simp; rfl) ?_
  simp only [Act.put, List.setIfInBounds_toArray, List.set_cons_succ, List.set_cons_zero]
  refine hld_take 29 rfl (by kernel_rfl) (by kernel_rfl) (by kernel_rfl) (fun _ _ _ h => h) rfl HAC.out (by rintro w' ⟨v0, v1, v2, v3, v4, v5, v6, v7, v8, v9, v10, v11, v12, v13, v14, -⟩; simp only at v0 v1 v2 v3 v4 v5 v6 v7 v8 v9 v10 v11 v12 v13 v14; go_simp; rfl) ?_
  simp only [Act.put, List.setIfInBounds_toArray, List.set_cons_succ, List.set_cons_zero]
  refine hld_take 30 rfl (by kernel_rfl) (by kernel_rfl) (by kernel_rfl) (fun _ _ _ h => h) rfl HAC.out (by rintro w' ⟨v0, v1, v2, v3, v4, v5, v6, v7, v8, v9, v10, v11, v12, v13, v14, -⟩; simp only at v0 v1 v2 v3 v4 v5 v6 v7 v8 v9 v10 v11 v12 v13 v14; go_simp; rfl) ?_
  simp only [Act.put, List.setIfInBounds_toArray, List.set_cons_succ, List.set_cons_zero]
  refine hld_take 31 rfl (by kernel_rfl) (by kernel_rfl) (by kernel_rfl) (fun _ _ _ h => h) rfl HAC.out (by rintro w' ⟨v0, v1, v2, v3, v4, v5, v6, v7, v8, v9, v10, v11, v12, v13, v14, -⟩; simp only at v0 v1 v2 v3 v4 v5 v6 v7 v8 v9 v10 v11 v12 v13 v14; go_simp; rfl) ?_
  simp only [Act.put, List.setIfInBounds_toArray, List.set_cons_succ, List.set_cons_zero]
  refine hld_take 32 rfl (by kernel_rfl) (by kernel_rfl) (by kernel_rfl) (fun _ _ _ h => h) rfl HAC.out (by rintro w' ⟨v0, v1, v2, v3, v4, v5, v6, v7, v8, v9, v10, v11, v12, v13, v14, -⟩; simp only at v0 v1 v2 v3 v4 v5 v6 v7 v8 v9 v10 v11 v12 v13 v14; go_simp; rfl) ?_
  simp only [Act.put, List.setIfInBounds_toArray, List.set_cons_succ, List.set_cons_zero]
  refine hld_take 33 rfl (by kernel_rfl) (by kernel_rfl) (by kernel_rfl) (fun _ _ _ h => h) rfl HAC.out (by rintro w' ⟨v0, v1, v2, v3, v4, v5, v6, v7, v8, v9, v10, v11, v12, v13, v14, -⟩; simp only at v0 v1 v2 v3 v4 v5 v6 v7 v8 v9 v10 v11 v12 v13 v14; go_simp; rfl) ?_
  simp only [Act.put, List.setIfInBounds_toArray, List.set_cons_succ, List.set_cons_zero]
  refine hld_take 34 rfl (by kernel_rfl) (by kernel_rfl) (by kernel_rfl) (fun _ _ _ h => h) rfl HAC.out (by rintro w' ⟨v0, v1, v2, v3, v4, v5, v6, v7, v8, v9, v10, v11, v12, v13, v14, -⟩; simp only at v0 v1 v2 v3 v4 v5 v6 v7 v8 v9 v10 v11 v12 v13 v14; go_simp; rfl) ?_
  simp only [Act.put, List.setIfInBounds_toArray, List.set_cons_succ, List.set_cons_zero]
  refine hld_take 35 rfl (by kernel_rfl) (by kernel_rfl) (by kernel_rfl) (fun _ _ _ h => h) rfl HAC.out (by rintro w' ⟨v0, v1, v2, v3, v4, v5, v6, v7, v8, v9, v10, v11, v12, v13, v14, -⟩; simp only at v0 v1 v2 v3 v4 v5 v6 v7 v8 v9 v10 v11 v12 v13 v14; go_simp; rfl) ?_
  simp only [Act.put, List.setIfInBounds_toArray, List.set_cons_succ, List.set_cons_zero]
  refine hld_take 36 rfl (by kernel_rfl) (by kernel_rfl) (by kernel_rfl) (fun _ _ _ h => h) rfl HAC.out (by rintro w' ⟨v0, v1, v2, v3, v4, v5, v6, v7, v8, v9, v10, v11, v12, v13, v14, -⟩; simp only at v0 v1 v2 v3 v4 v5 v6 v7 v8 v9 v10 v11 v12 v13 v14; go_simp; rfl) ?_
  simp only [Act.put, List.setIfInBounds_toArray, List.set_cons_succ, List.set_cons_zero]
  refine hld_take 37 rfl (by kernel_rfl) (by kernel_rfl) (by kernel_rfl) (fun _ _ _ h => h) rfl HAC.out (by rintro w' ⟨v0, v1, v2, v3, v4, v5, v6, v7, v8, v9, v10, v11, v12, v13, v14, -⟩; simp only at v0 v1 v2 v3 v4 v5 v6 v7 v8 v9 v10 v11 v12 v13 v14; go_simp; rfl) ?_
  simp only [Act.put, List.setIfInBounds_toArray, List.set_cons_succ, List.set_cons_zero]
  refine hld_take 38 rfl (by kernel_rfl) (by kernel_rfl) (by kernel_rfl) (fun _ _ _ h => h) rfl HAC.out (by rintro w' ⟨v0, v1, v2, v3, v4, v5, v6, v7, v8, v9, v10, v11, v12, v13, v14, -⟩; simp only at v0 v1 v2 v3 v4 v5 v6 v7 v8 v9 v10 v11 v12 v13 v14; go_simp; rfl) ?_
  simp only [Act.put, List.setIfInBounds_toArray, List.set_cons_succ, List.set_cons_zero]
  refine hld_take 39 rfl (by kernel_rfl) (by kernel_rfl) (by kernel_rfl) (fun _ _ _ h => h) rfl HAC.out (by rintro w' ⟨v0, v1, v2, v3, v4, v5, v6, v7, v8, v9, v10, v11, v12, v13, v14, -⟩; simp only at v0 v1 v2 v3 v4 v5 v6 v7 v8 v9 v10 v11 v12 v13 v14; go_simp; rfl) ?_
  simp only [Act.put, List.setIfInBounds_toArray, List.set_cons_succ, List.set_cons_zero]
  refine hld_bar 40 rfl (by kernel_rfl) rfl (fun K hK => ?_)
  go_wp2_with fail
  obtain ⟨W6, hW6⟩ : ∃ W : World, W = W5.alloc (.cells #[.int .i64 1] 3) := ⟨_, rfl⟩
  rw [← hW6]
  have hbw : Below W5.heap.size W5 W6 := by rw [hW6]; exact (Below.refl _ _).alloc (Nat.le_refl _) _
  have HB7 := Lib.hid (below_next HB6.out hbw)
  have HK7 := Lib.hid (show IntsAt _ W6 _ _ from RowAt.below HK6.out (by omega) hbw)
  have HAC2 := Lib.hid (HAC.out.below hbw)
  have HI7 := Lib.hid (show IntsAt (fun _ => True) W6 (.slice (some ⟨W5.heap.size, 0, none⟩) 1 1) [1] by rw [hW6]; exact (row_lit (cells := [.int .i64 1]) (heap_alloc_new W5 _) rfl (by decide)).weak (fun _ _ => trivial))
  clear hW6 hbw HAC
  have HAC := HAC2
  refine ⟨HAC.out, ?_⟩
  refine hld_bar 41 rfl (by kernel_rfl) rfl (fun K hK => ?_)
  go_wp2_with (go_at_call 21; refine (ints04_any _ _ _ _ [1] [1] _ HK7.out HI7.out).mono ?_; rintro e w8 ⟨rfl, hb8⟩)
  have HB8 := Lib.hid (below_next HB7.out hb8)
  have HAC3 := Lib.hid (HAC.out.below hb8)
  clear HAC HAC2 hb8
  have HAC := HAC3
  refine ⟨HAC.out, ?_⟩
  refine hld_take 42 rfl (by kernel_rfl) (by kernel_rfl) (by kernel_rfl) (fun _ _ _ h => h) rfl HAC.out (by rintro w' ⟨v0, v1, v2, v3, v4, v5, v6, v7, v8, v9, v10, v11, v12, v13, v14, -⟩; simp only at v0 v1 v2 v3 v4 v5 v6 v7 v8 v9 v10 v11 v12 v13 v14; go_simp; rfl) ?_
  simp only [Act.put, List.setIfInBounds_toArray, List.set_cons_succ, List.set_cons_zero]
  refine hld_take 43 rfl (by kernel_rfl) (by kernel_rfl) (by kernel_rfl) (fun _ _ _ h => h) rfl HAC.out (by rintro w' ⟨v0, v1, v2, v3, v4, v5, v6, v7, v8, v9, v10, v11, v12, v13, v14, -⟩; simp only at v0 v1 v2 v3 v4 v5 v6 v7 v8 v9 v10 v11 v12 v13 v14; go_simp; rfl) ?_
  simp only [Act.put, List.setIfInBounds_toArray, List.set_cons_zero]
  refine hld_done (by kernel_rfl) ?_
  go_wp2_with fail
  go_ret
  exact ⟨rfl, HB8.out⟩

end Go.Proofs.YtndgmcggckpgfaaGreatDoor

/- What the laws of package liveness carry along (those with the reference). -/
namespace Go.Proofs.YtndgmcggckpgfaaGreatDoor
open Go.RowKit

/-- What a law of the chapter carries along. -/
structure LCtx (w0 w : World) (sv cv : Value) (roots : List Ref) (cs : List (ByteArray × List UInt8)) : Prop where
  env : Env w
  snaps : SnapsAt (fun _ => True) w sv roots
  cont : ContIn (fun _ => True) w cv cs
  below : Below w0.heap.size w0 w
theorem LCtx.next {w0 w w' : World} {sv cv : Value} {roots : List Ref} {cs : List (ByteArray × List UInt8)} (h : LCtx w0 w sv cv roots cs) (hb : Below w.heap.size w w') : LCtx w0 w' sv cv roots cs :=
  ⟨h.env.below hb, SeqAt.below h.snaps (by omega) hb (fun _ _ _ h => h), h.cont.below hb, below_next h.below hb⟩
theorem lens_one {w : World} {a : Option Addr} {n cap : Nat} (h1 : n ≤ cap) (h2 : cap ≤ maxLen) : LensAt (fun _ => True) (w.alloc (.cells #[.slice a n cap] 22)) (.slice (some ⟨w.heap.size, 0, none⟩) 1 1) [n] :=
  ⟨[.slice a n cap], (row_lit (cells := [.slice a n cap]) (heap_alloc_new w _) rfl (by decide)).weak (fun _ _ => trivial), ⟨[.slice a n cap], [], rfl, ⟨a, cap, rfl, h1, h2⟩, rfl⟩⟩
theorem lens_two {w : World} {a a2 : Option Addr} {n cap n2 cap2 : Nat} (h1 : n ≤ cap) (h2 : cap ≤ maxLen) (h3 : n2 ≤ cap2) (h4 : cap2 ≤ maxLen) : LensAt (fun _ => True) (w.alloc (.cells #[.slice a n cap, .slice a2 n2 cap2] 22)) (.slice (some ⟨w.heap.size, 0, none⟩) 2 2) [n, n2] :=
  ⟨[.slice a n cap, .slice a2 n2 cap2], (row_lit (cells := [.slice a n cap, .slice a2 n2 cap2]) (heap_alloc_new w _) rfl (by decide)).weak (fun _ _ => trivial), ⟨[.slice a n cap], _, rfl, ⟨a, cap, rfl, h1, h2⟩, ⟨[.slice a2 n2 cap2], [], rfl, ⟨a2, cap2, rfl, h3, h4⟩, rfl⟩⟩⟩
/-- Two lists of snapshots. -/
structure LCtx2 (w0 w : World) (av bv cv : Value) (ra rb : List Ref) (cs : List (ByteArray × List UInt8)) : Prop where
  env : Env w
  a : SnapsAt (fun _ => True) w av ra
  b : SnapsAt (fun _ => True) w bv rb
  cont : ContIn (fun _ => True) w cv cs
  below : Below w0.heap.size w0 w
theorem LCtx2.next {w0 w w' : World} {av bv cv : Value} {ra rb : List Ref} {cs : List (ByteArray × List UInt8)} (h : LCtx2 w0 w av bv cv ra rb cs) (hb : Below w.heap.size w w') : LCtx2 w0 w' av bv cv ra rb cs :=
  ⟨h.env.below hb, SeqAt.below h.a (by omega) hb (fun _ _ _ h => h), SeqAt.below h.b (by omega) hb (fun _ _ _ h => h), h.cont.below hb, below_next h.below hb⟩
theorem cont_map {S : Nat → Prop} {w : World} {cv : Value} {cs : List (ByteArray × List UInt8)} (h : ContIn S w cv cs) : ∃ cm, cv = .map cm := by
  rcases h with ⟨h, _⟩ | ⟨b, _, _, h, _⟩ <;> exact ⟨_, h⟩
theorem exclE_in {need : Ref → Except Int (List Ref)} {roots : List Ref} {ix : Nat} (h : ix < roots.length) : exclE need roots (ix : Int) = mapE (fun ls => lessP (ls.getD ix []) (unionP (ls.eraseIdx ix))) (eachP need roots) := by
  unfold exclE; rw [if_neg (by omega), Int.toNat_natCast]
theorem sameRefs_is (S T : Nat → Prop) (v u : Value) (rs ss : List Ref) (b : Bool) (w : World) (hv : RefsAt S w v rs) (hu : RefsAt T w u ss) (h : decide (rs = ss) = b) :
    Calls Tryz.prog 12 #[v, u] w fun e w' => e = .returned (.bool b) ∧ Below w.heap.size w w' := by rw [← h]; exact sameRefs_any S T v u rs ss w hv hu
theorem union_le {cs : List (ByteArray × List UInt8)} (hn : NeedOk cs (needF cs)) {roots : List Ref} (hr : ∀ r ∈ roots, RefOk r) {ls : List (List Ref)} (h : eachP (needF cs) roots = .ok ls) (hlen : roots.length ≤ 1000) : (unionP ls).length < 4398046511104 := by
  have h1 := unionP_len (eachP_le hn hr h)
  rw [eachP_len h] at h1
  exact Nat.lt_of_le_of_lt (Nat.le_trans h1 (Nat.mul_le_mul_right _ hlen)) (by decide)

end Go.Proofs.YtndgmcggckpgfaaGreatDoor

/- What the laws share: from the form's words (shaped, laid) to the walks' premises, and back. -/
namespace Go.Proofs.YtndgmcggckpgfaaGreatDoor
open Go.ChangeShapes Go.WideShapes Go.ChangeAt Go.RowKit Go.Lib Go.Shelf
open Go.ChangeMaps (open_string shut_string)

section
variable {H : Type} {enc : TypeId × Value → H}
/-- The wrap that hands on both the shape of the world and a further condition. -/
theorem handed {a : Assume} {C : Checked} {os : Os} {f : FuncId} {fn : Func} {s : ChangeSpec} {conds : List PathCond} {apart fresh handsOn again : Bool} {X : World → Array Value → Prop}
    (hX : ∀ (w w' : World) (args : Array Value), w.heap = w'.heap → X w args → X w' args)
    (own : ownKnob C.prog.godebug = none) (started : os.Started) (noInit : C.prog.inits.idxOf? f = none) (hfn : C.prog.funcs[f]? = some fn)
    (witness : ∃ (w : World) (tape : Tape) (i : Input), w.os = os ∧ (w.forCall tape i).Shaped C.prog ∧ i.vars = [] ∧ Input.okWide C.prog (w.forCall tape i) .any w.heap.size f i ∧
      ((s.pre enc C.prog fn conds apart (w.forCall tape i).memory i.args ∧ X (w.forCall tape i).memory i.args) ∧ sizedMet enc C.prog fn (OpenSpec.ofChange s) apart (w.forCall tape i).memory i.args) ∧ a.holds C.prog (lone (Frame.enter C.prog f i.args .normal) [] (w.forCall tape i)))
    (contract : ∀ (W : World) (base : Nat) (args : Array Value) (ds gs : List (DataW H)) (before : List MemPlace),
      (∀ (j : Nat) t v, fn.params[j]? = some t → args[j]? = some v → Value.okWide C.prog W .any base t v) →
      DataW.Whole enc C.prog fn.params.toList s.vars apart W args.toList ds gs before →
      (DataW.weightsEach C.prog (fn.params.toList ++ s.plain.varTypes C.prog) (ds ++ gs)).all (· ≤ reachBytes) = true → X W args → W.ShapedOpen C.prog →
      Calls C.prog f args W fun e W' => ∃ v, e = .returned v ∧ s.post enc C.prog fn apart fresh handsOn again W args v W') :
    ReturnsInHanded a C os f .any (fun w args => (s.pre enc C.prog fn conds apart w args ∧ X w args) ∧ sizedMet enc C.prog fn (OpenSpec.ofChange s) apart w args) (s.post enc C.prog fn apart fresh handsOn again) := by
  refine returnsInHanded_of_calls own started noInit witness ?_
  intro w tape i _ hsh _ hok hpre hholds
  obtain ⟨_, _, _, fn', hfn', _, _, _, _, hval⟩ := hok
  have e : fn' = fn := Option.some.inj (hfn'.symm.trans hfn)
  subst e
  obtain ⟨⟨⟨ds, gs, before, hw, hc⟩, hx⟩, hz⟩ := hpre
  have hw' := DataW.Whole.of_heap (w' := w.forCall tape i) (by rfl) hw
  refine (contract (w.forCall tape i) w.heap.size i.args ds gs before hval hw' (hz.weights hw) (hX _ _ _ (by rfl) hx) hsh).mono fun e W' ⟨v, he, hp⟩ => ?_
  subst he
  exact ChangeSpec.post_blind hp
end

def laidL : List (String × DataW Unit) := [("unicode/utf8.acceptRanges", Rows.laid_unicode_utf8_acceptRanges), ("unicode/utf8.first", Rows.laid_unicode_utf8_first)]
theorem own : ownKnob Tryz.prog.godebug = none := by kernel_rfl
theorem accept_eq : (Rows.laid_unicode_utf8_acceptRanges : DataW Unit) = acceptData := by kernel_rfl
theorem env_of {W : World} (hL : laidMetH Tryz.prog laidL W) (hsh : W.ShapedOpen Tryz.prog) : Env W := by
  rw [MakeChecks.laidMetH_plain _ _ _ (by kernel_rfl)] at hL
  refine ⟨?_, ?_⟩
  · exact cell_of_shapedOpen_int (zero := #[.int .i64 0]) (t := 3) hsh (of_decide_eq_true (by kernel_rfl)) (by kernel_rfl) rfl (by kernel_rfl) (by kernel_rfl) Tryz.underlying3
  · have h1 := Lib.laidMet.reads hL (.head _)
    have h2 := Lib.laidMet.reads hL (.tail _ (.head _))
    rw [accept_eq] at h1
    exact utf8Tabs_of_readsT (U8Types.of196 Tryz.laysValid) ⟨by kernel_rfl, by kernel_rfl, by kernel_rfl, by kernel_rfl, by kernel_rfl, by kernel_rfl, by kernel_rfl⟩ (Pinned.utf8First_eq ▸ h2) h1

end Go.Proofs.YtndgmcggckpgfaaGreatDoor

/- Contracts of package liveness: setOf, divide, Idle. -/
namespace Go.Proofs.YtndgmcggckpgfaaGreatDoor
open Go.RowKit

def SetOfRes (rs : List Ref) (w : World) (e : Ending) (w' : World) : Prop := Below w.heap.size w w' ∧ ∃ nb mb v, e = .returned (.pointer (some ⟨nb, 0, none⟩)) ∧ StAt w' w.heap.size nb mb v (menAll rs [])
/-- A stripe: its name and its references. -/
structure Stripe where
  id : ByteArray
  refs : List Ref
def StripeR (S : Nat → Prop) (w : World) (c : List Value) (x : Stripe) : Prop := ∃ (a1 a2 a3 a4 : Int) (rv : Value), c = [.string x.id, .int .i64 a1, .int .i64 a2, .int .i64 a3, .int .i64 a4, rv] ∧ RefsAt S w rv x.refs
theorem StripeR.len {S : Nat → Prop} {w : World} (c : List Value) (x : Stripe) (h : StripeR S w c x) : c.length = 6 := by obtain ⟨_, _, _, _, _, rfl, _⟩ := h; rfl
def StripesAt (S : Nat → Prop) (w : World) (v : Value) (xs : List Stripe) : Prop := SeqAt S w 6 (StripeR S w) v xs
theorem StripesAt.below {S : Nat → Prop} {w w' : World} {v : Value} {xs : List Stripe} (h : StripesAt S w v xs) (hb : Below w.heap.size w w') : StripesAt S w' v xs :=
  SeqAt.below h (by omega) hb (fun c x _ ⟨a1, a2, a3, a4, rv, h1, h2⟩ => ⟨a1, a2, a3, a4, rv, h1, SeqAt.below h2 (by omega) hb (fun _ _ _ h => h)⟩)
theorem stripes_at {S : Nat → Prop} {w w' : World} {a : Option Addr} {n cap : Nat} {xs : List Stripe} (hv : StripesAt S w (.slice a n cap) xs) (hb : Below w.heap.size w w') {k : Nat} {x : Stripe} (hx : xs[k]? = some x) :
    ∃ b o a1 a2 a3 a4 ra rc, a = some ⟨b, o, none⟩ ∧ x.refs.length ≤ rc ∧ rc ≤ maxLen ∧ RefsAt S w' (.slice ra x.refs.length rc) x.refs ∧ ∀ j, j < 6 → w'.cell? ⟨b, o + k * 6 + j, none⟩ = ([.string x.id, .int .i64 a1, .int .i64 a2, .int .i64 a3, .int .i64 a4, .slice ra x.refs.length rc] : List Value)[j]? := by
  obtain ⟨a', cap', hv', _, _, hxx⟩ := SeqAt.shape hv StripeR.len
  cases hv'
  obtain ⟨b, o, c, rfl, hS, ⟨a1, a2, a3, a4, rv, rfl, hrf⟩, _, hcl⟩ := hxx k x hx
  obtain ⟨ra, rc, rfl, h1, h2, -⟩ := SeqAt.shape hrf RefR.len
  have q0 := hcl 0 (by omega)
  have hlt : b < w.heap.size := block_lt (a := ⟨b, o + (k * 6 + 0), none⟩) (v := .string x.id) q0
  refine ⟨b, o, a1, a2, a3, a4, ra, rc, rfl, h1, h2, SeqAt.below hrf (by omega) hb (fun _ _ _ h => h), fun j hj => ?_⟩
  rw [Nat.add_assoc]
  exact (hb.cell (p := ⟨b, o + (k * 6 + j), none⟩) hlt).trans (hcl j hj)
def usedB (refs l : List Ref) : Bool := refs.any fun r => decide (r ∈ l)
def idsP (b : Bool) (xs : List Stripe) (l : List Ref) : List ByteArray := (xs.filter fun x => usedB x.refs l == b).map Stripe.id
theorem idsP_snoc (b : Bool) (xs : List Stripe) (l : List Ref) (x : Stripe) : idsP b (xs ++ [x]) l = if usedB x.refs l = b then idsP b xs l ++ [x.id] else idsP b xs l := by
  unfold idsP
  rw [List.filter_append, List.map_append]
  by_cases h : usedB x.refs l = b <;> simp [h]
theorem idsP_le (b : Bool) (xs : List Stripe) (l : List Ref) : (idsP b xs l).length ≤ xs.length := by unfold idsP; rw [List.length_map]; exact List.length_filter_le _ _
def StrsRes (xs : List ByteArray) (w : World) (e : Ending) (w' : World) : Prop := ∃ v, e = .returned v ∧ StrsAt (w.heap.size ≤ ·) w' v xs ∧ Below w.heap.size w w'
def DivRes (i b : List ByteArray) (w : World) (e : Ending) (w' : World) : Prop := ∃ iv bv, e = .returned (.tuple #[iv, bv]) ∧ StrsAt (w.heap.size ≤ ·) w' iv i ∧ StrsAt (w.heap.size ≤ ·) w' bv b ∧ Below w.heap.size w w'

/-- What stands at the head of a round of divide. -/
structure DivAt (w wr : World) (nb mb : Nat) (sv iv bv : Value) (L : List Ref) (i b : List ByteArray) : Prop where
  set : StAt wr w.heap.size nb mb sv L
  idle : wr.ownsRow w.heap.size 9 1 iv i.length (i.map Value.string)
  busy : wr.ownsRow w.heap.size 9 1 bv b.length (b.map Value.string)
  apart : iv.ownBlock = none ∨ iv.ownBlock ≠ bv.ownBlock
  below : Below w.heap.size w wr
section
variable {w wr w' : World} {nb mb : Nat} {sv iv bv v' : Value} {L : List Ref} {i b : List ByteArray}
theorem DivAt.next (h : DivAt w wr nb mb sv iv bv L i b) (hb : Below wr.heap.size wr w') : DivAt w w' nb mb sv iv bv L i b :=
  ⟨h.set.below hb, owns_below h.idle hb, owns_below h.busy hb, h.apart, below_next h.below hb⟩
theorem strs_apart {w : World} {base base2 nb mb : Nat} {v uv : Value} {l : List Ref} {n : Nat} {xs : List Value} (h : StAt w base nb mb v l) (ho : w.ownsRow base2 9 1 uv n xs) {k : Nat} (hk : uv.ownBlock = some k) : ¬ StOwn nb mb v k := by
  obtain ⟨cs, hc⟩ := owns_block ho hk
  exact h.notown hc (by decide) (by decide)
theorem DivAt.addIdle (h : DivAt w wr nb mb sv iv bv L i b) {x : ByteArray} (ho : w'.ownsRow w.heap.size 9 1 v' (i.length + 1) (i.map Value.string ++ [.string x])) (hg : wr.grownBy w' iv.ownBlock) (hp : ∀ k, v'.ownBlock = some k → iv.ownBlock = some k ∨ wr.heap.size ≤ k) : DivAt w w' nb mb sv v' bv L (i ++ [x]) b := by
  refine ⟨h.set.keep (fun k hk ho2 => hg.block k hk (fun e => strs_apart h.set h.idle e.symm ho2)), by rw [List.length_append, List.map_append]; exact ho, h.busy.kept hg ?_, ?_, below_grown h.below h.idle hg (Nat.le_refl _) h.below.size⟩
  · rcases h.apart with e | e
    · rw [e]; cases bv.ownBlock <;> simp
    · exact .inr (Ne.symm e)
  · cases hv : v'.ownBlock with
    | none => exact .inl rfl
    | some k =>
      refine .inr (fun e => ?_)
      rcases hp k hv with e2 | e2
      · rcases h.apart with e3 | e3
        · rw [e3] at e2; cases e2
        · exact e3 (e2.trans e)
      · have := (h.busy.lt k e.symm).2; omega
theorem DivAt.addBusy (h : DivAt w wr nb mb sv iv bv L i b) {x : ByteArray} (ho : w'.ownsRow w.heap.size 9 1 v' (b.length + 1) (b.map Value.string ++ [.string x])) (hg : wr.grownBy w' bv.ownBlock) (hp : ∀ k, v'.ownBlock = some k → bv.ownBlock = some k ∨ wr.heap.size ≤ k) : DivAt w w' nb mb sv iv v' L i (b ++ [x]) := by
  refine ⟨h.set.keep (fun k hk ho2 => hg.block k hk (fun e => strs_apart h.set h.busy e.symm ho2)), h.idle.kept hg ?_, by rw [List.length_append, List.map_append]; exact ho, ?_, below_grown h.below h.busy hg (Nat.le_refl _) h.below.size⟩
  · exact h.apart
  · cases hv : iv.ownBlock with
    | none => exact .inl rfl
    | some k =>
      refine .inr (fun e => ?_)
      rcases hp k e.symm with e2 | e2
      · rcases h.apart with e3 | e3
        · rw [e3] at hv; cases hv
        · exact e3 (hv.trans e2.symm)
      · have := (h.idle.lt k hv).2; omega
end
end Go.Proofs.YtndgmcggckpgfaaGreatDoor

/- From the form's reading of slices, structs and maps to the rows of the walks. -/
namespace Go.Proofs.YtndgmcggckpgfaaGreatDoor
open Go.ChangeShapes Go.WideShapes Go.ChangeAt Go.RowKit Go.Lib Go.Shelf

section
variable {H : Type} {enc : TypeId × Value → H} {P : Program} {W : World} {base : Nat}
theorem add_add (a : Addr) (i j : Nat) : (a.add i).add j = a.add (i + j) := by
  unfold Addr.add
  by_cases hi : i = 0
  · simp [hi]
  · by_cases hj : j = 0
    · simp [hi, hj]
    · simp [hi, hj]; omega
/-- A slice as it is read, its elements' cells read by R. -/
theorem seq_read {α : Type} {R : List Value → α → Prop} {t e : TypeId} {sz : Nat} {spare : Nat → Bool} {held : Bool} {fuel : Nat} {cs0 : List Value} {y0 : DataW H × List MemPlace} (ht : P.underlying t = some (.slice e)) (hc : P.cellsOf e = sz) (hpos : 0 < sz)
    (hR : ∀ n cs y, DataW.trod enc P W base spare held n e cs = some y → ∃ x, R cs x) (hs : ∀ c x, R c x → c.length = sz)
    (hf : DataW.trod enc P W base spare held fuel t cs0 = some y0) : ∃ v, cs0 = [v] ∧ ∃ xs : List α, SeqAt (fun _ => True) W sz R v xs := by
  rcases DataW.trod_slice ht hf with ⟨hcs, _⟩ | ⟨a, len0, cap0, elems, rest, n, _, hcs, _, hb, hl, hm, hlen, hel, _, _⟩
  · exact ⟨_, hcs, [], SeqAt.nil⟩
  · refine ⟨_, hcs, ?_⟩
    rw [hc] at hel
    have each : ∀ i, i < len0 → ∃ cs x, R cs x ∧ cs.length = sz ∧ ∀ j, j < sz → W.cell? (a.add (i * sz + j)) = cs[j]? := by
      intro i hi
      have h1 := hel i hi
      rw [List.getElem?_eq_getElem (by omega), Option.bind_eq_some_iff] at h1
      obtain ⟨cs, hcs, hy⟩ := h1
      obtain ⟨x, hx⟩ := hR n cs _ hy
      refine ⟨cs, x, hx, hs cs x hx, fun j hj => ?_⟩
      have h3 := World.cells?_some hcs
      rw [← add_add]
      exact h3.2.2 j hj
    have main : ∀ m, m ≤ len0 → ∃ (cells : List Value) (xs : List α), xs.length = m ∧ cells.length = m * sz ∧ RowsIn R cells xs ∧ ∀ (j : Nat) u, cells[j]? = some u → W.cell? (a.add j) = some u := by
      intro m
      induction m with
      | zero => intro _; exact ⟨[], [], rfl, by simp, rfl, fun j u hj => by simp at hj⟩
      | succ m ih =>
        intro hm
        obtain ⟨cells, xs, h1, h2, h3, h4⟩ := ih (by omega)
        obtain ⟨cs, x, hx, hcl, hcc⟩ := each m (by omega)
        refine ⟨cells ++ cs, xs ++ [x], by simp [h1], by rw [List.length_append, h2, hcl, Nat.add_mul]; omega, RowsIn.snoc h3 hx, fun j u hj => ?_⟩
        rcases Nat.lt_or_ge j cells.length with hj2 | hj2
        · rw [List.getElem?_append_left hj2] at hj; exact h4 j u hj
        · rw [List.getElem?_append_right hj2] at hj
          have hlt := (List.getElem?_eq_some_iff.1 hj).1
          have := hcc (j - cells.length) (by omega)
          rw [h2, show m * sz + (j - m * sz) = j by omega] at this
          rw [this, ← h2]; exact hj
    obtain ⟨cells, xs, h1, h2, h3, h4⟩ := main len0 (Nat.le_refl _)
    subst h1
    refine ⟨xs, cells, ⟨h2, some a, cap0, rfl, hl, hm, ?_⟩, h3⟩
    rcases Nat.eq_zero_or_pos xs.length with h0 | h0
    · exact .inl h0
    · right
      have hpl : 0 < cells.length := by rw [h2]; exact Nat.mul_pos h0 hpos
      have hc0 := h4 0 cells[0] (by simp [hpl])
      have hsp : a.spot = none := by simpa [Addr.add] using World.cell?_spot hc0
      obtain ⟨b, o, sp⟩ := a
      simp only at hsp
      subst hsp
      refine ⟨b, o, rfl, trivial, fun j u hj => ?_⟩
      have := h4 j u hj
      rw [add_lit] at this; exact this
/-- A slice that came in: its elements' cells, read by R. -/
theorem open_seq {α : Type} {R : List Value → α → Prop} {t e : TypeId} {sz b0 : Nat} {spare : Nat → Bool} {held : Bool} {v : Value} {d : DataW H} {ps : List MemPlace} (ht : P.underlying t = some (.slice e)) (hc : P.cellsOf e = sz) (hpos : 0 < sz)
    (hR : ∀ n cs y, DataW.trod enc P W base spare held n e cs = some y → ∃ x, R cs x) (hs : ∀ c x, R c x → c.length = sz)
    (hval : Value.okWide P W .any b0 t v) (h : DataW.Trod enc P W base spare held t v d ps) : ∃ xs : List α, SeqAt (fun _ => True) W sz R v xs := by
  obtain ⟨a0, len0, cap0, rfl⟩ := okWide_slice ht hval
  obtain ⟨fuel, hf⟩ := h
  obtain ⟨v, h1, h2⟩ := seq_read ht hc hpos hR hs hf
  simp [Value.cells] at h1
  subst h1
  exact h2
end

section
variable {H : Type} {enc : TypeId × Value → H} {W : World} {base b0 : Nat} {spare : Nat → Bool} {held : Bool} {v : Value} {d : DataW H} {ps : List MemPlace}
theorem field_read {P : Program} {t : TypeId} {fs : Array Field} {fuel : Nat} {cs : List Value} {x : DataW H × List MemPlace} (ht : P.underlying t = some (.struct fs)) (h : DataW.trod enc P W base spare held fuel t cs = some x) (i : Nat) {f : Field} (hf : fs[i]? = some f) :
    ∃ n y, DataW.trod enc P W base spare held n f.type ((cs.drop f.offset).take (P.cellsOf f.type)) = some y := by
  obtain ⟨xs, n, _, _, _, hlen, hF⟩ := DataW.trod_struct ht h
  have hi : i < xs.length := by rw [hlen]; exact (Array.getElem?_eq_some_iff.1 hf).1
  exact ⟨n, xs[i], by rw [hF i f hf]; simp [hi]⟩
theorem struct_len {P : Program} {t : TypeId} {fs : Array Field} {fuel : Nat} {cs : List Value} {x : DataW H × List MemPlace} (ht : P.underlying t = some (.struct fs)) (h : DataW.trod enc P W base spare held fuel t cs = some x) : cs.length = P.cellsOf t := by
  obtain ⟨xs, n, _, _, hl, _, _⟩ := DataW.trod_struct ht h
  exact hl
theorem cellsStr : Tryz.prog.cellsOf 9 = 1 := by kernel_rfl
theorem cellsInt : Tryz.prog.cellsOf 3 = 1 := by kernel_rfl
theorem cellsBool : Tryz.prog.cellsOf 4 = 1 := by kernel_rfl
theorem cellsU8 : Tryz.prog.cellsOf 5 = 1 := by kernel_rfl
theorem cellsRefs : Tryz.prog.cellsOf 26 = 1 := by kernel_rfl
theorem cellsSnap : Tryz.prog.cellsOf 62 = 10 := by kernel_rfl
theorem list3 {α : Type} {cs : List α} (h : cs.length = 3) : ∃ c0 c1 c2, cs = [c0, c1, c2] := by
  match cs, h with
  | [c0, c1, c2], _ => exact ⟨c0, c1, c2, rfl⟩
theorem list6 {α : Type} {cs : List α} (h : cs.length = 6) : ∃ c0 c1 c2 c3 c4 c5, cs = [c0, c1, c2, c3, c4, c5] := by
  match cs, h with
  | [c0, c1, c2, c3, c4, c5], _ => exact ⟨c0, c1, c2, c3, c4, c5, rfl⟩
theorem list10 {α : Type} {cs : List α} (h : cs.length = 10) : ∃ c0 c1 c2 c3 c4 c5 c6 c7 c8 c9, cs = [c0, c1, c2, c3, c4, c5, c6, c7, c8, c9] := by
  match cs, h with
  | [c0, c1, c2, c3, c4, c5, c6, c7, c8, c9], _ => exact ⟨c0, c1, c2, c3, c4, c5, c6, c7, c8, c9, rfl⟩
set_option maxRecDepth 100000 in
theorem read_ref {n : Nat} {cs : List Value} {y : DataW H × List MemPlace} (h : DataW.trod enc Tryz.prog W base spare held n 43 cs = some y) : ∃ r, RefR cs r := by
  have hl := struct_len Tryz.underlying43 h
  rw [cellsRef] at hl
  obtain ⟨c0, c1, c2, rfl⟩ := list3 hl
  obtain ⟨n0, y0, h0⟩ := field_read Tryz.underlying43 h 0 rfl
  obtain ⟨n1, y1, h1⟩ := field_read Tryz.underlying43 h 1 rfl
  obtain ⟨n2, y2, h2⟩ := field_read Tryz.underlying43 h 2 rfl
  simp only [List.getElem_toArray, List.getElem_cons_zero, List.getElem_cons_succ, cellsStr, cellsInt] at h0 h1 h2
  obtain ⟨s, e0, _, hs⟩ := DataW.trod_string Tryz.underlying9 h0
  obtain ⟨g, e1, _, hg⟩ := DataW.trod_int Tryz.underlying3 h1
  obtain ⟨z, e2, _, hz⟩ := DataW.trod_int Tryz.underlying3 h2
  simp at e0 e1 e2
  subst e0 e1 e2
  exact ⟨⟨s, g, z⟩, rfl, ⟨hs, hg, hz⟩⟩
set_option maxRecDepth 100000 in
theorem open_refs (hval : Value.okWide Tryz.prog W .any b0 26 v) (h : DataW.Trod enc Tryz.prog W base spare held 26 v d ps) : ∃ rs, RefsAt (fun _ => True) W v rs :=
  @open_seq H enc Tryz.prog W base Ref RefR 26 43 3 b0 spare held v d ps Tryz.underlying26 cellsRef (by omega) (fun n cs y hy => read_ref hy) RefR.len hval h
set_option maxRecDepth 100000 in
theorem read_snap {n : Nat} {cs : List Value} {y : DataW H × List MemPlace} (h : DataW.trod enc Tryz.prog W base spare held n 62 cs = some y) : ∃ r, SnapR cs r := by
  have hl := struct_len Tryz.underlying62 h
  rw [cellsSnap] at hl
  obtain ⟨c0, c1, c2, c3, c4, c5, c6, c7, c8, c9, rfl⟩ := list10 hl
  obtain ⟨n0, y0, h0⟩ := field_read Tryz.underlying62 h 0 rfl
  obtain ⟨n1, y1, h1⟩ := field_read Tryz.underlying62 h 1 rfl
  obtain ⟨n2, y2, h2⟩ := field_read Tryz.underlying62 h 2 rfl
  obtain ⟨n3, y3, h3⟩ := field_read Tryz.underlying62 h 3 rfl
  obtain ⟨n4, y4, h4⟩ := field_read Tryz.underlying62 h 4 rfl
  obtain ⟨n5, y5, h5⟩ := field_read Tryz.underlying62 h 5 rfl
  obtain ⟨n6, y6, h6⟩ := field_read Tryz.underlying62 h 6 rfl
  obtain ⟨n7, y7, h7⟩ := field_read Tryz.underlying62 h 7 rfl
  simp only [List.getElem_toArray, List.getElem_cons_zero, List.getElem_cons_succ, cellsStr, cellsInt, cellsBool, cellsRef] at h0 h1 h2 h3 h4 h5 h6 h7
  obtain ⟨a0, e0, _⟩ := DataW.trod_int Tryz.underlying3 h0
  obtain ⟨a1, e1, _⟩ := DataW.trod_int Tryz.underlying3 h1
  obtain ⟨a2, e2, _⟩ := DataW.trod_int Tryz.underlying3 h2
  obtain ⟨r, e3, hr⟩ := read_ref h3
  obtain ⟨a4, e4, _⟩ := DataW.trod_int Tryz.underlying3 h4
  obtain ⟨a5, e5, _⟩ := DataW.trod_int Tryz.underlying3 h5
  obtain ⟨a6, e6, _⟩ := DataW.trod_string Tryz.underlying9 h6
  obtain ⟨a7, e7, _⟩ := DataW.trod_bool Tryz.underlying4 h7
  simp [refC] at e0 e1 e2 e3 e4 e5 e6 e7
  obtain ⟨e3, e3', e3''⟩ := e3
  subst e0 e1 e2 e3 e3' e3'' e4 e5 e6 e7
  exact ⟨r, a0, a1, a2, a4, a5, a6, a7, rfl, hr⟩
set_option maxRecDepth 100000 in
theorem open_snaps (hval : Value.okWide Tryz.prog W .any b0 22 v) (h : DataW.Trod enc Tryz.prog W base spare held 22 v d ps) : ∃ rs, SnapsAt (fun _ => True) W v rs :=
  @open_seq H enc Tryz.prog W base Ref SnapR 22 62 10 b0 spare held v d ps Tryz.underlying22 cellsSnap (by omega) (fun n cs y hy => read_snap hy) SnapR.len hval h
set_option maxRecDepth 100000 in
theorem read_refs {n : Nat} {cs : List Value} {y : DataW H × List MemPlace} (h : DataW.trod enc Tryz.prog W base spare held n 26 cs = some y) : ∃ v, cs = [v] ∧ ∃ rs, RefsAt (fun _ => True) W v rs :=
  seq_read (R := RefR) Tryz.underlying26 cellsRef (by omega) (fun n cs y hy => read_ref hy) RefR.len h
def ByteR (c : List Value) (b : UInt8) : Prop := c = [byteV b]
theorem read_byte {n : Nat} {cs : List Value} {y : DataW H × List MemPlace} (h : DataW.trod enc Tryz.prog W base spare held n 5 cs = some y) : ∃ b, ByteR cs b := by
  obtain ⟨a, e, _, hw⟩ := DataW.trod_int Tryz.underlying5 h
  have h1 : 0 ≤ a ∧ a ≤ 255 := by
    simp only [Lit.wf, Bool.and_eq_true, decide_eq_true_eq] at hw
    exact ⟨hw.1, hw.2⟩
  refine ⟨UInt8.ofNat a.toNat, ?_⟩
  unfold ByteR
  rw [byteV_nat (by omega), e, Int.toNat_of_nonneg h1.1]
theorem bytes_of_seq {S : Nat → Prop} {w : World} {v : Value} {bs : List UInt8} (h : SeqAt S w 1 ByteR v bs) : BytesAt S w v bs := by
  obtain ⟨cells, h1, h2⟩ := h
  have : ∀ (bs : List UInt8) (cells : List Value), RowsIn ByteR cells bs → cells = bs.map byteV := by
    intro bs
    induction bs with
    | nil => intro cells h; exact h
    | cons x bs ih =>
      rintro cells ⟨c, rest, rfl, hc, hr⟩
      rw [ih rest hr, show c = [byteV x] from hc]; rfl
  rw [this bs cells h2] at h1
  exact h1
set_option maxRecDepth 100000 in
theorem read_bytes {n : Nat} {cs : List Value} {y : DataW H × List MemPlace} (h : DataW.trod enc Tryz.prog W base spare held n 58 cs = some y) : ∃ v, cs = [v] ∧ ∃ bs, BytesAt (fun _ => True) W v bs := by
  obtain ⟨v, h1, bs, h2⟩ := seq_read (R := ByteR) Tryz.underlying58 cellsU8 (by omega) (fun n cs y hy => read_byte hy) (fun c x hc => by rw [show c = [byteV x] from hc]; rfl) h
  exact ⟨v, h1, bs, bytes_of_seq h2⟩
theorem ents_of {n : Nat} {sp : Nat → Bool} : ∀ {es : List MapEntry}, (∀ x ∈ es, ∃ y, WideElems.rd Tryz.prog 9 (WideElems.elemAt enc Tryz.prog W base sp held n 58) x = some y) → ∃ cs, EntsIn (fun _ => True) W (es.map fun e => (e.key, e.val)) cs
  | [], _ => ⟨[], trivial⟩
  | x :: es, h => by
    obtain ⟨cs, hcs⟩ := ents_of (es := es) (fun y hy => h y (by simp [hy]))
    obtain ⟨y, hy⟩ := h x (by simp)
    have hk := WideElems.rd_key hy
    obtain ⟨z, hz, _⟩ := WideElems.rd_val hy
    have hkey : ∃ s, x.key = .string s := by
      cases hx : x.key <;> rw [hx] at hk <;> simp [keyOf, Tryz.underlying9, mapKey] at hk
      exact ⟨_, rfl⟩
    obtain ⟨s, hs⟩ := hkey
    unfold WideElems.elemAt at hz
    split at hz
    · obtain ⟨v, h1, bs, h2⟩ := read_bytes hz
      have hv : x.val = v := by
        rename_i hfm
        cases hxv : x.val <;> rw [hxv] at h1 hfm <;> simp_all [Value.cells, Value.formed, Tryz.underlying58]
      exact ⟨(s, bs) :: cs, hs, by rw [hv]; exact h2, hcs⟩
    · cases hz
set_option maxRecDepth 100000 in
theorem open_cont (hval : Value.okWide Tryz.prog W .any b0 23 v) (h : DataW.Trod enc Tryz.prog W base spare held 23 v d ps) : ∃ cs, ContIn (fun _ => True) W v cs := by
  obtain ⟨a, rfl⟩ := okWide_map Tryz.underlying23 hval
  obtain ⟨fuel, hf⟩ := h
  rcases WideElems.open_map Tryz.underlying23 hf with ⟨hcs, _⟩ | ⟨b, es, clock, n, _, hcs, hb, _, hF, _⟩
  · simp [Value.cells] at hcs
    subst hcs
    exact ⟨[], .inl ⟨rfl, rfl⟩⟩
  · simp [Value.cells] at hcs
    subst hcs
    obtain ⟨cs, hents⟩ := ents_of hF.reads
    exact ⟨cs, .inr ⟨b, es, clock, rfl, trivial, hb, hF.size, hF.stamped, fun x hx => by
      obtain ⟨y, hy⟩ := hF.reads x hx
      exact ⟨y.1, WideElems.rd_key hy⟩, hents⟩⟩
end
end Go.Proofs.YtndgmcggckpgfaaGreatDoor
