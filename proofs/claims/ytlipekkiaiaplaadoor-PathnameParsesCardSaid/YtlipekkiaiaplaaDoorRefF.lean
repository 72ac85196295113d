/- Contracts of the specification of chapter 18: Items. -/
import Derived.Test.YtlipekkiaiaplaaDoorRefE
import Derived.Deep.RegionHeld3
import Derived.Deep.AppendLies
namespace Go.Proofs.YtlipekkiaiaplaaDoor
open Go.RowKit

def RItemR (S : Nat → Prop) (w : World) (c : List Value) (it : PItem) : Prop := ∃ v, c = [.bool it.star, .bool (it.any || it.neg), v] ∧ RangesAt S w v it.ranges
theorem RItemR.len {S : Nat → Prop} {w : World} (c : List Value) (it : PItem) (h : RItemR S w c it) : c.length = 3 := by obtain ⟨v, rfl, _⟩ := h; rfl
def RItemsAt (S : Nat → Prop) (w : World) (v : Value) (its : List PItem) : Prop := SeqAt S w 3 (RItemR S w) v its
theorem RItemR.move {S T : Nat → Prop} {w w' : World} {c : List Value} {it : PItem} (h : RItemR S w c it) (hs : ∀ k, k < w.heap.size → S k → T k ∧ w'.heap[k]? = w.heap[k]?) : RItemR T w' c it := by
  obtain ⟨v, rfl, hr⟩ := h
  have h3 := RowAt.mono (T := fun k => T k ∧ w'.heap[k]? = w.heap[k]?) hr hs (by omega)
  exact ⟨v, rfl, (h3.same (w' := w') (fun k hk => hk.2)).weak (fun k hk => hk.1)⟩
theorem RItemsAt.move {S T : Nat → Prop} {w w' : World} {v : Value} {its : List PItem} (h : RItemsAt S w v its) (hs : ∀ k, k < w.heap.size → S k → T k ∧ w'.heap[k]? = w.heap[k]?) : RItemsAt T w' v its := by
  obtain ⟨cells, h1, h2⟩ := h
  have h3 := RowAt.mono (T := fun k => T k ∧ w'.heap[k]? = w.heap[k]?) h1 hs (by omega)
  exact ⟨cells, (h3.same (w' := w') (fun k hk => hk.2)).weak (fun k hk => hk.1), h2.mono fun c x _ hc => hc.move hs⟩
theorem Tryd.appRItems : AppTy Tryd.prog 66 101 3 32 := AppTy.mk' (z := .agg #[.bool false, .bool false, .slice none 0 0]) Tryd.underlying66 (by kernel_rfl) rfl (by decide) (by decide)

/-- The state of Items' loop. -/
structure RIts (w0 : World) (its : List PItem) (v : Value) (wr : World) : Prop where
  own : ∃ cells, wr.ownsRow w0.heap.size 101 3 v its.length cells ∧ RowsIn (RItemR (fun k => w0.heap.size ≤ k ∧ some k ≠ v.ownBlock) wr) cells its
  below : Below w0.heap.size w0 wr
theorem RIts.grown {w0 : World} {its : List PItem} {v : Value} {wr w' : World} (h : RIts w0 its v wr) (hb : Below wr.heap.size wr w') : RIts w0 its v w' := by
  obtain ⟨⟨cells, ho, hr⟩, hbl⟩ := h
  exact ⟨⟨cells, owns_below ho hb, hr.mono fun c x _ hc => hc.move fun k hk h2 => ⟨h2, hb.block k hk⟩⟩, below_next hbl hb⟩
theorem RIts.added {w0 : World} {its : List PItem} {v v' rv : Value} {wr w1 : World} {it : PItem} {cells : List Value} (hb : Below w0.heap.size w0 wr)
    (hcells : wr.ownsRow w0.heap.size 101 3 v its.length cells ∧ RowsIn (RItemR (fun k => w0.heap.size ≤ k ∧ some k ≠ v.ownBlock) wr) cells its)
    (hrv : RangesAt (fun k => w0.heap.size ≤ k ∧ some k ≠ v.ownBlock) wr rv it.ranges)
    (ho : w1.ownsRow w0.heap.size 101 3 v' (its.length + 1) (cells ++ [.bool it.star, .bool (it.any || it.neg), rv])) (hg : wr.grownBy w1 v.ownBlock) (hnew : ∀ k, v'.ownBlock = some k → v.ownBlock = some k ∨ wr.heap.size ≤ k) : RIts w0 (its ++ [it]) v' w1 := by
  obtain ⟨ho0, hr0⟩ := hcells
  have hsz := hb.size
  have hmove : ∀ k, k < wr.heap.size → (w0.heap.size ≤ k ∧ some k ≠ v.ownBlock) → (w0.heap.size ≤ k ∧ some k ≠ v'.ownBlock) ∧ w1.heap[k]? = wr.heap[k]? := by
    intro k hk ⟨h1, h2⟩
    refine ⟨⟨h1, fun e => ?_⟩, hg.block k hk h2⟩
    rcases hnew k e.symm with h3 | h3
    · exact h2 h3.symm
    · omega
  refine ⟨⟨_, by simpa using ho, ?_⟩, hb.grown hg hsz (fun k hk => (ho0.lt k hk).1)⟩
  refine RowsIn.snoc (hr0.mono fun c x _ hc => hc.move hmove) ?_
  exact RItemR.move (w := wr) ⟨rv, rfl, hrv⟩ hmove
theorem ranges_nil {S : Nat → Prop} {w : World} : RangesAt S w (.slice none 0 0) [] := RowAt.nil _ _ _
/-- A list of one range, in a new block. -/
theorem ranges_one {w0 wr : World} {v : Value} {r : Int} (hsz : w0.heap.size ≤ wr.heap.size) (hv : ∀ k, v.ownBlock = some k → k < wr.heap.size) :
    RangesAt (fun k => w0.heap.size ≤ k ∧ some k ≠ v.ownBlock) (wr.alloc (.cells #[.int .i32 r, .int .i32 r] 105)) (.slice (some ⟨wr.heap.size, 0, none⟩) 1 1) [(r, r)] := by
  refine ⟨rfl, _, 1, rfl, Nat.le_refl _, by unfold maxLen; omega, .inr ⟨wr.heap.size, 0, rfl, ⟨hsz, fun e => ?_⟩, fun j u hj => ?_⟩⟩
  · have := hv _ e.symm; omega
  · rw [cell_of_heap (heap_alloc_new wr (.cells #[.int .i32 r, .int .i32 r] 105)), Nat.zero_add]
    simpa [flatR] using hj
theorem own_lt {w : World} {base : Nat} {e : TypeId} {sz : Nat} {v : Value} {n : Nat} {xs : List Value} (h : w.ownsRow base e sz v n xs) : ∀ k, v.ownBlock = some k → k < w.heap.size := fun k hk => (h.lt k hk).2

theorem clsS_form {t u : List Int} {it : PItem} (h : clsS t = some (it, u)) : ∃ ng rg, it = ⟨false, false, ng, rg⟩ := by
  unfold clsS at h
  simp only at h
  split at h
  · simp at h
  · split at h
    · simp at h
    · simp only [Option.some.injEq, Prod.mk.injEq] at h
      exact ⟨_, _, h.1.symm⟩
/-- What Items leaves. -/
def RItemsRes (o : Option (List PItem)) (w : World) (e : Ending) (w' : World) : Prop :=
  match o with
  | some its => (∃ v, e = .returned (.tuple #[v, .bool (decide (0 < its.length))]) ∧ RItemsAt (w.heap.size ≤ ·) w' v its ∧ Below w.heap.size w w')
  | none => e = .returned (.tuple #[.slice none 0 0, .bool false]) ∧ Below w.heap.size w w'

/-- The items read so far, in front. -/
def consO (its : List PItem) (o : Option (List PItem)) : Option (List PItem) := o.map (its ++ ·)
theorem consO_step {its : List PItem} {l t : List Int} {it : PItem} (hl : l ≠ []) (h : itemS l = some (it, t)) : consO its (itemsL l) = consO (its ++ [it]) (itemsL t) := by
  rw [itemsL_step hl h]
  unfold consO
  cases itemsL t <;> simp
theorem consO_bad {its : List PItem} {l : List Int} (hl : l ≠ []) (h : itemS l = none) : consO its (itemsL l) = none := by
  rw [itemsL_bad hl h]; rfl
theorem consO_nil (o : Option (List PItem)) : consO [] o = o := by cases o <;> simp [consO]

set_option maxRecDepth 100000 in
set_option maxHeartbeats 4000000 in
theorem r_items_any (s : ByteArray) (w : World) (hs : s.size ≤ 65536) : Calls Tryd.prog 46 #[.string s] w (RItemsRes (itemsL (runesL (bl s))) w) := by
  have hrl := runesL_length (bl s)
  rw [← size_bl] at hrl
  have hcv := fun w => run_runes (P := Tryd.prog) (src := 9) (dst := 91) (e := 21) s Tryd.underlying9 Tryd.underlying91 Tryd.underlying21 (by omega) w
  go_enter Tryd.func46, Tryd.ntmps46
  go_wp2_with fail
  clear hcv
  have hcg := grownCap_ge w (runesL (bl s)).length 0 21
  have hcm := grownCap_le_maxLen w (runesL (bl s)).length 0 21 (by unfold maxLen; omega)
  have hrow := runes_row (w := w) hcg hcm (List.replicate (grownCap w (runesL (bl s)).length 0 21 - (runesL (bl s)).length) (Value.int .i32 0))
  have hb0 : Below w.heap.size w (w.alloc (.cells (((runesL (bl s)).map (Value.int .i32)) ++ List.replicate (grownCap w (runesL (bl s)).length 0 21 - (runesL (bl s)).length) (Value.int .i32 0)).toArray 21)).drew := ((Below.refl _ _).alloc (Nat.le_refl _) _).drew
  generalize grownCap w (runesL (bl s)).length 0 21 = cap at *
  generalize (w.alloc (.cells (((runesL (bl s)).map (Value.int .i32)) ++ List.replicate (cap - (runesL (bl s)).length) (Value.int .i32 0)).toArray 21)).drew = w0 at *
  have hb0s := hb0.size
  have HB0 := Lib.hid hb0
  clear hb0
  generalize hrs : runesL (bl s) = rs at *
  clear hrs
  have HV := Lib.hid (show RunesAt (fun _ => True) w0 (.slice (some ⟨w.heap.size, 0, none⟩) rs.length cap) rs from hrow)
  clear hrow
  unfold maxLen at hcm
  go_loopw [5, 6] (fun v i wr => ∃ (k : Nat) (its : List PItem) (v' : Value), k ≤ rs.length ∧ its.length ≤ k ∧ i = .int .i64 k ∧ v = v' ∧ RIts w0 its v' wr ∧ itemsL rs = consO its (itemsL (rs.drop k))) (fun _ i _ => rs.length - (intOf i).toNat)
  case atStart => exact ⟨0, [], _, Nat.zero_le _, Nat.zero_le _, rfl, rfl, ⟨⟨[], World.ownsRow_nil _ _ _ _, rfl⟩, Below.refl _ _⟩, by rw [consO_nil]; rfl⟩
  case round =>
    obtain ⟨k, its, v', hk, hik, rfl, rfl, hI, hnext⟩ := hrel
    have HBW := Lib.hid hI.below
    have hsz := hI.below.size
    obtain ⟨cells, hcells⟩ := hI.own
    have HOW := Lib.hid hcells
    obtain ⟨ia, ic, rfl, hin, him⟩ := owns_shape hcells.1
    have HN := Lib.hid hnext
    have HI := Lib.hid hI
    have hvr : RunesAt (fun _ => True) wr (.slice (some ⟨w.heap.size, 0, none⟩) rs.length cap) rs := RowAt.below HV.out (by omega) hI.below
    have HVR := Lib.hid hvr
    clear hI hcells hnext hvr
    by_cases hlt : k < rs.length
    · obtain ⟨r, hr⟩ : ∃ r, rs[k]? = some r := ⟨rs[k], List.getElem?_eq_getElem hlt⟩
      have c1 := runes_at HVR.out k r hr
      rw [Nat.zero_add] at c1
      have hdk : rs.drop k = r :: rs.drop (k + 1) := by
        obtain ⟨h1, rfl⟩ := List.getElem?_eq_some_iff.1 hr
        exact List.drop_eq_getElem_cons h1
      have HDK := Lib.hid hdk
      have i1 : (k : Int) < (rs.length : Int) := by omega
      clear hr hdk
      by_cases h42 : r = 42
      · subst h42
        have HNEXT := Lib.hid (show itemsL rs = consO (its ++ [starI]) (itemsL (rs.drop (k + 1))) by rw [HN.out, HDK.out]; exact consO_step (by simp) rfl)
        go_wp2_with (at_builtin; go_must (refine wpList_app1p Tryd.appRItems rfl _ _ rfl w0.heap.size (.slice ia its.length ic) its.length cells rfl (wr) [.bool true, .bool false, .slice none 0 0] _ (by first | rfl | (rw [alloc_size]; rfl)) rfl (by intro u hu; simp only [List.mem_cons, List.not_mem_nil, or_false] at hu; rcases hu with rfl | rfl | rfl <;> rfl) HOW.out.1 (by omega) (by first | omega | (simp; omega)) ?_); intro v' w5 hown5 hgrow5 _ hnew5; obtain ⟨a5, c5, rfl, -, -⟩ := owns_shape hown5; have HI5 := Lib.hid (RIts.added (it := starI) (rv := .slice none 0 0) HBW.out HOW.out (ranges_nil) hown5 hgrow5 hnew5); clear hown5 hgrow5 hnew5)
        go_wp2_with fail
        go_roundw
        case rel => exact ⟨k + 1, its ++ [starI], _, by omega, by simp; omega, by first | rfl | go_num, rfl, HI5.out, HNEXT.out⟩
        case measure => simp [intOf]; omega
      · by_cases h63 : r = 63
        · subst h63
          clear h42
          have HNEXT := Lib.hid (show itemsL rs = consO (its ++ [anyI]) (itemsL (rs.drop (k + 1))) by rw [HN.out, HDK.out]; exact consO_step (by simp) rfl)
          go_wp2_with (at_builtin; go_must (refine wpList_app1p Tryd.appRItems rfl _ _ rfl w0.heap.size (.slice ia its.length ic) its.length cells rfl (wr) [.bool false, .bool true, .slice none 0 0] _ (by first | rfl | (rw [alloc_size]; rfl)) rfl (by intro u hu; simp only [List.mem_cons, List.not_mem_nil, or_false] at hu; rcases hu with rfl | rfl | rfl <;> rfl) HOW.out.1 (by omega) (by first | omega | (simp; omega)) ?_); intro v' w5 hown5 hgrow5 _ hnew5; obtain ⟨a5, c5, rfl, -, -⟩ := owns_shape hown5; have HI5 := Lib.hid (RIts.added (it := anyI) (rv := .slice none 0 0) HBW.out HOW.out (ranges_nil) hown5 hgrow5 hnew5); clear hown5 hgrow5 hnew5)
          go_wp2_with fail
          go_roundw
          case rel => exact ⟨k + 1, its ++ [anyI], _, by omega, by simp; omega, by first | rfl | go_num, rfl, HI5.out, HNEXT.out⟩
          case measure => simp [intOf]; omega
        · by_cases h91 : r = 91
          · subst h91
            clear h42 h63
            go_wp2_with fail
            cases hcl : clsS (rs.drop (k + 1)) with
            | none =>
              have hbad : itemsL rs = none := by rw [HN.out, HDK.out]; exact consO_bad (by simp) (by rw [itemS]; simpa using hcl)
              have HBAD := Lib.hid hbad
              have HCL := Lib.hid hcl
              clear hbad hcl
              refine (r_class_any _ rs _ (k + 1) _ wr HVR.out (by omega) (by omega) (by omega)).mono ?_
              rw [HCL.out]
              rintro e w2 ⟨x, a1, xa, xn, xc, rfl, hb2⟩
              have HB2 := Lib.hid hb2
              clear hb2
              go_wp2_with fail
              go_ret2
              rw [HBAD.out]
              exact ⟨rfl, below_next (below_next HB0.out HBW.out) (below_next HB2.out ((Below.refl _ _).alloc (Nat.le_refl _) _))⟩
            | some q =>
              obtain ⟨it, u⟩ := q
              obtain ⟨ng, rg, rfl⟩ := clsS_form hcl
              have HCL := Lib.hid hcl
              have hstep : itemS (91 :: rs.drop (k + 1)) = some (⟨false, false, ng, rg⟩, u) := by rw [itemS]; simpa using hcl
              have HSTEP := Lib.hid hstep
              clear hcl hstep
              refine (r_class_any _ rs _ (k + 1) _ wr HVR.out (by omega) (by omega) (by omega)).mono ?_
              rw [HCL.out]
              rintro e w2 ⟨rv, nx, rfl, hu, hnx, hknx, hrg, hb2⟩
              have HNEXT := Lib.hid (show itemsL rs = consO (its ++ [⟨false, false, ng, rg⟩]) (itemsL (rs.drop nx)) by rw [HN.out, HDK.out, ← hu]; exact consO_step (by simp) HSTEP.out)
              obtain ⟨ra, rc, rfl⟩ : ∃ ra rc, rv = .slice ra rg.length rc := by obtain ⟨_, ra, rc, h, _⟩ := hrg; exact ⟨ra, rc, h⟩
              have HRG0 := Lib.hid hrg
              have HB2 := Lib.hid hb2
              have hsz2 := hb2.size
              clear hb2 hu hrg
              have hlt1 := own_lt HOW.out.1
              have HRG := Lib.hid (show RangesAt (fun k => w0.heap.size ≤ k ∧ some k ≠ (Value.slice ia its.length ic).ownBlock) (w2.alloc (.cells #[.bool false, .bool ng, .slice ra rg.length rc] 101)) (.slice ra rg.length rc) rg from
                RowAt.below (RowAt.weak HRG0.out (fun k hk => ⟨by omega, fun e => by have := hlt1 k e.symm; omega⟩)) (by omega) ((Below.refl _ _).alloc (Nat.le_refl _) _))
              clear hlt1
              have HOW0 := HOW
              have HBW0 := HBW
              clear HOW HBW
              have hlift : Below wr.heap.size wr (w2.alloc (.cells #[.bool false, .bool ng, .slice ra rg.length rc] 101)) := below_next HB2.out ((Below.refl _ _).alloc (Nat.le_refl _) _)
              have HOW := Lib.hid (show (w2.alloc (.cells #[.bool false, .bool ng, .slice ra rg.length rc] 101)).ownsRow w0.heap.size 101 3 (.slice ia its.length ic) its.length cells ∧ RowsIn (RItemR (fun k => w0.heap.size ≤ k ∧ some k ≠ (Value.slice ia its.length ic).ownBlock) (w2.alloc (.cells #[.bool false, .bool ng, .slice ra rg.length rc] 101))) cells its from ⟨owns_below HOW0.out.1 hlift, HOW0.out.2.mono fun c x _ hc => hc.move fun k hk h2 => ⟨h2, hlift.block k hk⟩⟩)
              have HBW := Lib.hid (below_next HBW0.out hlift)
              clear hlift
              go_wp2_with (at_builtin; go_must (refine wpList_app1p Tryd.appRItems rfl _ _ rfl w0.heap.size (.slice ia its.length ic) its.length cells rfl (w2.alloc (.cells #[.bool false, .bool ng, .slice ra rg.length rc] 101)) [.bool false, .bool ng, .slice ra rg.length rc] _ (by first | rfl | (rw [alloc_size]; rfl)) rfl (by intro u hu; simp only [List.mem_cons, List.not_mem_nil, or_false] at hu; rcases hu with rfl | rfl | rfl <;> rfl) HOW.out.1 (by omega) (by first | omega | (simp; omega)) ?_); intro v' w5 hown5 hgrow5 _ hnew5; obtain ⟨a5, c5, rfl, -, -⟩ := owns_shape hown5; have HI5 := Lib.hid (RIts.added (it := ⟨false, false, ng, rg⟩) (rv := .slice ra rg.length rc) HBW.out HOW.out (HRG.out) hown5 hgrow5 hnew5); clear hown5 hgrow5 hnew5)
              go_wp2_with fail
              go_roundw
              case rel => exact ⟨nx, its ++ [⟨false, false, ng, rg⟩], _, by omega, by simp; omega, by first | rfl | go_num, rfl, HI5.out, HNEXT.out⟩
              case measure => simp [intOf]; omega
          · by_cases h92 : r = 92
            · subst h92
              clear h42 h63 h91
              by_cases hend : k + 1 = rs.length
              · have hbad : itemsL rs = none := by
                  rw [HN.out, HDK.out, hend, List.drop_length]; exact consO_bad (by simp) rfl
                have HBAD := Lib.hid hbad
                have ee : (((k : Int) + 1) == (rs.length : Int)) = true := by rw [← hend]; simp
                clear hbad hend
                go_wp2_with fail
                go_ret2
                rw [HBAD.out]
                exact ⟨rfl, below_next HB0.out HBW.out⟩
              · have hlt2 : k + 1 < rs.length := by omega
                have ee : (((k : Int) + 1) == (rs.length : Int)) = false := beq_int (by omega)
                obtain ⟨q, hq⟩ : ∃ q, rs[k + 1]? = some q := ⟨rs[k + 1], List.getElem?_eq_getElem hlt2⟩
                have c2 := runes_at HVR.out (k + 1) q hq
                rw [Nat.zero_add] at c2
                have hd2 : rs.drop (k + 1) = q :: rs.drop (k + 2) := by
                  obtain ⟨h1, rfl⟩ := List.getElem?_eq_some_iff.1 hq
                  exact List.drop_eq_getElem_cons h1
                have HNEXT := Lib.hid (show itemsL rs = consO (its ++ [litI q]) (itemsL (rs.drop (k + 2))) by rw [HN.out, HDK.out, hd2]; exact consO_step (by simp) rfl)
                have i2 : (k : Int) + 1 < (rs.length : Int) := by omega
                have HQ := Lib.hid hq
                clear hend hq hd2
                have t1 : ((k : Int) + 1).toNat = k + 1 := by omega
                have t2 : 0 ≤ (k : Int) + 1 := by omega
                have hlt1 := own_lt HOW.out.1
                have hwsz : w.heap.size < wr.heap.size := by
                  have h1 := block_lt c2; exact h1
                have hnown : some w.heap.size ≠ (Value.slice ia its.length ic).ownBlock := fun e => by
                  have := (HOW.out.1.lt _ e.symm).1
                  have h2 := block_lt (runes_at HV.out (k + 1) q HQ.out)
                  simp only at h2
                  omega
                have HNO := Lib.hid hnown
                have HRG := Lib.hid (ranges_one (w0 := w0) (wr := wr) (v := .slice ia its.length ic) (r := q) hsz hlt1)
                have hl2 : Below wr.heap.size wr ((wr.alloc (.cells #[.int .i32 q, .int .i32 q] 105)).alloc (.cells #[.bool false, .bool false, .slice (some ⟨wr.heap.size, 0, none⟩) 1 1] 101)).drew := (((Below.refl _ _).alloc (Nat.le_refl _) _).alloc (by simp) _).drew
                have HL2 := Lib.hid hl2
                have hnb := heap_alloc_new (wr.alloc (.cells #[.int .i32 q, .int .i32 q] 105)) (.cells #[.bool false, .bool false, .slice (some ⟨wr.heap.size, 0, none⟩) 1 1] 101)
                rw [alloc_size] at hnb
                have HNB := Lib.hid (show ((wr.alloc (.cells #[.int .i32 q, .int .i32 q] 105)).alloc (.cells #[.bool false, .bool false, .slice (some ⟨wr.heap.size, 0, none⟩) 1 1] 101)).drew.heap[wr.heap.size + 1]? = some (.cells #[.bool false, .bool false, .slice (some ⟨wr.heap.size, 0, none⟩) 1 1] 101 (0, 0)) from hnb)
                have hbw' := HBW.out.size
                clear hlt1 hnown hl2 hnb
                obtain ⟨hT1, ⟨i0, z0, hT2, hT3, hT4, hT5, hT6⟩, hT7, hT8⟩ := Tryd.appRItems
                have HT := Lib.hid (And.intro hT1 (And.intro hT2 (And.intro hT3 (And.intro hT4 (And.intro hT5 (And.intro hT6 hT7))))))
                clear hT1 hT2 hT3 hT4 hT5 hT6 hT7 hT8
                go_wp2_with fail
                go_region_held3 (fun w' => w'.cell? ⟨w.heap.size, k + 1, none⟩ = some (.int .i32 q))
                  (first
                    | go_keep
                    | (rw [hgrow.cell_far _ (by simp; omega) HNO.out]; assumption))
                  ((refine step_append_lies _ (by rfl) _ _ _ (by rfl) w0.heap.size 101 i0 z0 3 32 HT.out.1 HT.out.2.1 HT.out.2.2.1 HT.out.2.2.2.1 HT.out.2.2.2.2.1 HT.out.2.2.2.2.2.1 (by omega) (.slice ia its.length ic) its.length cells (by rfl) (owns_below HOW.out.1 HL2.out)
                      ⟨wr.heap.size + 1, 0, none⟩ 1 1 [.bool false, .bool false, .slice (some ⟨wr.heap.size, 0, none⟩) 1 1] (by rfl) (by rfl) (World.news_of_block (cs := #[.bool false, .bool false, .slice (some ⟨wr.heap.size, 0, none⟩) 1 1]) HNB.out) (by intro u hu; simp only [List.mem_cons, List.not_mem_nil, or_false] at hu; rcases hu with rfl | rfl | rfl <;> rfl)
                      (by omega) (by unfold maxLen; omega) (by omega) (by have := HL2.out.size; omega) (wr.heap.size + 2) (by simp) ?_; intro gg gcap w1 hown1 hgrow hat hltg))
                have HO1 := Lib.hid hown1
                have HG1 := Lib.hid hgrow
                have HAT := Lib.hid hat
                clear hown1 hgrow hat hltg
                go_wp2_with fail
                go_roundw
                case rel =>
                  refine ⟨k + 2, its ++ [litI q], _, by omega, by simp; omega, by go_num, rfl, ?_, HNEXT.out⟩
                  refine RIts.added (it := litI q) (rv := .slice (some ⟨wr.heap.size, 0, none⟩) 1 1) (below_next HBW.out HL2.out) ⟨owns_below HOW.out.1 HL2.out, HOW.out.2.mono fun c x _ hc => hc.move fun k hk h2 => ⟨h2, HL2.out.block k hk⟩⟩ ?_ HO1.out HG1.out ?_
                  · exact RowAt.below HRG.out (by omega) (((Below.refl _ _).alloc (Nat.le_refl _) _).drew)
                  · intro j hj
                    rcases HAT.out with h | h
                    · left; rw [h]; exact hj
                    · right
                      cases hj
                      simp; omega
                case measure => simp [intOf]; omega
            · have hit : itemS (r :: rs.drop (k + 1)) = some (litI r, rs.drop (k + 1)) := by rw [itemS, if_neg h42, if_neg h63, if_neg h91, if_neg h92]
              have HNEXT := Lib.hid (show itemsL rs = consO (its ++ [litI r]) (itemsL (rs.drop (k + 1))) by rw [HN.out, HDK.out]; exact consO_step (by simp) hit)
              have b1 := beq_int h42
              have b2 := beq_int h63
              have b3 := beq_int h91
              have b4 := beq_int h92
              clear h42 h63 h91 h92 hit
              have HOW0 := HOW
              have HBW0 := HBW
              clear HOW HBW
              have hlift : Below wr.heap.size wr (wr.alloc (.cells #[.int .i32 r, .int .i32 r] 105)) := (Below.refl _ _).alloc (Nat.le_refl _) _
              have HOW := Lib.hid (show (wr.alloc (.cells #[.int .i32 r, .int .i32 r] 105)).ownsRow w0.heap.size 101 3 (.slice ia its.length ic) its.length cells ∧ RowsIn (RItemR (fun k => w0.heap.size ≤ k ∧ some k ≠ (Value.slice ia its.length ic).ownBlock) (wr.alloc (.cells #[.int .i32 r, .int .i32 r] 105))) cells its from ⟨owns_below HOW0.out.1 hlift, HOW0.out.2.mono fun c x _ hc => hc.move fun k hk h2 => ⟨h2, hlift.block k hk⟩⟩)
              have HBW := Lib.hid (below_next HBW0.out hlift)
              clear hlift
              have hlt1 := own_lt HOW0.out.1
              have HRG := Lib.hid (ranges_one (w0 := w0) (wr := wr) (v := .slice ia its.length ic) (r := r) hsz hlt1)
              clear hlt1
              go_wp2_with (at_builtin; go_must (refine wpList_app1p Tryd.appRItems rfl _ _ rfl w0.heap.size (.slice ia its.length ic) its.length cells rfl (wr.alloc (.cells #[.int .i32 r, .int .i32 r] 105)) [.bool false, .bool false, .slice (some ⟨wr.heap.size, 0, none⟩) 1 1] _ (by first | rfl | (rw [alloc_size]; rfl)) rfl (by intro u hu; simp only [List.mem_cons, List.not_mem_nil, or_false] at hu; rcases hu with rfl | rfl | rfl <;> rfl) HOW.out.1 (by omega) (by first | omega | (simp; omega)) ?_); intro v' w5 hown5 hgrow5 _ hnew5; obtain ⟨a5, c5, rfl, -, -⟩ := owns_shape hown5; have HI5 := Lib.hid (RIts.added (it := litI r) (rv := .slice (some ⟨wr.heap.size, 0, none⟩) 1 1) HBW.out HOW.out (HRG.out) hown5 hgrow5 hnew5); clear hown5 hgrow5 hnew5)
              go_wp2_with fail
              go_roundw
              case rel => exact ⟨k + 1, its ++ [litI r], _, by omega, by simp; omega, by first | rfl | go_num, rfl, HI5.out, HNEXT.out⟩
              case measure => simp [intOf]; omega
    · have hnil : rs.drop k = [] := List.drop_eq_nil_of_le (by omega)
      have hfin : itemsL rs = some its := by rw [HN.out, hnil]; simp [itemsL, itemsS, consO]
      have HFIN := Lib.hid hfin
      clear hnil hfin
      go_wp2_with fail
      go_ret2
      rw [HFIN.out]
      refine ⟨.slice ia its.length ic, rfl, ?_, below_next HB0.out HBW.out⟩
      refine ⟨cells, (row_of_owns HOW.out.1).weak (fun k hk => by have := hk.1; omega), HOW.out.2.mono fun c x _ hc => hc.move fun k _ h2 => ⟨by have := h2.1; omega, rfl⟩⟩

end Go.Proofs.YtlipekkiaiaplaaDoor
