/- Contracts of package pathname: Clean, Join. -/
import Derived.Test.YtlipekkiaiaplaaDoorPathB
import Derived.Test.YtlipekkiaiaplaaDoorOwn
namespace Go.Proofs.YtlipekkiaiaplaaDoor
open Go.RowKit

theorem clean_skip {ps acc : List (List UInt8)} {k : Nat} {p : List UInt8} (h : ps[k]? = some p) (hp : p = [] ∨ p = [46]) : cleanParts (ps.drop k) acc = cleanParts (ps.drop (k + 1)) acc := by
  obtain ⟨hk, rfl⟩ := List.getElem?_eq_some_iff.1 h
  rw [List.drop_eq_getElem_cons hk, cleanParts, if_pos hp]
theorem clean_up {ps acc : List (List UInt8)} {k : Nat} {p : List UInt8} (h : ps[k]? = some p) (hp : p = [46, 46]) (ha : acc ≠ []) : cleanParts (ps.drop k) acc = cleanParts (ps.drop (k + 1)) acc.dropLast := by
  obtain ⟨hk, rfl⟩ := List.getElem?_eq_some_iff.1 h
  rw [List.drop_eq_getElem_cons hk, cleanParts, hp]
  simp [ha]
theorem clean_out {ps : List (List UInt8)} {k : Nat} {p : List UInt8} (h : ps[k]? = some p) (hp : p = [46, 46]) : cleanParts (ps.drop k) [] = none := by
  obtain ⟨hk, rfl⟩ := List.getElem?_eq_some_iff.1 h
  rw [List.drop_eq_getElem_cons hk, cleanParts, hp]
  simp
theorem clean_add {ps acc : List (List UInt8)} {k : Nat} {p : List UInt8} (h : ps[k]? = some p) (h1 : p ≠ []) (h2 : p ≠ [46]) (h3 : p ≠ [46, 46]) : cleanParts (ps.drop k) acc = cleanParts (ps.drop (k + 1)) (acc ++ [p]) := by
  obtain ⟨hk, rfl⟩ := List.getElem?_eq_some_iff.1 h
  rw [List.drop_eq_getElem_cons hk, cleanParts]
  simp [h1, h2, h3]

/-- What Clean returns. -/
def cleanV (o : Option (List UInt8)) : Value := match o with
  | some l => .tuple #[.string ⟨l.toArray⟩, .int .i64 0]
  | none => .tuple #[.string ⟨#[]⟩, .int .i64 1]

set_option maxHeartbeats 1000000 in
theorem clean_any (s : ByteArray) (w : World) (he : Env w) (hs : s.size ≤ 65536) :
    Calls Tryd.prog 29 #[.string s] w fun e w' => e = .returned (cleanV (cleanL (bl s))) ∧ Below w.heap.size w w' := by
  have HE := Lib.hid he
  clear he
  go_enter Tryd.func29, Tryd.ntmps29
  go_wp2_with fail
  refine (split_any s 47 w HE.out (by omega)).mono ?_
  rintro e w' ⟨xs, hx, rfl, rfl⟩
  have hxl : xs.length ≤ 65537 := by
    have h1 : (splitL 47 (bl s)).length = xs.length := by rw [← hx]; simp
    have h2 := splitL_len_le 47 (bl s)
    rw [← size_bl] at h2
    omega
  have HX := Lib.hid hx
  clear hx
  go_wp2_with fail
  go_loopw [4, 11] (fun v i wr => ∃ (k : Nat) (ys : List ByteArray), k ≤ xs.length ∧ ys.length ≤ k ∧ i = .int .i64 k ∧ wr.ownsRow (w.heap.size + 1) 9 1 v ys.length (ys.map Value.string) ∧ (∀ y ∈ ys, y ∈ xs) ∧
      Below (w.heap.size + 1) (w.alloc (.cells (xs.map Value.string).toArray 9)) wr ∧ cleanParts (splitL 47 (bl s)) [] = cleanParts ((xs.map bl).drop k) (ys.map bl)) (fun _ i _ => xs.length - (intOf i).toNat)
  case atStart => exact ⟨0, [], Nat.zero_le _, Nat.zero_le _, rfl, World.ownsRow_nil _ _ _ _, by simp, Below.refl _ _, by rw [HX.out]; rfl⟩
  case round =>
    obtain ⟨k, ys, hk, hyk, rfl, hown, hmem, hb, hc⟩ := hrel
    have HC := Lib.hid hc
    have HB := Lib.hid hb
    have HO := Lib.hid hown
    have HM := Lib.hid hmem
    have hsz : w.heap.size + 1 ≤ wr.heap.size := by have := hb.size; simpa using this
    by_cases hlt : k < xs.length
    · obtain ⟨x, hx⟩ : ∃ x, xs[k]? = some x := ⟨xs[k], by simp [hlt]⟩
      have hcell : wr.cell? ⟨w.heap.size, k, none⟩ = some (.string x) := (hb.cell (p := ⟨w.heap.size, k, none⟩) (by simp)).trans (row_cell (map_get hx))
      have HK := Lib.hid hx
      clear hx hb hc hown hmem
      have HP := Lib.hid (show (xs.map bl)[k]? = some (bl x) by simp [HK.out])
      by_cases h0 : bl x = []
      · have e0 : x.toList.isEmpty = true := by rw [toList_bl, h0]; rfl
        have H0 := Lib.hid h0
        clear h0
        go_wp2_with fail
        go_roundw
        case rel => exact ⟨k + 1, ys, by omega, by omega, by go_num, HO.out, HM.out, HB.out, by rw [HC.out]; exact clean_skip HP.out (.inl H0.out)⟩
        case measure => simp [intOf]; omega
      · have e0 : x.toList.isEmpty = false := by rw [toList_bl]; simpa using h0
        have H0 := Lib.hid h0
        clear h0
        by_cases h1 : bl x = [46]
        · have e1 : (x.toList == [46]) = true := by rw [toList_bl, h1]; rfl
          have H1 := Lib.hid h1
          clear h1
          go_wp2_with fail
          go_roundw
          case rel => exact ⟨k + 1, ys, by omega, by omega, by go_num, HO.out, HM.out, HB.out, by rw [HC.out]; exact clean_skip HP.out (.inr H1.out)⟩
          case measure => simp [intOf]; omega
        · have e1 : (x.toList == [46]) = false := by rw [toList_bl]; simpa using h1
          have H1 := Lib.hid h1
          clear h1
          by_cases h2 : bl x = [46, 46]
          · have e2 : (x.toList == [46, 46]) = true := by rw [toList_bl, h2]; rfl
            have H2 := Lib.hid h2
            clear h2
            rcases List.eq_nil_or_concat ys with rfl | ⟨zs, z, rfl⟩
            · obtain ⟨a4, c4, hv, hn4, hm4⟩ := owns_shape HO.out
              subst hv
              go_wp2_with fail
              go_ret2
              refine ⟨?_, below_next ((Below.refl _ _).alloc (Nat.le_refl _) _) (by simpa using HB.out)⟩
              have hcl : cleanL (bl s) = none := by unfold cleanL; rw [HC.out, List.map_nil, clean_out HP.out H2.out]
              rw [hcl]; rfl
            · have hown := HO.out
              rw [List.length_concat] at hyk
              simp only [List.concat_eq_append, List.length_append, List.length_cons, List.length_nil, List.map_append, Nat.zero_add] at hown
              obtain ⟨g, c4, rfl, hn4, hm4, hpop⟩ := owns_pop (by simp) hown
              unfold maxLen at hm4
              have HPop := Lib.hid hpop
              clear hpop hown HO
              go_wp2_with fail
              go_roundw
              case rel =>
                refine ⟨k + 1, zs, by omega, by omega, by go_num, ?_, fun y hy => HM.out y (by simp [hy]), HB.out, ?_⟩
                · have := HPop.out; simpa using this
                · rw [HC.out, clean_up HP.out H2.out (by simp)]; simp
              case measure => simp [intOf]; omega
          · have e2 : (x.toList == [46, 46]) = false := by rw [toList_bl]; simpa using h2
            have H2 := Lib.hid h2
            clear h2
            go_wp2_with (at_builtin; go_must (refine wpList_app1 Tryd.appStrings rfl _ _ rfl (w.heap.size + 1) u4 ys.length (ys.map Value.string) rfl wr [.string x] _ rfl rfl (by simp; rfl) HO.out (by omega) hsz ?_); intro v' w1 hown1 hgrow1 _)
            have HO1 := Lib.hid hown1
            have HG1 := Lib.hid hgrow1
            clear hown1 hgrow1
            go_wp2_with fail
            go_roundw
            case rel =>
              refine ⟨k + 1, ys ++ [x], by omega, by simp; omega, by go_num, ?_, ?_, below_grown HB.out HO.out HG1.out (Nat.le_refl _) hsz, ?_⟩
              · have := HO1.out; simpa using this
              · intro y hy
                rcases List.mem_append.1 hy with h | h
                · exact HM.out y h
                · simp at h; subst h; exact List.mem_of_getElem? HK.out
              · rw [HC.out, clean_add HP.out H0.out H1.out H2.out]; simp
            case measure => simp [intOf]; omega
    · clear hb hc hown hmem
      have hcl : cleanParts (splitL 47 (bl s)) [] = some (ys.map bl) := by
        rw [HC.out, List.drop_eq_nil_of_le (by simp; omega)]; rfl
      have hlen : (uniteL (ys.map bl)).length ≤ 140737488355328 := by
        have h1 := uniteL_len (ys.map bl) 65536 (fun p hp => by
          obtain ⟨y, hy, rfl⟩ := List.mem_map.1 hp
          obtain ⟨j, hj⟩ := List.getElem?_of_mem (HM.out y hy)
          have := part_size HX.out hj
          rw [size_bl] at this; omega)
        rw [List.length_map] at h1
        have h2 : ys.length * (65536 + 1) ≤ 65537 * (65536 + 1) := Nat.mul_le_mul_right _ (by omega)
        omega
      have HCL := Lib.hid hcl
      clear hcl
      go_wp2_with fail
      refine (join_any ys (fun _ => True) _ ⟨#[47]⟩ wr ((row_of_owns HO.out).weak (fun _ _ => trivial)) hlen (by omega)).mono ?_
      rintro e w1 ⟨rfl, hb1⟩
      have hE1 : Env w1 := HE.out.below (below_next (below_next ((Below.refl _ _).alloc (Nat.le_refl _) _) (by simpa using HB.out)) hb1)
      have HE1 := Lib.hid hE1
      have HB1 := Lib.hid hb1
      clear hE1 hb1
      cases hv : validP (uniteL (ys.map bl))
      · have HV := Lib.hid hv
        clear hv
        go_wp2_with fail
        refine (valid_any _ w1 HE1.out).mono ?_
        rintro e w2 ⟨rfl, hb2⟩
        rw [show validP (bl ⟨(Lib.join (ys.map bl) (bl ⟨#[47]⟩)).toArray⟩) = false by rw [bl_mk]; exact HV.out]
        go_wp2_with fail
        go_ret2
        refine ⟨?_, below_next (below_next (below_next ((Below.refl _ _).alloc (Nat.le_refl _) _) (by simpa using HB.out)) HB1.out) hb2⟩
        have : cleanL (bl s) = none := by unfold cleanL; rw [HCL.out]; simp [HV.out]
        rw [this]; rfl
      · have HV := Lib.hid hv
        clear hv
        go_wp2_with fail
        refine (valid_any _ w1 HE1.out).mono ?_
        rintro e w2 ⟨rfl, hb2⟩
        rw [show validP (bl ⟨(Lib.join (ys.map bl) (bl ⟨#[47]⟩)).toArray⟩) = true by rw [bl_mk]; exact HV.out]
        go_wp2_with fail
        go_ret2
        refine ⟨?_, below_next (below_next (below_next ((Below.refl _ _).alloc (Nat.le_refl _) _) (by simpa using HB.out)) HB1.out) hb2⟩
        have : cleanL (bl s) = some (uniteL (ys.map bl)) := by unfold cleanL; rw [HCL.out]; simp [HV.out]
        rw [this]; rfl


def joinV (o : List UInt8 × Int) : Value := .tuple #[.string ⟨o.1.toArray⟩, .int .i64 o.2]

set_option maxHeartbeats 1000000 in
theorem pjoin_any (xs : List ByteArray) (S : Nat → Prop) (v : Value) (w : World) (he : Env w) (hv : StrsAt S w v xs) (hn : xs.length ≤ 65536) (hsz : ∀ x ∈ xs, x.size ≤ 9223372036854775807) :
    Calls Tryd.prog 31 #[v] w fun e w' => e = .returned (joinV (joinL (xs.map bl))) ∧ Below w.heap.size w w' := by
  have HE := Lib.hid he
  have HV := Lib.hid hv
  have HS := Lib.hid hsz
  obtain ⟨a, cap, rfl, hc, hcm, hcell⟩ := hv.shape
  have HC := Lib.hid hcell
  clear he hv hsz hcell
  unfold maxLen at hcm
  by_cases h0 : xs.length = 0
  · have e0 : ((xs.length : Int) == 0) = true := by simpa using h0
    have hnil : xs = [] := List.eq_nil_of_length_eq_zero h0
    have HN := Lib.hid hnil
    clear hnil h0
    go_enter Tryd.func31, Tryd.ntmps31
    go_wp2_with fail
    go_ret2
    refine ⟨?_, Below.refl _ _⟩
    rw [HN.out]; rfl
  · have e0 : ((xs.length : Int) == 0) = false := by simpa using h0
    have h1 : 0 < xs.length := by omega
    clear h0
    go_enter Tryd.func31, Tryd.ntmps31
    go_wp2_with fail
    go_loopw [12] (fun i wr => ∃ k : Nat, k ≤ xs.length ∧ i = .int .i64 k ∧ Below w.heap.size w wr ∧ ∀ (j : Nat) x, j < k → xs[j]? = some x → compB (bl x) = true) (fun i _ => xs.length - (intOf i).toNat)
    case atStart => exact ⟨0, Nat.zero_le _, rfl, Below.refl _ _, fun j x hj => by omega⟩
    case round =>
      obtain ⟨k, hk, rfl, hb, hall⟩ := hrel
      have HA := Lib.hid hall
      have HB := Lib.hid hb
      clear hall hb
      by_cases hlt : k < xs.length
      · obtain ⟨x, hx⟩ : ∃ x, xs[k]? = some x := ⟨xs[k], by simp [hlt]⟩
        obtain ⟨b, o, rfl, _, hcl⟩ := HC.out k x hx
        have hcell : wr.cell? ⟨b, o + k, none⟩ = some (.string x) := (HB.out.cell (p := ⟨b, o + k, none⟩) (block_lt hcl)).trans hcl
        have HK := Lib.hid hx
        have hxs : x.size ≤ 9223372036854775807 := HS.out x (List.mem_of_getElem? hx)
        clear hx hcl
        cases hc : compB (bl x)
        · have HCc := Lib.hid hc
          clear hc
          go_wp2_with (go_at_call 57; refine (isComponent_any x wr (HE.out.below HB.out) hxs).mono ?_; rintro e w' ⟨rfl, hb2⟩; rw [HCc.out])
          go_ret2
          refine ⟨?_, below_next HB.out hb2⟩
          have h2 : (xs.map bl).all compB = false := by
            rw [List.all_map, List.all_eq_false]; exact ⟨x, List.mem_of_getElem? HK.out, by simp [HCc.out]⟩
          have h3 : xs.map bl ≠ [] := by intro e; simp at e; simp [e] at h1
          rw [joinL, if_neg h3, if_pos h2]; rfl
        · have HCc := Lib.hid hc
          clear hc
          go_wp2_with (go_at_call 57; refine (isComponent_any x wr (HE.out.below HB.out) hxs).mono ?_; rintro e w' ⟨rfl, hb2⟩; rw [HCc.out])
          go_roundw
          case rel =>
            refine ⟨k + 1, by omega, by go_num, below_next HB.out hb2, fun j x' hj hx' => ?_⟩
            rcases Nat.lt_or_ge j k with h | h
            · exact HA.out j x' h hx'
            · obtain rfl : j = k := by omega
              have := HK.out.symm.trans hx'
              cases this
              exact HCc.out
          case measure => simp [intOf]; omega
      · have hall2 : (xs.map bl).all compB = true := by
          rw [List.all_map, List.all_eq_true]
          intro x hm
          obtain ⟨j, hj, rfl⟩ := List.getElem_of_mem hm
          exact HA.out j _ (by omega) (by simp)
        have h3 : xs.map bl ≠ [] := by intro e; simp at e; simp [e] at h1
        have hlen : (uniteL (xs.map bl)).length ≤ 140737488355328 := by
          have h1 := uniteL_len (xs.map bl) 64 (fun p hp => by
            have := List.all_eq_true.1 hall2 p hp
            simp only [compB, Bool.and_eq_true, decide_eq_true_eq] at this
            exact this.1.1.1.1.2)
          rw [List.length_map] at h1
          have h2 : xs.length * (64 + 1) ≤ 65536 * (64 + 1) := Nat.mul_le_mul_right _ (by omega)
          omega
        have H2 := Lib.hid hall2
        have H3 := Lib.hid h3
        have hV2 : StrsAt S wr (.slice a xs.length cap) xs := RowAt.below HV.out (by omega) HB.out
        have HV2 := Lib.hid hV2
        clear hall2 h3 hV2
        go_wp2_with fail
        refine (join_any xs S _ ⟨#[47]⟩ wr HV2.out hlen (by omega)).mono ?_
        rintro e w1 ⟨rfl, hb1⟩
        have HB1 := Lib.hid hb1
        clear hb1
        have hsize : (⟨(Lib.join (xs.map bl) (bl ⟨#[47]⟩)).toArray⟩ : ByteArray).size = (uniteL (xs.map bl)).length := by rw [size_bl, bl_mk]; rfl
        go_wp2_with fail
        all_goals (go_ret2; refine ⟨?_, below_next HB.out HB1.out⟩)
        · rw [joinL, if_neg H3.out, if_neg (by rw [H2.out]; simp), if_pos (by rw [List.length_map]; omega)]; rfl
        · rw [joinL, if_neg H3.out, if_neg (by rw [H2.out]; simp), if_neg (by rw [List.length_map]; omega)]; rfl
        · rw [joinL, if_neg H3.out, if_neg (by rw [H2.out]; simp), if_pos (by rw [List.length_map]; omega)]; rfl

end Go.Proofs.YtlipekkiaiaplaaDoor
