/- TreediffTexts: for every input the law returns true, and each argument reads afterwards as it read before (the tied card). -/
import Derived.Test.YtdieneaillkbgaaGreatDoorMH
import Derived.ChangeKeysEq
import Derived.Laws.StructEq
/- The statements' helpers: changes, wide. -/
namespace Go.Proofs.YtdieneaillkbgaaGreatDoor
open Go Go.RowKit Go.Maps


theorem gotC_shared {w w' : World} {v : Value} {ys : List VChg} (h : w'.ownsRow w.heap.size 58 9 v ys.length (chgsC ys)) (hb : Below w.heap.size w w') (hd : ∀ y ∈ ys, DataAt (fun j => j < w.heap.size) w y.1 y.2.en.data ∧ ChgOk y.2) : ChgsAt (fun _ => True) w' v (ys.map Prod.snd) := by
  refine ⟨chgsC ys, ?_, chgsC_in (fun y hy => ⟨data_mono ((hd y hy).1.below hb) (fun _ _ => trivial), (hd y hy).2⟩)⟩
  rw [List.length_map]
  exact RowAt.mono (row_of_owns h) (fun k hk hS => trivial) (by omega)
structure LoopK (L : List Chg) (w : World) (k : Nat) (v : Value) (ys : List VChg) (wr : World) : Prop where
  out : ys.map Prod.snd = L.take k
  row : wr.ownsRow w.heap.size 58 9 v ys.length (chgsC ys)
  dat : ∀ y ∈ ys, DataAt (fun j => j < w.heap.size) w y.1 y.2.en.data ∧ ChgOk y.2
  bel : Below w.heap.size w wr
set_option maxRecDepth 100000 in
set_option maxHeartbeats 2000000 in
theorem changes_any (S : Nat → Prop) (L : List Chg) (vl : Value) (w : World) (hl : ChgsAt S w vl L) (hn : L.length ≤ 4096) :
    Calls Tryz.prog 24 #[vl] w fun e w' => ∃ a' c', e = .returned (.slice a' L.length c') ∧ ChgsAt (fun _ => True) w' (.slice a' L.length c') L ∧ c' ≤ 9223372036854775807 ∧ Below w.heap.size w w' := by
  have HLS := Lib.hid (chgs_old hl)
  obtain ⟨al, cl, rfl, hc, hm⟩ := chgs_shape hl
  unfold maxLen at hm
  obtain ⟨n, hnn⟩ : ∃ n, n = L.length := ⟨_, rfl⟩
  rw [← hnn] at hc HLS hn ⊢
  have HN := Lib.hid hnn
  clear hl hnn
  go_enter Tryz.func24, Tryz.ntmps24
  go_wp2_with fail
  go_loopw [3, 8] (fun v i wr => ∃ (k : Nat) (ys : List VChg), k ≤ n ∧ i = .int .i64 k ∧ LoopK L w k v ys wr) (fun _ i _ => n - (intOf i).toNat)
  case atStart => exact ⟨0, [], Nat.zero_le _, rfl, by simp, World.ownsRow_nil _ _ _ _, by simp, Below.refl _ _⟩
  case round =>
    obtain ⟨k, ys, hk, rfl, hlp⟩ := hrel
    obtain ⟨av, cv, hsv, hvn, hvm⟩ := owns_shape hlp.row
    subst hsv
    unfold maxLen at hvm
    have HYL := Lib.hid (show ys.length = k by
      have := congrArg List.length hlp.out
      rw [List.length_map, List.length_take, ← HN.out] at this
      omega)
    have hyl : ys.length ≤ 4096 := by rw [HYL.out]; omega
    have HLP := Lib.hid hlp
    clear hlp
    by_cases hlt : k < n
    · obtain ⟨c, hcc⟩ : ∃ c, L[k]? = some c := ⟨L[k]'(by rw [← HN.out]; exact hlt), by simp⟩
      obtain ⟨bl, ol, dv, rfl, hbl, hd, hok, hcq0⟩ := chgs_at HLS.out hcc
      have hcq := fun j hj => (HLP.out.bel.cell (p := ⟨bl, ol + k * 9 + j, none⟩) hbl).trans (hcq0 j hj)
      have HAT := Lib.hid hcc
      have HD := Lib.hid hd
      have HOK := Lib.hid hok
      obtain ⟨a1, cap1, rfl, hd1, hd2⟩ := hd.slice
      unfold maxLen at hd2
      have c0 := (hcq 0 (by omega)).trans rfl
      have c1 := (hcq 1 (by omega)).trans rfl
      have c2 := (hcq 2 (by omega)).trans rfl
      have c3 := (hcq 3 (by omega)).trans rfl
      have c4 := (hcq 4 (by omega)).trans rfl
      have c5 := (hcq 5 (by omega)).trans rfl
      have c6 := (hcq 6 (by omega)).trans rfl
      have c7 := (hcq 7 (by omega)).trans rfl
      have c8 := (hcq 8 (by omega)).trans rfl
      simp only [chgC, List.getElem?_cons_succ, List.getElem?_cons_zero, Nat.add_zero] at c0 c1 c2 c3 c4 c5 c6 c7 c8
      clear hcc hd hok hcq hcq0
      go_upto_region 5 with (fail)
      obtain ⟨W, hW⟩ : ∃ W : World, W = wr.alloc (.cells #[.int .i64 c.kind, .string c.path, .string c.src, .string c.en.path, .int .i64 c.en.kind, .int .i64 c.en.mode, .int .i64 c.en.time, .slice a1 c.en.data.length cap1, .string c.en.link] 50) := ⟨_, rfl⟩
      rw [← hW]
      have HW := Lib.hid (show Below wr.heap.size wr W by rw [hW]; exact (Below.refl _ _).alloc (Nat.le_refl _) _)
      have HX := Lib.hid (show W.heap[wr.heap.size]? = some (.cells #[.int .i64 c.kind, .string c.path, .string c.src, .string c.en.path, .int .i64 c.en.kind, .int .i64 c.en.mode, .int .i64 c.en.time, .slice a1 c.en.data.length cap1, .string c.en.link] 50 (0, 0)) by rw [hW]; exact new20 wr _)
      clear hW c0 c1 c2 c3 c4 c5 c6 c7 c8
      have c0 := cell20 (k := 0) HX.out
      have c1 := cell20 (k := 1) HX.out
      have c2 := cell20 (k := 2) HX.out
      have c3 := cell20 (k := 3) HX.out
      have c4 := cell20 (k := 4) HX.out
      have c5 := cell20 (k := 5) HX.out
      have c6 := cell20 (k := 6) HX.out
      have c7 := cell20 (k := 7) HX.out
      have c8 := cell20 (k := 8) HX.out
      have hltX := lt20 HX.out
      simp only [List.getElem?_toArray, List.getElem?_cons_succ, List.getElem?_cons_zero] at c0 c1 c2 c3 c4 c5 c6 c7 c8
      have HBW := Lib.hid (below_next HLP.out.bel HW.out)
      have hrow := own_below HLP.out.row HW.out
      have hbb : w.heap.size ≤ W.heap.size := HBW.out.size
      have HROW := Lib.hid hrow
      have HSZ := Lib.hid hbb
      go_wp2_with (at_builtin; go_must (refine wpList_app1p Tryz.appChgs rfl _ _ rfl w.heap.size (.slice av ys.length cv) ys.length (chgsC ys) rfl W (chgC (.slice a1 c.en.data.length cap1) c) _ rfl rfl chgC_one hrow (by omega) hbb ?_); intro v8 w8 hown8 hg8 _ hpl8; have HOWN8 := Lib.hid hown8; have HG8 := Lib.hid hg8; clear hown8 hg8 hpl8 c0 c1 c2 c3 c4 c5 c6 c7 c8 hltX)
      go_roundw
      case rel =>
        refine ⟨k + 1, ys ++ [(.slice a1 c.en.data.length cap1, c)], by omega, by go_num, ?_, ?_, ?_, ?_⟩
        · rw [List.map_append, HLP.out.out, List.take_add_one, HAT.out]; rfl
        · rw [List.length_append, List.length_singleton, chgsC_snoc]; exact HOWN8.out
        · intro y hy
          rcases List.mem_append.1 hy with hy | hy
          · exact HLP.out.dat y hy
          · rw [List.mem_singleton] at hy
            subst hy
            exact ⟨HD.out, HOK.out⟩
        · exact below_grown HBW.out HROW.out HG8.out (Nat.le_refl _) HSZ.out
      case measure => simp [intOf]; omega
    · have hk2 : k = n := by omega
      have hkl : ys.length = n := by rw [HYL.out]; exact hk2
      have HYT := Lib.hid (show ys.map Prod.snd = L by
        have h1 := HLP.out.out
        rw [hk2, HN.out, List.take_length] at h1
        exact h1)
      have HCS := Lib.hid (show ChgsAt (fun _ => True) wr (.slice av n cv) L from by
        rw [← HYT.out, ← hkl]
        exact gotC_shared HLP.out.row HLP.out.bel HLP.out.dat)
      have HKL := Lib.hid hkl
      clear hk2 hkl
      go_wp2_with fail
      go_ret
      exact ⟨av, cv, by rw [HKL.out]; rfl, HCS.out, by omega, HLP.out.bel⟩

def WideOk (cs : List Chg) : Prop := cs.length ≤ 40 ∧ ∀ c ∈ cs, c.path.size ≤ 600 ∧ c.src.size ≤ 600 ∧ SmE c.en
def WdRes23 (cs : List Chg) (w : World) (e : Ending) (w' : World) : Prop := ∃ b, e = .returned (.bool b) ∧ (b = false → WideOk cs) ∧ Below w.heap.size w w'
set_option maxRecDepth 100000 in
set_option maxHeartbeats 2000000 in
theorem wide23_any (S : Nat → Prop) (L : List Chg) (vl : Value) (w : World) (hl : ChgsAt S w vl L) : Calls Tryz.prog 22 #[vl] w (WdRes23 L w) := by
  have HLS := Lib.hid (chgs_old hl)
  obtain ⟨al, cl, rfl, hc, hm⟩ := chgs_shape hl
  unfold maxLen at hm
  obtain ⟨n, hnn⟩ : ∃ n, n = L.length := ⟨_, rfl⟩
  rw [← hnn] at hc HLS ⊢
  have HN := Lib.hid hnn
  clear hl hnn
  go_enter Tryz.func22, Tryz.ntmps22
  go_wp2_with fail
  go_loopw [7] (fun i wr => ∃ k : Nat, k ≤ n ∧ i = .int .i64 k ∧ (∀ c ∈ L.take k, c.path.size ≤ 600 ∧ c.src.size ≤ 600 ∧ SmE c.en) ∧ Below w.heap.size w wr) (fun i _ => n - (intOf i).toNat)
  case atStart => exact ⟨0, Nat.zero_le _, rfl, by simp, Below.refl _ _⟩
  case round =>
    obtain ⟨k, hk, rfl, hsm, hbr⟩ := hrel
    have HSM := Lib.hid hsm
    have HBR := Lib.hid hbr
    clear hsm hbr
    by_cases hlt : k < n
    · obtain ⟨c, hcc⟩ : ∃ c, L[k]? = some c := ⟨L[k]'(by rw [← HN.out]; exact hlt), by simp⟩
      obtain ⟨b, o, dv, rfl, hb, hd, hok, hq⟩ := chgs_at (HLS.out.below HBR.out) hcc
      have HAT := Lib.hid hcc
      have HD := Lib.hid hd
      have HOK := Lib.hid hok
      obtain ⟨a1, cap1, rfl, hd1, hd2⟩ := hd.slice
      unfold maxLen at hd2
      have c0 := (hq 0 (by omega)).trans rfl
      have c1 := (hq 1 (by omega)).trans rfl
      have c2 := (hq 2 (by omega)).trans rfl
      have c3 := (hq 3 (by omega)).trans rfl
      have c4 := (hq 4 (by omega)).trans rfl
      have c5 := (hq 5 (by omega)).trans rfl
      have c6 := (hq 6 (by omega)).trans rfl
      have c7 := (hq 7 (by omega)).trans rfl
      have c8 := (hq 8 (by omega)).trans rfl
      simp only [chgC, List.getElem?_cons_succ, List.getElem?_cons_zero, Nat.add_zero] at c0 c1 c2 c3 c4 c5 c6 c7 c8
      clear hcc hd hok hq
      go_upto_region 4 with (fail)
      obtain ⟨W, hW⟩ : ∃ W : World, W = wr.alloc (.cells #[.int .i64 c.kind, .string c.path, .string c.src, .string c.en.path, .int .i64 c.en.kind, .int .i64 c.en.mode, .int .i64 c.en.time, .slice a1 c.en.data.length cap1, .string c.en.link] 50) := ⟨_, rfl⟩
      rw [← hW]
      have HW := Lib.hid (show Below wr.heap.size wr W by rw [hW]; exact (Below.refl _ _).alloc (Nat.le_refl _) _)
      have HX := Lib.hid (show W.heap[wr.heap.size]? = some (.cells #[.int .i64 c.kind, .string c.path, .string c.src, .string c.en.path, .int .i64 c.en.kind, .int .i64 c.en.mode, .int .i64 c.en.time, .slice a1 c.en.data.length cap1, .string c.en.link] 50 (0, 0)) by rw [hW]; exact new20 wr _)
      clear hW c0 c1 c2 c3 c4 c5 c6 c7 c8
      have c0 := cell20 (k := 0) HX.out
      have c1 := cell20 (k := 1) HX.out
      have c2 := cell20 (k := 2) HX.out
      have c3 := cell20 (k := 3) HX.out
      have c4 := cell20 (k := 4) HX.out
      have c5 := cell20 (k := 5) HX.out
      have c6 := cell20 (k := 6) HX.out
      have c7 := cell20 (k := 7) HX.out
      have c8 := cell20 (k := 8) HX.out
      have hltX := lt20 HX.out
      simp only [List.getElem?_toArray, List.getElem?_cons_succ, List.getElem?_cons_zero] at c0 c1 c2 c3 c4 c5 c6 c7 c8
      have HBW := Lib.hid (below_next HBR.out HW.out)
      by_cases hp : 600 < c.path.size
      · have hp1 := HOK.out.pth
        unfold maxLen at hp1
        go_wp2_with fail
        go_ret
        exact ⟨true, rfl, (fun h => by cases h), HBW.out⟩
      · by_cases hs : 600 < c.src.size
        · have hp1 := HOK.out.pth
          have hl1 := HOK.out.src
          unfold maxLen at hp1 hl1
          go_wp2_with fail
          go_ret
          exact ⟨true, rfl, (fun h => by cases h), HBW.out⟩
        · have h1' : decide (600 < c.path.size) = false := by simp; omega
          have h2' : decide (600 < c.src.size) = false := by simp; omega
          have HPS := Lib.hid (show c.path.size ≤ 600 ∧ c.src.size ≤ 600 by omega)
          have hp1 := HOK.out.pth
          have hl1 := HOK.out.src
          unfold maxLen at hp1 hl1
          go_wp2_with fail
          obtain ⟨W1, hW1⟩ : ∃ Z : World, Z = W.alloc (.cells #[.string c.en.path, .int .i64 c.en.kind, .int .i64 c.en.mode, .int .i64 c.en.time, .slice a1 c.en.data.length cap1, .string c.en.link] 48) := ⟨_, rfl⟩
          have hws : W.heap.size + 1 = W1.heap.size := by rw [hW1]; simp
          have HB1 := Lib.hid (show Below W.heap.size W W1 by rw [hW1]; exact (Below.refl _ _).alloc (Nat.le_refl _) _)
          have HE1 := Lib.hid (show EntsAt (fun _ => True) W1 (.slice (some ⟨W.heap.size, 0, none⟩) 1 1) [c.en] by rw [hW1]; exact ent_row (HD.out.below HW.out) HOK.out.en)
          rw [← hW1, hws]
          obtain ⟨W2, hW2⟩ : ∃ Z : World, Z = W1.alloc (.cells #[.slice (some ⟨W.heap.size, 0, none⟩) 1 1] 22) := ⟨_, rfl⟩
          have HB2 := Lib.hid (show Below W1.heap.size W1 W2 by rw [hW2]; exact (Below.refl _ _).alloc (Nat.le_refl _) _)
          have HLA := Lib.hid (show ListsAt (fun _ => True) W2 (.slice (some ⟨W1.heap.size, 0, none⟩) 1 1) [(.slice (some ⟨W.heap.size, 0, none⟩) 1 1, [c.en])] by
            rw [hW2]
            exact lists_new (ls := [(.slice (some ⟨W.heap.size, 0, none⟩) 1 1, [c.en])]) (by simp) (fun x hx => by
              simp only [List.mem_cons, List.not_mem_nil, or_false] at hx
              subst hx
              exact HE1.out))
          rw [← hW2]
          have HBW2 := Lib.hid (below_next (below_next HBW.out HB1.out) HB2.out)
          clear hW1 hws hW2
          refine (large23_any _ _ _ W2 HLA.out).mono ?_
          rintro e w5 ⟨lb, rfl, hlg, hb5⟩
          have HLG := Lib.hid hlg
          have HB5 := Lib.hid (below_next HBW2.out hb5)
          clear hlg hb5 c0 c1 c2 c3 c4 c5 c6 c7 c8 hltX
          cases lb
          case true =>
            skip
            go_wp2_with fail
            go_ret
            exact ⟨true, rfl, (fun h => by cases h), HB5.out⟩
          case false =>
            go_wp2_with fail
            go_roundw
            case rel =>
              refine ⟨k + 1, by omega, by go_num, fun x hx => ?_, HB5.out⟩
              rw [List.take_add_one, HAT.out] at hx
              rcases List.mem_append.1 hx with hx | hx
              · exact HSM.out x hx
              · simp only [Option.toList_some, List.mem_singleton] at hx
                rw [hx]
                exact ⟨HPS.out.1, HPS.out.2, (HLG.out (by trivial) _ (List.mem_cons_self ..)).2 _ (List.mem_cons_self ..)⟩
            case measure => simp [intOf]; omega
    · have hk2 : n = k := by omega
      subst hk2
      go_wp2_with fail
      go_ret
      refine ⟨_, rfl, fun h => ⟨?_, fun c hc => HSM.out c (by rw [HN.out, List.take_length]; exact hc)⟩, HBR.out⟩
      rw [← HN.out]
      simp at h
      omega

end Go.Proofs.YtdieneaillkbgaaGreatDoor

/- The reference kinkeepref23: Text. -/
namespace Go.Proofs.YtdieneaillkbgaaGreatDoor
open Go Go.RowKit Go.Maps

set_option maxRecDepth 100000 in
set_option maxHeartbeats 2000000 in
theorem r_text_any (S : Nat → Prop) (L : List Chg) (vl : Value) (w : World) (hl : ChgsAt S w vl L) (hsm : ∀ c ∈ L, ShortC c) (hn : L.length ≤ 65536) :
    Calls Tryz.prog 25 #[vl] w fun e w' => e = .returned (.string ⟨(textP L).toArray⟩) ∧ Below w.heap.size w w' := by
  have HLS := Lib.hid (chgs_old hl)
  have HSM := Lib.hid hsm
  obtain ⟨al, cl, rfl, hc, hm⟩ := chgs_shape hl
  unfold maxLen at hm
  obtain ⟨n, hnn⟩ : ∃ n, n = L.length := ⟨_, rfl⟩
  rw [← hnn] at hc HLS hn ⊢
  have HN := Lib.hid hnn
  clear hl hnn hsm
  go_enter Tryz.func25, Tryz.ntmps25
  go_wp2_with fail
  go_loopw [3, 8] (fun v i wr => ∃ (k : Nat) (s : ByteArray), k ≤ n ∧ i = .int .i64 k ∧ v = .string s ∧ bl s = textP (L.take k) ∧ Below w.heap.size w wr) (fun _ i _ => n - (intOf i).toNat)
  case atStart => exact ⟨0, ⟨#[]⟩, Nat.zero_le _, rfl, rfl, rfl, Below.refl _ _⟩
  case round =>
    obtain ⟨k, s, hk, rfl, rfl, hs, hbr⟩ := hrel
    have HS := Lib.hid hs
    have HBR := Lib.hid hbr
    have hsz : s.size ≤ 10000000000 := by
      have h1 := text_len (cs := L.take k) fun x hx => HSM.out x (List.mem_of_mem_take hx)
      rw [List.length_take] at h1
      rw [size_bl, hs]
      omega
    clear hs hbr
    by_cases hlt : k < n
    · obtain ⟨c, hcc⟩ : ∃ c, L[k]? = some c := ⟨L[k]'(by rw [← HN.out]; exact hlt), by simp⟩
      have HSH := Lib.hid (HSM.out c (List.mem_of_getElem? hcc))
      have HTK := Lib.hid (text_take hcc)
      have hp1 := HSH.out.1
      have hp2 := HSH.out.2
      obtain ⟨b, o, dv, rfl, hb, hd, hok, hq⟩ := chgs_at (HLS.out.below HBR.out) hcc
      have HAT := Lib.hid hcc
      have HD := Lib.hid hd
      have HOK := Lib.hid hok
      obtain ⟨a1, cap1, rfl, hd1, hd2⟩ := hd.slice
      unfold maxLen at hd2
      have c0 := (hq 0 (by omega)).trans rfl
      have c1 := (hq 1 (by omega)).trans rfl
      have c2 := (hq 2 (by omega)).trans rfl
      have c3 := (hq 3 (by omega)).trans rfl
      have c4 := (hq 4 (by omega)).trans rfl
      have c5 := (hq 5 (by omega)).trans rfl
      have c6 := (hq 6 (by omega)).trans rfl
      have c7 := (hq 7 (by omega)).trans rfl
      have c8 := (hq 8 (by omega)).trans rfl
      simp only [chgC, List.getElem?_cons_succ, List.getElem?_cons_zero, Nat.add_zero] at c0 c1 c2 c3 c4 c5 c6 c7 c8
      clear hcc hd hok hq
      go_upto_region 5 with (fail)
      obtain ⟨W, hW⟩ : ∃ W : World, W = wr.alloc (.cells #[.int .i64 c.kind, .string c.path, .string c.src, .string c.en.path, .int .i64 c.en.kind, .int .i64 c.en.mode, .int .i64 c.en.time, .slice a1 c.en.data.length cap1, .string c.en.link] 50) := ⟨_, rfl⟩
      rw [← hW]
      have HW := Lib.hid (show Below wr.heap.size wr W by rw [hW]; exact (Below.refl _ _).alloc (Nat.le_refl _) _)
      have HX := Lib.hid (show W.heap[wr.heap.size]? = some (.cells #[.int .i64 c.kind, .string c.path, .string c.src, .string c.en.path, .int .i64 c.en.kind, .int .i64 c.en.mode, .int .i64 c.en.time, .slice a1 c.en.data.length cap1, .string c.en.link] 50 (0, 0)) by rw [hW]; exact new20 wr _)
      clear hW c0 c1 c2 c3 c4 c5 c6 c7 c8
      have c0 := cell20 (k := 0) HX.out
      have c1 := cell20 (k := 1) HX.out
      have c2 := cell20 (k := 2) HX.out
      have c3 := cell20 (k := 3) HX.out
      have c4 := cell20 (k := 4) HX.out
      have c5 := cell20 (k := 5) HX.out
      have c6 := cell20 (k := 6) HX.out
      have c7 := cell20 (k := 7) HX.out
      have c8 := cell20 (k := 8) HX.out
      have hltX := lt20 HX.out
      simp only [List.getElem?_toArray, List.getElem?_cons_succ, List.getElem?_cons_zero] at c0 c1 c2 c3 c4 c5 c6 c7 c8
      have HBW := Lib.hid (below_next HBR.out HW.out)
      by_cases h1 : c.kind = 1
      · skip
        go_wp2_with fail
        go_roundw
        case rel =>
          refine ⟨k + 1, _, by omega, by go_num, rfl, ?_, HBW.out⟩
          rw [HTK.out]
          simp only [bl_append, HS.out, headC]
          simp [bl, *]
        case measure => simp [intOf]; omega
      · by_cases h2 : c.kind = 2
        · skip
          go_wp2_with fail
          go_roundw
          case rel =>
            refine ⟨k + 1, _, by omega, by go_num, rfl, ?_, HBW.out⟩
            rw [HTK.out]
            simp only [bl_append, HS.out, headC]
            simp [bl, *]
          case measure => simp [intOf]; omega
        · by_cases h3 : c.kind = 3
          · skip
            go_wp2_with fail
            go_roundw
            case rel =>
              refine ⟨k + 1, _, by omega, by go_num, rfl, ?_, HBW.out⟩
              rw [HTK.out]
              simp only [bl_append, HS.out, headC]
              simp [bl, *]
            case measure => simp [intOf]; omega
          · by_cases h4 : c.kind = 4
            · skip
              go_wp2_with fail
              go_roundw
              case rel =>
                refine ⟨k + 1, _, by omega, by go_num, rfl, ?_, HBW.out⟩
                rw [HTK.out]
                simp only [bl_append, HS.out, headC]
                simp [bl, *]
              case measure => simp [intOf]; omega
            · skip
              go_wp2_with fail
              go_roundw
              case rel =>
                refine ⟨k + 1, _, by omega, by go_num, rfl, ?_, HBW.out⟩
                rw [HTK.out]
                simp only [bl_append, HS.out, headC]
                simp [bl, *]
              case measure => simp [intOf]; omega
    · have hk2 : k = n := by omega
      have HSE := Lib.hid (show s = ⟨(textP L).toArray⟩ by
        apply bl_inj
        rw [HS.out, bl_of, hk2, HN.out, List.take_length])
      go_wp2_with fail
      go_ret
      exact ⟨by rw [← HSE.out]; rfl, HBR.out⟩

end Go.Proofs.YtdieneaillkbgaaGreatDoor

/- The reference kinkeepref23: Valid. -/
namespace Go.Proofs.YtdieneaillkbgaaGreatDoor
open Go Go.RowKit Go.Maps

set_option maxRecDepth 100000 in
set_option maxHeartbeats 2000000 in
theorem rvalid1 (S : Nat → Prop) (p s : ByteArray) (en : Ent) (v : Value) (w : World) (hd : DataAt S w v en.data) (henv : p.size ≤ 16777216 ∧ s.size ≤ 16777216 ∧ en.path.size ≤ 16777216) :
    Calls Tryz.prog 27 #[chgV v ⟨1, p, s, en⟩] w fun e w' => e = .returned (.bool (chgOk ⟨1, p, s, en⟩)) ∧ Below w.heap.size w w' := by
  have HD := Lib.hid hd
  have HE := Lib.hid henv
  obtain ⟨_, a, cap, rfl, hc, hm, -⟩ := hd
  unfold maxLen at hm
  have HR := Lib.hid (show chgOk ⟨1, p, s, en⟩ = (validP (bl p) && (decide (s = noPath) && decide (en = noEnt))) from rfl)
  unfold chgV
  simp only
  clear henv
  go_enter Tryz.func27, Tryz.ntmps27
  go_wp2_with fail
  obtain ⟨W, hW⟩ : ∃ W : World, W = w.alloc (.cells #[.int .i64 1, .string p, .string s, .string en.path, .int .i64 en.kind, .int .i64 en.mode, .int .i64 en.time, .slice a en.data.length cap, .string en.link] 50) := ⟨_, rfl⟩
  rw [← hW]
  have HB0 := Lib.hid (show Below w.heap.size w W by rw [hW]; exact (Below.refl _ _).alloc (Nat.le_refl _) _)
  have HX0 := Lib.hid (show W.heap[w.heap.size]? = some (.cells #[.int .i64 1, .string p, .string s, .string en.path, .int .i64 en.kind, .int .i64 en.mode, .int .i64 en.time, .slice a en.data.length cap, .string en.link] 50 (0, 0)) by rw [hW]; exact new20 w _)
  have hlt0 := lt20 HX0.out
  clear hW
  cases hv : validP (bl p) with
  | false =>
    refine (r_valid20_is p false W HE.out.1 hv).mono ?_
    have HV := Lib.hid hv
    rintro e w1 ⟨rfl, hb1⟩
    have HB1 := Lib.hid (below_next HB0.out hb1)
    have HX1 := Lib.hid ((hb1.block w.heap.size (lt20 HX0.out)).trans HX0.out)
    clear hb1
    have hlt0 := lt20 HX1.out
    have c0 := cell20 (k := 0) HX1.out
    have c1 := cell20 (k := 1) HX1.out
    have c2 := cell20 (k := 2) HX1.out
    have c3 := cell20 (k := 3) HX1.out
    have c4 := cell20 (k := 4) HX1.out
    have c5 := cell20 (k := 5) HX1.out
    have c6 := cell20 (k := 6) HX1.out
    have c7 := cell20 (k := 7) HX1.out
    have c8 := cell20 (k := 8) HX1.out
    simp only [List.getElem?_toArray, List.getElem?_cons_succ, List.getElem?_cons_zero] at c0 c1 c2 c3 c4 c5 c6 c7 c8
    clear hv
    go_wp2_with fail
    go_ret
    exact ⟨ret_bool (by rw [HR.out, HV.out]; rfl), HB1.out⟩
  | true =>
    refine (r_valid20_is p true W HE.out.1 hv).mono ?_
    have HV := Lib.hid hv
    rintro e w1 ⟨rfl, hb1⟩
    have HB1 := Lib.hid (below_next HB0.out hb1)
    have HX1 := Lib.hid ((hb1.block w.heap.size (lt20 HX0.out)).trans HX0.out)
    clear hb1
    have hlt0 := lt20 HX1.out
    have c0 := cell20 (k := 0) HX1.out
    have c1 := cell20 (k := 1) HX1.out
    have c2 := cell20 (k := 2) HX1.out
    have c3 := cell20 (k := 3) HX1.out
    have c4 := cell20 (k := 4) HX1.out
    have c5 := cell20 (k := 5) HX1.out
    have c6 := cell20 (k := 6) HX1.out
    have c7 := cell20 (k := 7) HX1.out
    have c8 := cell20 (k := 8) HX1.out
    simp only [List.getElem?_toArray, List.getElem?_cons_succ, List.getElem?_cons_zero] at c0 c1 c2 c3 c4 c5 c6 c7 c8
    clear hv
    by_cases hs : s = ⟨#[]⟩
    · have e1 : s.toList.isEmpty = true := by rw [str_none, decide_eq_true hs]
      have HS := Lib.hid hs
      clear hs
      go_wp2_with fail
      have hC := r_same20_any S (fun _ => False) en noEnt (.slice a en.data.length cap) (.slice none 0 0) w1 (HD.out.below HB1.out) (DataAt.nil _ _)
      unfold entV noEnt at hC
      simp only at hC
      refine hC.mono ?_
      rintro e w2 ⟨rfl, hb2⟩
      have HB2 := Lib.hid (below_next HB1.out hb2)
      clear hb2 hC c0 c1 c2 c3 c4 c5 c6 c7 c8
      go_wp2_with fail
      go_ret
      exact ⟨ret_bool (by rw [HR.out, HV.out, HS.out]; rfl), HB2.out⟩
    · have e1 : s.toList.isEmpty = false := by rw [str_none, decide_eq_false hs]
      have HS := Lib.hid hs
      clear hs
      go_wp2_with fail
      go_ret
      exact ⟨ret_bool (by rw [HR.out, HV.out, decide_eq_false (show ¬ s = noPath from HS.out)]; rfl), HB1.out⟩
set_option maxRecDepth 100000 in
set_option maxHeartbeats 2000000 in
theorem rvalid2 (S : Nat → Prop) (p s : ByteArray) (en : Ent) (v : Value) (w : World) (hd : DataAt S w v en.data) (hok : EntOk en) (henv : p.size ≤ 16777216 ∧ s.size ≤ 16777216 ∧ en.path.size ≤ 16777216) :
    Calls Tryz.prog 27 #[chgV v ⟨2, p, s, en⟩] w fun e w' => e = .returned (.bool (chgOk ⟨2, p, s, en⟩)) ∧ Below w.heap.size w w' := by
  have HD := Lib.hid hd
  have HE := Lib.hid henv
  have HOK := Lib.hid hok
  obtain ⟨_, a, cap, rfl, hc, hm, -⟩ := hd
  unfold maxLen at hm
  have HR := Lib.hid (show chgOk ⟨2, p, s, en⟩ = (decide (p = en.path) && (validP (bl s) && (vEnt en && decide (en.kind ≠ 2)))) from rfl)
  unfold chgV
  simp only
  clear henv hok
  by_cases hp : p = en.path
  · subst hp
    go_enter Tryz.func27, Tryz.ntmps27
    go_wp2_with fail
    obtain ⟨W, hW⟩ : ∃ W : World, W = w.alloc (.cells #[.int .i64 2, .string en.path, .string s, .string en.path, .int .i64 en.kind, .int .i64 en.mode, .int .i64 en.time, .slice a en.data.length cap, .string en.link] 50) := ⟨_, rfl⟩
    rw [← hW]
    have HB0 := Lib.hid (show Below w.heap.size w W by rw [hW]; exact (Below.refl _ _).alloc (Nat.le_refl _) _)
    have HX0 := Lib.hid (show W.heap[w.heap.size]? = some (.cells #[.int .i64 2, .string en.path, .string s, .string en.path, .int .i64 en.kind, .int .i64 en.mode, .int .i64 en.time, .slice a en.data.length cap, .string en.link] 50 (0, 0)) by rw [hW]; exact new20 w _)
    have hlt0 := lt20 HX0.out
    clear hW
    cases hv : validP (bl s) with
    | false =>
      refine (r_valid20_is s false W HE.out.2.1 hv).mono ?_
      have HV := Lib.hid hv
      rintro e w1 ⟨rfl, hb1⟩
      have HB1 := Lib.hid (below_next HB0.out hb1)
      have HX1 := Lib.hid ((hb1.block w.heap.size (lt20 HX0.out)).trans HX0.out)
      clear hb1
      have hlt0 := lt20 HX1.out
      have c0 := cell20 (k := 0) HX1.out
      have c1 := cell20 (k := 1) HX1.out
      have c2 := cell20 (k := 2) HX1.out
      have c3 := cell20 (k := 3) HX1.out
      have c4 := cell20 (k := 4) HX1.out
      have c5 := cell20 (k := 5) HX1.out
      have c6 := cell20 (k := 6) HX1.out
      have c7 := cell20 (k := 7) HX1.out
      have c8 := cell20 (k := 8) HX1.out
      simp only [List.getElem?_toArray, List.getElem?_cons_succ, List.getElem?_cons_zero] at c0 c1 c2 c3 c4 c5 c6 c7 c8
      clear hv
      go_wp2_with fail
      go_ret
      exact ⟨ret_bool (by rw [HR.out, HV.out, Bool.false_and, Bool.and_false]), HB1.out⟩
    | true =>
      refine (r_valid20_is s true W HE.out.2.1 hv).mono ?_
      have HV := Lib.hid hv
      rintro e w1 ⟨rfl, hb1⟩
      have HB1 := Lib.hid (below_next HB0.out hb1)
      have HX1 := Lib.hid ((hb1.block w.heap.size (lt20 HX0.out)).trans HX0.out)
      clear hb1
      have hlt0 := lt20 HX1.out
      have c0 := cell20 (k := 0) HX1.out
      have c1 := cell20 (k := 1) HX1.out
      have c2 := cell20 (k := 2) HX1.out
      have c3 := cell20 (k := 3) HX1.out
      have c4 := cell20 (k := 4) HX1.out
      have c5 := cell20 (k := 5) HX1.out
      have c6 := cell20 (k := 6) HX1.out
      have c7 := cell20 (k := 7) HX1.out
      have c8 := cell20 (k := 8) HX1.out
      simp only [List.getElem?_toArray, List.getElem?_cons_succ, List.getElem?_cons_zero] at c0 c1 c2 c3 c4 c5 c6 c7 c8
      clear hv
      go_wp2_with fail
      cases hve : vEnt en with
      | false =>
        have hC := r_validE_any S en (.slice a en.data.length cap) w1 (HD.out.below HB1.out) HOK.out HE.out.2.2
        rw [hve] at hC
        unfold entV at hC
        refine hC.mono ?_
        have HVE := Lib.hid hve
        rintro e w2 ⟨rfl, hb2⟩
        have HB2 := Lib.hid (below_next HB1.out hb2)
        clear hb2 hC c0 c1 c2 c3 c4 c5 c6 c7 c8 hve
        go_wp2_with fail
        go_ret
        exact ⟨ret_bool (by rw [HR.out, HV.out, HVE.out]; simp), HB2.out⟩
      | true =>
        have hC := r_validE_any S en (.slice a en.data.length cap) w1 (HD.out.below HB1.out) HOK.out HE.out.2.2
        rw [hve] at hC
        unfold entV at hC
        refine hC.mono ?_
        have HVE := Lib.hid hve
        rintro e w2 ⟨rfl, hb2⟩
        clear c0 c1 c2 c3 c4 c5 c6 c7 c8 hve hC hlt0
        have HB2 := Lib.hid (below_next HB1.out hb2)
        have HX2 := Lib.hid ((hb2.block w.heap.size (lt20 HX1.out)).trans HX1.out)
        clear hb2
        have hlt0 := lt20 HX2.out
        have c0 := cell20 (k := 0) HX2.out
        have c1 := cell20 (k := 1) HX2.out
        have c2 := cell20 (k := 2) HX2.out
        have c3 := cell20 (k := 3) HX2.out
        have c4 := cell20 (k := 4) HX2.out
        have c5 := cell20 (k := 5) HX2.out
        have c6 := cell20 (k := 6) HX2.out
        have c7 := cell20 (k := 7) HX2.out
        have c8 := cell20 (k := 8) HX2.out
        simp only [List.getElem?_toArray, List.getElem?_cons_succ, List.getElem?_cons_zero] at c0 c1 c2 c3 c4 c5 c6 c7 c8
        have HRP := Lib.hid (show chgOk ⟨2, en.path, s, en⟩ = decide (en.kind ≠ 2) by rw [HR.out, HV.out, HVE.out]; simp)
        go_wp2_with fail
        go_ret
        refine ⟨ret_bool ?_, HB2.out⟩
        rw [HRP.out, Bool.eq_iff_iff]; simp
  · have e1 : ¬ p.toList = en.path.toList := fun h => hp (str_eq.1 h)
    have HP := Lib.hid hp
    clear hp
    go_enter Tryz.func27, Tryz.ntmps27
    go_wp2_with fail
    go_ret
    exact ⟨ret_bool (by rw [HR.out, decide_eq_false HP.out]; rfl), (Below.refl _ _).alloc (Nat.le_refl _) _⟩
set_option maxRecDepth 100000 in
set_option maxHeartbeats 2000000 in
theorem rvalid3 (S : Nat → Prop) (p s : ByteArray) (en : Ent) (v : Value) (w : World) (hd : DataAt S w v en.data) (hok : EntOk en) (henv : p.size ≤ 16777216 ∧ s.size ≤ 16777216 ∧ en.path.size ≤ 16777216) :
    Calls Tryz.prog 27 #[chgV v ⟨3, p, s, en⟩] w fun e w' => e = .returned (.bool (chgOk ⟨3, p, s, en⟩)) ∧ Below w.heap.size w w' := by
  have HD := Lib.hid hd
  have HE := Lib.hid henv
  have HOK := Lib.hid hok
  obtain ⟨_, a, cap, rfl, hc, hm, -⟩ := hd
  unfold maxLen at hm
  have HR := Lib.hid (show chgOk ⟨3, p, s, en⟩ = (decide (p = en.path) && (decide (s = noPath) && vEnt en)) from rfl)
  unfold chgV
  simp only
  clear henv hok
  by_cases hp : p = en.path
  · by_cases hs : s = ⟨#[]⟩
    · have e1 : s.toList.isEmpty = true := by rw [str_none, decide_eq_true hs]
      have HS := Lib.hid hs
      clear hs
      subst hp
      go_enter Tryz.func27, Tryz.ntmps27
      go_wp2_with fail
      obtain ⟨W, hW⟩ : ∃ W : World, W = w.alloc (.cells #[.int .i64 3, .string en.path, .string s, .string en.path, .int .i64 en.kind, .int .i64 en.mode, .int .i64 en.time, .slice a en.data.length cap, .string en.link] 50) := ⟨_, rfl⟩
      rw [← hW]
      have HB0 := Lib.hid (show Below w.heap.size w W by rw [hW]; exact (Below.refl _ _).alloc (Nat.le_refl _) _)
      clear hW
      have hC := r_validE_any S en (.slice a en.data.length cap) W (HD.out.below HB0.out) HOK.out HE.out.2.2
      unfold entV at hC
      refine hC.mono ?_
      rintro e w2 ⟨rfl, hb2⟩
      have HB2 := Lib.hid (below_next HB0.out hb2)
      clear hb2 hC
      go_wp2_with fail
      go_ret
      exact ⟨ret_bool (by rw [HR.out, HS.out]; simp [noPath]), HB2.out⟩
    · have e1 : s.toList.isEmpty = false := by rw [str_none, decide_eq_false hs]
      have HS := Lib.hid hs
      clear hs
      subst hp
      go_enter Tryz.func27, Tryz.ntmps27
      go_wp2_with fail
      go_ret
      exact ⟨ret_bool (by rw [HR.out, decide_eq_false (show ¬ s = noPath from HS.out)]; simp), (Below.refl _ _).alloc (Nat.le_refl _) _⟩
  · have e1 : ¬ p.toList = en.path.toList := fun h => hp (str_eq.1 h)
    have HP := Lib.hid hp
    clear hp
    go_enter Tryz.func27, Tryz.ntmps27
    go_wp2_with fail
    go_ret
    exact ⟨ret_bool (by rw [HR.out, decide_eq_false HP.out]; rfl), (Below.refl _ _).alloc (Nat.le_refl _) _⟩
set_option maxRecDepth 100000 in
set_option maxHeartbeats 2000000 in
theorem rvalid4 (S : Nat → Prop) (p s : ByteArray) (en : Ent) (v : Value) (w : World) (hd : DataAt S w v en.data) (hok : EntOk en) (henv : p.size ≤ 16777216 ∧ s.size ≤ 16777216 ∧ en.path.size ≤ 16777216) :
    Calls Tryz.prog 27 #[chgV v ⟨4, p, s, en⟩] w fun e w' => e = .returned (.bool (chgOk ⟨4, p, s, en⟩)) ∧ Below w.heap.size w w' := by
  have HD := Lib.hid hd
  have HE := Lib.hid henv
  have HOK := Lib.hid hok
  obtain ⟨_, a, cap, rfl, hc, hm, -⟩ := hd
  unfold maxLen at hm
  have HR := Lib.hid (show chgOk ⟨4, p, s, en⟩ = (decide (p = en.path) && (decide (s = noPath) && vEnt en)) from rfl)
  unfold chgV
  simp only
  clear henv hok
  by_cases hp : p = en.path
  · by_cases hs : s = ⟨#[]⟩
    · have e1 : s.toList.isEmpty = true := by rw [str_none, decide_eq_true hs]
      have HS := Lib.hid hs
      clear hs
      subst hp
      go_enter Tryz.func27, Tryz.ntmps27
      go_wp2_with fail
      obtain ⟨W, hW⟩ : ∃ W : World, W = w.alloc (.cells #[.int .i64 4, .string en.path, .string s, .string en.path, .int .i64 en.kind, .int .i64 en.mode, .int .i64 en.time, .slice a en.data.length cap, .string en.link] 50) := ⟨_, rfl⟩
      rw [← hW]
      have HB0 := Lib.hid (show Below w.heap.size w W by rw [hW]; exact (Below.refl _ _).alloc (Nat.le_refl _) _)
      clear hW
      have hC := r_validE_any S en (.slice a en.data.length cap) W (HD.out.below HB0.out) HOK.out HE.out.2.2
      unfold entV at hC
      refine hC.mono ?_
      rintro e w2 ⟨rfl, hb2⟩
      have HB2 := Lib.hid (below_next HB0.out hb2)
      clear hb2 hC
      go_wp2_with fail
      go_ret
      exact ⟨ret_bool (by rw [HR.out, HS.out]; simp [noPath]), HB2.out⟩
    · have e1 : s.toList.isEmpty = false := by rw [str_none, decide_eq_false hs]
      have HS := Lib.hid hs
      clear hs
      subst hp
      go_enter Tryz.func27, Tryz.ntmps27
      go_wp2_with fail
      go_ret
      exact ⟨ret_bool (by rw [HR.out, decide_eq_false (show ¬ s = noPath from HS.out)]; simp), (Below.refl _ _).alloc (Nat.le_refl _) _⟩
  · have e1 : ¬ p.toList = en.path.toList := fun h => hp (str_eq.1 h)
    have HP := Lib.hid hp
    clear hp
    go_enter Tryz.func27, Tryz.ntmps27
    go_wp2_with fail
    go_ret
    exact ⟨ret_bool (by rw [HR.out, decide_eq_false HP.out]; rfl), (Below.refl _ _).alloc (Nat.le_refl _) _⟩
set_option maxRecDepth 100000 in
set_option maxHeartbeats 2000000 in
theorem rvalid0 (c : Chg) (h1 : c.kind ≠ 1) (h2 : c.kind ≠ 2) (h3 : c.kind ≠ 3) (h4 : c.kind ≠ 4) (a : Option Addr) (n cap : Nat) (w : World) :
    Calls Tryz.prog 27 #[chgV (.slice a n cap) c] w fun e w' => e = .returned (.bool (chgOk c)) ∧ Below w.heap.size w w' := by
  have HR := Lib.hid (show chgOk c = false by unfold chgOk; rw [if_neg h1, if_neg h2, if_neg (by omega)])
  unfold chgV
  go_enter Tryz.func27, Tryz.ntmps27
  go_wp2_with fail
  go_ret
  exact ⟨ret_bool HR.out.symm, (Below.refl _ _).alloc (Nat.le_refl _) _⟩
theorem r_validC_any (S : Nat → Prop) (c : Chg) (v : Value) (w : World) (hd : DataAt S w v c.en.data) (hok : ChgOk c) (henv : c.path.size ≤ 16777216 ∧ c.src.size ≤ 16777216 ∧ c.en.path.size ≤ 16777216) :
    Calls Tryz.prog 27 #[chgV v c] w fun e w' => e = .returned (.bool (chgOk c)) ∧ Below w.heap.size w w' := by
  by_cases h1 : c.kind = 1
  · obtain ⟨k, p, s, en⟩ := c
    obtain rfl : k = 1 := h1
    exact rvalid1 S p s en v w hd henv
  · by_cases h2 : c.kind = 2
    · obtain ⟨k, p, s, en⟩ := c
      obtain rfl : k = 2 := h2
      exact rvalid2 S p s en v w hd hok.en henv
    · by_cases h3 : c.kind = 3
      · obtain ⟨k, p, s, en⟩ := c
        obtain rfl : k = 3 := h3
        exact rvalid3 S p s en v w hd hok.en henv
      · by_cases h4 : c.kind = 4
        · obtain ⟨k, p, s, en⟩ := c
          obtain rfl : k = 4 := h4
          exact rvalid4 S p s en v w hd hok.en henv
        · obtain ⟨a, cap, rfl, _⟩ := hd.slice
          exact rvalid0 c h1 h2 h3 h4 a _ cap w

end Go.Proofs.YtdieneaillkbgaaGreatDoor

/- The reference kinkeepref23: Counts. -/

namespace Go.Proofs.YtdieneaillkbgaaGreatDoor
open Go Go.RowKit Go.Maps



theorem know_more {a : List Ent} {j : Nat} {x : Ent} (h : a[j]? = some x) (d : List UInt8) : knowP (a.take (j + 1)) d = (knowP (a.take j) d || (decide (x.kind = 1) && decide (x.data = d))) := by
  unfold knowP
  rw [List.take_add_one, h, List.any_append]; simp
/-- The specification's 'known' after some entries. -/
def KnC (a : List Ent) (c : Chg) (j : Nat) (kb : Bool) : Prop := kb = (decide (c.kind < 3) || decide (c.en.kind ≠ 1) || knowP (a.take j) c.en.data)
theorem KnC.all {a : List Ent} {c : Chg} {m : Nat} (hm : m = a.length) (hk : c.kind = 1 ∨ c.kind = 2 ∨ c.kind = 3 ∨ c.kind = 4) {kb : Bool} (h : KnC a c m kb) : newC a c = if kb then 0 else c.en.data.length := by
  unfold KnC at h
  rw [hm, List.take_length] at h
  unfold newC
  subst h
  by_cases h3 : c.kind < 3
  · rw [if_neg (by omega)]; simp [h3]
  · by_cases h1 : c.en.kind = 1
    · cases hq : knowP a c.en.data
      · rw [if_pos ⟨by omega, h1, rfl⟩]; simp [h3, h1]
      · rw [if_neg (fun h => by simp at h)]; simp
    · rw [if_neg (fun h => h1 h.2.1)]; simp [h1]
structure LoopR (a : List Ent) (cs : List Chg) (w : World) (k : Nat) (wr : World) : Prop where
  box : wr.heap[w.heap.size + 1]? = some (.cells #[.int .i64 (cntC 1 (cs.take k) : Nat), .int .i64 (cntC 2 (cs.take k) : Nat), .int .i64 (cntC 3 (cs.take k) : Nat), .int .i64 (cntC 4 (cs.take k) : Nat)] 43 (0, 0))
  res : wr.heap[w.heap.size]? = some (.cells #[.int .i64 0, .int .i64 0, .int .i64 0, .int .i64 0] 43 (0, 0))
  bel : Below w.heap.size w wr
theorem rcounts_res {tmps : Array Value} {w : World} {b : Nat} {x0 x1 x2 x3 e5 : Value} (h : w.heap[b]? = some (.cells #[x0, x1, x2, x3] 43 (0, 0)))
    (h4 : tmps[4]? = some (.pointer (some ⟨b, 0, none⟩))) (h5 : tmps[5]? = some e5) : (results Tryz.f28 tmps).run Tryz.prog w = .ok (.tuple #[.agg #[x0, x1, x2, x3], e5]) w := by
  have m0 := cell20 (k := 0) h
  have m1 := cell20 (k := 1) h
  have m2 := cell20 (k := 2) h
  have m3 := cell20 (k := 3) h
  simp only [List.getElem?_toArray, List.getElem?_cons_succ, List.getElem?_cons_zero] at m0 m1 m2 m3
  simp [results, Tryz.results28, go_sem, h4, h5, m0, m1, m2, m3]
theorem rcounts_end {a : Act} {w : World} {b : Nat} {a0 a1 a2 a3 x0 x1 x2 x3 e5 : Value} {Q : Ending → World → Prop} (h : w.heap[b]? = some (.cells #[a0, a1, a2, a3] 43 (0, 0)))
    (h4 : a.tmps[4]? = some (.pointer (some ⟨b, 0, none⟩))) (h5 : a.tmps[5]? = some e5) (hd : a.defers = [])
    (hQ : Q (.returned (.tuple #[.agg #[x0, x1, x2, x3], e5])) ((((w.setCell ⟨b, 0, none⟩ x0).setCell ⟨b, 1, none⟩ x1).setCell ⟨b, 2, none⟩ x2).setCell ⟨b, 3, none⟩ x3)) :
    bodyPost Tryz.prog Tryz.f28 Q Exit.ret a ((((w.setCell ⟨b, 0, none⟩ x0).setCell ⟨b, 1, none⟩ x1).setCell ⟨b, 2, none⟩ x2).setCell ⟨b, 3, none⟩ x3) :=
  bodyPost_ret (rcounts_res (four20 h) h4 h5) hd hQ
set_option maxRecDepth 100000 in
set_option maxHeartbeats 8000000 in
theorem r_counts_any (S T : Nat → Prop) (a : List Ent) (cs : List Chg) (va vl : Value) (w : World) (ha : EntsAt S w va a) (hl : ChgsAt T w vl cs) (hcn : cs.length ≤ 4096) (hks : ∀ c ∈ cs, c.kind = 1 ∨ c.kind = 2 ∨ c.kind = 3 ∨ c.kind = 4) (hdl : ∀ c ∈ cs, c.en.data.length ≤ 100) :
    Calls Tryz.prog 28 #[va, vl] w fun e w' => e = .returned (.tuple #[numArr (cntC 1 cs) (cntC 2 cs) (cntC 3 cs) (cntC 4 cs), .int .i64 (sumC a cs : Nat)]) ∧ Below w.heap.size w w' := by
  have HA := Lib.hid (ents_old ha)
  have HL := Lib.hid (chgs_old hl)
  have HCN := Lib.hid hcn
  have HKS := Lib.hid hks
  have HDL := Lib.hid hdl
  obtain ⟨aa, ca, rfl, hca, hma, -⟩ := SeqAt.shape ha EntR.len
  obtain ⟨al, cl, rfl, hc, hm⟩ := chgs_shape hl
  obtain ⟨m, hmn⟩ : ∃ m, m = a.length := ⟨_, rfl⟩
  obtain ⟨n, hn⟩ : ∃ n, n = cs.length := ⟨_, rfl⟩
  rw [← hn] at hc HL hl ⊢
  rw [← hmn] at hca HA ha ⊢
  have HN := Lib.hid hn
  have HM := Lib.hid hmn
  unfold maxLen at hm hma
  clear ha hl hn hmn hcn hks hdl
  go_enter Tryz.func28, Tryz.ntmps28
  go_wp2_with fail
  obtain ⟨w1, hw1⟩ : ∃ Z : World, Z = (w.alloc (.cells #[.int .i64 0, .int .i64 0, .int .i64 0, .int .i64 0] 43)).alloc (.cells #[.int .i64 0, .int .i64 0, .int .i64 0, .int .i64 0] 43) := ⟨_, rfl⟩
  rw [← hw1]
  have hb0 : Below w.heap.size w (w.alloc (.cells #[.int .i64 0, .int .i64 0, .int .i64 0, .int .i64 0] 43)) := (Below.refl _ _).alloc (Nat.le_refl _) _
  have hb1 : Below (w.alloc (.cells #[.int .i64 0, .int .i64 0, .int .i64 0, .int .i64 0] 43)).heap.size (w.alloc (.cells #[.int .i64 0, .int .i64 0, .int .i64 0, .int .i64 0] 43)) w1 := by rw [hw1]; exact (Below.refl _ _).alloc (Nat.le_refl _) _
  have hs0 : (w.alloc (.cells #[.int .i64 0, .int .i64 0, .int .i64 0, .int .i64 0] 43)).heap.size = w.heap.size + 1 := by simp
  have hr0 := new20 w (.cells #[.int .i64 0, .int .i64 0, .int .i64 0, .int .i64 0] 43)
  have HL1 := Lib.hid (show LoopR a cs w 0 w1 from ⟨by rw [← hs0, hw1]; exact new20 _ _, (hb1.block _ (lt20 hr0)).trans hr0, below_next hb0 hb1⟩)
  obtain ⟨nb, hnb⟩ : ∃ nb, nb = w.heap.size + 1 := ⟨_, rfl⟩
  rw [← hnb]
  have HNB := Lib.hid hnb
  clear hw1 hb0 hb1 hs0 hr0 hnb
  go_loopw [7, 15] (fun s i wr => ∃ k : Nat, k ≤ n ∧ i = .int .i64 k ∧ s = .int .i64 (sumC a (cs.take k) : Nat) ∧ LoopR a cs w k wr) (fun _ i _ => n - (intOf i).toNat)
  case atStart => exact ⟨0, Nat.zero_le _, rfl, rfl, HL1.out⟩
  case round =>
    obtain ⟨k, hk, rfl, rfl, hlp⟩ := hrel
    have HLP := Lib.hid hlp
    clear hlp
    obtain ⟨x1, hx1⟩ : ∃ x, x = cntC 1 (cs.take k) := ⟨_, rfl⟩
    obtain ⟨x2, hx2⟩ : ∃ x, x = cntC 2 (cs.take k) := ⟨_, rfl⟩
    obtain ⟨x3, hx3⟩ : ∃ x, x = cntC 3 (cs.take k) := ⟨_, rfl⟩
    obtain ⟨x4, hx4⟩ : ∃ x, x = cntC 4 (cs.take k) := ⟨_, rfl⟩
    obtain ⟨s0, hs0⟩ : ∃ x, x = sumC a (cs.take k) := ⟨_, rfl⟩
    have hbx := HLP.out.box
    rw [← hx1, ← hx2, ← hx3, ← hx4, ← HNB.out] at hbx
    rw [← hs0]
    have hcn := HCN.out
    have hl1 := cnt_le 1 cs k
    have hl2 := cnt_le 2 cs k
    have hl3 := cnt_le 3 cs k
    have hl4 := cnt_le 4 cs k
    rw [← hx1] at hl1
    rw [← hx2] at hl2
    rw [← hx3] at hl3
    rw [← hx4] at hl4
    have hsl := sum_le (a := a) (cs := cs.take k) fun c hc => Nat.le_trans (HDL.out c (List.mem_of_mem_take hc)) (by omega)
    rw [← hs0, List.length_take] at hsl
    have hs1 : s0 ≤ 576460752303423488 := by omega
    have HX1 := Lib.hid hx1
    have HX2 := Lib.hid hx2
    have HX3 := Lib.hid hx3
    have HX4 := Lib.hid hx4
    have HS0 := Lib.hid hs0
    have HBXR := Lib.hid hbx
    clear hx1 hx2 hx3 hx4 hs0 hbx hcn hsl
    by_cases hlt : k < n
    · obtain ⟨c, hcc⟩ : ∃ c, cs[k]? = some c := ⟨cs[k]'(by rw [← HN.out]; exact hlt), by simp⟩
      have hkd := HKS.out c (List.mem_of_getElem? hcc)
      have HKD := Lib.hid hkd
      have hdc := HDL.out c (List.mem_of_getElem? hcc)
      have HTS := Lib.hid (sum_take (a := a) hcc)
      have HT1 := Lib.hid (cnt_take hcc 1)
      have HT2 := Lib.hid (cnt_take hcc 2)
      have HT3 := Lib.hid (cnt_take hcc 3)
      have HT4 := Lib.hid (cnt_take hcc 4)
      obtain ⟨b, o, dv, rfl, hb, hd, hok, hq⟩ := chgs_at (HL.out.below HLP.out.bel) hcc
      have HAT := Lib.hid hcc
      have HD := Lib.hid hd
      have HOK := Lib.hid hok
      obtain ⟨a1, cap1, rfl, hd1, hd2⟩ := hd.slice
      unfold maxLen at hd2
      have c0 := (hq 0 (by omega)).trans rfl
      have c1 := (hq 1 (by omega)).trans rfl
      have c2 := (hq 2 (by omega)).trans rfl
      have c3 := (hq 3 (by omega)).trans rfl
      have c4 := (hq 4 (by omega)).trans rfl
      have c5 := (hq 5 (by omega)).trans rfl
      have c6 := (hq 6 (by omega)).trans rfl
      have c7 := (hq 7 (by omega)).trans rfl
      have c8 := (hq 8 (by omega)).trans rfl
      simp only [chgC, List.getElem?_cons_succ, List.getElem?_cons_zero, Nat.add_zero] at c0 c1 c2 c3 c4 c5 c6 c7 c8
      clear hcc hd hok hq
      go_upto_region 6 with (fail)
      obtain ⟨W, hW⟩ : ∃ W : World, W = wr.alloc (.cells #[.int .i64 c.kind, .string c.path, .string c.src, .string c.en.path, .int .i64 c.en.kind, .int .i64 c.en.mode, .int .i64 c.en.time, .slice a1 c.en.data.length cap1, .string c.en.link] 50) := ⟨_, rfl⟩
      rw [← hW]
      have HW := Lib.hid (show Below wr.heap.size wr W by rw [hW]; exact (Below.refl _ _).alloc (Nat.le_refl _) _)
      have HX := Lib.hid (show W.heap[wr.heap.size]? = some (.cells #[.int .i64 c.kind, .string c.path, .string c.src, .string c.en.path, .int .i64 c.en.kind, .int .i64 c.en.mode, .int .i64 c.en.time, .slice a1 c.en.data.length cap1, .string c.en.link] 50 (0, 0)) by rw [hW]; exact new20 wr _)
      clear hW c0 c1 c2 c3 c4 c5 c6 c7 c8
      have c0 := cell20 (k := 0) HX.out
      have c1 := cell20 (k := 1) HX.out
      have c2 := cell20 (k := 2) HX.out
      have c3 := cell20 (k := 3) HX.out
      have c4 := cell20 (k := 4) HX.out
      have c5 := cell20 (k := 5) HX.out
      have c6 := cell20 (k := 6) HX.out
      have c7 := cell20 (k := 7) HX.out
      have c8 := cell20 (k := 8) HX.out
      have hltX := lt20 HX.out
      simp only [List.getElem?_toArray, List.getElem?_cons_succ, List.getElem?_cons_zero] at c0 c1 c2 c3 c4 c5 c6 c7 c8
      have HBW := Lib.hid ((HW.out.block _ (lt20 HBXR.out)).trans HBXR.out)
      have HRW := Lib.hid ((HW.out.block _ (lt20 HLP.out.res)).trans HLP.out.res)
      have HBLW := Lib.hid (below_next HLP.out.bel HW.out)
      rcases hkd with h1 | h1 | h1 | h1
      case' inl =>
        skip
        have hK : c.kind = 1 := by assumption
        have f0 := frozen20 (k := 0) HBW.out
        have f1 := frozen20 (k := 1) HBW.out
        have f2 := frozen20 (k := 2) HBW.out
        have f3 := frozen20 (k := 3) HBW.out
        have d0 := cell20 (k := 0) HBW.out
        have d1 := cell20 (k := 1) HBW.out
        have d2 := cell20 (k := 2) HBW.out
        have d3 := cell20 (k := 3) HBW.out
        have hltR := lt20 HBW.out
        simp only [List.getElem?_toArray, List.getElem?_cons_succ, List.getElem?_cons_zero] at d0 d1 d2 d3
        go_upto_region 15 with (fail)
        obtain ⟨V, hV⟩ : ∃ V : World, V = W.setCell ⟨nb, 0, none⟩ (.int .i64 ((x1 : Int) + 1)) := ⟨_, rfl⟩
        rw [← hV]
        have hnb := HNB.out
        have hg : W.grownBy V (some nb) := by rw [hV]; exact grown_set nb 0 _
        have HBXV := Lib.hid (show V.heap[nb]? = some _ by rw [hV]; exact set20 HBW.out _)
        have HXV := Lib.hid ((hg.block _ (lt20 HX.out) (fun e => by have h1 := Option.some.inj e; have h2 := lt20 HBXR.out; omega)).trans HX.out)
        have HRV := Lib.hid ((hg.block _ (lt20 HRW.out) (fun e => by have h1 := Option.some.inj e; omega)).trans HRW.out)
        have HBV := Lib.hid (HBLW.out.grown hg HBLW.out.size (fun k e => by cases e; omega))
        have HDV := Lib.hid (data_grown (HD.out.below HW.out) (old_new (by omega)) hg)
        clear hV hg hnb c0 c1 c2 c3 c4 c5 c6 c7 c8 hltX d0 d1 d2 d3 f0 f1 f2 f3 hltR
        have c0 := cell20 (k := 0) HXV.out
        have c1 := cell20 (k := 1) HXV.out
        have c2 := cell20 (k := 2) HXV.out
        have c3 := cell20 (k := 3) HXV.out
        have c4 := cell20 (k := 4) HXV.out
        have c5 := cell20 (k := 5) HXV.out
        have c6 := cell20 (k := 6) HXV.out
        have c7 := cell20 (k := 7) HXV.out
        have c8 := cell20 (k := 8) HXV.out
        have hltX := lt20 HXV.out
        simp only [List.getElem?_toArray, List.getElem?_cons_succ, List.getElem?_cons_zero] at c0 c1 c2 c3 c4 c5 c6 c7 c8
        have HK0 := Lib.hid (show KnC a c 0 true by
          unfold KnC
          have e : knowP (a.take 0) c.en.data = false := rfl
          rw [e]
          simp [*])
      case' inr.inl =>
        skip
        have hK : c.kind = 2 := by assumption
        have f0 := frozen20 (k := 0) HBW.out
        have f1 := frozen20 (k := 1) HBW.out
        have f2 := frozen20 (k := 2) HBW.out
        have f3 := frozen20 (k := 3) HBW.out
        have d0 := cell20 (k := 0) HBW.out
        have d1 := cell20 (k := 1) HBW.out
        have d2 := cell20 (k := 2) HBW.out
        have d3 := cell20 (k := 3) HBW.out
        have hltR := lt20 HBW.out
        simp only [List.getElem?_toArray, List.getElem?_cons_succ, List.getElem?_cons_zero] at d0 d1 d2 d3
        go_upto_region 15 with (fail)
        obtain ⟨V, hV⟩ : ∃ V : World, V = W.setCell ⟨nb, 1, none⟩ (.int .i64 ((x2 : Int) + 1)) := ⟨_, rfl⟩
        rw [← hV]
        have hnb := HNB.out
        have hg : W.grownBy V (some nb) := by rw [hV]; exact grown_set nb 1 _
        have HBXV := Lib.hid (show V.heap[nb]? = some _ by rw [hV]; exact set20 HBW.out _)
        have HXV := Lib.hid ((hg.block _ (lt20 HX.out) (fun e => by have h1 := Option.some.inj e; have h2 := lt20 HBXR.out; omega)).trans HX.out)
        have HRV := Lib.hid ((hg.block _ (lt20 HRW.out) (fun e => by have h1 := Option.some.inj e; omega)).trans HRW.out)
        have HBV := Lib.hid (HBLW.out.grown hg HBLW.out.size (fun k e => by cases e; omega))
        have HDV := Lib.hid (data_grown (HD.out.below HW.out) (old_new (by omega)) hg)
        clear hV hg hnb c0 c1 c2 c3 c4 c5 c6 c7 c8 hltX d0 d1 d2 d3 f0 f1 f2 f3 hltR
        have c0 := cell20 (k := 0) HXV.out
        have c1 := cell20 (k := 1) HXV.out
        have c2 := cell20 (k := 2) HXV.out
        have c3 := cell20 (k := 3) HXV.out
        have c4 := cell20 (k := 4) HXV.out
        have c5 := cell20 (k := 5) HXV.out
        have c6 := cell20 (k := 6) HXV.out
        have c7 := cell20 (k := 7) HXV.out
        have c8 := cell20 (k := 8) HXV.out
        have hltX := lt20 HXV.out
        simp only [List.getElem?_toArray, List.getElem?_cons_succ, List.getElem?_cons_zero] at c0 c1 c2 c3 c4 c5 c6 c7 c8
        have HK0 := Lib.hid (show KnC a c 0 true by
          unfold KnC
          have e : knowP (a.take 0) c.en.data = false := rfl
          rw [e]
          simp [*])
      case' inr.inr.inl =>
        skip
        have hK : c.kind = 3 := by assumption
        have f0 := frozen20 (k := 0) HBW.out
        have f1 := frozen20 (k := 1) HBW.out
        have f2 := frozen20 (k := 2) HBW.out
        have f3 := frozen20 (k := 3) HBW.out
        have d0 := cell20 (k := 0) HBW.out
        have d1 := cell20 (k := 1) HBW.out
        have d2 := cell20 (k := 2) HBW.out
        have d3 := cell20 (k := 3) HBW.out
        have hltR := lt20 HBW.out
        simp only [List.getElem?_toArray, List.getElem?_cons_succ, List.getElem?_cons_zero] at d0 d1 d2 d3
        go_upto_region 15 with (fail)
        obtain ⟨V, hV⟩ : ∃ V : World, V = W.setCell ⟨nb, 2, none⟩ (.int .i64 ((x3 : Int) + 1)) := ⟨_, rfl⟩
        rw [← hV]
        have hnb := HNB.out
        have hg : W.grownBy V (some nb) := by rw [hV]; exact grown_set nb 2 _
        have HBXV := Lib.hid (show V.heap[nb]? = some _ by rw [hV]; exact set20 HBW.out _)
        have HXV := Lib.hid ((hg.block _ (lt20 HX.out) (fun e => by have h1 := Option.some.inj e; have h2 := lt20 HBXR.out; omega)).trans HX.out)
        have HRV := Lib.hid ((hg.block _ (lt20 HRW.out) (fun e => by have h1 := Option.some.inj e; omega)).trans HRW.out)
        have HBV := Lib.hid (HBLW.out.grown hg HBLW.out.size (fun k e => by cases e; omega))
        have HDV := Lib.hid (data_grown (HD.out.below HW.out) (old_new (by omega)) hg)
        clear hV hg hnb c0 c1 c2 c3 c4 c5 c6 c7 c8 hltX d0 d1 d2 d3 f0 f1 f2 f3 hltR
        have c0 := cell20 (k := 0) HXV.out
        have c1 := cell20 (k := 1) HXV.out
        have c2 := cell20 (k := 2) HXV.out
        have c3 := cell20 (k := 3) HXV.out
        have c4 := cell20 (k := 4) HXV.out
        have c5 := cell20 (k := 5) HXV.out
        have c6 := cell20 (k := 6) HXV.out
        have c7 := cell20 (k := 7) HXV.out
        have c8 := cell20 (k := 8) HXV.out
        have hltX := lt20 HXV.out
        simp only [List.getElem?_toArray, List.getElem?_cons_succ, List.getElem?_cons_zero] at c0 c1 c2 c3 c4 c5 c6 c7 c8
        by_cases hf : c.en.kind = 1
        case' pos =>
          skip
          have HK0 := Lib.hid (show KnC a c 0 false by
            unfold KnC
            have e : knowP (a.take 0) c.en.data = false := rfl
            rw [e]
            simp [*])
        case' neg =>
          have hf2 : (c.en.kind != 1) = true := by simp [hf]
          have HK0 := Lib.hid (show KnC a c 0 true by
            unfold KnC
            have e : knowP (a.take 0) c.en.data = false := rfl
            rw [e]
            simp [*])
      case' inr.inr.inr =>
        skip
        have hK : c.kind = 4 := by assumption
        have f0 := frozen20 (k := 0) HBW.out
        have f1 := frozen20 (k := 1) HBW.out
        have f2 := frozen20 (k := 2) HBW.out
        have f3 := frozen20 (k := 3) HBW.out
        have d0 := cell20 (k := 0) HBW.out
        have d1 := cell20 (k := 1) HBW.out
        have d2 := cell20 (k := 2) HBW.out
        have d3 := cell20 (k := 3) HBW.out
        have hltR := lt20 HBW.out
        simp only [List.getElem?_toArray, List.getElem?_cons_succ, List.getElem?_cons_zero] at d0 d1 d2 d3
        go_upto_region 15 with (fail)
        obtain ⟨V, hV⟩ : ∃ V : World, V = W.setCell ⟨nb, 3, none⟩ (.int .i64 ((x4 : Int) + 1)) := ⟨_, rfl⟩
        rw [← hV]
        have hnb := HNB.out
        have hg : W.grownBy V (some nb) := by rw [hV]; exact grown_set nb 3 _
        have HBXV := Lib.hid (show V.heap[nb]? = some _ by rw [hV]; exact set20 HBW.out _)
        have HXV := Lib.hid ((hg.block _ (lt20 HX.out) (fun e => by have h1 := Option.some.inj e; have h2 := lt20 HBXR.out; omega)).trans HX.out)
        have HRV := Lib.hid ((hg.block _ (lt20 HRW.out) (fun e => by have h1 := Option.some.inj e; omega)).trans HRW.out)
        have HBV := Lib.hid (HBLW.out.grown hg HBLW.out.size (fun k e => by cases e; omega))
        have HDV := Lib.hid (data_grown (HD.out.below HW.out) (old_new (by omega)) hg)
        clear hV hg hnb c0 c1 c2 c3 c4 c5 c6 c7 c8 hltX d0 d1 d2 d3 f0 f1 f2 f3 hltR
        have c0 := cell20 (k := 0) HXV.out
        have c1 := cell20 (k := 1) HXV.out
        have c2 := cell20 (k := 2) HXV.out
        have c3 := cell20 (k := 3) HXV.out
        have c4 := cell20 (k := 4) HXV.out
        have c5 := cell20 (k := 5) HXV.out
        have c6 := cell20 (k := 6) HXV.out
        have c7 := cell20 (k := 7) HXV.out
        have c8 := cell20 (k := 8) HXV.out
        have hltX := lt20 HXV.out
        simp only [List.getElem?_toArray, List.getElem?_cons_succ, List.getElem?_cons_zero] at c0 c1 c2 c3 c4 c5 c6 c7 c8
        by_cases hf : c.en.kind = 1
        case' pos =>
          skip
          have HK0 := Lib.hid (show KnC a c 0 false by
            unfold KnC
            have e : knowP (a.take 0) c.en.data = false := rfl
            rw [e]
            simp [*])
        case' neg =>
          have hf2 : (c.en.kind != 1) = true := by simp [hf]
          have HK0 := Lib.hid (show KnC a c 0 true by
            unfold KnC
            have e : knowP (a.take 0) c.en.data = false := rfl
            rw [e]
            simp [*])
      all_goals
        skip
        go_wp2_with fail
        go_loopw [10, 56] (fun v i wr => ∃ (j : Nat) (kb : Bool), j ≤ m ∧ i = .int .i64 j ∧ v = .bool kb ∧ KnC a c j kb ∧ Below V.heap.size V wr) (fun _ i _ => m - (intOf i).toNat)
        case atStart => exact ⟨0, _, Nat.zero_le _, rfl, rfl, HK0.out, Below.refl _ _⟩
        case round =>
          obtain ⟨j, kb, hj, rfl, rfl, hkn, hbi⟩ := hrel
          have HKN := Lib.hid hkn
          have HBI := Lib.hid hbi
          have HBB := Lib.hid (below_next HBV.out hbi)
          clear hkn hbi c0 c1 c2 c3 c4 c5 c6 c7 c8 hltX
          by_cases hlj : j < m
          · obtain ⟨e, he⟩ : ∃ e, a[j]? = some e := ⟨a[j]'(by rw [← HM.out]; exact hlj), by simp⟩
            obtain ⟨b0, o0, dv, rfl, -, hb0, hd, hok, -, q0, q1, q2, q3, q4, q5⟩ := ents_at (HA.out.below HBB.out) he
            have HED := Lib.hid hd
            have HMO := Lib.hid (know_more he c.en.data)
            obtain ⟨a2, cap2, rfl, hd3, hd4⟩ := hd.slice
            unfold maxLen at hd4
            clear he hd hok
            go_upto_region 19 with (fail)
            obtain ⟨Y, hY⟩ : ∃ Z : World, Z = wr.alloc (.cells #[.string e.path, .int .i64 e.kind, .int .i64 e.mode, .int .i64 e.time, .slice a2 e.data.length cap2, .string e.link] 48) := ⟨_, rfl⟩
            rw [← hY]
            have HY := Lib.hid (show Below wr.heap.size wr Y by rw [hY]; exact (Below.refl _ _).alloc (Nat.le_refl _) _)
            have HEY := Lib.hid (show Y.heap[wr.heap.size]? = some (.cells #[.string e.path, .int .i64 e.kind, .int .i64 e.mode, .int .i64 e.time, .slice a2 e.data.length cap2, .string e.link] 48 (0, 0)) by rw [hY]; exact new20 wr _)
            have HBY := Lib.hid (below_next HBI.out HY.out)
            have HCY := Lib.hid ((HBY.out.block _ (lt20 HXV.out)).trans HXV.out)
            clear hY q0 q1 q2 q3 q4 q5
            have r0 := cell20 (k := 0) HEY.out
            have r1 := cell20 (k := 1) HEY.out
            have r2 := cell20 (k := 2) HEY.out
            have r3 := cell20 (k := 3) HEY.out
            have r4 := cell20 (k := 4) HEY.out
            have r5 := cell20 (k := 5) HEY.out
            have hltE := lt20 HEY.out
            simp only [List.getElem?_toArray, List.getElem?_cons_succ, List.getElem?_cons_zero] at r0 r1 r2 r3 r4 r5
            have c0 := cell20 (k := 0) HCY.out
            have c1 := cell20 (k := 1) HCY.out
            have c2 := cell20 (k := 2) HCY.out
            have c3 := cell20 (k := 3) HCY.out
            have c4 := cell20 (k := 4) HCY.out
            have c5 := cell20 (k := 5) HCY.out
            have c6 := cell20 (k := 6) HCY.out
            have c7 := cell20 (k := 7) HCY.out
            have c8 := cell20 (k := 8) HCY.out
            have hltX := lt20 HCY.out
            simp only [List.getElem?_toArray, List.getElem?_cons_succ, List.getElem?_cons_zero] at c0 c1 c2 c3 c4 c5 c6 c7 c8
            have hcx := conv20 (HED.out.below HY.out)
            have hcy := conv20 (HDV.out.below HBY.out)
            obtain ⟨sx, hsx⟩ : ∃ s, s = (⟨e.data.toArray⟩ : ByteArray) := ⟨_, rfl⟩
            obtain ⟨sc, hsc⟩ : ∃ s, s = (⟨c.en.data.toArray⟩ : ByteArray) := ⟨_, rfl⟩
            rw [← hsx] at hcx
            rw [← hsc] at hcy
            have HSE := Lib.hid (show sx.toList = sc.toList ↔ e.data = c.en.data by
              rw [str_eq, hsx, hsc]
              exact ⟨fun h => by have := congrArg bl h; rwa [bl_of, bl_of] at this, fun h => by rw [h]⟩)
            clear hsx hsc
            cases kb with
            | true =>
              go_wp2_with fail
              go_roundw
              case rel => exact ⟨j + 1, true, by omega, by go_num, rfl, by have h := HKN.out; unfold KnC at h ⊢; rw [HMO.out, ← Bool.or_assoc, ← h]; rfl, HBY.out⟩
              case measure => simp [intOf]; omega
            | false =>
              by_cases hek : e.kind = 1
              · by_cases hse : sx.toList = sc.toList
                · have hed := HSE.out.1 hse
                  have HED1 := Lib.hid hed
                  clear hed
                  go_wp2_with fail
                  go_roundw
                  case rel => exact ⟨j + 1, true, by omega, by go_num, rfl, by unfold KnC; rw [HMO.out, decide_eq_true hek, decide_eq_true HED1.out]; simp, HBY.out⟩
                  case measure => simp [intOf]; omega
                · have hed : ¬ e.data = c.en.data := fun h => hse (HSE.out.2 h)
                  have HED1 := Lib.hid hed
                  have HE9 := Lib.hid (show (sx.toList == sc.toList) = false from by simpa using hse)
                  clear hed
                  go_wp2_with fail
                  go_roundw
                  case rel => exact ⟨j + 1, false, by omega, by go_num, by rw [HE9.out], by have h := HKN.out; unfold KnC at h ⊢; rw [HMO.out, decide_eq_false HED1.out, Bool.and_false, Bool.or_false]; exact h, HBY.out⟩
                  case measure => simp [intOf]; omega
              · have e8 : (e.kind == 1) = false := by simp [hek]
                have HEK := Lib.hid hek
                clear hek
                go_wp2_with fail
                go_roundw
                case rel => exact ⟨j + 1, false, by omega, by go_num, rfl, by have h := HKN.out; unfold KnC at h ⊢; rw [HMO.out, decide_eq_false HEK.out, Bool.false_and, Bool.or_false]; exact h, HBY.out⟩
                case measure => simp [intOf]; omega
          · have hj2 : m = j := by omega
            subst hj2
            have HNW := Lib.hid (HKN.out.all HM.out HKD.out)
            have HCZ := Lib.hid ((HBI.out.block _ (lt20 HXV.out)).trans HXV.out)
            have c0 := cell20 (k := 0) HCZ.out
            have c1 := cell20 (k := 1) HCZ.out
            have c2 := cell20 (k := 2) HCZ.out
            have c3 := cell20 (k := 3) HCZ.out
            have c4 := cell20 (k := 4) HCZ.out
            have c5 := cell20 (k := 5) HCZ.out
            have c6 := cell20 (k := 6) HCZ.out
            have c7 := cell20 (k := 7) HCZ.out
            have c8 := cell20 (k := 8) HCZ.out
            have hltX := lt20 HCZ.out
            simp only [List.getElem?_toArray, List.getElem?_cons_succ, List.getElem?_cons_zero] at c0 c1 c2 c3 c4 c5 c6 c7 c8
            cases kb with
            | true =>
              go_wp2_with fail
              go_roundw
              case rel =>
                refine ⟨k + 1, by omega, by go_num, ?_, ⟨?_, (HBI.out.block _ (lt20 HRV.out)).trans HRV.out, HBB.out⟩⟩
                · rw [HTS.out, HNW.out, ← HS0.out]; first | rfl | simp
                · rw [HT1.out, HT2.out, HT3.out, HT4.out, ← HX1.out, ← HX2.out, ← HX3.out, ← HX4.out, hK, ← HNB.out]
                  exact (HBI.out.block _ (lt20 HBXV.out)).trans HBXV.out
              case measure => simp [intOf]; omega
            | false =>
              go_wp2_with fail
              go_roundw
              case rel =>
                refine ⟨k + 1, by omega, by go_num, ?_, ⟨?_, (HBI.out.block _ (lt20 HRV.out)).trans HRV.out, HBB.out⟩⟩
                · rw [HTS.out, HNW.out, ← HS0.out]; first | rfl | simp
                · rw [HT1.out, HT2.out, HT3.out, HT4.out, ← HX1.out, ← HX2.out, ← HX3.out, ← HX4.out, hK, ← HNB.out]
                  exact (HBI.out.block _ (lt20 HBXV.out)).trans HBXV.out
              case measure => simp [intOf]; omega
    · have hk2 : n = k := by omega
      subst hk2
      have HRS := Lib.hid HLP.out.res
      have e0 := cell20 (k := 0) HBXR.out
      have e1 := cell20 (k := 1) HBXR.out
      have e2 := cell20 (k := 2) HBXR.out
      have e3 := cell20 (k := 3) HBXR.out
      have hltE := lt20 HBXR.out
      simp only [List.getElem?_toArray, List.getElem?_cons_succ, List.getElem?_cons_zero] at e0 e1 e2 e3
      have f0 := frozen20 (k := 0) HRS.out
      have f1 := frozen20 (k := 1) HRS.out
      have f2 := frozen20 (k := 2) HRS.out
      have f3 := frozen20 (k := 3) HRS.out
      have d0 := cell20 (k := 0) HRS.out
      have d1 := cell20 (k := 1) HRS.out
      have d2 := cell20 (k := 2) HRS.out
      have d3 := cell20 (k := 3) HRS.out
      have hltR := lt20 HRS.out
      simp only [List.getElem?_toArray, List.getElem?_cons_succ, List.getElem?_cons_zero] at d0 d1 d2 d3
      have HBE := Lib.hid HLP.out.bel
      have HQ := Lib.hid (show x1 = cntC 1 cs ∧ x2 = cntC 2 cs ∧ x3 = cntC 3 cs ∧ x4 = cntC 4 cs ∧ s0 = sumC a cs by
        rw [HX1.out, HX2.out, HX3.out, HX4.out, HS0.out, HN.out, List.take_length]; exact ⟨rfl, rfl, rfl, rfl, rfl⟩)
      go_wp2_with fail
      refine rcounts_end (e5 := .int .i64 s0) HRS.out (by kernel_rfl) (by kernel_rfl) (by kernel_rfl) ⟨?_, ?_⟩
      · obtain ⟨q1, q2, q3, q4, q5⟩ := HQ.out
        rw [← q1, ← q2, ← q3, ← q4, ← q5]; rfl
      · repeat refine below_set20 ?_ (by omega)
        exact HBE.out

end Go.Proofs.YtdieneaillkbgaaGreatDoor

/- Two arrays of four numbers are compared. -/
namespace Go.Proofs.YtdieneaillkbgaaGreatDoor
open Go Go.RowKit Go.Maps

def cntV (c : Cnt) : Value := .agg #[.int .i64 c.files, .int .i64 c.dirs, .int .i64 c.links, .int .i64 c.bytes]
theorem eq4 (c c' : Cnt) (w : World) : (Op.equalIn 10000 43 (cntV c) (cntV c')).run Tryz.prog w = .ok (decide (c = c')) w := by
  have u2 := Tryz.underlying3
  have hu : Tryz.prog.underlying 43 = some (.array 4 3) := Tryz.underlying43
  obtain ⟨i, hi⟩ := Option.isSome_iff_exists.1 (show (Tryz.prog.info? 3).isSome = true by kernel_rfl)
  have hc : Tryz.prog.cellsOf 3 = 1 := by kernel_rfl
  rw [show (10000 : Nat) = 9999 + 1 from rfl]
  unfold cntV
  rw [run_equalIn_array w 9999 _ _ hu hi, hc]
  simp only [List.range, List.range.loop, Op.eqItems]
  rw [show (9999 : Nat) = 9998 + 1 from rfl]
  go_simp
  obtain ⟨a, b, c, d⟩ := c
  obtain ⟨a', b', c', d'⟩ := c'
  simp only [Cnt.mk.injEq]
  by_cases h1 : a = a' <;> by_cases h2 : b = b' <;> by_cases h3 : c = c' <;> by_cases h4 : d = d' <;> (simp [h1, h2, h3, h4]; try omega)

end Go.Proofs.YtdieneaillkbgaaGreatDoor

/- The law TreediffTexts: its walk. -/
namespace Go.Proofs.YtdieneaillkbgaaGreatDoor
open Go Go.RowKit Go.Maps



theorem eqNum (a b c d : Int) (w : World) : (Op.equalIn 10000 43 (.agg #[.int .i64 a, .int .i64 b, .int .i64 c, .int .i64 d]) (.agg #[.int .i64 a, .int .i64 b, .int .i64 c, .int .i64 d])).run Tryz.prog w = .ok true w := by
  have u2 := Tryz.underlying3
  have hu : Tryz.prog.underlying 43 = some (.array 4 3) := Tryz.underlying43
  obtain ⟨i, hi⟩ := Option.isSome_iff_exists.1 (show (Tryz.prog.info? 3).isSome = true by kernel_rfl)
  have hc : Tryz.prog.cellsOf 3 = 1 := by kernel_rfl
  rw [show (10000 : Nat) = 9999 + 1 from rfl]
  rw [run_equalIn_array w 9999 _ _ hu hi, hc]
  simp only [List.range, List.range.loop, Op.eqItems]
  rw [show (9999 : Nat) = 9998 + 1 from rfl]
  go_simp
theorem chk_step {a : List Ent} {cs : List Chg} {k : Nat} {c : Chg} (h : cs[k]? = some c) : chkC a (cs.take (k + 1)) = if chkC a (cs.take k) = 0 ∧ chgOk c = false then 1 else chkC a (cs.take k) := by
  have e : (cs.take (k + 1)).all chgOk = ((cs.take k).all chgOk && chgOk c) := by rw [List.take_add_one, h]; simp
  unfold chkC
  rw [e]
  by_cases h0 : checkP a ≠ 0
  · rw [if_pos h0, if_pos h0, if_neg (fun h => h0 h.1)]
  · rw [if_neg h0, if_neg h0]
    cases h1 : (cs.take k).all chgOk <;> cases h2 : chgOk c <;> simp
theorem chk_nil {a : List Ent} : chkC a [] = checkP a := by
  unfold chkC
  by_cases h0 : checkP a ≠ 0
  · rw [if_pos h0]
  · rw [if_neg h0]; simp; omega
theorem wide_short {cs : List Chg} (h : WideOk cs) : ∀ c ∈ cs, ShortC c := fun c hc => ⟨by have := (h.2 c hc).1; omega, by have := (h.2 c hc).2.1; omega⟩
theorem cntQ_any (a : List Ent) (cs : List Chg) : ∃ q1 q2 q3 q4 s : Int, cntQ a cs = (numArr q1 q2 q3 q4, s, chkC a cs) ∧ (chkC a cs ≠ 0 → q1 = 0 ∧ q2 = 0 ∧ q3 = 0 ∧ q4 = 0 ∧ s = 0) ∧ (chkC a cs = 0 → q1 = (cntC 1 cs : Nat) ∧ q2 = (cntC 2 cs : Nat) ∧ q3 = (cntC 3 cs : Nat) ∧ q4 = (cntC 4 cs : Nat) ∧ s = (sumC a cs : Nat)) := by
  unfold cntQ
  by_cases h : chkC a cs = 0
  · rw [if_neg (by omega), h]
    exact ⟨_, _, _, _, _, rfl, fun h => absurd rfl h, fun _ => ⟨rfl, rfl, rfl, rfl, rfl⟩⟩
  · rw [if_pos h]
    exact ⟨0, 0, 0, 0, 0, rfl, fun _ => ⟨rfl, rfl, rfl, rfl, rfl⟩, fun h2 => absurd h2 h⟩
set_option maxRecDepth 100000 in
set_option maxHeartbeats 4000000 in
theorem texts_walk (a : List Ent) (cs : List Chg) (va vl : Value) (w : World) (ha : EntsAt (fun _ => True) w va a) (hl : ChgsAt (fun _ => True) w vl cs) (henv : Env w) :
    Calls Tryz.prog 5 #[va, vl] w fun e w' => e = .returned (.bool true) ∧ Below w.heap.size w w' := by
  obtain ⟨aa, ca, rfl, hca, hma, -⟩ := SeqAt.shape ha EntR.len
  obtain ⟨al, cl, rfl, hcl, hml⟩ := chgs_shape hl
  unfold maxLen at hma hml
  have HA := Lib.hid ha
  have HL := Lib.hid (chgs_old hl)
  have HE := Lib.hid henv
  obtain ⟨na, hna⟩ : ∃ n, n = a.length := ⟨_, rfl⟩
  obtain ⟨n, hn⟩ : ∃ n, n = cs.length := ⟨_, rfl⟩
  rw [← hna] at hca HA ⊢
  rw [← hn] at hcl HL ⊢
  have HN := Lib.hid hn
  clear ha hl henv hna hn
  go_enter Tryz.func5, Tryz.ntmps5
  go_wp2_with fail
  refine (awD_any w HE.out).mono ?_
  rintro e w1 ⟨rfl, hb1⟩
  have HB1 := Lib.hid hb1
  clear hb1
  go_wp2_with fail
  obtain ⟨w2, hw2⟩ : ∃ Z : World, Z = w1.alloc (.cells #[.slice aa na ca] 22) := ⟨_, rfl⟩
  have hb2 : Below w1.heap.size w1 w2 := by rw [hw2]; exact (Below.refl _ _).alloc (Nat.le_refl _) _
  have HLS := Lib.hid (show ListsAt (fun _ => True) w2 (.slice (some ⟨w1.heap.size, 0, none⟩) 1 1) [(.slice aa na ca, a)] by
    rw [hw2]
    exact lists_new (ls := [(.slice aa na ca, a)]) (by simp) (fun x hx => by
      simp only [List.mem_cons, List.not_mem_nil, or_false] at hx
      subst hx
      exact HA.out.below HB1.out))
  have HB2 := Lib.hid (below_next HB1.out hb2)
  rw [← hw2]
  clear hw2 hb2
  refine (large23_any _ _ _ w2 HLS.out).mono ?_
  rintro e w3 ⟨tb, rfl, htr, hb3⟩
  have HTR := Lib.hid htr
  have HB3 := Lib.hid (below_next HB2.out hb3)
  clear htr hb3 HLS
  cases tb
  case true =>
    go_wp2_with fail
    go_ret
    exact ⟨rfl, HB3.out⟩
  have HSA := Lib.hid (HTR.out (by trivial) _ (List.mem_cons_self ..))
  clear HTR
  go_wp2_with fail
  refine (wide23_any _ cs _ w3 (HL.out.below HB3.out)).mono ?_
  rintro e w4 ⟨tb, rfl, htr, hb4⟩
  have HTR := Lib.hid htr
  have HB4 := Lib.hid (below_next HB3.out hb4)
  clear htr hb4
  cases tb
  case true =>
    go_wp2_with fail
    go_ret
    exact ⟨rfl, HB4.out⟩
  have HSC := Lib.hid (HTR.out (by trivial))
  clear HTR
  have hn4 : n ≤ 40 := by rw [HN.out]; exact HSC.out.1
  have HN4 := Lib.hid (show cs.length ≤ 40 from HSC.out.1)
  go_wp2_with fail
  refine (changes_any _ cs _ w4 (HL.out.below HB4.out) (by have := HN4.out; omega)).mono ?_
  rintro e w5 ⟨a5, c5, rfl, hc5, hm5, hb5⟩
  have HC5 := Lib.hid hc5
  have HB5 := Lib.hid (below_next HB4.out hb5)
  clear hc5 hb5
  rw [← HN.out] at HC5 ⊢
  go_wp2_with fail
  refine (text_any _ cs _ w5 HC5.out (wide_short HSC.out) (by have := HN4.out; omega)).mono ?_
  rintro e w6 ⟨rfl, hb6⟩
  have HB6 := Lib.hid (below_next HB5.out hb6)
  have HRT := Lib.hid (r_text_any _ cs _ w6 (HL.out.below HB6.out) (wide_short HSC.out) (by have := HN4.out; omega))
  obtain ⟨st, hst⟩ : ∃ st, st = (⟨(textP cs).toArray⟩ : ByteArray) := ⟨_, rfl⟩
  rw [← hst] at HRT ⊢
  clear hb6 hst
  go_wp2_with fail
  refine HRT.out.mono ?_
  rintro e w7 ⟨rfl, hb7⟩
  have HB7 := Lib.hid (below_next HB6.out hb7)
  clear hb7 HRT
  go_wp2_with fail
  refine (changes_any _ cs _ w7 (HL.out.below HB7.out) (by have := HN4.out; omega)).mono ?_
  rintro e w8 ⟨a8, c8, rfl, hc8, hm8, hb8⟩
  have HC8 := Lib.hid hc8
  have HB8 := Lib.hid (below_next HB7.out hb8)
  clear hc8 hb8
  rw [← HN.out] at HC8 ⊢
  go_wp2_with fail
  obtain ⟨q1, q2, q3, q4, s, hq, hq0, hq1⟩ := cntQ_any a cs
  obtain ⟨x, hx⟩ : ∃ x, x = chkC a cs := ⟨_, rfl⟩
  rw [← hx] at hq hq0 hq1
  have HX := Lib.hid hx
  have HQ := Lib.hid hq
  have HQ0 := Lib.hid hq0
  have HQ1 := Lib.hid hq1
  clear hx hq hq0 hq1
  refine (counts_any _ _ a cs _ _ w8 (HA.out.below HB8.out) HC8.out (by have := HN4.out; omega) (HE.out.below HB8.out)).mono ?_
  intro e w9 hr9
  unfold CntRes at hr9
  rw [HQ.out] at hr9
  obtain ⟨rfl, hb9⟩ := hr9
  have HB9 := Lib.hid (below_next HB8.out hb9)
  clear hb9
  unfold numArr
  go_upto_region 8 with (fail)
  obtain ⟨w10, hw10⟩ : ∃ Z : World, Z = w9.alloc (.cells #[.int .i64 q1, .int .i64 q2, .int .i64 q3, .int .i64 q4] 43) := ⟨_, rfl⟩
  rw [← hw10]
  have hb10 : Below w9.heap.size w9 w10 := by rw [hw10]; exact (Below.refl _ _).alloc (Nat.le_refl _) _
  obtain ⟨bN, hbN⟩ : ∃ b, b = w9.heap.size := ⟨_, rfl⟩
  have HN10 := Lib.hid (show w10.heap[bN]? = some (.cells #[.int .i64 q1, .int .i64 q2, .int .i64 q3, .int .i64 q4] 43 (0, 0)) by rw [hw10, hbN]; exact new20 w9 _)
  have HB10 := Lib.hid (below_next HB9.out hb10)
  rw [← hbN]
  clear hw10 hb10 hbN
  go_wp2_with fail
  refine (r_check_any _ a _ w10 (HA.out.below HB10.out) (fun e he => by have := (HSA.out.2 e he).1; omega)).mono ?_
  rintro e w11 ⟨rfl, hb11⟩
  have HB11 := Lib.hid (below_next HB10.out hb11)
  have HN11 := Lib.hid ((hb11.block _ (lt20 HN10.out)).trans HN10.out)
  clear hb11 HN10
  obtain ⟨y0, hy0⟩ : ∃ y, y = checkP a := ⟨_, rfl⟩
  rw [← hy0]
  have HY0 := Lib.hid hy0
  clear hy0
  go_wp2_with fail
  go_loopw [8, 40] (fun v i wr => ∃ k : Nat, k ≤ n ∧ i = .int .i64 k ∧ v = .int .i64 (chkC a (cs.take k)) ∧ Below w11.heap.size w11 wr) (fun _ i _ => n - (intOf i).toNat)
  case atStart => exact ⟨0, Nat.zero_le _, rfl, by rw [HY0.out]; show _ = Value.int .i64 (chkC a []); rw [chk_nil], Below.refl _ _⟩
  case round =>
    obtain ⟨k, hk, rfl, rfl, hbr⟩ := hrel
    have HBR := Lib.hid hbr
    have HBB := Lib.hid (below_next HB11.out hbr)
    clear hbr
    obtain ⟨y, hy⟩ : ∃ y, y = chkC a (cs.take k) := ⟨_, rfl⟩
    rw [← hy]
    have HY := Lib.hid hy
    clear hy
    by_cases hlt : k < n
    · obtain ⟨c, hcc⟩ : ∃ c, cs[k]? = some c := ⟨cs[k]'(by rw [← HN.out]; exact hlt), by simp⟩
      have HW1 := Lib.hid (HSC.out.2 c (List.mem_of_getElem? hcc))
      have HCS := Lib.hid (chk_step (a := a) hcc)
      obtain ⟨b, o, dv, rfl, hb, hd, hok, hq⟩ := chgs_at (HL.out.below HBB.out) hcc
      have HAT := Lib.hid hcc
      have HD := Lib.hid hd
      have HOK := Lib.hid hok
      obtain ⟨a1, cap1, rfl, hd1, hd2⟩ := hd.slice
      unfold maxLen at hd2
      have c0 := (hq 0 (by omega)).trans rfl
      have c1 := (hq 1 (by omega)).trans rfl
      have c2 := (hq 2 (by omega)).trans rfl
      have c3 := (hq 3 (by omega)).trans rfl
      have c4 := (hq 4 (by omega)).trans rfl
      have c5 := (hq 5 (by omega)).trans rfl
      have c6 := (hq 6 (by omega)).trans rfl
      have c7 := (hq 7 (by omega)).trans rfl
      have c8 := (hq 8 (by omega)).trans rfl
      simp only [chgC, List.getElem?_cons_succ, List.getElem?_cons_zero, Nat.add_zero] at c0 c1 c2 c3 c4 c5 c6 c7 c8
      clear hcc hd hok hq
      go_upto_region 12 with (fail)
      obtain ⟨W, hW⟩ : ∃ W : World, W = wr.alloc (.cells #[.int .i64 c.kind, .string c.path, .string c.src, .string c.en.path, .int .i64 c.en.kind, .int .i64 c.en.mode, .int .i64 c.en.time, .slice a1 c.en.data.length cap1, .string c.en.link] 50) := ⟨_, rfl⟩
      rw [← hW]
      have HW := Lib.hid (show Below wr.heap.size wr W by rw [hW]; exact (Below.refl _ _).alloc (Nat.le_refl _) _)
      have HX := Lib.hid (show W.heap[wr.heap.size]? = some (.cells #[.int .i64 c.kind, .string c.path, .string c.src, .string c.en.path, .int .i64 c.en.kind, .int .i64 c.en.mode, .int .i64 c.en.time, .slice a1 c.en.data.length cap1, .string c.en.link] 50 (0, 0)) by rw [hW]; exact new20 wr _)
      clear hW c0 c1 c2 c3 c4 c5 c6 c7 c8
      have c0 := cell20 (k := 0) HX.out
      have c1 := cell20 (k := 1) HX.out
      have c2 := cell20 (k := 2) HX.out
      have c3 := cell20 (k := 3) HX.out
      have c4 := cell20 (k := 4) HX.out
      have c5 := cell20 (k := 5) HX.out
      have c6 := cell20 (k := 6) HX.out
      have c7 := cell20 (k := 7) HX.out
      have c8 := cell20 (k := 8) HX.out
      have hltX := lt20 HX.out
      simp only [List.getElem?_toArray, List.getElem?_cons_succ, List.getElem?_cons_zero] at c0 c1 c2 c3 c4 c5 c6 c7 c8
      have HBW := Lib.hid (below_next HBR.out HW.out)
      by_cases hy0 : y = 0
      · have HYE := Lib.hid (show chkC a (cs.take k) = 0 by rw [← HY.out]; exact hy0)
        subst hy0
        have hC := r_validC_any _ c _ W (HD.out.below HW.out) HOK.out (by have h1 := HW1.out.1; have h2 := HW1.out.2.1; have h3 := HW1.out.2.2.1; omega)
        unfold chgV at hC
        obtain ⟨vb, hvb⟩ : ∃ vb, vb = chgOk c := ⟨_, rfl⟩
        rw [← hvb] at hC
        have HVB := Lib.hid hvb
        clear hvb
        go_wp2_with fail
        refine hC.mono ?_
        rintro e w12 ⟨rfl, hb12⟩
        have HB12 := Lib.hid (below_next HBW.out hb12)
        clear hb12 hC c0 c1 c2 c3 c4 c5 c6 c7 c8 hltX
        cases vb
        case true =>
          go_wp2_with fail
          go_roundw
          case rel => exact ⟨k + 1, by omega, by go_num, by rw [HCS.out, if_neg (fun h => by rw [← HVB.out] at h; exact absurd h.2 (by simp)), HYE.out], HB12.out⟩
          case measure => simp [intOf]; omega
        case false =>
          go_wp2_with fail
          go_roundw
          case rel => exact ⟨k + 1, by omega, by go_num, by rw [HCS.out, if_pos ⟨HYE.out, HVB.out.symm⟩], HB12.out⟩
          case measure => simp [intOf]; omega
      · have e1 : (y == 0) = false := by simp [hy0]
        have HYE := Lib.hid (show ¬ chkC a (cs.take k) = 0 by rw [← HY.out]; exact hy0)
        clear hy0
        go_wp2_with fail
        go_roundw
        case rel => exact ⟨k + 1, by omega, by go_num, by rw [HCS.out, if_neg (fun h => HYE.out h.1), HY.out], HBW.out⟩
        case measure => simp [intOf]; omega
    · have hk2 : n = k := by omega
      subst hk2
      have HNR := Lib.hid ((HBR.out.block _ (lt20 HN11.out)).trans HN11.out)
      have hyx : y = x := by rw [HY.out, HN.out, List.take_length, HX.out]
      subst hyx
      have d0 := cell20 (k := 0) HNR.out
      have d1 := cell20 (k := 1) HNR.out
      have d2 := cell20 (k := 2) HNR.out
      have d3 := cell20 (k := 3) HNR.out
      have hltR := lt20 HNR.out
      simp only [List.getElem?_toArray, List.getElem?_cons_succ, List.getElem?_cons_zero] at d0 d1 d2 d3
      by_cases hx0 : y = 0
      · obtain ⟨rfl, rfl, rfl, rfl, rfl⟩ := HQ1.out hx0
        subst hx0
        have HOKS := Lib.hid (chk_ok HX.out.symm)
        go_wp2_with fail
        refine (r_counts_any _ _ a cs _ _ wr (HA.out.below HBB.out) (HL.out.below HBB.out) (by have := HN4.out; omega) (fun c hc => chg_kinds (HOKS.out.2 c hc)) (fun c hc => (HSC.out.2 c hc).2.2.2.1)).mono ?_
        rintro e w12 ⟨rfl, hb12⟩
        unfold numArr
        have HB12 := Lib.hid (below_next HBB.out hb12)
        have HN12 := Lib.hid ((hb12.block _ (lt20 HNR.out)).trans HNR.out)
        clear hb12 d0 d1 d2 d3 hltR
        obtain ⟨q1, hq1⟩ : ∃ q : Int, q = (cntC 1 cs : Nat) := ⟨_, rfl⟩
        obtain ⟨q2, hq2⟩ : ∃ q : Int, q = (cntC 2 cs : Nat) := ⟨_, rfl⟩
        obtain ⟨q3, hq3⟩ : ∃ q : Int, q = (cntC 3 cs : Nat) := ⟨_, rfl⟩
        obtain ⟨q4, hq4⟩ : ∃ q : Int, q = (cntC 4 cs : Nat) := ⟨_, rfl⟩
        obtain ⟨q5, hq5⟩ : ∃ q : Int, q = (sumC a cs : Nat) := ⟨_, rfl⟩
        rw [← hq1, ← hq2, ← hq3, ← hq4] at HN12
        rw [← hq1, ← hq2, ← hq3, ← hq4, ← hq5]
        clear hq1 hq2 hq3 hq4 hq5
        go_upto_region 18 with (fail)
        obtain ⟨w13, hw13⟩ : ∃ Z : World, Z = w12.alloc (.cells #[.int .i64 q1, .int .i64 q2, .int .i64 q3, .int .i64 q4] 43) := ⟨_, rfl⟩
        rw [← hw13]
        have hb13 : Below w12.heap.size w12 w13 := by rw [hw13]; exact (Below.refl _ _).alloc (Nat.le_refl _) _
        have HM13 := Lib.hid (show w13.heap[w12.heap.size]? = some (.cells #[.int .i64 q1, .int .i64 q2, .int .i64 q3, .int .i64 q4] 43 (0, 0)) by rw [hw13]; exact new20 w12 _)
        have HN13 := Lib.hid ((hb13.block _ (lt20 HN12.out)).trans HN12.out)
        have HB13 := Lib.hid (below_next HB12.out hb13)
        clear hw13 hb13
        have d0 := cell20 (k := 0) HN13.out
        have d1 := cell20 (k := 1) HN13.out
        have d2 := cell20 (k := 2) HN13.out
        have d3 := cell20 (k := 3) HN13.out
        have hltR := lt20 HN13.out
        simp only [List.getElem?_toArray, List.getElem?_cons_succ, List.getElem?_cons_zero] at d0 d1 d2 d3
        have e0 := cell20 (k := 0) HM13.out
        have e1 := cell20 (k := 1) HM13.out
        have e2 := cell20 (k := 2) HM13.out
        have e3 := cell20 (k := 3) HM13.out
        have hltE := lt20 HM13.out
        simp only [List.getElem?_toArray, List.getElem?_cons_succ, List.getElem?_cons_zero] at e0 e1 e2 e3
        have heq := eqNum q1 q2 q3 q4 w13
        go_wp2_with fail
        go_ret
        exact ⟨rfl, HB13.out⟩
      · obtain ⟨rfl, rfl, rfl, rfl, rfl⟩ := HQ0.out hx0
        have e1 : (y != 0) = true := by simp [hx0]
        have heq := eqNum 0 0 0 0 wr
        clear hx0
        go_wp2_with fail
        go_ret
        exact ⟨rfl, HBB.out⟩

end Go.Proofs.YtdieneaillkbgaaGreatDoor

/- TreediffTexts: for every input the law returns true, and each argument reads afterwards as it read before (the tied card). -/
namespace Go.Proofs.YtdieneaillkbgaaGreatDoor
open Go.ChangeShapes Go.WideShapes Go.ChangeAt Go.RowKit Go.Lib Go.Shelf
open Go.ChangeMaps (open_string shut_string)

namespace CTexts
set_option maxRecDepth 100000 in
theorem lifted (os : Os) (started : os.Started) (H : Type) (enc : TypeId × Value → H) :
    ReturnsInHanded {} Tryz.checked os 5 .any (fun w args => (Rows.treediffTextsSpec.pre enc Tryz.prog Tryz.f5 [] false w args ∧ laidMetH Tryz.prog laidL w) ∧ sizedMet enc Tryz.prog Tryz.f5 (OpenSpec.ofChange Rows.treediffTextsSpec) false w args)
      (Rows.treediffTextsSpec.post enc Tryz.prog Tryz.f5 false true false false) := by
  refine handed (C := Tryz.checked) (X := fun w _ => laidMetH Tryz.prog laidL w) (fun _ _ _ hh h => h.of_heap hh) own started (by kernel_rfl) Tryz.func5
    (ChangeSpec.witness_shaped (enc := enc) (C := Tryz.checked) (os := os) (X := fun w _ => laidMetH Tryz.prog laidL w) false (World.laidAll Tryz.prog os laidL) #[.slice none 0 0, .slice none 0 0] 8 (World.laidAll_os _ _ _)
      (World.shaped_of_ZipB (by kernel_rfl) (by kernel_rfl)) (by kernel_rfl) (by kernel_rfl) (by kernel_rfl)
      (by rw [MakeChecks.laidMetH_plain _ _ _ (by kernel_rfl)]; exact laidMet_laidAll _ (by kernel_rfl) (by kernel_rfl))) ?_
  intro W base args ds gs before hval0 hW _hWt hL hsh
  have hval : ∀ (j : Nat) t v, Tryz.f5.params[j]? = some t → args[j]? = some v → Value.okWide Tryz.prog W .any base t v := hval0
  have hW' := hW
  obtain ⟨p, q, hA0, hV, rfl, _, _⟩ := hW
  have hA : DataW.TrodAll enc Tryz.prog W 0 (fun _ => true) true Tryz.f5.params.toList args.toList ds p := hA0
  rw [Tryz.params5] at hA hval
  obtain ⟨rfl, rfl⟩ := trodVars_none hV
  simp only [List.append_nil] at hW'
  obtain ⟨v0, v1, d0, d1, p0, p1, rfl, rfl, rfl, h0, h1⟩ := trodAll_two hA
  obtain ⟨l0, hl0⟩ := open_ents (hval 0 22 v0 rfl rfl) h0
  have hlt0 : ∀ x ∈ p0, x.block < W.heap.size := fun x hx => by simpa using hW'.lt x (by simp [hx])
  obtain ⟨l1, hl1⟩ := open_chgs (hval 1 31 v1 rfl rfl) h1
  have hlt1 : ∀ x ∈ p1, x.block < W.heap.size := fun x hx => by simpa using hW'.lt x (by simp [hx])
  refine (texts_walk l0 l1 v0 v1 W hl0 hl1 (env_of hL hsh)).mono fun e W' ⟨he, hb⟩ => ?_
  subst he
  exact ⟨_, rfl, _, _, _, [], _, [], hW', trodAll_mk1 (shut_bool Tryz.underlying4 _), trodAll_mk2 (Below.trod laidOut (by kernel_rfl) (of_decide_eq_true (by kernel_rfl)) h0 hb hlt0) (Below.trod laidOut (by kernel_rfl) (of_decide_eq_true (by kernel_rfl)) h1 hb hlt1), rfl, hb.frame _, fun h => by cases h⟩
theorem holds : Rows.TreediffTextsSaid :=
  OpenClaim.holds_of_wide 5 Tryz.f5 rfl rfl rfl rfl rfl rfl rfl ⟨rfl, rfl, rfl, rfl, rfl⟩ rfl rfl rfl rfl rfl (by kernel_rfl) Tryz.func5 (by kernel_rfl)
    (of_decide_eq_true (by kernel_rfl)) (by unfold Func.isWrapper; first | (rw [if_pos (by decide +kernel)]; kernel_rfl) | (rw [if_neg (by decide +kernel)]; exact ⟨rfl, rfl⟩))
    (fun os started H enc _ => lifted os started H enc)
theorem card_holds : Rows.TreediffTextsCardSaid :=
  Claim7.holds_tied_plain_at .later [] [.data, .pinned] true (true, "26f308a74d533cd0a72c14b9da7e68f4e1e057f8caa1e49e6438d7b0ff3c70c4") false holds (fun _ h => by cases h) (by kernel_rfl) (fun _ h => by cases h) treediffTexts_row_tie rfl ⟨rfl, rfl⟩ (by kernel_rfl) rfl
    (fun f fn hf hfn => by
      obtain rfl : f = 5 := Option.some.inj ((show Tryz.prog.funcNamed "kinkeep/kinkeeplaw23.TreediffTexts" = some 5 by kernel_rfl).symm.trans hf) |>.symm
      obtain rfl : fn = Tryz.f5 := (Option.some.inj (Tryz.func5.symm.trans hfn)).symm
      exact ⟨by kernel_rfl, fun j t ht => by
        rw [Tryz.params5] at ht
        have hm : t ∈ [22, 31] := by simpa using Array.mem_of_getElem? ht
        have hall : ([22, 31].all fun u => !Tryz.prog.wantsStandIn u) = true := by kernel_rfl
        exact (show Tryz.prog.wantsStandIn t = false by simpa using List.all_eq_true.1 hall t hm)⟩)
    (by kernel_rfl)
#print axioms card_holds
end CTexts
theorem treediffTexts_card : Rows.TreediffTextsCardSaid := CTexts.card_holds
end Go.Proofs.YtdieneaillkbgaaGreatDoor
