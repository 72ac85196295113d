/- Texts of this proof, one after the other: SetD, SetE, SetF, Bytes, Same, RefBytes, RLess, RAdd, RUnion, RMiss, MissL, Refs24, LiveP, Few, EncD, ExS. -/
import Derived.Test.YtndgmcggckpgfaaGreatDoorME
import Derived.WalkLawsBesides
import Derived.Maps.RangeWalk
/- Contracts of package liveness: Needed, Orphans, Delta. -/
namespace Go.Proofs.YtndgmcggckpgfaaGreatDoor
open Go.RowKit


/-- What a function leaves that returns a list of references or an error. -/
def ListRes (res : Except Int (List Ref)) (w : World) (e : Ending) (w' : World) : Prop := Below w.heap.size w w' ∧ match res with
  | .error x => e = .returned (.tuple #[.slice none 0 0, .int .i64 x]) ∧ x ≠ 0
  | .ok rs => ∃ v, e = .returned (.tuple #[v, .int .i64 0]) ∧ RefsAt (w.heap.size ≤ ·) w' v rs
def mapE {α β : Type} (f : α → β) : Except Int α → Except Int β
  | .error x => .error x
  | .ok a => .ok (f a)
set_option maxRecDepth 100000 in
set_option maxHeartbeats 1000000 in
theorem Needed_any (cs : List (ByteArray × List UInt8)) (need : Ref → Except Int (List Ref)) (hn : NeedOk cs need) (S T : Nat → Prop) (sv cv : Value) (roots : List Ref) (w : World) (hs : SnapsAt T w sv roots) (hc : ContAt S w cv cs) (henv : Env w) (hlen : roots.length ≤ 1000) :
    Calls Tryz.prog 15 #[sv, cv] w (ListRes (mapE unionP (eachP need roots)) w) := by
  have HE := Lib.hid (needed_any cs need hn S T sv cv roots w hs hc henv hlen)
  clear hn hs hc henv
  go_enter Tryz.func15, Tryz.ntmps15
  go_wp2_with fail
  refine HE.out.mono ?_
  rintro e w1 ⟨hb1, hres⟩
  have HB1 := Lib.hid hb1
  clear hb1 HE
  cases hep : eachP need roots with
  | error x =>
    rw [hep] at hres
    obtain ⟨rfl, hx⟩ := hres
    have e1 : (x != 0) = true := by simp [hx]
    have HX := Lib.hid hx
    have HEP := Lib.hid hep
    clear hep hx
    go_wp2_with fail
    go_ret2
    exact ⟨HB1.out, by rw [HEP.out]; exact ⟨rfl, HX.out⟩⟩
  | ok ls =>
    rw [hep] at hres
    obtain ⟨base, nb, mb, v, rfl, hst, hbase⟩ := hres
    have HST := Lib.hid hst
    obtain ⟨av, cap, rfl⟩ := hst.shape
    have c0 := cellH (k := 0) hst.box
    simp only [List.getElem?_toArray, List.getElem?_cons_zero] at c0
    have HEP := Lib.hid hep
    clear hep hst
    go_wp2_with fail
    go_ret2
    exact ⟨HB1.out, by rw [HEP.out]; exact ⟨_, rfl, RefsAt.same HST.out.refs (fun k _ hS => ⟨Nat.le_trans hbase hS.1, rfl⟩)⟩⟩
theorem unionOf_len {cs : List (ByteArray × List UInt8)} {need : Ref → Except Int (List Ref)} (hn : NeedOk cs need) {rs : List Ref} {ls : List (List Ref)} (hok : ∀ r ∈ rs, RefOk r) (h : eachP need rs = .ok ls) (hl : rs.length ≤ 1000) : (unionP ls).length < 1099511627775 := by
  have h1 := unionP_len (eachP_le hn hok h)
  rw [eachP_len h] at h1
  exact Nat.lt_of_le_of_lt (Nat.le_trans h1 (Nat.mul_le_mul_right 1000000000 hl)) (by decide)
set_option maxRecDepth 100000 in
set_option maxHeartbeats 1000000 in
theorem Orphans_big (cs : List (ByteArray × List UInt8)) (need : Ref → Except Int (List Ref)) (hn : NeedOk cs need) (S T U : Nat → Prop) (rv sv cv : Value) (refs roots : List Ref) (w : World) (hrv : RefsAt U w rv refs) (hs : SnapsAt T w sv roots) (hc : ContAt S w cv cs) (henv : Env w) (hlen : roots.length ≤ 1000) (hrl : refs.length < 4398046511104) :
    Calls Tryz.prog 18 #[rv, sv, cv] w (ListRes (mapE (fun ls => lessP refs (unionP ls)) (eachP need roots)) w) := by
  have HE := Lib.hid (needed_any cs need hn S T sv cv roots w hs hc henv hlen)
  have HRV := Lib.hid hrv
  have HRL := Lib.hid hrl
  clear hn hs hc henv hrv hrl
  go_enter Tryz.func18, Tryz.ntmps18
  go_wp2_with fail
  refine HE.out.mono ?_
  rintro e w1 ⟨hb1, hres⟩
  have HB1 := Lib.hid hb1
  clear hb1 HE
  cases hep : eachP need roots with
  | error x =>
    rw [hep] at hres
    obtain ⟨rfl, hx⟩ := hres
    have e1 : (x != 0) = true := by simp [hx]
    have HX := Lib.hid hx
    have HEP := Lib.hid hep
    clear hep hx
    go_wp2_with fail
    go_ret2
    exact ⟨HB1.out, by rw [HEP.out]; exact ⟨rfl, HX.out⟩⟩
  | ok ls =>
    rw [hep] at hres
    obtain ⟨base, nb, mb, v, rfl, hst, hbase⟩ := hres
    have HST := Lib.hid hst
    have HRV1 := Lib.hid (show RefsAt U w1 rv refs from SeqAt.below HRV.out (by omega) HB1.out (fun _ _ _ h => h))
    have HEP := Lib.hid hep
    clear hep hst
    go_wp2_with fail
    refine (without_big base nb mb v (unionP ls) U rv refs w1 HST.out HRV1.out HRL.out).mono ?_
    rintro e w2 ⟨ov, rfl, hov, hb2⟩
    have HB2 := Lib.hid (below_next HB1.out hb2)
    have hz := HB1.out.size
    have HOV := Lib.hid (show RefsAt (w.heap.size ≤ ·) w2 ov (lessP refs (unionP ls)) from RefsAt.same hov (fun k _ hS => ⟨Nat.le_trans hz hS, rfl⟩))
    obtain ⟨oa, oc, rfl, -, -, -⟩ := SeqAt.shape hov RefR.len
    clear hov hb2
    go_wp2_with fail
    go_ret2
    exact ⟨HB2.out, by rw [HEP.out]; exact ⟨_, rfl, HOV.out⟩⟩
theorem Orphans_any (cs : List (ByteArray × List UInt8)) (need : Ref → Except Int (List Ref)) (hn : NeedOk cs need) (S T U : Nat → Prop) (rv sv cv : Value) (refs roots : List Ref) (w : World) (hrv : RefsAt U w rv refs) (hs : SnapsAt T w sv roots) (hc : ContAt S w cv cs) (henv : Env w) (hlen : roots.length ≤ 1000) (hrl : refs.length < 1099511627775) :
    Calls Tryz.prog 18 #[rv, sv, cv] w (ListRes (mapE (fun ls => lessP refs (unionP ls)) (eachP need roots)) w) :=
  Orphans_big cs need hn S T U rv sv cv refs roots w hrv hs hc henv hlen (by omega)
def deltaE (need : Ref → Except Int (List Ref)) (old new : List Ref) : Except Int (List (List Ref) × List (List Ref)) := match eachP need old with
  | .error x => .error x
  | .ok a => match eachP need new with
    | .error x => .error x
    | .ok b => .ok (a, b)
def DeltaRes (res : Except Int (List (List Ref) × List (List Ref))) (w : World) (e : Ending) (w' : World) : Prop := Below w.heap.size w w' ∧ match res with
  | .error x => e = .returned (.tuple #[.slice none 0 0, .slice none 0 0, .int .i64 x]) ∧ x ≠ 0
  | .ok (a, b) => ∃ gv lv, e = .returned (.tuple #[gv, lv, .int .i64 0]) ∧ RefsAt (w.heap.size ≤ ·) w' gv (lessP (unionP b) (unionP a)) ∧ RefsAt (w.heap.size ≤ ·) w' lv (lessP (unionP a) (unionP b))
set_option maxRecDepth 100000 in
set_option maxHeartbeats 2000000 in
theorem Delta_any (cs : List (ByteArray × List UInt8)) (need : Ref → Except Int (List Ref)) (hn : NeedOk cs need) (S T U : Nat → Prop) (av bv cv : Value) (old new : List Ref) (w : World) (ha : SnapsAt T w av old) (hb : SnapsAt U w bv new) (hc : ContAt S w cv cs) (henv : Env w) (hl1 : old.length ≤ 1000) (hl2 : new.length ≤ 1000) :
    Calls Tryz.prog 22 #[av, bv, cv] w (DeltaRes (deltaE need old new) w) := by
  have HE := Lib.hid (needed_any cs need hn S T av cv old w ha hc henv hl1)
  have HN := Lib.hid hn
  have HA := Lib.hid ha.ok
  have HBV := Lib.hid hb
  have HC := Lib.hid hc
  have HEV := Lib.hid henv
  clear hn ha hb hc henv
  go_enter Tryz.func22, Tryz.ntmps22
  go_wp2_with fail
  refine HE.out.mono ?_
  rintro e w1 ⟨hb1, hres⟩
  have HB1 := Lib.hid hb1
  clear hb1 HE
  cases hep : eachP need old with
  | error x =>
    rw [hep] at hres
    obtain ⟨rfl, hx⟩ := hres
    have e1 : (x != 0) = true := by simp [hx]
    have HX := Lib.hid hx
    have HEP := Lib.hid (show deltaE need old new = .error x by unfold deltaE; rw [hep])
    clear hep hx
    go_wp2_with fail
    go_ret3
    exact ⟨HB1.out, by rw [HEP.out]; exact ⟨rfl, HX.out⟩⟩
  | ok a =>
    rw [hep] at hres
    obtain ⟨base, nb, mb, v, rfl, hst, hbase⟩ := hres
    have HST := Lib.hid hst
    have HUA := Lib.hid (unionOf_len HN.out HA.out hep hl1)
    have HEP := Lib.hid hep
    clear hep hst
    have HE2 := Lib.hid (needed_any cs need HN.out S U bv cv new w1 (SeqAt.below HBV.out (by omega) HB1.out (fun _ _ _ h => h)) (HC.out.below HB1.out) (HEV.out.below HB1.out) hl2)
    go_wp2_with fail
    refine HE2.out.mono ?_
    rintro e w2 ⟨hb2, hres⟩
    have HB2 := Lib.hid (below_next HB1.out hb2)
    have HSA := Lib.hid (HST.out.below hb2)
    clear hb2 HE2 HST
    cases hep2 : eachP need new with
    | error x =>
      rw [hep2] at hres
      obtain ⟨rfl, hx⟩ := hres
      have e1 : (x != 0) = true := by simp [hx]
      have HX := Lib.hid hx
      have HEP3 := Lib.hid (show deltaE need old new = .error x by unfold deltaE; rw [HEP.out]; simp only [hep2])
      clear hep2 hx
      go_wp2_with fail
      go_ret3
      exact ⟨HB2.out, by rw [HEP3.out]; exact ⟨rfl, HX.out⟩⟩
    | ok b =>
      rw [hep2] at hres
      obtain ⟨base2, nb2, mb2, v2, rfl, hst2, hbase2⟩ := hres
      have HSB := Lib.hid hst2
      have HUB := Lib.hid (unionOf_len HN.out (SnapsAt.ok HBV.out) hep2 hl2)
      have HEP3 := Lib.hid (show deltaE need old new = .ok (a, b) by unfold deltaE; rw [HEP.out]; simp only [hep2])
      obtain ⟨xa, xc, rfl⟩ := HSA.out.shape
      obtain ⟨ya, yc, rfl⟩ := HSB.out.shape
      have c0 := cellH (k := 0) HSA.out.box
      have d0 := cellH (k := 0) HSB.out.box
      simp only [List.getElem?_toArray, List.getElem?_cons_zero] at c0 d0
      clear hep2 hst2
      go_wp2_with fail
      refine hld_start (fun w' => w'.cell? ⟨nb, 0, none⟩ = some (.slice xa (unionP a).length xc) ∧ w'.cell? ⟨nb2, 0, none⟩ = some (.slice ya (unionP b).length yc)) (by kernel_rfl) ?_
      obtain ⟨W2, hW2⟩ : ∃ W2 : World, W2 = w2.drew := ⟨_, rfl⟩
      rw [← hW2]
      have hbw : Below w2.heap.size w2 W2 := by rw [hW2]; exact (Below.refl _ _).drew
      have HB3 := Lib.hid (below_next HB2.out hbw)
      have HSA2 := Lib.hid (HSA.out.below hbw)
      have HSB2 := Lib.hid (HSB.out.below hbw)
      clear hW2 hbw c0 d0 HSA HSB
      have c0 := cellH (k := 0) HSA2.out.box
      have d0 := cellH (k := 0) HSB2.out.box
      simp only [List.getElem?_toArray, List.getElem?_cons_zero] at c0 d0
      refine hld_take 0 rfl (by kernel_rfl) (by kernel_rfl) (by kernel_rfl) (fun _ _ _ h => h) rfl (by go_simp) (by rintro w' ⟨hw1, hw2⟩; go_simp; rfl) ?_
      simp only [Act.put, List.setIfInBounds_toArray, List.set_cons_succ, List.set_cons_zero]
      refine hld_take 1 rfl (by kernel_rfl) (by kernel_rfl) (by kernel_rfl) (fun _ _ _ h => h) rfl (by go_simp) (by rintro w' ⟨hw1, hw2⟩; go_simp; rfl) ?_
      simp only [Act.put, List.setIfInBounds_toArray, List.set_cons_succ, List.set_cons_zero]
      refine hld_take 2 rfl (by kernel_rfl) (by kernel_rfl) (by kernel_rfl) (fun _ _ _ h => h) rfl (by go_simp) (by rintro w' ⟨hw1, hw2⟩; go_simp; rfl) ?_
      simp only [Act.put, List.setIfInBounds_toArray, List.set_cons_succ, List.set_cons_zero]
      refine hld_take 3 rfl (by kernel_rfl) (by kernel_rfl) (by kernel_rfl) (fun _ _ _ h => h) rfl (by go_simp) (by rintro w' ⟨hw1, hw2⟩; go_simp; rfl) ?_
      simp only [Act.put, List.setIfInBounds_toArray, List.set_cons_succ, List.set_cons_zero]
      refine hld_take 4 rfl (by kernel_rfl) (by kernel_rfl) (by kernel_rfl) (fun _ _ _ h => h) rfl (by go_simp) (by rintro w' ⟨hw1, hw2⟩; go_simp; rfl) ?_
      simp only [Act.put, List.setIfInBounds_toArray, List.set_cons_succ, List.set_cons_zero]
      refine hld_take 6 rfl (by kernel_rfl) (by kernel_rfl) (by kernel_rfl) (fun _ _ _ h => h) rfl (by go_simp) (by rintro w' ⟨hw1, hw2⟩; go_simp; rfl) ?_
      simp only [Act.put, List.setIfInBounds_toArray, List.set_cons_succ, List.set_cons_zero]
      refine hld_take 7 rfl (by kernel_rfl) (by kernel_rfl) (by kernel_rfl) (fun _ _ _ h => h) rfl (by go_simp) (by rintro w' ⟨hw1, hw2⟩; go_simp; rfl) ?_
      simp only [Act.put, List.setIfInBounds_toArray, List.set_cons_succ, List.set_cons_zero]
      refine hld_take 8 rfl (by kernel_rfl) (by kernel_rfl) (by kernel_rfl) (fun _ _ _ h => h) rfl (by go_simp) (by rintro w' ⟨hw1, hw2⟩; go_simp; rfl) ?_
      simp only [Act.put, List.setIfInBounds_toArray, List.set_cons_succ, List.set_cons_zero]
      refine hld_take 9 rfl (by kernel_rfl) (by kernel_rfl) (by kernel_rfl) (fun _ _ _ h => h) rfl (by go_simp) (by rintro w' ⟨hw1, hw2⟩; go_simp; rfl) ?_
      simp only [Act.put, List.setIfInBounds_toArray, List.set_cons_succ, List.set_cons_zero]
      refine hld_take 10 rfl (by kernel_rfl) (by kernel_rfl) (by kernel_rfl) (fun _ _ _ h => h) rfl (by go_simp) (by rintro w' ⟨hw1, hw2⟩; go_simp; rfl) ?_
      simp only [Act.put, List.setIfInBounds_toArray, List.set_cons_succ, List.set_cons_zero]
      refine hld_bar 5 rfl (by kernel_rfl) rfl (fun K hK => ?_)
      go_wp2_with (go_at_call 29; refine (without_any base nb mb _ (unionP a) _ _ (unionP b) _ HSA2.out HSB2.out.refs HUB.out).mono ?_; rintro e w4 ⟨gv, rfl, hgv, hb4⟩)
      have HGV := Lib.hid hgv
      have HB4 := Lib.hid hb4
      have HSA4 := Lib.hid (HSA2.out.below hb4)
      have HSB4 := Lib.hid (HSB2.out.below hb4)
      have c4 := cellH (k := 0) HSA4.out.box
      have d4 := cellH (k := 0) HSB4.out.box
      simp only [List.getElem?_toArray, List.getElem?_cons_zero] at c4 d4
      obtain ⟨ga, gc, rfl, -, -, -⟩ := SeqAt.shape hgv RefR.len
      clear hgv hb4 c0 d0
      refine ⟨⟨c4, d4⟩, ?_⟩
      refine hld_bar 11 rfl (by kernel_rfl) rfl (fun K hK => ?_)
      go_wp2_with (go_at_call 29; refine (without_any base2 nb2 mb2 _ (unionP b) _ _ (unionP a) _ HSB4.out HSA4.out.refs HUA.out).mono ?_; rintro e w5 ⟨lv, rfl, hlv, hb5⟩)
      have HLV := Lib.hid hlv
      have HB5 := Lib.hid hb5
      have c5 := cellH (k := 0) (HSA4.out.below hb5).box
      have d5 := cellH (k := 0) (HSB4.out.below hb5).box
      simp only [List.getElem?_toArray, List.getElem?_cons_zero] at c5 d5
      obtain ⟨la, lc, rfl, -, -, -⟩ := SeqAt.shape hlv RefR.len
      clear hlv hb5 c4 d4
      refine ⟨⟨c5, d5⟩, ?_⟩
      refine hld_take 12 rfl (by kernel_rfl) (by kernel_rfl) (by kernel_rfl) (fun _ _ _ h => h) rfl (by go_simp) (by rintro w' ⟨hw1, hw2⟩; go_simp; rfl) ?_
      simp only [Act.put, List.setIfInBounds_toArray, List.set_cons_succ, List.set_cons_zero]
      refine hld_take 13 rfl (by kernel_rfl) (by kernel_rfl) (by kernel_rfl) (fun _ _ _ h => h) rfl (by go_simp) (by rintro w' ⟨hw1, hw2⟩; go_simp; rfl) ?_
      simp only [Act.put, List.setIfInBounds_toArray, List.set_cons_succ, List.set_cons_zero]
      refine hld_take 14 rfl (by kernel_rfl) (by kernel_rfl) (by kernel_rfl) (fun _ _ _ h => h) rfl (by go_simp) (by rintro w' ⟨hw1, hw2⟩; go_simp; rfl) ?_
      simp only [Act.put, List.setIfInBounds_toArray, List.set_cons_succ, List.set_cons_zero]
      refine hld_done (by kernel_rfl) ?_
      go_wp2_with fail
      go_ret3
      have h3 := HB3.out.size
      have h4 := HB4.out.size
      refine ⟨below_next (below_next HB3.out HB4.out) HB5.out, ?_⟩
      rw [HEP3.out]
      exact ⟨_, _, rfl, RefsAt.same (SeqAt.below HGV.out (by omega) HB5.out (fun _ _ _ h => h)) (fun k _ hS => ⟨Nat.le_trans h3 hS, rfl⟩), RefsAt.same HLV.out (fun k _ hS => ⟨Nat.le_trans (Nat.le_trans h3 h4) hS, rfl⟩)⟩

end Go.Proofs.YtndgmcggckpgfaaGreatDoor

/- Contracts of package liveness: Exclusive, Keepers. -/
namespace Go.Proofs.YtndgmcggckpgfaaGreatDoor
open Go.RowKit

/-- What the lists but the one with an index hold, among the first k. -/
def exTo (ls : List (List Ref)) (i k : Nat) : List Ref := unionP ((ls.take k).eraseIdx i)
theorem exTo_same {ls : List (List Ref)} {i : Nat} : exTo ls i (i + 1) = exTo ls i i := by
  unfold exTo
  congr 1
  by_cases h : i < ls.length
  · rw [List.take_succ_eq_append_getElem h, List.eraseIdx_append_of_length_le (by simp; omega)]
    rw [List.eraseIdx_of_length_le (l := ls.take i) (by simp; omega)]
    have : i - (ls.take i).length = 0 := by simp; omega
    rw [this]; simp
  · rw [List.take_of_length_le (by omega), List.take_of_length_le (by omega)]
theorem exTo_step {ls : List (List Ref)} {i k : Nat} {l : List Ref} (h : ls[k]? = some l) (hne : k ≠ i) : exTo ls i (k + 1) = menAll l (exTo ls i k) := by
  obtain ⟨hk, rfl⟩ := List.getElem?_eq_some_iff.1 h
  unfold exTo
  rw [List.take_succ_eq_append_getElem hk]
  rcases Nat.lt_or_ge i (ls.take k).length with h1 | h1
  · rw [List.eraseIdx_append_of_lt_length h1, unionP_snoc]
  · rw [List.eraseIdx_append_of_length_le h1, List.eraseIdx_of_length_le (l := ls.take k) (by omega)]
    have h2 : i - (ls.take k).length ≠ 0 := by simp at h1 ⊢; omega
    obtain ⟨m, hm⟩ : ∃ m, i - (ls.take k).length = m + 1 := ⟨i - (ls.take k).length - 1, by omega⟩
    rw [hm]
    show unionP (ls.take k ++ [ls[k]]) = _
    rw [unionP_snoc]
theorem exTo_len {ls : List (List Ref)} {i k : Nat} (h : ∀ l ∈ ls, l.length ≤ 1000000000) (hk : k ≤ 999) : (exTo ls i k).length ≤ 999 * 1000000000 := by
  have h1 := unionP_len (ls := (ls.take k).eraseIdx i) (fun x hx => h x (List.mem_of_mem_take (List.mem_of_mem_eraseIdx hx)))
  have h2 : ((ls.take k).eraseIdx i).length ≤ 999 := by
    have := List.length_eraseIdx_le (ls.take k) i
    rw [List.length_take] at this
    omega
  exact Nat.le_trans h1 (Nat.mul_le_mul_right 1000000000 h2)
def exclE (need : Ref → Except Int (List Ref)) (roots : List Ref) (index : Int) : Except Int (List Ref) :=
  if index < 0 ∨ (roots.length : Int) ≤ index then .error 1 else mapE (fun ls => lessP (ls.getD index.toNat []) (unionP (ls.eraseIdx index.toNat))) (eachP need roots)
set_option maxRecDepth 100000 in
set_option maxHeartbeats 4000000 in
theorem Exclusive_any (cs : List (ByteArray × List UInt8)) (need : Ref → Except Int (List Ref)) (hn : NeedOk cs need) (S T : Nat → Prop) (sv cv : Value) (roots : List Ref) (index : Int) (w : World) (hs : SnapsAt T w sv roots) (hc : ContAt S w cv cs) (henv : Env w) (hlen : roots.length ≤ 1000) :
    Calls Tryz.prog 10 #[sv, .int .i64 index, cv] w (ListRes (exclE need roots index) w) := by
  have hrok := hs.ok
  have HOK := Lib.hid hrok
  have HN := Lib.hid hn
  have HE := Lib.hid (each_any cs need hn S T sv cv roots w hs hc henv (by omega))
  obtain ⟨sa, sc, rfl, hsc, hsm, -⟩ := SeqAt.shape hs SnapR.len
  unfold maxLen at hsm
  clear hn hs hc henv hrok
  by_cases hi0 : index < 0
  · have HR := Lib.hid (show exclE need roots index = .error 1 by unfold exclE; rw [if_pos (.inl hi0)])
    go_enter Tryz.func10, Tryz.ntmps10
    go_wp2_with fail
    go_ret2
    exact ⟨Below.refl _ _, by rw [HR.out]; exact ⟨rfl, by decide⟩⟩
  · by_cases hi1 : (roots.length : Int) ≤ index
    · have HR := Lib.hid (show exclE need roots index = .error 1 by unfold exclE; rw [if_pos (.inr hi1)])
      go_enter Tryz.func10, Tryz.ntmps10
      go_wp2_with fail
      go_ret2
      exact ⟨Below.refl _ _, by rw [HR.out]; exact ⟨rfl, by decide⟩⟩
    · have HXE := Lib.hid (show exclE need roots index = mapE (fun ls => lessP (ls.getD index.toNat []) (unionP (ls.eraseIdx index.toNat))) (eachP need roots) by unfold exclE; rw [if_neg (by omega)])
      obtain ⟨ix, rfl⟩ : ∃ ix : Nat, index = (ix : Int) := ⟨index.toNat, by omega⟩
      have hix : ix < roots.length := by omega
      rw [Int.toNat_natCast] at HXE
      clear hi0 hi1
      go_enter Tryz.func10, Tryz.ntmps10
      go_wp2_with fail
      refine HE.out.mono ?_
      rintro e w1 ⟨hb1, hres⟩
      have HB1 := Lib.hid hb1
      clear hb1 HE
      cases hep : eachP need roots with
      | error x =>
        rw [hep] at hres
        obtain ⟨rfl, hx⟩ := hres
        have e1 : (x != 0) = true := by simp [hx]
        have HX := Lib.hid hx
        have HR := Lib.hid (show exclE need roots (ix : Int) = .error x by rw [HXE.out, hep]; rfl)
        clear hep hx
        go_wp2_with fail
        go_ret2
        exact ⟨HB1.out, by rw [HR.out]; exact ⟨rfl, HX.out⟩⟩
      | ok ls =>
        rw [hep] at hres
        obtain ⟨lv, rfl, hlv⟩ := hres
        have HLV := Lib.hid hlv.lt
        obtain ⟨la, lc, rfl, hlc, hlm, -⟩ := SeqAt.shape hlv ListR.len
        unfold maxLen at hlm
        have HLE := Lib.hid (eachP_le HN.out HOK.out hep)
        have hll : ls.length = roots.length := eachP_len hep
        have hlx : ls.length ≤ 1000 := by omega
        have hix2 : ix < ls.length := by omega
        obtain ⟨lx, hlx2⟩ : ∃ lx, ls[ix]? = some lx := ⟨ls[ix], by simp [hix2]⟩
        have HLX := Lib.hid hlx2
        have HLXL := Lib.hid (show lx.length < 1099511627775 from Nat.lt_of_le_of_lt (HLE.out lx (List.mem_of_getElem? hlx2)) (by decide))
        have HR := Lib.hid (show exclE need roots (ix : Int) = .ok (lessP lx (unionP (ls.eraseIdx ix))) by
          rw [HXE.out, hep]
          show Except.ok (lessP (ls.getD ix []) _) = _
          rw [List.getD_eq_getElem?_getD, hlx2]; rfl)
        clear hep hlv hlx2 hll hix
        go_wp2_with fail
        refine (newSet_any w1 w1.heap.size).mono ?_
        rintro e w2 ⟨rfl, hst, hb2, hz2⟩
        have HST := Lib.hid hst
        have HB2 := Lib.hid hb2
        clear hst hb2
        go_wp2_with fail
        go_loopw [35] (fun i wr => ∃ (k : Nat) (v : Value), k ≤ ls.length ∧ i = .int .i64 k ∧ StAt wr w1.heap.size (w1.heap.size + 1) w1.heap.size v (exTo ls ix k) ∧ Below w1.heap.size w1 wr) (fun i _ => ls.length - (intOf i).toNat)
        case atStart => exact ⟨0, _, Nat.zero_le _, rfl, by simpa [exTo, unionP] using HST.out, HB2.out⟩
        case round =>
          obtain ⟨k, v, hk, rfl, hst, hb⟩ := hrel
          have HSR := Lib.hid hst
          have HBR := Lib.hid hb
          clear hst hb
          by_cases hlt : k < ls.length
          · obtain ⟨l, hl⟩ : ∃ l, ls[k]? = some l := ⟨ls[k], by simp [hlt]⟩
            obtain ⟨b, o, ca, cc, rfl, q0, hrf⟩ := lists_at HLV.out HBR.out hl
            have HRF := Lib.hid hrf
            obtain ⟨_, _, hv', hcc, hccm, -⟩ := SeqAt.shape hrf RefR.len
            cases hv'
            unfold maxLen at hccm
            have HL := Lib.hid hl
            clear hl hrf
            by_cases hki : k = ix
            · have e5 : ((k : Int) == (ix : Int)) = true := by rw [hki]; simp
              have HSN := Lib.hid (show exTo ls ix (k + 1) = exTo ls ix k by rw [hki]; exact exTo_same)
              clear hki
              go_wp2_with fail
              go_roundw
              case rel => exact ⟨k + 1, v, by omega, by go_num, by rw [HSN.out]; exact HSR.out, HBR.out⟩
              case measure => simp [intOf]; omega
            · have e5 : ((k : Int) == (ix : Int)) = false := by simp; omega
              have HSN := Lib.hid (exTo_step (i := ix) HL.out hki)
              have HLEN := Lib.hid (And.intro (HLE.out l (List.mem_of_getElem? HL.out)) (exTo_len (i := ix) (k := k) HLE.out (by omega)))
              obtain ⟨wo, hwo⟩ : ∃ wo : World, wo = wr := ⟨_, rfl⟩
              subst hwo
              clear hki
              go_wp2_with fail
              go_loopw [45] (fun i wq => ∃ (j : Nat) (v : Value), j ≤ l.length ∧ i = .int .i64 j ∧ StAt wq w1.heap.size (w1.heap.size + 1) w1.heap.size v (menAll (l.take j) (exTo ls ix k)) ∧ Below w1.heap.size w1 wq ∧ RefsAt (fun k => k < w1.heap.size) wq (.slice ca l.length cc) l) (fun i _ => l.length - (intOf i).toNat)
              case atStart => exact ⟨0, v, Nat.zero_le _, rfl, HSR.out, HBR.out, HRF.out⟩
              case round =>
                obtain ⟨j, v3, hj, rfl, hst3, hb3, hrf3⟩ := hrel
                have HS3 := Lib.hid hst3
                have HB3 := Lib.hid hb3
                have HR3 := Lib.hid hrf3
                clear hst3 hb3 hrf3
                by_cases hlt2 : j < l.length
                · obtain ⟨c, hc⟩ : ∃ c, l[j]? = some c := ⟨l[j], by simp [hlt2]⟩
                  obtain ⟨b2, o2, rfl, hcok, p0, p1, p2⟩ := refs_at HR3.out (Below.refl _ _) hc
                  have HCO := Lib.hid hcok
                  have HSN2 := Lib.hid (show menAll (l.take (j + 1)) (exTo ls ix k) = mentionP c (menAll (l.take j) (exTo ls ix k)) by rw [take_snoc' hc, menAll_snoc])
                  have HML := Lib.hid (show (menAll (l.take j) (exTo ls ix k)).length < 1099511627775 by
                    have h1 := menAll_len (l.take j) (exTo ls ix k)
                    rw [List.length_take] at h1
                    obtain ⟨h2, h3⟩ := HLEN.out
                    have h4 : (menAll (l.take j) (exTo ls ix k)).length ≤ 999 * 1000000000 + 1000000000 := Nat.le_trans h1 (Nat.add_le_add h3 (Nat.le_trans (Nat.min_le_right _ _) h2))
                    exact Nat.lt_of_le_of_lt h4 (by decide))
                  have HAL := Lib.hid ((Below.refl wr.heap.size wr).alloc (Nat.le_refl _) (.cells #[.string c.name, .int .i64 c.gen, .int .i64 c.size] 43))
                  have HS4 := Lib.hid (HS3.out.below HAL.out)
                  have HB4 := Lib.hid (below_next HB3.out HAL.out)
                  clear hc hcok
                  go_wp2_with fail
                  refine (add_any w1.heap.size (w1.heap.size + 1) w1.heap.size v3 _ c _ HS4.out HCO.out HML.out HB4.out.size).mono ?_
                  rintro e w4 ⟨rfl, v4, hst4, hg4, -⟩
                  have HB5 := Lib.hid (show Below w1.heap.size w1 w4 from HB4.out.trans (hg4.below HB4.out.size (fun k hk => st_ge HS4.out (Nat.le_refl _) (by omega) (Nat.le_refl _) hk)))
                  have HR5 := Lib.hid (show RefsAt (fun k => k < w1.heap.size) w4 (.slice (some ⟨b2, o2, none⟩) l.length cc) l from RefsAt.same HR3.out (fun k hk hS => ⟨hS, (HB5.out.block k hS).trans (HB3.out.block k hS).symm⟩))
                  have HS5 := Lib.hid hst4
                  clear hst4 hg4 p0 p1 p2
                  go_wp2_with fail
                  go_roundw
                  case rel => exact ⟨j + 1, v4, by omega, by go_num, by rw [HSN2.out]; exact HS5.out, HB5.out, HR5.out⟩
                  case measure => simp [intOf]; omega
                · obtain rfl : j = l.length := by omega
                  rw [List.take_of_length_le (Nat.le_refl _)] at HS3
                  go_wp2_with fail
                  go_roundw
                  case rel => exact ⟨k + 1, v3, by omega, by go_num, by rw [HSN.out]; exact HS3.out, HB3.out⟩
                  case measure => simp [intOf]; omega
          · obtain rfl : k = ls.length := by omega
            have HSF := Lib.hid (show StAt wr w1.heap.size (w1.heap.size + 1) w1.heap.size v (unionP (ls.eraseIdx ix)) by have := HSR.out; rwa [exTo, List.take_of_length_le (Nat.le_refl _)] at this)
            obtain ⟨b, o, ca, cc, rfl, q0, hrf⟩ := lists_at HLV.out HBR.out HLX.out
            have HRF := Lib.hid hrf
            clear hrf HSR
            go_wp2_with fail
            refine (without_any w1.heap.size (w1.heap.size + 1) w1.heap.size v _ _ _ lx wr HSF.out HRF.out HLXL.out).mono ?_
            rintro e w5 ⟨ov, rfl, hov, hb5⟩
            have HB5 := Lib.hid (below_next (below_next HB1.out HBR.out) hb5)
            have hz := Nat.le_trans HB1.out.size HBR.out.size
            have HOV := Lib.hid (show RefsAt (w.heap.size ≤ ·) w5 ov (lessP lx (unionP (ls.eraseIdx ix))) from RefsAt.same hov (fun k _ hS => ⟨Nat.le_trans hz hS, rfl⟩))
            obtain ⟨oa, oc, rfl, -, -, -⟩ := SeqAt.shape hov RefR.len
            clear hov hb5
            go_wp2_with fail
            go_ret2
            exact ⟨HB5.out, by rw [HR.out]; exact ⟨_, rfl, HOV.out⟩⟩

end Go.Proofs.YtndgmcggckpgfaaGreatDoor

/- Contracts of package liveness: Keepers. -/
namespace Go.Proofs.YtndgmcggckpgfaaGreatDoor
open Go.RowKit

def named (l : List Ref) (name : ByteArray) : Bool := l.any fun r => decide (r.name = name)
def keepTo (ls : List (List Ref)) (name : ByteArray) : Nat → List Int
  | 0 => []
  | k + 1 => keepTo ls name k ++ (if named (ls.getD k []) name then [(k : Int)] else [])
theorem keepTo_len (ls : List (List Ref)) (name : ByteArray) : ∀ k, (keepTo ls name k).length ≤ k
  | 0 => Nat.le_refl _
  | k + 1 => by
    have := keepTo_len ls name k
    rw [keepTo, List.length_append]
    split <;> simp <;> omega
def IntsAt (S : Nat → Prop) (w : World) (v : Value) (l : List Int) : Prop := RowAt S w 1 v l.length (l.map (Value.int .i64))
def IntsRes (res : Except Int (List Int)) (w : World) (e : Ending) (w' : World) : Prop := Below w.heap.size w w' ∧ match res with
  | .error x => e = .returned (.tuple #[.slice none 0 0, .int .i64 x]) ∧ x ≠ 0
  | .ok l => ∃ v, e = .returned (.tuple #[v, .int .i64 0]) ∧ IntsAt (w.heap.size ≤ ·) w' v l
theorem Tryz.appInts : AppTy Tryz.prog 48 3 1 8 := AppTy.mk' (z := .int .i64 0) Tryz.underlying48 (by kernel_rfl) rfl (by decide) (by decide)
set_option maxRecDepth 100000 in
set_option maxHeartbeats 4000000 in
theorem Keepers_any (cs : List (ByteArray × List UInt8)) (need : Ref → Except Int (List Ref)) (hn : NeedOk cs need) (S T : Nat → Prop) (sv cv : Value) (roots : List Ref) (name : ByteArray) (w : World) (hs : SnapsAt T w sv roots) (hc : ContAt S w cv cs) (henv : Env w) (hlen : roots.length ≤ 1000) :
    Calls Tryz.prog 19 #[sv, .string name, cv] w (IntsRes (mapE (fun ls => keepTo ls name ls.length) (eachP need roots)) w) := by
  have hrok := hs.ok
  have HOK := Lib.hid hrok
  have HN := Lib.hid hn
  have HE := Lib.hid (each_any cs need hn S T sv cv roots w hs hc henv (by omega))
  clear hn hs hc henv hrok
  go_enter Tryz.func19, Tryz.ntmps19
  go_wp2_with fail
  refine HE.out.mono ?_
  rintro e w1 ⟨hb1, hres⟩
  have HB1 := Lib.hid hb1
  clear hb1 HE
  cases hep : eachP need roots with
  | error x =>
    rw [hep] at hres
    obtain ⟨rfl, hx⟩ := hres
    have e1 : (x != 0) = true := by simp [hx]
    have HX := Lib.hid hx
    have HEP := Lib.hid hep
    clear hep hx
    go_wp2_with fail
    go_ret2
    exact ⟨HB1.out, by rw [HEP.out]; exact ⟨rfl, HX.out⟩⟩
  | ok ls =>
    rw [hep] at hres
    obtain ⟨lv, rfl, hlv⟩ := hres
    have HLV := Lib.hid hlv.lt
    obtain ⟨la, lc, rfl, hlc, hlm, -⟩ := SeqAt.shape hlv ListR.len
    unfold maxLen at hlm
    have HEP := Lib.hid hep
    have hll : ls.length ≤ 1000 := by rw [eachP_len hep]; exact hlen
    clear hep hlv
    go_wp2_with fail
    go_loopw [10, 26] (fun o i wr => ∃ (k : Nat), k ≤ ls.length ∧ i = .int .i64 k ∧ wr.ownsRow w1.heap.size 3 1 o (keepTo ls name k).length ((keepTo ls name k).map (Value.int .i64)) ∧ Below w1.heap.size w1 wr) (fun _ i _ => ls.length - (intOf i).toNat)
    case atStart => exact ⟨0, Nat.zero_le _, rfl, World.ownsRow_nil _ _ _ _, Below.refl _ _⟩
    case round =>
      obtain ⟨k, hk, rfl, hown, hb⟩ := hrel
      have HO := Lib.hid hown
      have HBR := Lib.hid hb
      have hkl := keepTo_len ls name k
      obtain ⟨ao, co, rfl, hn2, hm2⟩ := owns_shape hown
      clear hown hb
      by_cases hlt : k < ls.length
      · obtain ⟨l, hl⟩ : ∃ l, ls[k]? = some l := ⟨ls[k], by simp [hlt]⟩
        obtain ⟨b, o, ca, cc, rfl, q0, hrf⟩ := lists_at HLV.out HBR.out hl
        have HRF := Lib.hid hrf
        obtain ⟨_, _, hv', hcc, hccm, -⟩ := SeqAt.shape hrf RefR.len
        cases hv'
        unfold maxLen at hccm
        have HKT := Lib.hid (show keepTo ls name (k + 1) = keepTo ls name k ++ (if named l name then [(k : Int)] else []) by rw [keepTo, List.getD_eq_getElem?_getD, hl]; rfl)
        obtain ⟨wo, hwo⟩ : ∃ wo : World, wo = wr := ⟨_, rfl⟩
        subst hwo
        clear hl hrf
        go_wp2_with fail
        go_loopw [10, 33] (fun ov i wq => ∃ (j : Nat), j ≤ l.length ∧ i = .int .i64 j ∧ ov = .slice ao (keepTo ls name k).length co ∧ named (l.take j) name = false ∧ Below wo.heap.size wo wq) (fun _ i _ => l.length - (intOf i).toNat)
        case atStart => exact ⟨0, Nat.zero_le _, rfl, rfl, rfl, Below.refl _ _⟩
        case round =>
          obtain ⟨j, hj, rfl, rfl, hnm, hb3⟩ := hrel
          have HNM := Lib.hid hnm
          have HB3 := Lib.hid hb3
          have HO3 := Lib.hid (owns_below HO.out hb3)
          clear hnm hb3
          by_cases hlt2 : j < l.length
          · obtain ⟨c, hc⟩ : ∃ c, l[j]? = some c := ⟨l[j], by simp [hlt2]⟩
            obtain ⟨b2, o2, rfl, hcok, p0, p1, p2⟩ := refs_at HRF.out HB3.out hc
            have HC := Lib.hid hc
            have HAL := Lib.hid (HB3.out.alloc HB3.out.size (.cells #[.string c.name, .int .i64 c.gen, .int .i64 c.size] 43))
            have HO4 := Lib.hid (HO3.out.alloc (.cells #[.string c.name, .int .i64 c.gen, .int .i64 c.size] 43))
            have HBA := Lib.hid (below_next HBR.out HAL.out)
            have hbz := HBA.out.size
            clear hc hcok
            by_cases hcn : c.name = name
            · have e5 : (c.name.toList == name.toList) = true := by rw [hcn]; simp
              have HKT2 := Lib.hid (show keepTo ls name (k + 1) = keepTo ls name k ++ [(k : Int)] by
                rw [HKT.out]
                have : named l name = true := by unfold named; rw [List.any_eq_true]; exact ⟨c, List.mem_of_getElem? HC.out, by simp [hcn]⟩
                rw [this]; rfl)
              clear hcn
              go_upto_region 12 with (fail)
              obtain ⟨W4, hW4⟩ : ∃ W4 : World, W4 = wr.alloc (.cells #[.string c.name, .int .i64 c.gen, .int .i64 c.size] 43) := ⟨_, rfl⟩
              rw [← hW4] at HO4 HBA hbz ⊢
              clear hW4 HAL
              go_wp2_with (at_builtin; go_must (refine wpList_app1 Tryz.appInts rfl _ _ rfl w1.heap.size (.slice ao (keepTo ls name k).length co) (keepTo ls name k).length ((keepTo ls name k).map (Value.int .i64)) rfl W4 [.int .i64 (k : Int)] _ rfl rfl (by simp; rfl) HO4.out (by omega) hbz ?_); intro v' wc hown' hgrow' _; have HB2 := Lib.hid (below_grown HBA.out HO4.out hgrow' (Nat.le_refl _) hbz); have HO2 := Lib.hid (show wc.ownsRow w1.heap.size 3 1 v' (keepTo ls name (k + 1)).length ((keepTo ls name (k + 1)).map (Value.int .i64)) by rw [HKT2.out, List.length_append, List.map_append]; exact hown'); obtain ⟨ae, ce, rfl, -, -⟩ := owns_shape hown'; clear hown' hgrow')
              go_roundw
              case rel => exact ⟨k + 1, by omega, by go_num, HO2.out, HB2.out⟩
              case measure => simp [intOf]; omega
            · have e5 : (c.name.toList == name.toList) = false := by
                rw [toList_bl, toList_bl]; simp only [beq_eq_false_iff_ne]; exact fun e => hcn (bl_inj e)
              have HNM2 := Lib.hid (show named (l.take (j + 1)) name = false by
                have := HNM.out
                unfold named at this ⊢
                rw [take_snoc' HC.out, List.any_append, this]; simp [hcn])
              clear hcn
              go_wp2_with fail
              go_roundw
              case rel => exact ⟨j + 1, by omega, by go_num, rfl, HNM2.out, HAL.out⟩
              case measure => simp [intOf]; omega
          · obtain rfl : j = l.length := by omega
            have HKT2 := Lib.hid (show keepTo ls name (k + 1) = keepTo ls name k by
              have := HNM.out
              rw [List.take_of_length_le (Nat.le_refl _)] at this
              rw [HKT.out, this]; simp)
            go_wp2_with fail
            go_roundw
            case rel => exact ⟨k + 1, by omega, by go_num, by rw [HKT2.out]; exact HO3.out, below_next HBR.out HB3.out⟩
            case measure => simp [intOf]; omega
      · obtain rfl : k = ls.length := by omega
        go_wp2_with fail
        go_ret2
        exact ⟨below_next HB1.out HBR.out, by rw [HEP.out]; exact ⟨_, rfl, (row_of_owns HO.out).weak (fun k hk => Nat.le_trans HB1.out.size hk.1)⟩⟩

end Go.Proofs.YtndgmcggckpgfaaGreatDoor

/- Contracts of package liveness: Bytes. -/
namespace Go.Proofs.YtndgmcggckpgfaaGreatDoor
open Go Go.RowKit Go.Maps

/-- A set of names: map[string]bool. -/
structure NamesAt (w : World) (b : Nat) (l : List ByteArray) : Prop where
  map : MapIs Tryz.prog 9 w b (l.map fun n => (.string n, .bool true))
  ok : ∀ n ∈ l, n.size ≤ maxLen
theorem NamesAt.same {w w' : World} {b : Nat} {l : List ByteArray} (h : NamesAt w b l) (hs : w'.heap[b]? = w.heap[b]?) : NamesAt w' b l := ⟨h.map.same hs, h.ok⟩
theorem NamesAt.made (w : World) : NamesAt (w.alloc (.map #[] 0)) w.heap.size [] := ⟨MapIs.made w, by simp⟩
def nameIn (l : List ByteArray) (n : ByteArray) : Bool := l.any fun x => decide (x = n)
theorem nameIn_iff {l : List ByteArray} {n : ByteArray} : nameIn l n = true ↔ n ∈ l := by unfold nameIn; simp
theorem nameIn_yes {l : List ByteArray} {n : ByteArray} (h : n ∈ l) : nameIn l n = true := nameIn_iff.2 h
theorem nameIn_no {l : List ByteArray} {n : ByteArray} (h : n ∉ l) : nameIn l n = false := by
  cases hc : nameIn l n
  · rfl
  · exact absurd (nameIn_iff.1 hc) h
/-- x := m[k] at the operation. -/
theorem wpList_lookv {P : Program} {w : World} {ops : Array Oper} {rest : List Oper} {o : Oper} {a : Act} {Q : Exit → Act → World → Prop} (hg : o.guard = none) (mo x : Operand) (t : TypeId) (c : Bool) (hop : o.op = Op.lookup t mo x c)
    (mv key v : Value) (hmo : a.eval mo = mv) (hx : a.eval x = key) (hrun : (Instr.lookup t mv key c).run P w = .ok v w) (hK : wpList P ops Q rest (a.put o.dst v) w) : wpList P ops Q (o :: rest) a w := by
  refine wpList_plain hg fun K' hK' => ?_
  unfold Oper.wp
  simp [execOp, hop, hmo, hx, hrun, Result.andThen]
  exact hK' _ _ hK
def sizeOk (r : Ref) : Bool := decide (0 ≤ r.size) && decide (r.size ≤ 32768)
def bytesTo (rs : List Ref) : Nat → Int
  | 0 => 0
  | k + 1 => match rs[k]? with
    | none => bytesTo rs k
    | some r => if named (rs.take k) r.name = false ∧ sizeOk r = true then min (bytesTo rs k + r.size) 1099511627776 else bytesTo rs k
theorem bytesTo_le (rs : List Ref) : ∀ k, 0 ≤ bytesTo rs k ∧ bytesTo rs k ≤ 1099511627776
  | 0 => by simp [bytesTo]
  | k + 1 => by
    obtain ⟨h1, h2⟩ := bytesTo_le rs k
    rw [bytesTo]
    split
    · exact ⟨h1, h2⟩
    · split
      · rename_i r _ h
        have h3 := h.2
        simp only [sizeOk, Bool.and_eq_true, decide_eq_true_eq] at h3
        omega
      · exact ⟨h1, h2⟩
theorem bytesTo_skip {rs : List Ref} {k : Nat} {r : Ref} (h : rs[k]? = some r) (h2 : ¬ (named (rs.take k) r.name = false ∧ sizeOk r = true)) : bytesTo rs (k + 1) = bytesTo rs k := by
  rw [bytesTo, h]; simp only [if_neg h2]
theorem bytesTo_add {rs : List Ref} {k : Nat} {r : Ref} (h : rs[k]? = some r) (h1 : named (rs.take k) r.name = false) (h2 : sizeOk r = true) : bytesTo rs (k + 1) = min (bytesTo rs k + r.size) 1099511627776 := by
  rw [bytesTo, h]; simp only [if_pos (And.intro h1 h2)]
theorem named_snoc (l : List Ref) (r : Ref) (n : ByteArray) : named (l ++ [r]) n = (named l n || decide (r.name = n)) := by unfold named; rw [List.any_append]; simp
end Go.Proofs.YtndgmcggckpgfaaGreatDoor

/- Contracts of the reference of package manifest: Has, SameRefs. -/
namespace Go.Proofs.YtndgmcggckpgfaaGreatDoor
open Go.RowKit


set_option maxRecDepth 100000 in
set_option maxHeartbeats 2000000 in
theorem has24_any (S : Nat → Prop) (v : Value) (rs : List Ref) (x : Ref) (w : World) (hv : RefsAt S w v rs) (_hx : RefOk x) :
    Calls Tryz.prog 17 #[v, refV x] w fun e w' => e = .returned (.bool (decide (x ∈ rs))) ∧ Below w.heap.size w w' := by
  obtain ⟨a, cap, rfl, hc, hm, -⟩ := SeqAt.shape hv RefR.len
  unfold maxLen at hm
  have HV := Lib.hid hv
  have HB0 := Lib.hid ((Below.refl w.heap.size w).alloc (Nat.le_refl _) (.cells #[.string x.name, .int .i64 x.gen, .int .i64 x.size] 43))
  have HBX := Lib.hid (heap_alloc_new w (.cells #[.string x.name, .int .i64 x.gen, .int .i64 x.size] 43))
  unfold refV
  clear hv
  go_enter Tryz.func17, Tryz.ntmps17
  go_wp2_with fail
  go_loopw [5] (fun i wr => ∃ k : Nat, k ≤ rs.length ∧ i = .int .i64 k ∧ x ∉ rs.take k ∧ Below w.heap.size w wr ∧ wr.heap[w.heap.size]? = some (.cells #[.string x.name, .int .i64 x.gen, .int .i64 x.size] 43 (0, 0))) (fun i _ => rs.length - (intOf i).toNat)
  case atStart => exact ⟨0, Nat.zero_le _, rfl, by simp, HB0.out, HBX.out⟩
  case round =>
    obtain ⟨k, hk, rfl, hn, hb, hbx⟩ := hrel
    have HN := Lib.hid hn
    have HB := Lib.hid hb
    have HBY := Lib.hid hbx
    clear hn hb hbx
    by_cases hlt : k < rs.length
    · obtain ⟨r, hr⟩ : ∃ r, rs[k]? = some r := ⟨rs[k], by simp [hlt]⟩
      have HR := Lib.hid hr
      have HSN := Lib.hid (take_snoc' hr)
      have heq := eqRef r x
      obtain ⟨W, hW⟩ : ∃ W : World, W = wr.drew := ⟨_, rfl⟩
      have HBW := Lib.hid (show Below w.heap.size w W by rw [hW]; exact HB.out.drew)
      have HBZ := Lib.hid (show W.heap[w.heap.size]? = some (.cells #[.string x.name, .int .i64 x.gen, .int .i64 x.size] 43 (0, 0)) by rw [hW]; exact HBY.out)
      obtain ⟨b, o, rfl, hrok, q0, q1, q2⟩ := refs_at HV.out HBW.out hr
      have p0 := cellH (k := 0) HBZ.out
      have p1 := cellH (k := 1) HBZ.out
      have p2 := cellH (k := 2) HBZ.out
      simp only [List.getElem?_toArray, List.getElem?_cons_succ, List.getElem?_cons_zero] at p0 p1 p2
      unfold refV at heq
      clear hr hrok
      by_cases hm : r = x
      · have e1 : decide (r = x) = true := by simp [hm]
        rw [e1] at heq
        have HT := Lib.hid (show decide (x ∈ rs) = true by rw [← hm]; simp [List.mem_of_getElem? HR.out])
        clear e1 hm
        go_wp2_with fail
        refine wp_region_segs [some 6] (by kernel_rfl) (by kernel_rfl) (by kernel_rfl) ?_
        simp only [wpSegs, List.take_succ_cons, List.take_zero]
        rw [← hW]
        clear hW
        repeat (first | (refine seg_skip rfl ?_; simp only [Act.put, List.setIfInBounds_toArray, List.set_cons_succ, List.set_cons_zero]) | (refine seg_run rfl (fun K hK => ?_); go_simp; refine hK _ ?_; clear hK K))
        refine seg_nil ?_
        go_wp2_with fail
        go_ret
        exact ⟨ret_bool HT.out.symm, HBW.out⟩
      · have e1 : decide (r = x) = false := by simp [hm]
        rw [e1] at heq
        have HT := Lib.hid (show x ∉ rs.take (k + 1) by rw [HSN.out]; simp only [List.mem_append, List.mem_singleton, not_or]; exact ⟨HN.out, fun e => hm e.symm⟩)
        clear e1 hm
        go_wp2_with fail
        refine wp_region_segs [some 6] (by kernel_rfl) (by kernel_rfl) (by kernel_rfl) ?_
        simp only [wpSegs, List.take_succ_cons, List.take_zero]
        rw [← hW]
        clear hW
        repeat (first | (refine seg_skip rfl ?_; simp only [Act.put, List.setIfInBounds_toArray, List.set_cons_succ, List.set_cons_zero]) | (refine seg_run rfl (fun K hK => ?_); go_simp; refine hK _ ?_; clear hK K))
        refine seg_nil ?_
        go_wp2_with fail
        go_roundw
        case rel => exact ⟨k + 1, by omega, by go_num, HT.out, HBW.out, HBZ.out⟩
        case measure => simp [intOf]; omega
    · obtain rfl : k = rs.length := by omega
      have HT := Lib.hid (show decide (x ∈ rs) = false by have := HN.out; rw [List.take_of_length_le (Nat.le_refl _)] at this; simp [this])
      go_wp2_with fail
      go_ret
      exact ⟨ret_bool HT.out.symm, HB.out⟩
set_option maxRecDepth 100000 in
set_option maxHeartbeats 2000000 in
theorem sameRefs_any (S T : Nat → Prop) (v u : Value) (rs ss : List Ref) (w : World) (hv : RefsAt S w v rs) (hu : RefsAt T w u ss) :
    Calls Tryz.prog 12 #[v, u] w fun e w' => e = .returned (.bool (decide (rs = ss))) ∧ Below w.heap.size w w' := by
  obtain ⟨a, cap, rfl, hc, hm, -⟩ := SeqAt.shape hv RefR.len
  obtain ⟨a2, cap2, rfl, hc2, hm2, -⟩ := SeqAt.shape hu RefR.len
  unfold maxLen at hm hm2
  have HV := Lib.hid hv
  have HU := Lib.hid hu
  clear hv hu
  by_cases hl : rs.length = ss.length
  · have HL := Lib.hid hl
    have hl2 : ss.length = rs.length := hl.symm
    rw [hl2] at HU hc2 ⊢
    clear hl hl2
    go_enter Tryz.func12, Tryz.ntmps12
    go_wp2_with fail
    go_loopw [5] (fun i wr => ∃ k : Nat, k ≤ rs.length ∧ i = .int .i64 k ∧ rs.take k = ss.take k ∧ Below w.heap.size w wr) (fun i _ => rs.length - (intOf i).toNat)
    case atStart => exact ⟨0, Nat.zero_le _, rfl, by simp, Below.refl _ _⟩
    case round =>
      obtain ⟨k, hk, rfl, hn, hb⟩ := hrel
      have HN := Lib.hid hn
      have HB := Lib.hid hb
      clear hn hb
      by_cases hlt : k < rs.length
      · obtain ⟨r, hr⟩ : ∃ r, rs[k]? = some r := ⟨rs[k], by simp [hlt]⟩
        obtain ⟨x, hx⟩ : ∃ x, ss[k]? = some x := ⟨ss[k]'(by have := HL.out; omega), by simp⟩
        have HR := Lib.hid hr
        have HX := Lib.hid hx
        have heq := eqRef r x
        obtain ⟨W, hW⟩ : ∃ W : World, W = wr.drew := ⟨_, rfl⟩
        have HBW := Lib.hid (show Below w.heap.size w W by rw [hW]; exact HB.out.drew)
        obtain ⟨b, o, rfl, hrok, q0, q1, q2⟩ := refs_at HV.out HBW.out hr
        obtain ⟨b2, o2, rfl, hrok2, p0, p1, p2⟩ := refs_at (by have := HU.out; rw [HL.out] at this; exact this) HBW.out hx
        unfold refV at heq
        clear hr hrok hx hrok2
        by_cases hm : r = x
        · have e1 : decide (r = x) = true := by simp [hm]
          rw [e1] at heq
          have HT := Lib.hid (show rs.take (k + 1) = ss.take (k + 1) by rw [take_snoc' HR.out, take_snoc' HX.out, HN.out, hm])
          clear e1 hm
          go_wp2_with fail
          refine wp_region_segs [some 9] (by kernel_rfl) (by kernel_rfl) (by kernel_rfl) ?_
          simp only [wpSegs, List.take_succ_cons, List.take_zero]
          rw [← hW]
          clear hW
          repeat (first | (refine seg_skip rfl ?_; simp only [Act.put, List.setIfInBounds_toArray, List.set_cons_succ, List.set_cons_zero]) | (refine seg_run rfl (fun K hK => ?_); go_simp; refine hK _ ?_; clear hK K))
          refine seg_nil ?_
          go_wp2_with fail
          go_roundw
          case rel => exact ⟨k + 1, by omega, by go_num, HT.out, HBW.out⟩
          case measure => simp [intOf]; omega
        · have e1 : decide (r = x) = false := by simp [hm]
          rw [e1] at heq
          have HT := Lib.hid (show decide (rs = ss) = false by
            rw [decide_eq_false_iff_not]
            intro e
            have h1 := HR.out
            rw [e, HX.out] at h1
            exact hm (Option.some.inj h1).symm)
          clear e1 hm
          go_wp2_with fail
          refine wp_region_segs [some 9] (by kernel_rfl) (by kernel_rfl) (by kernel_rfl) ?_
          simp only [wpSegs, List.take_succ_cons, List.take_zero]
          rw [← hW]
          clear hW
          repeat (first | (refine seg_skip rfl ?_; simp only [Act.put, List.setIfInBounds_toArray, List.set_cons_succ, List.set_cons_zero]) | (refine seg_run rfl (fun K hK => ?_); go_simp; refine hK _ ?_; clear hK K))
          refine seg_nil ?_
          go_wp2_with fail
          go_ret
          exact ⟨ret_bool HT.out.symm, HBW.out⟩
      · obtain rfl : k = rs.length := by omega
        have HT := Lib.hid (show decide (rs = ss) = true by
          have := HN.out
          rw [List.take_of_length_le (Nat.le_refl _), List.take_of_length_le (by rw [HL.out]; exact Nat.le_refl _)] at this
          simp [this])
        go_wp2_with fail
        go_ret
        exact ⟨ret_bool HT.out.symm, HB.out⟩
  · have HT := Lib.hid (show decide (rs = ss) = false by rw [decide_eq_false_iff_not]; intro e; exact hl (by rw [e]))
    have e1 : ((rs.length : Int) != (ss.length : Int)) = true := by simp; omega
    clear hl
    go_enter Tryz.func12, Tryz.ntmps12
    go_wp2_with fail
    go_ret
    exact ⟨ret_bool HT.out.symm, Below.refl _ _⟩

end Go.Proofs.YtndgmcggckpgfaaGreatDoor

/- Contracts of the reference of package liveness: Named, Bytes. -/
namespace Go.Proofs.YtndgmcggckpgfaaGreatDoor
open Go.RowKit


theorem RowsIn.take {α : Type} {R : List Value → α → Prop} {sz : Nat} (hs : ∀ c x, R c x → c.length = sz) : ∀ {xs : List α} {cells : List Value} (k : Nat), RowsIn R cells xs → k ≤ xs.length → RowsIn R (cells.take (k * sz)) (xs.take k)
  | _, _, 0, _, _ => by simp [RowsIn]
  | [], _, k + 1, _, h => by simp at h
  | x :: xs, cells, k + 1, ⟨c, rest, hc, hx, hr⟩, h => by
    subst hc
    have hl := hs c x hx
    refine ⟨c, rest.take (k * sz), ?_, hx, RowsIn.take hs k hr (by simpa using h)⟩
    rw [List.take_append, hl, List.take_of_length_le (by rw [hl, Nat.succ_mul]; omega), Nat.succ_mul]
    congr 2; omega
/-- The first k of a list behind a slice value. -/
theorem SeqAt.takeN {α : Type} {S : Nat → Prop} {w : World} {sz : Nat} {R : List Value → α → Prop} {a : Option Addr} {n cap : Nat} {xs : List α} (hs : ∀ c x, R c x → c.length = sz) (h : SeqAt S w sz R (.slice a n cap) xs) {k : Nat} (hk : k ≤ xs.length) : SeqAt S w sz R (.slice a k cap) (xs.take k) := by
  obtain ⟨cells, ⟨hl, a', cap', hv, hn, hm, h0⟩, hr⟩ := h
  cases hv
  have hlt : (xs.take k).length = k := by rw [List.length_take]; omega
  refine ⟨cells.take (k * sz), ⟨?_, a, cap, by rw [hlt], by omega, hm, ?_⟩, RowsIn.take hs k hr hk⟩
  · rw [List.length_take, hl, hlt]
    exact Nat.min_eq_left (Nat.mul_le_mul_right _ hk)
  · rcases h0 with h0 | ⟨b, o, ha, hb, hc⟩
    · exact .inl (by omega)
    · refine .inr ⟨b, o, ha, hb, fun j u hj => hc j u ?_⟩
      rw [List.getElem?_take] at hj
      split at hj
      · exact hj
      · cases hj
theorem RefsAt.takeN {S : Nat → Prop} {w : World} {a : Option Addr} {n cap : Nat} {rs : List Ref} (h : RefsAt S w (.slice a n cap) rs) {k : Nat} (hk : k ≤ rs.length) : RefsAt S w (.slice a k cap) (rs.take k) := SeqAt.takeN RefR.len h hk
set_option maxRecDepth 100000 in
set_option maxHeartbeats 2000000 in
theorem named48_any (S : Nat → Prop) (v : Value) (rs : List Ref) (name : ByteArray) (w : World) (hv : RefsAt S w v rs) :
    Calls Tryz.prog 20 #[v, .string name] w fun e w' => e = .returned (.bool (named rs name)) ∧ w = w' := by
  obtain ⟨a, cap, rfl, hc, hm, -⟩ := SeqAt.shape hv RefR.len
  unfold maxLen at hm
  have HV := Lib.hid hv
  clear hv
  go_enter Tryz.func20, Tryz.ntmps20
  go_wp2_with fail
  go_loop [5] (fun i => ∃ k : Nat, k ≤ rs.length ∧ i = .int .i64 k ∧ named (rs.take k) name = false) (fun i => rs.length - (intOf i).toNat)
  case atStart => exact ⟨0, Nat.zero_le _, rfl, rfl⟩
  case round =>
    obtain ⟨k, hk, rfl, hn⟩ := hrel
    have HN := Lib.hid hn
    clear hn
    by_cases hlt : k < rs.length
    · obtain ⟨r, hr⟩ : ∃ r, rs[k]? = some r := ⟨rs[k], by simp [hlt]⟩
      have HR := Lib.hid hr
      obtain ⟨b, o, rfl, hrok, q0, q1, q2⟩ := refs_at HV.out (Below.refl _ _) hr
      clear hr hrok
      by_cases hm : r.name = name
      · have e1 : (r.name.toList == name.toList) = true := by rw [hm]; simp
        have HT := Lib.hid (show named rs name = true by unfold named; rw [List.any_eq_true]; exact ⟨r, List.mem_of_getElem? HR.out, by simp [hm]⟩)
        clear hm
        go_wp2_with fail
        go_ret
        exact ⟨ret_bool HT.out.symm, rfl⟩
      · have e1 : (r.name.toList == name.toList) = false := by
          rw [toList_bl, toList_bl]; simp only [beq_eq_false_iff_ne]; exact fun e => hm (bl_inj e)
        have HT := Lib.hid (show named (rs.take (k + 1)) name = false by rw [take_snoc' HR.out, named_snoc, HN.out]; simp [hm])
        clear hm
        go_wp2_with fail
        go_round
        case rel => exact ⟨k + 1, by omega, by go_num, HT.out⟩
        case measure => simp [intOf]; omega
    · obtain rfl : k = rs.length := by omega
      have HT := Lib.hid (show named rs name = false by have := HN.out; rwa [List.take_of_length_le (Nat.le_refl _)] at this)
      go_wp2_with fail
      go_ret
      exact ⟨ret_bool HT.out.symm, rfl⟩
theorem named48_is (S : Nat → Prop) (v : Value) (rs : List Ref) (name : ByteArray) (b : Bool) (w : World) (hv : RefsAt S w v rs) (h : named rs name = b) :
    Calls Tryz.prog 20 #[v, .string name] w fun e w' => e = .returned (.bool b) ∧ w = w' := by rw [← h]; exact named48_any S v rs name w hv
end Go.Proofs.YtndgmcggckpgfaaGreatDoor

/- Contracts of the reference of package liveness: Less. -/
namespace Go.Proofs.YtndgmcggckpgfaaGreatDoor
open Go.RowKit


theorem has24_is (S : Nat → Prop) (v : Value) (rs : List Ref) (x : Ref) (b : Bool) (w : World) (hv : RefsAt S w v rs) (hx : RefOk x) (h : decide (x ∈ rs) = b) :
    Calls Tryz.prog 17 #[v, refV x] w fun e w' => e = .returned (.bool b) ∧ Below w.heap.size w w' := by rw [← h]; exact has24_any S v rs x w hv hx
set_option maxRecDepth 100000 in
set_option maxHeartbeats 2000000 in
theorem less48_any (S T : Nat → Prop) (lv mv : Value) (rs l : List Ref) (w : World) (hv : RefsAt S w lv rs) (hu : RefsAt T w mv l) (hlen : rs.length < 4398046511104) :
    Calls Tryz.prog 13 #[lv, mv] w (RefsRes (lessP rs l) w) := by
  obtain ⟨a, cap, rfl, hc, hm, -⟩ := SeqAt.shape hv RefR.len
  unfold maxLen at hm
  have HV := Lib.hid hv
  have HU := Lib.hid hu
  have HO0 := Lib.hid (World.ownsRow_lit (e := 43) (size := 3) (base := w.heap.size) w #[] 0 (Nat.le_refl _) (Nat.zero_le _) (by simp))
  have HB0 := Lib.hid ((Below.refl w.heap.size w).alloc (Nat.le_refl _) (.cells #[] 43))
  clear hv hu
  go_enter Tryz.func13, Tryz.ntmps13
  go_wp2_with fail
  go_loopw [5, 6] (fun o i wr => ∃ k : Nat, k ≤ rs.length ∧ i = .int .i64 k ∧ wr.ownsRow w.heap.size 43 3 o (lessP (rs.take k) l).length ((lessP (rs.take k) l).flatMap refC) ∧ Below w.heap.size w wr ∧ ∀ r ∈ lessP (rs.take k) l, RefOk r) (fun _ i _ => rs.length - (intOf i).toNat)
  case atStart => exact ⟨0, Nat.zero_le _, rfl, HO0.out, HB0.out, by simp [lessP]⟩
  case round =>
    obtain ⟨k, hk, rfl, hown, hb, hok⟩ := hrel
    have HO := Lib.hid hown
    have HB := Lib.hid hb
    have HOK := Lib.hid hok
    obtain ⟨ao, co, rfl, hn2, hm2⟩ := owns_shape hown
    have hlk := lessP_le (rs.take k) l
    rw [List.length_take] at hlk
    clear hown hb hok
    by_cases hlt : k < rs.length
    · obtain ⟨r, hr⟩ : ∃ r, rs[k]? = some r := ⟨rs[k], by simp [hlt]⟩
      have HR := Lib.hid hr
      obtain ⟨b, o, rfl, hrok, q0, q1, q2⟩ := refs_at HV.out HB.out hr
      have HRO := Lib.hid hrok
      have HSN := Lib.hid (show lessP (rs.take (k + 1)) l = if r ∈ l then lessP (rs.take k) l else lessP (rs.take k) l ++ [r] by rw [take_snoc' hr, lessP_snoc])
      have HUB := Lib.hid (SeqAt.below HU.out (by omega) HB.out (fun _ _ _ h => h))
      clear hr hrok
      by_cases hm3 : r ∈ l
      · have HM := Lib.hid (show decide (r ∈ l) = true by simp [hm3])
        have HSN2 := Lib.hid (HSN.out.trans (if_pos hm3))
        clear hm3
        go_wp2_with fail
        refine (has24_is _ _ l r true _ HUB.out HRO.out HM.out).mono ?_
        rintro e w1 ⟨rfl, hb1⟩
        have HB1 := Lib.hid (below_next HB.out hb1)
        have HO1 := Lib.hid (owns_below HO.out hb1)
        clear hb1
        go_wp2_with fail
        go_roundw
        case rel => exact ⟨k + 1, by omega, by go_num, by rw [HSN2.out]; exact HO1.out, HB1.out, by rw [HSN2.out]; exact HOK.out⟩
        case measure => simp [intOf]; omega
      · have HM := Lib.hid (show decide (r ∈ l) = false by simp [hm3])
        have HSN2 := Lib.hid (HSN.out.trans (if_neg hm3))
        clear hm3
        go_wp2_with fail
        refine (has24_is _ _ l r false _ HUB.out HRO.out HM.out).mono ?_
        rintro e w1 ⟨rfl, hb1⟩
        have HB1 := Lib.hid (below_next HB.out hb1)
        have HO1 := Lib.hid (owns_below HO.out hb1)
        obtain ⟨b', o'', he, -, p0, p1, p2⟩ := refs_at HV.out HB1.out HR.out
        cases he
        have hz1 := HB1.out.size
        clear hb1 q0 q1 q2
        go_wp2_with (at_builtin; go_must (refine wpList_app1B Tryz.appRefs rfl _ _ rfl w.heap.size (.slice ao (lessP (rs.take k) l).length co) (lessP (rs.take k) l).length ((lessP (rs.take k) l).flatMap refC) rfl w1 [.string r.name, .int .i64 r.gen, .int .i64 r.size] _ rfl rfl (refC_one (r := r)) HO1.out (by unfold maxLen; omega) (by omega) hz1 ?_); intro v' wc hown' hgrow' _; have HB2 := Lib.hid (below_grown HB1.out HO1.out hgrow' (Nat.le_refl _) hz1); have HO2 := Lib.hid (show wc.ownsRow w.heap.size 43 3 v' (lessP (rs.take (k + 1)) l).length ((lessP (rs.take (k + 1)) l).flatMap refC) by rw [HSN2.out, List.length_append, List.flatMap_append]; simpa [refC] using hown'); obtain ⟨ae, ce, rfl, -, -⟩ := owns_shape hown'; clear hown' hgrow')
        go_roundw
        case rel =>
          refine ⟨k + 1, by omega, by go_num, HO2.out, HB2.out, ?_⟩
          rw [HSN2.out]
          intro x hx
          rcases List.mem_append.1 hx with hx | hx
          · exact HOK.out x hx
          · simp only [List.mem_singleton] at hx; subst hx; exact HRO.out
        case measure => simp [intOf]; omega
    · obtain rfl : k = rs.length := by omega
      have HTK := Lib.hid (show lessP (rs.take rs.length) l = lessP rs l by rw [List.take_of_length_le (Nat.le_refl _)])
      go_wp2_with fail
      go_ret
      rw [← HTK.out]
      exact ⟨_, rfl, RefsAt.same (refs_owned HO.out HOK.out) (fun k _ hS => ⟨hS.1, rfl⟩), HB.out⟩

end Go.Proofs.YtndgmcggckpgfaaGreatDoor

/- Contracts of the reference of package liveness: add. -/
namespace Go.Proofs.YtndgmcggckpgfaaGreatDoor
open Go.RowKit


theorem refs_cells : ∀ {rs : List Ref} {cells : List Value}, RowsIn RefR cells rs → cells = rs.flatMap refC ∧ ∀ r ∈ rs, RefOk r
  | [], _, h => ⟨by simpa [RowsIn] using h, by simp⟩
  | r :: rs, cells, ⟨c, rest, hc, hx, hr⟩ => by
    obtain ⟨h1, h2⟩ := refs_cells hr
    subst hc
    refine ⟨by rw [h1, hx.1]; rfl, fun x hx2 => ?_⟩
    rcases List.mem_cons.1 hx2 with rfl | h
    · exact hx.2
    · exact h2 x h
theorem refs_ones {rs : List Ref} : ∀ u ∈ rs.flatMap refC, u.oneCell' = true := by
  intro u hu
  obtain ⟨r, _, h⟩ := List.mem_flatMap.1 hu
  exact refC_one u h
set_option maxRecDepth 100000 in
set_option maxHeartbeats 2000000 in
theorem add48_any (S T : Nat → Prop) (av lv : Value) (rs l : List Ref) (w : World) (ha : RefsAt S w av rs) (hv : RefsAt T w lv l) (hlen : rs.length + l.length < 1099511627775) :
    Calls Tryz.prog 31 #[av, lv] w (RefsRes (menAll l rs) w) := by
  obtain ⟨a, cap, rfl, hc, hm, -⟩ := SeqAt.shape hv RefR.len
  unfold maxLen at hm
  have HV := Lib.hid hv
  have HO0 := Lib.hid (World.ownsRow_lit (e := 43) (size := 3) (base := w.heap.size) w #[] 0 (Nat.le_refl _) (Nat.zero_le _) (by simp))
  have HB0 := Lib.hid ((Below.refl w.heap.size w).alloc (Nat.le_refl _) (.cells #[] 43))
  have ha2 := SeqAt.below ha (by omega) HB0.out (fun _ _ _ h => h)
  obtain ⟨cells, hrow, hin⟩ := ha2
  obtain ⟨rfl, hok0⟩ := refs_cells hin
  have HROW := Lib.hid hrow
  have HK0 := Lib.hid hok0
  obtain ⟨_, a1, cap1, hav, -⟩ := hrow
  subst hav
  clear hv ha hin hok0
  go_enter Tryz.func31, Tryz.ntmps31
  go_wp2_with (at_builtin; go_must (refine wpList_appn Tryz.appRefs rfl _ _ rfl w.heap.size (.slice (some ⟨w.heap.size, 0, none⟩) 0 0) 0 [] rfl HO0.out (.slice a1 rs.length cap1) rs.length (rs.flatMap refC) rfl HROW.out refs_ones (by omega) (by simp) ?_); intro v0 w0 hown0 hg0; have HO1 := Lib.hid (show w0.ownsRow w.heap.size 43 3 v0 rs.length (rs.flatMap refC) by simpa using hown0); have HB1 := Lib.hid (below_grown HB0.out HO0.out hg0 (Nat.le_refl _) (by simp)); obtain ⟨a0, c0, rfl, -, -⟩ := owns_shape HO1.out; clear hown0 hg0)
  go_loopw [5, 6] (fun o i wr => ∃ k : Nat, k ≤ l.length ∧ i = .int .i64 k ∧ wr.ownsRow w.heap.size 43 3 o (menAll (l.take k) rs).length ((menAll (l.take k) rs).flatMap refC) ∧ Below w.heap.size w wr ∧ ∀ r ∈ menAll (l.take k) rs, RefOk r) (fun _ i _ => l.length - (intOf i).toNat)
  case atStart => exact ⟨0, Nat.zero_le _, rfl, HO1.out, HB1.out, HK0.out⟩
  case round =>
    obtain ⟨k, hk, rfl, hown, hb, hok⟩ := hrel
    have HO := Lib.hid hown
    have HB := Lib.hid hb
    have HOK := Lib.hid hok
    obtain ⟨ao, co, rfl, hn2, hm2⟩ := owns_shape hown
    have hlk := menAll_len (l.take k) rs
    rw [List.length_take] at hlk
    clear hown hb hok
    by_cases hlt : k < l.length
    · obtain ⟨r, hr⟩ : ∃ r, l[k]? = some r := ⟨l[k], by simp [hlt]⟩
      have HR := Lib.hid hr
      obtain ⟨b, o, rfl, hrok, q0, q1, q2⟩ := refs_at HV.out HB.out hr
      have HRO := Lib.hid hrok
      have HSN := Lib.hid (show menAll (l.take (k + 1)) rs = if r ∈ menAll (l.take k) rs then menAll (l.take k) rs else menAll (l.take k) rs ++ [r] by rw [take_snoc' hr, menAll_snoc]; rfl)
      have HUB := Lib.hid (refs_owned HO.out HOK.out)
      clear hr hrok
      obtain ⟨acc, hacc⟩ : ∃ acc, acc = menAll (l.take k) rs := ⟨_, rfl⟩
      rw [← hacc] at HO HOK HSN HUB hlk hn2 ⊢
      clear hacc
      by_cases hm3 : r ∈ acc
      · have HM := Lib.hid (show decide (r ∈ acc) = true by simp [hm3])
        have HSN2 := Lib.hid (HSN.out.trans (if_pos hm3))
        clear hm3
        go_wp2_with fail
        refine (has24_is _ _ acc r true _ HUB.out HRO.out HM.out).mono ?_
        rintro e w1 ⟨rfl, hb1⟩
        have HB1 := Lib.hid (below_next HB.out hb1)
        have HO1 := Lib.hid (owns_below HO.out hb1)
        clear hb1
        go_wp2_with fail
        go_roundw
        case rel => exact ⟨k + 1, by omega, by go_num, by rw [HSN2.out]; exact HO1.out, HB1.out, by rw [HSN2.out]; exact HOK.out⟩
        case measure => simp [intOf]; omega
      · have HM := Lib.hid (show decide (r ∈ acc) = false by simp [hm3])
        have HSN2 := Lib.hid (HSN.out.trans (if_neg hm3))
        clear hm3
        go_wp2_with fail
        refine (has24_is _ _ acc r false _ HUB.out HRO.out HM.out).mono ?_
        rintro e w1 ⟨rfl, hb1⟩
        have HB1 := Lib.hid (below_next HB.out hb1)
        have HO1 := Lib.hid (owns_below HO.out hb1)
        obtain ⟨b', o'', he, -, p0, p1, p2⟩ := refs_at HV.out HB1.out HR.out
        cases he
        have hz1 := HB1.out.size
        clear hb1 q0 q1 q2
        go_wp2_with (at_builtin; go_must (refine wpList_app1B Tryz.appRefs rfl _ _ rfl w.heap.size (.slice ao (acc).length co) (acc).length ((acc).flatMap refC) rfl w1 [.string r.name, .int .i64 r.gen, .int .i64 r.size] _ rfl rfl (refC_one (r := r)) HO1.out (by unfold maxLen; omega) (by omega) hz1 ?_); intro v' wc hown' hgrow' _; have HB2 := Lib.hid (below_grown HB1.out HO1.out hgrow' (Nat.le_refl _) hz1); have HO2 := Lib.hid (show wc.ownsRow w.heap.size 43 3 v' (menAll (l.take (k + 1)) rs).length ((menAll (l.take (k + 1)) rs).flatMap refC) by rw [HSN2.out, List.length_append, List.flatMap_append]; simpa [refC] using hown'); obtain ⟨ae, ce, rfl, -, -⟩ := owns_shape hown'; clear hown' hgrow')
        go_roundw
        case rel =>
          refine ⟨k + 1, by omega, by go_num, HO2.out, HB2.out, ?_⟩
          rw [HSN2.out]
          intro x hx
          rcases List.mem_append.1 hx with hx | hx
          · exact HOK.out x hx
          · simp only [List.mem_singleton] at hx; subst hx; exact HRO.out
        case measure => simp [intOf]; omega
    · obtain rfl : k = l.length := by omega
      have HTK := Lib.hid (show menAll (l.take l.length) rs = menAll l rs by rw [List.take_of_length_le (Nat.le_refl _)])
      go_wp2_with fail
      go_ret
      rw [← HTK.out]
      exact ⟨_, rfl, RefsAt.same (refs_owned HO.out HOK.out) (fun k _ hS => ⟨hS.1, rfl⟩), HB.out⟩

end Go.Proofs.YtndgmcggckpgfaaGreatDoor

/- Contracts of the reference of package liveness: Union. -/
namespace Go.Proofs.YtndgmcggckpgfaaGreatDoor
open Go.RowKit


set_option maxRecDepth 100000 in
set_option maxHeartbeats 2000000 in
theorem union48_any (S : Nat → Prop) (v : Value) (ls : List (List Ref)) (w : World) (hv : ListsAt S w v ls) (hlen : ls.length ≤ 1000) (hle : ∀ l ∈ ls, l.length ≤ 1000000000) :
    Calls Tryz.prog 14 #[v] w (RefsRes (unionP ls) w) := by
  obtain ⟨a, cap, rfl, hc, hm, -⟩ := SeqAt.shape hv ListR.len
  unfold maxLen at hm
  have HV := Lib.hid hv
  have HLE := Lib.hid hle
  have HO0 := Lib.hid (RefsAt.same (T := (w.heap.size ≤ ·)) (w' := w.alloc (.cells #[] 43)) (refs_owned (rs := []) (World.ownsRow_lit (e := 43) (size := 3) (base := w.heap.size) w #[] 0 (Nat.le_refl _) (Nat.zero_le _) (by simp)) (by simp)) (fun k _ hS => ⟨hS.1, rfl⟩))
  have HB0 := Lib.hid ((Below.refl w.heap.size w).alloc (Nat.le_refl _) (.cells #[] 43))
  clear hv hle
  go_enter Tryz.func14, Tryz.ntmps14
  go_wp2_with fail
  go_loopw [3, 4] (fun o i wr => ∃ k : Nat, k ≤ ls.length ∧ i = .int .i64 k ∧ RefsAt (w.heap.size ≤ ·) wr o (unionP (ls.take k)) ∧ Below w.heap.size w wr) (fun _ i _ => ls.length - (intOf i).toNat)
  case atStart => exact ⟨0, Nat.zero_le _, rfl, HO0.out, HB0.out⟩
  case round =>
    obtain ⟨k, hk, rfl, hown, hb⟩ := hrel
    have HO := Lib.hid hown
    have HB := Lib.hid hb
    clear hown hb
    by_cases hlt : k < ls.length
    · obtain ⟨l, hl⟩ : ∃ l, ls[k]? = some l := ⟨ls[k], by simp [hlt]⟩
      have HSN := Lib.hid (show unionP (ls.take (k + 1)) = menAll l (unionP (ls.take k)) by rw [take_snoc' hl, unionP_snoc])
      have hul : (unionP (ls.take k)).length ≤ 999 * 1000000000 := by
        have h1 := unionP_len (ls := ls.take k) (fun x hx => HLE.out x (List.mem_of_mem_take hx))
        have h2 : (ls.take k).length = k := by rw [List.length_take]; omega
        rw [h2] at h1
        exact Nat.le_trans h1 (Nat.mul_le_mul_right _ (by omega))
      have hll := HLE.out l (List.mem_of_getElem? hl)
      obtain ⟨b, o, ca, cc, rfl, q0, hrf⟩ := lists_at HV.out HB.out hl
      have HRF := Lib.hid hrf
      clear hl hrf
      obtain ⟨acc, hacc⟩ : ∃ acc, acc = unionP (ls.take k) := ⟨_, rfl⟩
      rw [← hacc] at HO HSN hul
      clear hacc
      go_wp2_with fail
      refine (add48_any _ _ _ _ acc l _ HO.out HRF.out (by omega)).mono ?_
      rintro e w1 ⟨v1, rfl, h1, hb1⟩
      have H1 := Lib.hid h1
      have HB1 := Lib.hid (below_next HB.out hb1)
      have hz := HB.out.size
      clear h1 hb1
      go_wp2_with fail
      go_roundw
      case rel => exact ⟨k + 1, by omega, by go_num, by rw [HSN.out]; exact RefsAt.same H1.out (fun j _ hS => ⟨Nat.le_trans hz hS, rfl⟩), HB1.out⟩
      case measure => simp [intOf]; omega
    · obtain rfl : k = ls.length := by omega
      have HTK := Lib.hid (show unionP (ls.take ls.length) = unionP ls by rw [List.take_of_length_le (Nat.le_refl _)])
      go_wp2_with fail
      go_ret
      rw [← HTK.out]
      exact ⟨_, rfl, HO.out, HB.out⟩

end Go.Proofs.YtndgmcggckpgfaaGreatDoor

/- Contracts of the reference of package liveness: Missing (what Missing of a root does, given). -/
namespace Go.Proofs.YtndgmcggckpgfaaGreatDoor
open Go.RowKit


/-- What the reference's Missing does, for every root. -/
def MissOf (cs : List (ByteArray × List UInt8)) (miss : Ref → Except Int (List Ref)) : Prop := ∀ (S : Nat → Prop) (cv : Value) (root : Ref) (w : World), ContAt S w cv cs → Env w → RefOk root → Calls Tryz.prog 34 #[refV root, cv] w (NeedRes (miss root) w)
def eachU (f : Ref → Except Int (List Ref)) (roots : List Ref) : Except Int (List Ref) := match eachP f roots with
  | .error x => .error x
  | .ok ls => .ok (unionP ls)
theorem eachU_bad {f : Ref → Except Int (List Ref)} {roots : List Ref} {x : Int} (h : eachP f roots = .error x) : eachU f roots = .error x := by unfold eachU; rw [h]
theorem eachU_ok {f : Ref → Except Int (List Ref)} {roots : List Ref} {ls : List (List Ref)} (h : eachP f roots = .ok ls) : eachU f roots = .ok (unionP ls) := by unfold eachU; rw [h]
set_option maxRecDepth 100000 in
set_option maxHeartbeats 2000000 in
theorem missing48_any (cs : List (ByteArray × List UInt8)) (miss : Ref → Except Int (List Ref)) (hn : MissOf cs miss) (hle : ∀ r rl, miss r = .ok rl → rl.length ≤ 1000000000) (S T : Nat → Prop) (sv cv : Value) (roots : List Ref) (w : World) (hs : SnapsAt T w sv roots) (hc : ContAt S w cv cs) (henv : Env w) (hlen : roots.length ≤ 1000) :
    Calls Tryz.prog 24 #[sv, cv] w (NeedRes (eachU miss roots) w) := by
  obtain ⟨a, cap, rfl, hcp, hm, -⟩ := SeqAt.shape hs SnapR.len
  unfold maxLen at hm
  have HN := Lib.hid hn
  have HS := Lib.hid hs
  have HC := Lib.hid hc
  have HE := Lib.hid henv
  have HLE := Lib.hid hle
  have HO0 := Lib.hid (RefsAt.same (T := (w.heap.size ≤ ·)) (w' := w.alloc (.cells #[] 43)) (refs_owned (rs := []) (World.ownsRow_lit (e := 43) (size := 3) (base := w.heap.size) w #[] 0 (Nat.le_refl _) (Nat.zero_le _) (by simp)) (by simp)) (fun k _ hS => ⟨hS.1, rfl⟩))
  have HB0 := Lib.hid ((Below.refl w.heap.size w).alloc (Nat.le_refl _) (.cells #[] 43))
  clear hs hc henv hn hle
  go_enter Tryz.func24, Tryz.ntmps24
  go_wp2_with fail
  go_loopw [6, 7] (fun o i wr => ∃ (k : Nat) (ls : List (List Ref)), k ≤ roots.length ∧ i = .int .i64 k ∧ eachP miss (roots.take k) = .ok ls ∧ (unionP ls).length ≤ k * 1000000000 ∧ RefsAt (w.heap.size ≤ ·) wr o (unionP ls) ∧ Below w.heap.size w wr) (fun _ i _ => roots.length - (intOf i).toNat)
  case atStart => exact ⟨0, [], Nat.zero_le _, rfl, rfl, by simp [unionP], HO0.out, HB0.out⟩
  case round =>
    obtain ⟨k, ls, hk, rfl, hep, hul, hown, hb⟩ := hrel
    have HEP := Lib.hid hep
    have HO := Lib.hid hown
    have HB := Lib.hid hb
    clear hep hown hb
    by_cases hlt : k < roots.length
    · obtain ⟨r, hr⟩ : ∃ r, roots[k]? = some r := ⟨roots[k], by simp [hlt]⟩
      obtain ⟨b, o, a1, a2, a3, a4, a5, p, h, rfl, hrok, hcl⟩ := snaps_at HS.out HB.out hr
      have HR := Lib.hid hr
      have HRO := Lib.hid hrok
      have q3 := hcl 3 (by omega)
      have q4 := hcl 4 (by omega)
      have q5 := hcl 5 (by omega)
      simp only [List.getElem?_cons_zero, List.getElem?_cons_succ] at q3 q4 q5
      have HC1 := Lib.hid (HC.out.below HB.out)
      have HE1 := Lib.hid (HE.out.below HB.out)
      have hul2 : (unionP ls).length ≤ 999 * 1000000000 := Nat.le_trans hul (Nat.mul_le_mul_right _ (by omega))
      clear hr hrok hcl
      go_wp2_with fail
      refine (HN.out S cv r _ HC1.out HE1.out HRO.out).mono ?_
      rintro e w1 ⟨hb1, hres⟩
      have HB1 := Lib.hid (below_next HB.out hb1)
      have HO1 := Lib.hid (SeqAt.below HO.out (by omega) hb1 (fun _ _ _ h => h))
      have hz1 := hb1.size
      clear hb1 q3 q4 q5
      cases hnd : miss r with
      | error x =>
        rw [hnd] at hres
        obtain ⟨rfl, hx⟩ := hres
        have e1 : (x != 0) = true := by simp [hx]
        have HX := Lib.hid hx
        have HRES := Lib.hid (eachU_bad (eachP_bad HEP.out HR.out hnd))
        clear hnd hx
        go_wp2_with fail
        go_ret2
        exact ⟨HB1.out, by rw [HRES.out]; exact ⟨rfl, HX.out⟩⟩
      | ok rl =>
        rw [hnd] at hres
        obtain ⟨rv, rfl, hrv⟩ := hres
        have HRV := Lib.hid hrv
        have hrl := HLE.out r rl hnd
        have HEP2 := Lib.hid (show eachP miss (roots.take (k + 1)) = .ok (ls ++ [rl]) by rw [take_snoc' HR.out]; exact eachP_snoc HEP.out hnd)
        have HUS := Lib.hid (unionP_snoc ls rl)
        have HML := Lib.hid (menAll_len rl (unionP ls))
        obtain ⟨acc, hacc⟩ : ∃ acc, acc = unionP ls := ⟨_, rfl⟩
        rw [← hacc] at HO1 HUS HML hul hul2
        clear hnd hrv hacc
        go_wp2_with fail
        refine (add48_any _ _ _ _ acc rl _ HO1.out HRV.out (by omega)).mono ?_
        rintro e w2 ⟨v2, rfl, h2, hb2⟩
        have H2 := Lib.hid h2
        have HB2 := Lib.hid (below_next HB1.out hb2)
        have hz := HB1.out.size
        clear h2 hb2
        go_wp2_with fail
        go_roundw
        case rel => exact ⟨k + 1, ls ++ [rl], by omega, by go_num, HEP2.out, by rw [HUS.out]; have := HML.out; omega, by rw [HUS.out]; exact RefsAt.same H2.out (fun j _ hS => ⟨Nat.le_trans hz hS, rfl⟩), HB2.out⟩
        case measure => simp [intOf]; omega
    · obtain rfl : k = roots.length := by omega
      have HEP2 := Lib.hid (show eachU miss roots = .ok (unionP ls) by have := HEP.out; rw [List.take_of_length_le (Nat.le_refl _)] at this; exact eachU_ok this)
      go_wp2_with fail
      go_ret2
      exact ⟨HB.out, by rw [HEP2.out]; exact ⟨_, rfl, HO.out⟩⟩

end Go.Proofs.YtndgmcggckpgfaaGreatDoor

/- Contracts of package liveness: Missing (what Missing of a root does, given). -/
namespace Go.Proofs.YtndgmcggckpgfaaGreatDoor
open Go.RowKit

/-- What manifest.Missing does, for every root. -/
def MissMOf (cs : List (ByteArray × List UInt8)) (miss : Ref → Except Int (List Ref)) : Prop := ∀ (S : Nat → Prop) (cv : Value) (root : Ref) (w : World), ContAt S w cv cs → Env w → RefOk root → Calls Tryz.prog 33 #[refV root, cv] w (NeedRes (miss root) w)
def eachM (f : Ref → Except Int (List Ref)) (roots : List Ref) : Except Int (List Ref) := match eachP f roots with
  | .error x => .error x
  | .ok ls => .ok (unionP ls)
theorem eachM_bad {f : Ref → Except Int (List Ref)} {roots : List Ref} {x : Int} (h : eachP f roots = .error x) : eachM f roots = .error x := by unfold eachM; rw [h]
theorem eachM_ok {f : Ref → Except Int (List Ref)} {roots : List Ref} {ls : List (List Ref)} (h : eachP f roots = .ok ls) : eachM f roots = .ok (unionP ls) := by unfold eachM; rw [h]
def SetOff (nb mb : Nat) (v : Value) (B T : Nat) : Prop := ∀ k, StOwn nb mb v k → k < B ∨ T ≤ k
set_option maxRecDepth 100000 in
set_option maxHeartbeats 2000000 in
theorem missingL_any (cs : List (ByteArray × List UInt8)) (miss : Ref → Except Int (List Ref)) (hn : MissMOf cs miss) (hle : ∀ r rl, miss r = .ok rl → rl.length ≤ 1000000000) (S T : Nat → Prop) (sv cv : Value) (roots : List Ref) (w : World) (hs : SnapsAt T w sv roots) (hc : ContAt S w cv cs) (henv : Env w) (hlen : roots.length ≤ 1000) :
    Calls Tryz.prog 23 #[sv, cv] w (NeedRes (eachM miss roots) w) := by
  obtain ⟨a, cap, rfl, hcp, hm, -⟩ := SeqAt.shape hs SnapR.len
  unfold maxLen at hm
  have HN := Lib.hid hn
  have HS := Lib.hid hs
  have HC := Lib.hid hc
  have HE := Lib.hid henv
  have HLE := Lib.hid hle
  clear hs hc henv hn hle
  go_enter Tryz.func23, Tryz.ntmps23
  go_wp2_with fail
  refine (newSet_any w w.heap.size).mono ?_
  rintro e w0 ⟨rfl, hst, hb0, hz0⟩
  have HST := Lib.hid hst
  have HB0 := Lib.hid hb0
  clear hst hb0
  go_wp2_with fail
  go_loopw [16] (fun i wr => ∃ (k : Nat) (ls : List (List Ref)) (v : Value), k ≤ roots.length ∧ i = .int .i64 k ∧ eachP miss (roots.take k) = .ok ls ∧ (unionP ls).length ≤ k * 1000000000 ∧ StAt wr w.heap.size (w.heap.size + 1) w.heap.size v (unionP ls) ∧ Below w.heap.size w wr) (fun i _ => roots.length - (intOf i).toNat)
  case atStart => exact ⟨0, [], _, Nat.zero_le _, rfl, rfl, by simp [unionP], HST.out, HB0.out⟩
  case round =>
    obtain ⟨k, ls, v, hk, rfl, hep, hul, hst, hb⟩ := hrel
    have HEP := Lib.hid hep
    have HO := Lib.hid hst
    have HB := Lib.hid hb
    clear hep hst hb
    by_cases hlt : k < roots.length
    · obtain ⟨r, hr⟩ : ∃ r, roots[k]? = some r := ⟨roots[k], by simp [hlt]⟩
      obtain ⟨b, o, a1, a2, a3, a4, a5, p, h, rfl, hrok, hcl⟩ := snaps_at HS.out HB.out hr
      have HR := Lib.hid hr
      have HRO := Lib.hid hrok
      have q0 := hcl 0 (by omega)
      have q1 := hcl 1 (by omega)
      have q2 := hcl 2 (by omega)
      have q3 := hcl 3 (by omega)
      have q4 := hcl 4 (by omega)
      have q5 := hcl 5 (by omega)
      have q6 := hcl 6 (by omega)
      have q7 := hcl 7 (by omega)
      have q8 := hcl 8 (by omega)
      have q9 := hcl 9 (by omega)
      simp only [List.getElem?_cons_zero, List.getElem?_cons_succ, Nat.add_zero] at q0 q1 q2 q3 q4 q5 q6 q7 q8 q9
      have HAL0 := Lib.hid ((Below.refl wr.heap.size wr).alloc (Nat.le_refl _) (.cells #[.int .i64 a1, .int .i64 a2, .int .i64 a3, .string r.name, .int .i64 r.gen, .int .i64 r.size, .int .i64 a4, .int .i64 a5, .string p, .bool h] 62))
      have HAL := Lib.hid (below_next HB.out HAL0.out)
      have HC1 := Lib.hid (HC.out.below HAL.out)
      have HE1 := Lib.hid (HE.out.below HAL.out)
      have hul2 : (unionP ls).length ≤ 999 * 1000000000 := Nat.le_trans hul (Nat.mul_le_mul_right _ (by omega))
      clear hr hrok hcl
      go_wp2_with fail
      refine (HN.out S cv r _ HC1.out HE1.out HRO.out).mono ?_
      rintro e w1 ⟨hb1, hres⟩
      have HB1 := Lib.hid (below_next HAL.out hb1)
      have HO1 := Lib.hid ((HO.out.below HAL0.out).below hb1)
      have hz1 : wr.heap.size + 1 ≤ w1.heap.size := by have := hb1.size; simpa using this
      clear hb1 q0 q1 q2 q3 q4 q5 q6 q7 q8 q9
      cases hnd : miss r with
      | error x =>
        rw [hnd] at hres
        obtain ⟨rfl, hx⟩ := hres
        have e1 : (x != 0) = true := by simp [hx]
        have HX := Lib.hid hx
        have HRES := Lib.hid (eachM_bad (eachP_bad HEP.out HR.out hnd))
        clear hnd hx
        go_wp2_with fail
        go_ret2
        exact ⟨HB1.out, by rw [HRES.out]; exact ⟨rfl, HX.out⟩⟩
      | ok rl =>
        rw [hnd] at hres
        obtain ⟨rv, rfl, hrv⟩ := hres
        obtain ⟨ca, cc, rfl, hcc, hccm, -⟩ := SeqAt.shape hrv RefR.len
        unfold maxLen at hccm
        have HRV := Lib.hid (show RefsAt (fun k => wr.heap.size < k ∧ k < w1.heap.size) w1 (.slice ca rl.length cc) rl from RefsAt.same hrv (fun k hk hS => ⟨⟨by have hS2 : (wr.alloc (.cells #[.int .i64 a1, .int .i64 a2, .int .i64 a3, .string r.name, .int .i64 r.gen, .int .i64 r.size, .int .i64 a4, .int .i64 a5, .string p, .bool h] 62)).heap.size ≤ k := hS; simp at hS2; omega, hk⟩, rfl⟩))
        have hrl := HLE.out r rl hnd
        have HEP2 := Lib.hid (show eachP miss (roots.take (k + 1)) = .ok (ls ++ [rl]) by rw [take_snoc' HR.out]; exact eachP_snoc HEP.out hnd)
        have HUS := Lib.hid (unionP_snoc ls rl)
        have HML := Lib.hid (menAll_len rl (unionP ls))
        have HOFF := Lib.hid (show SetOff (w.heap.size + 1) w.heap.size v (wr.heap.size + 1) w1.heap.size from fun j hj => .inl (by
          rcases hj with e | e | e
          · have := lt_of_block HO.out.box; omega
          · have := lt_of_block HO.out.box; omega
          · have := (HO.out.row.lt j e).2; omega))
        obtain ⟨acc, hacc⟩ : ∃ acc, acc = unionP ls := ⟨_, rfl⟩
        rw [← hacc] at HO1 HUS HML hul hul2
        clear hnd hrv hacc HO
        obtain ⟨wo, hwo⟩ : ∃ wo : World, wo = wr := ⟨_, rfl⟩
        subst hwo
        go_wp2_with fail
        go_loopw [32] (fun i wq => ∃ (j : Nat) (v : Value), j ≤ rl.length ∧ i = .int .i64 j ∧ StAt wq w.heap.size (w.heap.size + 1) w.heap.size v (menAll (rl.take j) acc) ∧ Below w.heap.size w wq ∧ SetOff (w.heap.size + 1) w.heap.size v (wo.heap.size + 1) w1.heap.size ∧ w1.heap.size ≤ wq.heap.size ∧ RefsAt (fun k => wo.heap.size < k ∧ k < w1.heap.size) wq (.slice ca rl.length cc) rl) (fun i _ => rl.length - (intOf i).toNat)
        case atStart => exact ⟨0, v, Nat.zero_le _, rfl, HO1.out, HB1.out, HOFF.out, Nat.le_refl _, HRV.out⟩
        case round =>
          obtain ⟨j, v3, hj, rfl, hst3, hb3, hof3, hz3, hrf3⟩ := hrel
          have HS3 := Lib.hid hst3
          have HB3 := Lib.hid hb3
          have HF3 := Lib.hid hof3
          have HR3 := Lib.hid hrf3
          clear hst3 hb3 hrf3 hof3
          by_cases hlt2 : j < rl.length
          · obtain ⟨c, hc⟩ : ∃ c, rl[j]? = some c := ⟨rl[j], by simp [hlt2]⟩
            obtain ⟨b2, o2, rfl, hcok, p0, p1, p2⟩ := refs_at HR3.out (Below.refl _ _) hc
            have HCO := Lib.hid hcok
            have HSN2 := Lib.hid (show menAll (rl.take (j + 1)) acc = mentionP c (menAll (rl.take j) acc) by rw [take_snoc' hc, menAll_snoc])
            have HML2 := Lib.hid (show (menAll (rl.take j) acc).length < 1099511627775 by
              have h1 := menAll_len (rl.take j) acc
              rw [List.length_take] at h1
              omega)
            have HAL2 := Lib.hid ((Below.refl wr.heap.size wr).alloc (Nat.le_refl _) (.cells #[.string c.name, .int .i64 c.gen, .int .i64 c.size] 43))
            have HS4 := Lib.hid (HS3.out.below HAL2.out)
            have HB4 := Lib.hid (below_next HB3.out HAL2.out)
            have hz4 : w1.heap.size < (wr.alloc (.cells #[.string c.name, .int .i64 c.gen, .int .i64 c.size] 43)).heap.size := by simp; omega
            clear hc hcok
            go_wp2_with fail
            refine (add_any w.heap.size (w.heap.size + 1) w.heap.size v3 _ c _ HS4.out HCO.out HML2.out HB4.out.size).mono ?_
            rintro e w4 ⟨rfl, v4, hst4, hg4, hv4⟩
            have HB5 := Lib.hid (show Below w.heap.size w w4 from HB4.out.trans (hg4.below HB4.out.size (fun k hk => st_ge HS4.out (Nat.le_refl _) (by omega) (Nat.le_refl _) hk)))
            have HF5 := Lib.hid (show SetOff (w.heap.size + 1) w.heap.size v4 (wo.heap.size + 1) w1.heap.size from fun q hq => by
              rcases hq with e | e | e
              · exact HF3.out q (.inl e)
              · exact HF3.out q (.inr (.inl e))
              · rcases hv4 q e with e | e
                · exact HF3.out q (.inr (.inr e))
                · exact .inr (by omega))
            have HR5 := Lib.hid (show RefsAt (fun k => wo.heap.size < k ∧ k < w1.heap.size) w4 (.slice (some ⟨b2, o2, none⟩) rl.length cc) rl from RefsAt.same HR3.out (fun q hq hS => ⟨hS, (hg4.block q (by omega) (fun hh => by rcases HF3.out q hh with h | h <;> omega)).trans (HAL2.out.block q hq)⟩))
            have HS5 := Lib.hid hst4
            have hz5 : w1.heap.size ≤ w4.heap.size := by have := hg4.size; omega
            clear hst4 hg4 hv4 p0 p1 p2 hz4
            go_wp2_with fail
            go_roundw
            case rel => exact ⟨j + 1, v4, by omega, by go_num, by rw [HSN2.out]; exact HS5.out, HB5.out, HF5.out, hz5, HR5.out⟩
            case measure => simp [intOf]; omega
          · obtain rfl : j = rl.length := by omega
            rw [List.take_of_length_le (Nat.le_refl _)] at HS3
            go_wp2_with fail
            go_roundw
            case rel => exact ⟨k + 1, ls ++ [rl], v3, by omega, by go_num, HEP2.out, by rw [HUS.out]; have := HML.out; omega, by rw [HUS.out]; exact HS3.out, HB3.out⟩
            case measure => simp [intOf]; omega
    · obtain rfl : k = roots.length := by omega
      have HEP2 := Lib.hid (show eachM miss roots = .ok (unionP ls) by have := HEP.out; rw [List.take_of_length_le (Nat.le_refl _)] at this; exact eachM_ok this)
      have c0 := cellH (k := 0) HO.out.box
      simp only [List.getElem?_toArray, List.getElem?_cons_zero] at c0
      go_wp2_with fail
      go_ret2
      exact ⟨HB.out, by rw [HEP2.out]; exact ⟨_, rfl, RefsAt.same HO.out.refs (fun k _ hS => ⟨hS.1, rfl⟩)⟩⟩

end Go.Proofs.YtndgmcggckpgfaaGreatDoor

/- Contracts of the reference of package manifest: Refs, Missing. -/
namespace Go.Proofs.YtndgmcggckpgfaaGreatDoor
open Go Go.RowKit Go.Maps


theorem rk_start {w : World} {B : Nat} {ln : Bool} : RkAt (((w.alloc (.map #[] 0)).alloc (.map #[] 0)).alloc (.cells #[.slice none 0 0, .map (some w.heap.size), .map (some (w.heap.size + 1)), .bool ln] 83)) B (w.heap.size + 1 + 1) (w.heap.size + 1) w.heap.size ln (.slice none 0 0) [] [] := by
  have e1 : (w.alloc (.map #[] 0)).heap.size = w.heap.size + 1 := by simp
  have e2 : ((w.alloc (.map #[] 0)).alloc (.map #[] 0)).heap.size = w.heap.size + 1 + 1 := by simp
  have h1 := SetAt.made w
  have h2 := SetAt.made (w.alloc (.map #[] 0))
  rw [e1] at h2
  have h3 := heap_alloc_new ((w.alloc (.map #[] 0)).alloc (.map #[] 0)) (.cells #[.slice none 0 0, .map (some w.heap.size), .map (some (w.heap.size + 1)), .bool ln] 83)
  rw [e2] at h3
  refine ⟨h3, h2.same (Below.heap_alloc _ _ _ (by rw [e2]; omega)), ?_, World.ownsRow_nil _ _ _ _, by omega⟩
  exact h1.same ((Below.heap_alloc _ _ _ (by rw [e2]; omega)).trans (Below.heap_alloc _ _ _ (by rw [e1]; omega)))
set_option maxRecDepth 100000 in
set_option maxHeartbeats 2000000 in
theorem refs24_any (S : Nat → Prop) (cv : Value) (cs : List (ByteArray × List UInt8)) (n : Nat) (root : Ref) (res : Except Int (List Ref)) (w : World) (hc : ContAt S w cv cs) (henv : Env w) (hr : RefOk root)
    (hn : needP (visP cs false) n root = some res) (hl : ∀ p, walkP (visP cs false) n root ([], []) = some p → p.2.2.length < 1099511627775) :
    Calls Tryz.prog 30 #[refV root, cv] w (NeedRes res w) := by
  have HI := Lib.hid (RefsI.start hc henv)
  have HR := Lib.hid hr
  have HL := Lib.hid hl
  have hmm := @run_makeMap Tryz.prog
  have HB0 := Lib.hid ((Below.refl w.heap.size w).alloc (Nat.le_refl _) (.cells #[.string root.name, .int .i64 root.gen, .int .i64 root.size] 43))
  have HBX0 := Lib.hid (heap_alloc_new w (.cells #[.string root.name, .int .i64 root.gen, .int .i64 root.size] 43))
  unfold refV
  clear hc henv hr hl
  cases hv : vRef root
  · skip
    have HRES := Lib.hid (show res = .error 1 by rw [needP, if_neg (by rw [hv]; simp)] at hn; exact (Option.some.inj hn).symm)
    have HVR := Lib.hid hv
    clear hv hn
    go_enter Tryz.func30, Tryz.ntmps30
    go_wp2_with fail
    refine (ref24_is root false _ HR.out HVR.out).mono ?_
    rintro e w1 ⟨rfl, hb1⟩
    have HB1 := Lib.hid (below_next HB0.out hb1)
    clear hb1
    go_wp2_with fail
    go_ret2
    exact ⟨HB1.out, by rw [HRES.out]; exact ⟨rfl, by decide⟩⟩
  · skip
    have HVR := Lib.hid hv
    obtain ⟨⟨x, st⟩, hwp, hres⟩ : ∃ p, walkP (visP cs false) n root ([], []) = some p ∧ res = (if p.1 = 0 then .ok p.2.2 else .error p.1) := by
      rw [needP, if_pos hv, Option.map_eq_some_iff] at hn
      obtain ⟨p, h1, h2⟩ := hn
      exact ⟨p, h1, h2.symm⟩
    have HWP := Lib.hid hwp
    have HRES := Lib.hid hres
    have HLN := Lib.hid (HL.out _ hwp)
    clear hv hn hwp hres
    go_enter Tryz.func30, Tryz.ntmps30
    go_wp2_with fail
    refine (ref24_is root true _ HR.out HVR.out).mono ?_
    rintro e w1 ⟨rfl, hb1⟩
    have HB1 := Lib.hid (below_next HB0.out hb1)
    have hbx1 := (hb1.block w.heap.size (by simp)).trans HBX0.out
    have HBX1 := Lib.hid hbx1
    have hz1 := lt_of_block hbx1
    clear hb1 hbx1 HBX0
    obtain ⟨W, hW⟩ : ∃ W : World, W = ((w1.alloc (.map #[] 0)).alloc (.map #[] 0)).alloc (.cells #[.slice none 0 0, .map (some w1.heap.size), .map (some (w1.heap.size + 1)), .bool false] 83) := ⟨_, rfl⟩
    have HK := Lib.hid (show RkAt W w.heap.size (w1.heap.size + 1 + 1) (w1.heap.size + 1) w1.heap.size false (.slice none 0 0) [] [] by rw [hW]; exact rk_start)
    have hbw : Below w1.heap.size w1 W := by rw [hW]; exact (((Below.refl _ _).alloc (Nat.le_refl _) _).alloc (by simp) _).alloc (by simp; omega) _
    have HBW := Lib.hid (below_next HB1.out hbw)
    have HBX2 := Lib.hid ((hbw.block w.heap.size hz1).trans HBX1.out)
    have q0 := cellH (k := 0) HBX2.out
    have q1 := cellH (k := 1) HBX2.out
    have q2 := cellH (k := 2) HBX2.out
    have r0 := cellH (k := 0) HBX1.out
    have r1 := cellH (k := 1) HBX1.out
    have r2 := cellH (k := 2) HBX1.out
    simp only [List.getElem?_toArray, List.getElem?_cons_succ, List.getElem?_cons_zero] at q0 q1 q2 r0 r1 r2
    have HI2 := Lib.hid (RefsI.keep w W HI.out (Grows.of_below HBW.out))
    clear hbw
    go_upto_region 4 with (fail)
    rw [← hW]
    clear hW
    go_wp2_with fail
    refine (visit_any cs false cv w.heap.size n root ([], []) x st w.heap.size (w1.heap.size + 1 + 1) (w1.heap.size + 1) w1.heap.size (.slice none 0 0) W HWP.out HLN.out HK.out HR.out HI2.out ⟨Nat.le_refl _, by omega, by omega, by omega⟩ HBW.out.size).mono ?_
    rintro e w2 ⟨rfl, v2, hk2, hg2, ho2⟩
    have HK2 := Lib.hid hk2
    have HB2 := Lib.hid (show Below w.heap.size w w2 from HBW.out.trans (hg2.below HBW.out.size (fun k hk => rk_own_ge HK.out ⟨Nat.le_refl _, by omega, by omega, by omega⟩ hk)))
    obtain ⟨a2, c2, rfl⟩ := hk2.shape
    have d0 := cellH (k := 0) hk2.box
    simp only [List.getElem?_toArray, List.getElem?_cons_zero] at d0
    clear hk2 hg2 ho2 q0 q1 q2 r0 r1 r2
    by_cases hx : x = 0
    · subst hx
      have HRS := Lib.hid (show res = .ok st.2 by rw [HRES.out]; simp)
      go_wp2_with fail
      go_ret2
      exact ⟨HB2.out, by rw [HRS.out]; exact ⟨_, rfl, RefsAt.same (refs_owned HK2.out.row HK2.out.ok) (fun k _ hS => ⟨hS.1, rfl⟩)⟩⟩
    · have e1 : (x != 0) = true := by simp [hx]
      have HRS := Lib.hid (show res = .error x by rw [HRES.out]; simp [hx])
      have HX := Lib.hid hx
      clear hx
      go_wp2_with fail
      go_ret2
      exact ⟨HB2.out, by rw [HRS.out]; exact ⟨rfl, HX.out⟩⟩
set_option maxRecDepth 100000 in
set_option maxHeartbeats 2000000 in
theorem missing24_any (S : Nat → Prop) (cv : Value) (cs : List (ByteArray × List UInt8)) (n : Nat) (root : Ref) (res : Except Int (List Ref)) (w : World) (hc : ContAt S w cv cs) (henv : Env w) (hr : RefOk root)
    (hn : needP (visP cs true) n root = some res) (hl : ∀ p, walkP (visP cs true) n root ([], []) = some p → p.2.2.length < 1099511627775) :
    Calls Tryz.prog 34 #[refV root, cv] w (NeedRes (missE cs res) w) := by
  have HC := Lib.hid hc
  have HI := Lib.hid (RefsI.start hc henv)
  have HR := Lib.hid hr
  have HL := Lib.hid hl
  have hmm := @run_makeMap Tryz.prog
  have HB0 := Lib.hid ((Below.refl w.heap.size w).alloc (Nat.le_refl _) (.cells #[.string root.name, .int .i64 root.gen, .int .i64 root.size] 43))
  have HBX0 := Lib.hid (heap_alloc_new w (.cells #[.string root.name, .int .i64 root.gen, .int .i64 root.size] 43))
  unfold refV
  clear hc henv hr hl
  cases hv : vRef root
  · skip
    have HRES := Lib.hid (show res = .error 1 by rw [needP, if_neg (by rw [hv]; simp)] at hn; exact (Option.some.inj hn).symm)
    have HVR := Lib.hid hv
    clear hv hn
    go_enter Tryz.func34, Tryz.ntmps34
    go_wp2_with fail
    refine (ref24_is root false _ HR.out HVR.out).mono ?_
    rintro e w1 ⟨rfl, hb1⟩
    have HB1 := Lib.hid (below_next HB0.out hb1)
    clear hb1
    go_wp2_with fail
    go_ret2
    exact ⟨HB1.out, by rw [HRES.out]; exact ⟨rfl, by decide⟩⟩
  · skip
    have HVR := Lib.hid hv
    obtain ⟨⟨x, st⟩, hwp, hres⟩ : ∃ p, walkP (visP cs true) n root ([], []) = some p ∧ res = (if p.1 = 0 then .ok p.2.2 else .error p.1) := by
      rw [needP, if_pos hv, Option.map_eq_some_iff] at hn
      obtain ⟨p, h1, h2⟩ := hn
      exact ⟨p, h1, h2.symm⟩
    have HWP := Lib.hid hwp
    have HRES := Lib.hid hres
    have HLN := Lib.hid (HL.out _ hwp)
    clear hv hn hwp hres
    go_enter Tryz.func34, Tryz.ntmps34
    go_wp2_with fail
    refine (ref24_is root true _ HR.out HVR.out).mono ?_
    rintro e w1 ⟨rfl, hb1⟩
    have HB1 := Lib.hid (below_next HB0.out hb1)
    have hbx1 := (hb1.block w.heap.size (by simp)).trans HBX0.out
    have HBX1 := Lib.hid hbx1
    have hz1 := lt_of_block hbx1
    clear hb1 hbx1 HBX0
    obtain ⟨W, hW⟩ : ∃ W : World, W = ((w1.alloc (.map #[] 0)).alloc (.map #[] 0)).alloc (.cells #[.slice none 0 0, .map (some w1.heap.size), .map (some (w1.heap.size + 1)), .bool true] 83) := ⟨_, rfl⟩
    have HK := Lib.hid (show RkAt W w.heap.size (w1.heap.size + 1 + 1) (w1.heap.size + 1) w1.heap.size true (.slice none 0 0) [] [] by rw [hW]; exact rk_start)
    have hbw : Below w1.heap.size w1 W := by rw [hW]; exact (((Below.refl _ _).alloc (Nat.le_refl _) _).alloc (by simp) _).alloc (by simp; omega) _
    have HBW := Lib.hid (below_next HB1.out hbw)
    have HBX2 := Lib.hid ((hbw.block w.heap.size hz1).trans HBX1.out)
    have q0 := cellH (k := 0) HBX2.out
    have q1 := cellH (k := 1) HBX2.out
    have q2 := cellH (k := 2) HBX2.out
    have r0 := cellH (k := 0) HBX1.out
    have r1 := cellH (k := 1) HBX1.out
    have r2 := cellH (k := 2) HBX1.out
    simp only [List.getElem?_toArray, List.getElem?_cons_succ, List.getElem?_cons_zero] at q0 q1 q2 r0 r1 r2
    have HI2 := Lib.hid (RefsI.keep w W HI.out (Grows.of_below HBW.out))
    clear hbw
    go_upto_region 4 with (fail)
    rw [← hW]
    clear hW
    go_wp2_with fail
    refine (visit_any cs true cv w.heap.size n root ([], []) x st w.heap.size (w1.heap.size + 1 + 1) (w1.heap.size + 1) w1.heap.size (.slice none 0 0) W HWP.out HLN.out HK.out HR.out HI2.out ⟨Nat.le_refl _, by omega, by omega, by omega⟩ HBW.out.size).mono ?_
    rintro e w2 ⟨rfl, v2, hk2, hg2, ho2⟩
    have HK2 := Lib.hid hk2
    have HB2 := Lib.hid (show Below w.heap.size w w2 from HBW.out.trans (hg2.below HBW.out.size (fun k hk => rk_own_ge HK.out ⟨Nat.le_refl _, by omega, by omega, by omega⟩ hk)))
    obtain ⟨a2, c2, rfl⟩ := hk2.shape
    have d0 := cellH (k := 0) hk2.box
    simp only [List.getElem?_toArray, List.getElem?_cons_zero] at d0
    by_cases hx : x = 0
    · subst hx
      have HRS := Lib.hid (show res = .ok st.2 by rw [HRES.out]; simp)
      have hsl : st.2.length < 1099511627775 := HLN.out
      obtain ⟨rs, hrs⟩ : ∃ rs, rs = st.2 := ⟨_, rfl⟩
      rw [← hrs] at HRS hsl d0 hk2
      have HV := Lib.hid (show RefsAt (w.heap.size ≤ ·) w2 (.slice a2 rs.length c2) rs by have h1 := refs_owned HK2.out.row HK2.out.ok; rw [← hrs] at h1; exact RefsAt.same h1 (fun k _ hS => ⟨hS.1, rfl⟩))
      obtain ⟨a', cap', hv', hcl1, hcl2, -⟩ := SeqAt.shape HV.out RefR.len
      cases hv'
      unfold maxLen at hcl2
      have HKB := Lib.hid hk2.box
      have HLB := Lib.hid (lt_of_block hk2.box)
      have HO0 := Lib.hid (World.ownsRow_lit (e := 43) (size := 3) (base := w2.heap.size) w2 #[] 0 (Nat.le_refl _) (Nat.zero_le _) (by simp))
      have HBA := Lib.hid ((Below.refl w2.heap.size w2).alloc (Nat.le_refl _) (.cells #[] 43))
      clear hk2 hg2 ho2 q0 q1 q2 r0 r1 r2 hrs d0
      go_wp2_with fail
      go_loopw [8, 9] (fun o i wr => ∃ k : Nat, k ≤ rs.length ∧ i = .int .i64 k ∧ wr.ownsRow w2.heap.size 43 3 o (goneP cs (rs.take k)).length ((goneP cs (rs.take k)).flatMap refC) ∧ Below w2.heap.size w2 wr ∧ ∀ r ∈ goneP cs (rs.take k), RefOk r) (fun _ i _ => rs.length - (intOf i).toNat)
      case atStart => exact ⟨0, Nat.zero_le _, rfl, HO0.out, HBA.out, by simp [goneP]⟩
      case round =>
        obtain ⟨k, hk, rfl, hown, hb, hok⟩ := hrel
        have HO := Lib.hid hown
        have HB := Lib.hid hb
        have HOK := Lib.hid hok
        have d0 := (hb.cell (p := ⟨w1.heap.size + 1 + 1, 0, none⟩) HLB.out).trans (cellH (k := 0) HKB.out)
        simp only [List.getElem?_toArray, List.getElem?_cons_zero] at d0
        obtain ⟨ao, co, rfl, hn2, hm2⟩ := owns_shape hown
        have hlk0 := goneP_le cs (rs.take k)
        rw [List.length_take] at hlk0
        clear hown hb hok
        by_cases hlt : k < rs.length
        · obtain ⟨r, hr⟩ : ∃ r, rs[k]? = some r := ⟨rs[k], by simp [hlt]⟩
          obtain ⟨b, o, rfl, hrok, q0, q1, q2⟩ := refs_at HV.out HB.out hr
          have HRO := Lib.hid hrok
          have HSN := Lib.hid (show goneP cs (rs.take (k + 1)) = if (findC cs r.name).isNone = true then goneP cs (rs.take k) ++ [r] else goneP cs (rs.take k) by rw [take_snoc' hr, goneP_snoc])
          have hnm := hrok.nm
          have HCW := Lib.hid (HC.out.below (below_next HB2.out HB.out))
          have hz1 := HB.out.size
          clear hr hrok
          cases hf : findC cs r.name with
          | none =>
            have hlk := HCW.out.missM hnm hf
            have HSN2 := Lib.hid (HSN.out.trans (if_pos (by rw [hf]; rfl)))
            clear hf hnm
            go_wp2_with (at_builtin; go_must (refine wpList_app1B Tryz.appRefs rfl _ _ rfl w2.heap.size (.slice ao (goneP cs (rs.take k)).length co) (goneP cs (rs.take k)).length ((goneP cs (rs.take k)).flatMap refC) rfl wr [.string r.name, .int .i64 r.gen, .int .i64 r.size] _ rfl rfl (refC_one (r := r)) HO.out (by unfold maxLen; omega) (by omega) hz1 ?_); intro v' wc hown' hgrow' _; have HB3 := Lib.hid (below_grown HB.out HO.out hgrow' (Nat.le_refl _) hz1); have HO2 := Lib.hid (show wc.ownsRow w2.heap.size 43 3 v' (goneP cs (rs.take (k + 1))).length ((goneP cs (rs.take (k + 1))).flatMap refC) by rw [HSN2.out, List.length_append, List.flatMap_append]; simpa [refC] using hown'); obtain ⟨ae, ce, rfl, -, -⟩ := owns_shape hown'; clear hown' hgrow')
            go_roundw
            case rel =>
              refine ⟨k + 1, by omega, by go_num, HO2.out, HB3.out, ?_⟩
              rw [HSN2.out]
              exact snoc_ok HOK.out HRO.out
            case measure => simp [intOf]; omega
          | some bs =>
            obtain ⟨v, hlk, -⟩ := HCW.out.hitM hnm hf
            have HSN2 := Lib.hid (HSN.out.trans (if_neg (by rw [hf]; simp)))
            clear hf hnm
            go_wp2_with fail
            go_roundw
            case rel => exact ⟨k + 1, by omega, by go_num, by rw [HSN2.out]; exact HO.out, HB.out, by rw [HSN2.out]; exact HOK.out⟩
            case measure => simp [intOf]; omega
        · obtain rfl : k = rs.length := by omega
          have HTK := Lib.hid (show goneP cs (rs.take rs.length) = goneP cs rs by rw [List.take_of_length_le (Nat.le_refl _)])
          have hz := HB2.out.size
          go_wp2_with fail
          go_ret2
          refine ⟨below_next HB2.out HB.out, ?_⟩
          rw [HRS.out]
          show ∃ v, _ ∧ RefsAt _ _ v (goneP cs rs)
          rw [← HTK.out]
          exact ⟨_, rfl, RefsAt.same (refs_owned HO.out HOK.out) (fun k _ hS => ⟨Nat.le_trans hz hS.1, rfl⟩)⟩
    · have e1 : (x != 0) = true := by simp [hx]
      have HRS := Lib.hid (show res = .error x by rw [HRES.out]; simp [hx])
      have HX := Lib.hid hx
      clear hx hk2 hg2 ho2 q0 q1 q2 r0 r1 r2
      go_wp2_with fail
      go_ret2
      exact ⟨HB2.out, by rw [HRS.out]; exact ⟨rfl, HX.out⟩⟩

/- The walk with missing nodes let pass ends, too. -/
theorem visP_false (cs : List (ByteArray × List UInt8)) : visP cs false = nodeP cs := rfl
theorem visP_true (cs : List (ByteArray × List UInt8)) : visP cs true = presP cs := rfl
theorem presP_refs {cs : List (ByteArray × List UInt8)} {r : Ref} {l : List Item} (h : presP cs r = .ok l) {it : Item} (hit : it ∈ l) : ∀ c ∈ itRefs it, c ∈ csRefs cs := by
  unfold presP at h
  cases hn : nodeP cs r with
  | error x =>
    rw [hn] at h
    simp only at h
    split at h
    · simp only [Except.ok.injEq] at h; subst h; simp at hit
    · simp at h
  | ok l' =>
    rw [hn] at h
    simp only [Except.ok.injEq] at h
    subst h
    exact nodeP_refs hn hit
theorem walkQ_ends {cs : List (ByteArray × List UInt8)} {U : List Ref} (hU : ∀ c ∈ csRefs cs, c ∈ U) : ∀ n, WEnds U (walkP (presP cs) n) n
  | 0 => fun r st hr hi hn => by
    have := nodup_le hi.e1 hi.e2
    omega
  | n + 1 => fun r st hr hi hn => by
    have hm : WInv U (st.1, mentionP r st.2) := ⟨hi.e1, hi.e2, mentionP_nodup hi.l1, fun x hx => by
      rcases mentionP_mem.1 hx with hx | rfl
      · exact hi.l2 x hx
      · exact hr⟩
    rw [walkP]
    split
    · exact ⟨0, _, rfl, hm, Nat.le_refl _⟩
    · rename_i hne
      have he : WInv U (st.1 ++ [r], mentionP r st.2) := ⟨List.nodup_append.2 ⟨hi.e1, by simp, fun a ha b hb e => by simp only [List.mem_singleton] at hb; subst hb e; exact hne ha⟩, fun x hx => by
        rcases List.mem_append.1 hx with hx | hx
        · exact hi.e2 x hx
        · simp only [List.mem_singleton] at hx; subst hx; exact hr, hm.l1, hm.l2⟩
      cases hv : presP cs r with
      | error x => exact ⟨x, _, rfl, he, by simp⟩
      | ok l =>
        obtain ⟨x, st', h1, h2, h3⟩ := overW_ends (walkQ_ends hU n) l (st.1 ++ [r], mentionP r st.2) (fun it hit c hc => hU c (presP_refs hv hit c hc)) he (by simp; omega)
        exact ⟨x, st', h1, h2, by simp at h3; omega⟩
theorem presW_ends (cs : List (ByteArray × List UInt8)) (r : Ref) : ∃ x st', walkP (presP cs) (fuelN cs) r ([], []) = some (x, st') ∧ WInv (r :: csRefs cs) st' := by
  obtain ⟨x, st', h1, h2, _⟩ := walkQ_ends (cs := cs) (U := r :: csRefs cs) (fun c hc => by simp [hc]) (fuelN cs) r ([], []) (by simp) ⟨by simp, by simp, by simp, by simp⟩ (by simp [fuelN])
  exact ⟨x, st', h1, h2⟩
def presF (cs : List (ByteArray × List UInt8)) (r : Ref) : Except Int (List Ref) := (needP (presP cs) (fuelN cs) r).getD (.error 0)
def missF (cs : List (ByteArray × List UInt8)) (r : Ref) : Except Int (List Ref) := missE cs (presF cs r)
theorem presF_some {cs : List (ByteArray × List UInt8)} (h : cs.length ≤ 80) (r : Ref) : needP (presP cs) (fuelN cs) r = some (presF cs r) ∧ ∀ p, walkP (presP cs) (fuelN cs) r ([], []) = some p → p.2.2.length ≤ 1000000000 := by
  obtain ⟨x, st', h1, h2⟩ := presW_ends cs r
  refine ⟨?_, fun p hp => ?_⟩
  · unfold presF
    have : ∃ y, needP (presP cs) (fuelN cs) r = some y := by
      unfold needP
      split
      · rw [h1]; exact ⟨_, rfl⟩
      · exact ⟨_, rfl⟩
    obtain ⟨y, hy⟩ := this
    rw [hy]; rfl
  · rw [h1] at hp
    simp only [Option.some.injEq] at hp
    subst hp
    have h3 := nodup_le h2.l1 h2.l2
    have h4 := csRefs_le (cs := cs)
    have h5 : cs.length * 3948544 ≤ 80 * 3948544 := Nat.mul_le_mul_right _ h
    simp only [List.length_cons] at h3
    simp only
    omega
theorem presF_le {cs : List (ByteArray × List UInt8)} (h : cs.length ≤ 80) {r : Ref} {l : List Ref} (hl : presF cs r = .ok l) : l.length ≤ 1000000000 := by
  obtain ⟨h1, h2⟩ := presF_some h r
  obtain ⟨x, st', h3, _⟩ := presW_ends cs r
  have h4 := h2 _ h3
  rw [hl] at h1
  unfold needP at h1
  split at h1
  · rw [h3] at h1
    simp only [Option.map_some, Option.some.injEq] at h1
    split at h1
    · simp only [Except.ok.injEq] at h1; subst h1; exact h4
    · simp at h1
  · simp at h1
theorem missF_le {cs : List (ByteArray × List UInt8)} (h : cs.length ≤ 80) {r : Ref} {l : List Ref} (hl : missF cs r = .ok l) : l.length ≤ 1000000000 := by
  unfold missF missE at hl
  cases hp : presF cs r with
  | error x => rw [hp] at hl; simp at hl
  | ok rs =>
    rw [hp] at hl
    simp only [Except.ok.injEq] at hl
    subst hl
    exact Nat.le_trans (goneP_le cs rs) (presF_le h hp)
theorem refsOf_needF {cs : List (ByteArray × List UInt8)} (h : cs.length ≤ 80) : RefsOf cs (needF cs) := fun S cv root w hc he hr => by
  obtain ⟨n, h1, h2⟩ := needF_ok h root hr
  exact refs24_any S cv cs n root _ w hc he hr h1 (fun p hp => by have := h2 p hp; omega)
theorem missOf_missF {cs : List (ByteArray × List UInt8)} (h : cs.length ≤ 80) : MissOf cs (missF cs) := fun S cv root w hc he hr => by
  obtain ⟨h1, h2⟩ := presF_some h root
  exact missing24_any S cv cs (fuelN cs) root _ w hc he hr h1 (fun p hp => by have := h2 p hp; omega)
theorem missMOf_missF {cs : List (ByteArray × List UInt8)} (h : cs.length ≤ 80) : MissMOf cs (missF cs) := fun S cv root w hc he hr => by
  obtain ⟨h1, h2⟩ := presF_some h root
  exact missingM_any S cv cs (fuelN cs) root _ w hc he hr h1 (fun p hp => by have := h2 p hp; omega) (fun rs hrs => by have := presF_le h hrs; omega)

end Go.Proofs.YtndgmcggckpgfaaGreatDoor

/- What snapshots need, in plain words: unions, differences, one left out. -/
namespace Go.Proofs.YtndgmcggckpgfaaGreatDoor
open Go.RowKit

theorem foldMen_mem : ∀ (ls : List (List Ref)) (acc : List Ref) (x : Ref), x ∈ ls.foldl (fun acc l => menAll l acc) acc ↔ x ∈ acc ∨ ∃ l ∈ ls, x ∈ l
  | [], acc, x => by simp
  | l :: ls, acc, x => by
    rw [List.foldl_cons, foldMen_mem ls, menAll_mem, or_assoc]
    simp
theorem unionP_mem {ls : List (List Ref)} {x : Ref} : x ∈ unionP ls ↔ ∃ l ∈ ls, x ∈ l := by
  unfold unionP; rw [foldMen_mem]; simp
theorem foldMen_nodup : ∀ (ls : List (List Ref)) {acc : List Ref}, acc.Nodup → (ls.foldl (fun acc l => menAll l acc) acc).Nodup
  | [], _, h => h
  | l :: ls, _, h => foldMen_nodup ls (menAll_nodup l h)
theorem unionP_nodup (ls : List (List Ref)) : (unionP ls).Nodup := foldMen_nodup ls List.nodup_nil
theorem lessP_mem {rs l : List Ref} {x : Ref} : x ∈ lessP rs l ↔ x ∈ rs ∧ x ∉ l := by unfold lessP; simp
theorem lessP_nodup {rs l : List Ref} (h : rs.Nodup) : (lessP rs l).Nodup := List.Pairwise.filter _ h
theorem men_less (A U : List Ref) (r : Ref) : mentionP r (A ++ lessP U A) = A ++ lessP (mentionP r U) A := by
  unfold mentionP
  by_cases hA : r ∈ A
  · rw [if_pos (by simp [hA])]
    split
    · rfl
    · rw [lessP_snoc, if_pos hA]
  · by_cases hU : r ∈ U
    · rw [if_pos hU, if_pos (by simp [lessP_mem, hU, hA])]
    · rw [if_neg hU, if_neg (by simp [lessP_mem, hU, hA]), lessP_snoc, if_neg hA, List.append_assoc]
theorem menAll_less (A : List Ref) : ∀ (l U : List Ref), menAll l (A ++ lessP U A) = A ++ lessP (menAll l U) A
  | [], _ => rfl
  | r :: l, U => by
    show menAll l (mentionP r (A ++ lessP U A)) = A ++ lessP (menAll l (mentionP r U)) A
    rw [men_less, menAll_less A l]
theorem foldMen_less (A : List Ref) : ∀ (ls : List (List Ref)) (U : List Ref), ls.foldl (fun acc l => menAll l acc) (A ++ lessP U A) = A ++ lessP (ls.foldl (fun acc l => menAll l acc) U) A
  | [], _ => rfl
  | l :: ls, U => by rw [List.foldl_cons, List.foldl_cons, menAll_less, foldMen_less A ls]
theorem union_append (a b : List (List Ref)) : unionP (a ++ b) = unionP a ++ lessP (unionP b) (unionP a) := by
  have h := foldMen_less (unionP a) b []
  have e : lessP [] (unionP a) = [] := rfl
  rw [e, List.append_nil] at h
  rw [← show b.foldl (fun acc l => menAll l acc) [] = unionP b from rfl, ← h]
  unfold unionP
  rw [List.foldl_append]
theorem same_len {a b : List Ref} (ha : a.Nodup) (hb : b.Nodup) (h : ∀ x, x ∈ a ↔ x ∈ b) : a.length = b.length :=
  Nat.le_antisymm (nodup_le ha (fun x hx => (h x).1 hx)) (nodup_le hb (fun x hx => (h x).2 hx))
theorem mem_split {ls : List (List Ref)} {i : Nat} {lx : List Ref} (h : ls[i]? = some lx) {x : Ref} : (∃ l ∈ ls, x ∈ l) ↔ x ∈ lx ∨ ∃ l ∈ ls.eraseIdx i, x ∈ l := by
  obtain ⟨hi, rfl⟩ := List.getElem?_eq_some_iff.1 h
  constructor
  · rintro ⟨l, hl, hx⟩
    obtain ⟨j, hj, rfl⟩ := List.getElem_of_mem hl
    by_cases e : j = i
    · subst e; exact .inl hx
    · exact .inr ⟨ls[j], by rw [List.mem_eraseIdx_iff_getElem]; exact ⟨j, hj, e, rfl⟩, hx⟩
  · rintro (hx | ⟨l, hl, hx⟩)
    · exact ⟨_, List.getElem_mem hi, hx⟩
    · exact ⟨l, List.mem_of_mem_eraseIdx hl, hx⟩
theorem drop_none {ls : List (List Ref)} {i : Nat} : lessP (unionP (ls.eraseIdx i)) (unionP ls) = [] := by
  apply List.eq_nil_iff_forall_not_mem.2
  intro x hx
  obtain ⟨h1, h2⟩ := lessP_mem.1 hx
  obtain ⟨l, hl, hxl⟩ := unionP_mem.1 h1
  exact h2 (unionP_mem.2 ⟨l, List.mem_of_mem_eraseIdx hl, hxl⟩)
theorem drop_mem {ls : List (List Ref)} {i : Nat} {lx : List Ref} (h : ls[i]? = some lx) (x : Ref) : x ∈ lessP lx (unionP (ls.eraseIdx i)) ↔ x ∈ lessP (unionP ls) (unionP (ls.eraseIdx i)) := by
  rw [lessP_mem, lessP_mem, unionP_mem, unionP_mem, mem_split h]
  constructor
  · rintro ⟨h1, h2⟩; exact ⟨.inl h1, h2⟩
  · rintro ⟨h1 | h1, h2⟩
    · exact ⟨h1, h2⟩
    · exact absurd h1 h2
theorem drop_len {ls : List (List Ref)} {i : Nat} {lx : List Ref} (h : ls[i]? = some lx) (hn : lx.Nodup) : (lessP lx (unionP (ls.eraseIdx i))).length = (lessP (unionP ls) (unionP (ls.eraseIdx i))).length :=
  same_len (lessP_nodup hn) (lessP_nodup (unionP_nodup ls)) (drop_mem h)
theorem less_twice (l U : List Ref) : lessP (lessP l U) U = lessP l U := by unfold lessP; rw [List.filter_filter]; simp
theorem eachP_append {need : Ref → Except Int (List Ref)} : ∀ {a b : List Ref} {la lb : List (List Ref)}, eachP need a = .ok la → eachP need b = .ok lb → eachP need (a ++ b) = .ok (la ++ lb)
  | [], b, la, lb, h1, h2 => by simp only [eachP, Except.ok.injEq] at h1; subst h1; exact h2
  | r :: a, b, la, lb, h1, h2 => by
    rw [eachP] at h1
    cases hr : need r with
    | error y => rw [hr] at h1; simp at h1
    | ok l0 =>
      rw [hr] at h1
      simp only at h1
      cases hk : eachP need a with
      | error y => rw [hk] at h1; simp at h1
      | ok ls' =>
        rw [hk] at h1
        simp only [Except.ok.injEq] at h1
        subst h1
        rw [List.cons_append, eachP, hr]
        simp only [eachP_append hk h2, List.cons_append]
theorem eachP_append_err {need : Ref → Except Int (List Ref)} {x : Int} : ∀ {a b : List Ref}, (eachP need a = .error x → eachP need (a ++ b) = .error x) ∧ (∀ la, eachP need a = .ok la → eachP need b = .error x → eachP need (a ++ b) = .error x)
  | [], b => ⟨fun h => by simp [eachP] at h, fun la _ h => h⟩
  | r :: a, b => by
    have ih := eachP_append_err (need := need) (x := x) (a := a) (b := b)
    constructor
    · intro h
      rw [eachP] at h
      rw [List.cons_append, eachP]
      cases hr : need r with
      | error y => rw [hr] at h; simpa using h
      | ok l0 =>
        rw [hr] at h
        simp only at h ⊢
        cases hk : eachP need a with
        | error y =>
          rw [hk] at h
          simp only [Except.error.injEq] at h
          subst h
          rw [ih.1 hk]
        | ok ls' => rw [hk] at h; simp at h
    · intro la h h2
      rw [eachP] at h
      rw [List.cons_append, eachP]
      cases hr : need r with
      | error y => rw [hr] at h; simp at h
      | ok l0 =>
        rw [hr] at h
        simp only at h ⊢
        cases hk : eachP need a with
        | error y => rw [hk] at h; simp at h
        | ok ls' => rw [ih.2 ls' hk h2]
theorem eachP_erase {need : Ref → Except Int (List Ref)} : ∀ {rs : List Ref} {ls : List (List Ref)} (i : Nat), eachP need rs = .ok ls → eachP need (rs.eraseIdx i) = .ok (ls.eraseIdx i)
  | [], ls, i, h => by simp only [eachP, Except.ok.injEq] at h; subst h; simp [eachP]
  | r :: rs, ls, i, h => by
    rw [eachP] at h
    cases hr : need r with
    | error y => rw [hr] at h; simp at h
    | ok l0 =>
      rw [hr] at h
      simp only at h
      cases hk : eachP need rs with
      | error y => rw [hk] at h; simp at h
      | ok ls' =>
        rw [hk] at h
        simp only [Except.ok.injEq] at h
        subst h
        cases i with
        | zero => simpa using hk
        | succ i =>
          rw [List.eraseIdx_cons_succ, List.eraseIdx_cons_succ, eachP, hr]
          simp only [eachP_erase i hk]
theorem eachP_get {need : Ref → Except Int (List Ref)} {rs : List Ref} {ls : List (List Ref)} (h : eachP need rs = .ok ls) {l : List Ref} (hl : l ∈ ls) : ∃ r ∈ rs, need r = .ok l := eachP_mem h l hl
/-- Whether a stripe is idle. -/
def idleB (refs l : List Ref) : Bool := !refs.any fun r => decide (r ∈ l)
theorem idle_less (refs l : List Ref) : (lessP refs l).length = refs.length ↔ idleB refs l = true := by
  unfold lessP idleB
  rw [List.length_filter_eq_length_iff]
  simp

end Go.Proofs.YtndgmcggckpgfaaGreatDoor

/- Contents that came in; few. -/
namespace Go.Proofs.YtndgmcggckpgfaaGreatDoor
open Go Go.RowKit Go.Maps Go.MapKept

def readS (v : Value) : Option (DataW Unit × List MemPlace) := match v with
  | .slice _ _ _ => some (.nil, [])
  | _ => none
/-- A map of contents that came in. -/
def ContIn (S : Nat → Prop) (w : World) (cv : Value) (cs : List (ByteArray × List UInt8)) : Prop :=
  (cv = .map none ∧ cs = []) ∨ ∃ b es clock, cv = .map (some b) ∧ S b ∧ w.heap[b]? = some (.map es clock) ∧ es.size ≤ maxLen ∧ Stamped es clock ∧ (∀ x ∈ es.toList, ∃ l, keyOf Tryz.prog 9 x.key = some l) ∧ EntsIn S w (es.toList.map fun e => (e.key, e.val)) cs
theorem EntsIn.len {S : Nat → Prop} {w : World} : ∀ {m : List (Value × Value)} {cs : List (ByteArray × List UInt8)}, EntsIn S w m cs → m.length = cs.length
  | [], [], _ => rfl
  | [], _ :: _, h => False.elim h
  | _ :: _, [], h => False.elim h
  | (_, _) :: _, (_, _) :: _, h => by simp [EntsIn.len h.2.2]
theorem EntsIn.vals {S : Nat → Prop} {w : World} : ∀ {m : List (Value × Value)} {cs : List (ByteArray × List UInt8)}, EntsIn S w m cs → ∀ p ∈ m, ∃ n bs, p.1 = .string n ∧ BytesAt S w p.2 bs
  | [], [], _, _, hp => by simp at hp
  | [], _ :: _, h, _, _ => False.elim h
  | _ :: _, [], h, _, _ => False.elim h
  | (k, v) :: m, (n, bs) :: cs, h, p, hp => by
    rcases List.mem_cons.1 hp with rfl | hp
    · exact ⟨n, bs, h.1, h.2.1⟩
    · exact EntsIn.vals h.2.2 p hp
theorem ContIn.at {S : Nat → Prop} {w : World} {cv : Value} {cs : List (ByteArray × List UInt8)} (h : ContIn S w cv cs) : ContAt S w cv cs := by
  rcases h with h | ⟨b, es, clock, h1, h2, h3, h4, h5, h6, h7⟩
  · exact .inl h
  · refine .inr ⟨b, _, h1, h2, ⟨es, clock, h3, rfl, ?_, ?_⟩, h7⟩
    · rw [List.map_map]
      exact h5.2.2
    · intro p hp
      obtain ⟨x, hx, rfl⟩ := List.mem_map.1 hp
      exact h6 x hx
theorem ContIn.below {S : Nat → Prop} {w w' : World} {cv : Value} {cs : List (ByteArray × List UInt8)} (h : ContIn S w cv cs) (hb : Below w.heap.size w w') : ContIn S w' cv cs := by
  rcases h with h | ⟨b, es, clock, h1, h2, h3, h4, h5, h6, h7⟩
  · exact .inl h
  · exact .inr ⟨b, es, clock, h1, h2, (hb.block b (Array.getElem?_eq_some_iff.1 h3).1).trans h3, h4, h5, h6, h7.mono (fun v bs hv => RowAt.below hv (by omega) hb)⟩
theorem ContIn.owns {S : Nat → Prop} {w : World} {b : Nat} {cs : List (ByteArray × List UInt8)} (h : ContIn S w (.map (some b)) cs) : b < w.heap.size ∧ ∃ es clock, w.heap[b]? = some (.map es clock) ∧ es.size = cs.length ∧ ∃ D, w.ownsMap (H := Unit) Tryz.prog 9 readS b es.size D := by
  rcases h with ⟨h, _⟩ | ⟨b', es, clock, h1, h2, h3, h4, h5, h6, h7⟩
  · cases h
  · cases h1
    have hF : WideElems.Fit Tryz.prog 9 readS es clock := ⟨h4, h5, fun x hx => by
      obtain ⟨l, hl⟩ := h6 x hx
      obtain ⟨n, bs, _, hb⟩ := h7.vals (x.key, x.val) (List.mem_map.2 ⟨x, hx, rfl⟩)
      obtain ⟨_, a, cap, hv, _⟩ := hb
      simp only at hv
      simp [WideElems.rd, hl, hv, readS]⟩
    have hs : es.size = cs.length := by have := h7.len; simpa using this
    exact ⟨(Array.getElem?_eq_some_iff.1 h3).1, es, clock, h3, hs, _, ⟨es, clock, h3, hF, Nat.le_refl _, rfl⟩⟩
theorem run_len_map {w : World} {b : Nat} {es : Array MapEntry} {clock : Nat} (hb : w.heap[b]? = some (.map es clock)) (ty : TypeId) : (Builtin.len_ #[23] ty #[.map (some b)]).run Tryz.prog w = .ok (.int .i64 (es.size : Int)) w := by
  simp [Builtin.len_, run_underlying Tryz.underlying23, MapKept.run_getObj_map hb, goInt, Result.andThen]
def LenR (c : List Value) (n : Nat) : Prop := ∃ a cap, c = [.slice a n cap] ∧ n ≤ cap ∧ cap ≤ maxLen
theorem LenR.len (c : List Value) (n : Nat) (h : LenR c n) : c.length = 1 := by obtain ⟨a, cap, rfl, _⟩ := h; rfl
def LensAt (S : Nat → Prop) (w : World) (v : Value) (l : List Nat) : Prop := SeqAt S w 1 LenR v l
def FewRes (cs : List (ByteArray × List UInt8)) (lens : List Nat) (w : World) (e : Ending) (w' : World) : Prop := ∃ b, e = .returned (.bool b) ∧ Below w.heap.size w w' ∧ (b = true → (∀ n ∈ lens, n ≤ 6) ∧ cs.length ≤ 80)
theorem lens_at {S : Nat → Prop} {w w' : World} {a : Option Addr} {n cap : Nat} {ls : List Nat} (hv : LensAt S w (.slice a n cap) ls) (hb : Below w.heap.size w w') {k m : Nat} (hl : ls[k]? = some m) :
    ∃ b o ca cc, a = some ⟨b, o, none⟩ ∧ w'.cell? ⟨b, o + k, none⟩ = some (.slice ca m cc) ∧ m ≤ cc ∧ cc ≤ maxLen := by
  obtain ⟨a', cap', hv', _, _, hx⟩ := SeqAt.shape hv LenR.len
  cases hv'
  obtain ⟨b, o, c, rfl, hS, ⟨ca, cc, rfl, h1, h2⟩, _, hcl⟩ := hx k m hl
  have q0 := hcl 0 (by omega)
  simp only [List.getElem?_cons_zero, Nat.mul_one, Nat.add_zero] at q0
  exact ⟨b, o, ca, cc, rfl, (hb.cell (block_lt q0)).trans q0, h1, h2⟩
set_option maxRecDepth 100000 in
set_option maxHeartbeats 2000000 in
theorem few_any (S T : Nat → Prop) (cv lv : Value) (cs : List (ByteArray × List UInt8)) (lens : List Nat) (w : World) (hc : ContIn S w cv cs) (hv : LensAt T w lv lens) : Calls Tryz.prog 8 #[cv, lv] w (FewRes cs lens w) := by
  obtain ⟨a, cap, rfl, hcp, hm, -⟩ := SeqAt.shape hv LenR.len
  unfold maxLen at hm
  have HC := Lib.hid hc
  have HV := Lib.hid hv
  clear hc hv
  go_enter Tryz.func8, Tryz.ntmps8
  go_wp2_with fail
  go_loop [5] (fun i => ∃ k : Nat, k ≤ lens.length ∧ i = .int .i64 k ∧ ∀ n ∈ lens.take k, n ≤ 6) (fun i => lens.length - (intOf i).toNat)
  case atStart => exact ⟨0, Nat.zero_le _, rfl, by simp⟩
  case round =>
    obtain ⟨k, hk, rfl, h6⟩ := hrel
    have H6 := Lib.hid h6
    clear h6
    by_cases hlt : k < lens.length
    · obtain ⟨m, hmm⟩ : ∃ m, lens[k]? = some m := ⟨lens[k], by simp [hlt]⟩
      obtain ⟨b, o, ca, cc, rfl, q0, hc1, hc2⟩ := lens_at HV.out (Below.refl _ _) hmm
      unfold maxLen at hc2
      have HMM := Lib.hid hmm
      clear hmm
      by_cases hm6 : 6 < m
      · go_wp2_with fail
        go_ret
        exact ⟨false, rfl, Below.refl _ _, fun h => by cases h⟩
      · have HT := Lib.hid (show ∀ n ∈ lens.take (k + 1), n ≤ 6 by
          rw [take_snoc' HMM.out]
          intro n hn
          rcases List.mem_append.1 hn with hn | hn
          · exact H6.out n hn
          · simp only [List.mem_singleton] at hn; subst hn; omega)
        go_wp2_with fail
        go_round
        case rel => exact ⟨k + 1, by omega, by go_num, HT.out⟩
        case measure => simp [intOf]; omega
    · obtain rfl : k = lens.length := by omega
      have HL := Lib.hid (show ∀ n ∈ lens, n ≤ 6 by have := H6.out; rwa [List.take_of_length_le (Nat.le_refl _)] at this)
      have hcx := HC.out
      rcases id hcx with ⟨rfl, rfl⟩ | ⟨mb, _, _, rfl, _⟩
      · have hr := fun (w : World) => run_range_nilMap (P := Tryz.prog) w 23 9 58 Tryz.underlying23
        have hn := fun (w : World) (ty : TypeId) (a b : Nat) (s : Array Nat) => run_next_nilMap (P := Tryz.prog) w ty a b s
        have hln := fun (w : World) (ty : TypeId) => Maps.len_nil (P := Tryz.prog) (w := w) (k := 9) (e := 58) Tryz.underlying23 ty
        clear hcx
        go_wp2_with fail
        go_loopw [6] (fun n wr => n = .int .i64 0 ∧ wr = w.alloc (.mapIter none 0 #[] 0)) (fun _ _ => 0)
        case atStart => exact ⟨rfl, rfl⟩
        case round =>
          obtain ⟨rfl, rfl⟩ := hrel
          go_wp2_with fail
          go_ret
          exact ⟨_, rfl, (Below.refl _ _).alloc (Nat.le_refl _) _, fun _ => ⟨HL.out, by simp⟩⟩
      · obtain ⟨hmb, es, clock, hes, hsz, D, hown⟩ := ContIn.owns hcx
        have HES := Lib.hid hes
        have HSZ := Lib.hid hsz
        have HOWN := Lib.hid hown
        clear hcx hes hsz hown
        go_wp2_with (at_range; go_must (refine wpList_range_own _ rfl _ 23 rfl 9 58 lawStr Tryz.underlying23 readS mb es.size D rfl HOWN.out ?_); intro w0 hrg0 hg0 hs0)
        have HR0 := Lib.hid hrg0
        have HB0 := Lib.hid (show Below w.heap.size w w0 from ⟨hg0.os, hg0.tape, hg0.output, hg0.size, fun k hk => hg0.block k hk (by simp)⟩)
        clear hrg0 hg0 hs0
        try go_frame
        go_loopw [6] (fun n wr => ∃ x left cnt, n = .int .i64 x ∧ wr.ranges Tryz.prog 9 readS mb w.heap.size es.size D left cnt ∧ Below w.heap.size w wr) (fun _ wr => wr.rangeLeft mb w.heap.size)
        case atStart => exact ⟨0, _, _, rfl, HR0.out, HB0.out⟩
        case round =>
          obtain ⟨x, left, cnt, rfl, hrg, hb⟩ := hrel
          have HRG := Lib.hid hrg
          have HB := Lib.hid hb
          have hlm := fun (ty : TypeId) => run_len_map ((hb.block mb hmb).trans HES.out) ty
          clear hrg hb HR0 HB0
          go_wp2_with (at_next; go_must (refine wpList_next_ranges _ rfl _ rfl 9 lawStr readS Value.string (fun c : Option Addr × Nat × Nat => Value.slice c.1 c.2.1 c.2.2) (fun key kl h => by cases key <;> simp [keyOf, Tryz.underlying9, mapKey] at h; exact ⟨_, rfl⟩) (fun v y h => by cases v <;> simp [readS] at h; exact ⟨(_, _, _), rfl⟩) mb w.heap.size es.size D left cnt rfl HRG.out ?_ ?_))
          · intro _ _
            by_cases he : es.size ≤ 80
            · go_wp2_with fail
              go_ret
              exact ⟨_, rfl, HB.out, fun _ => ⟨HL.out, by rw [← HSZ.out]; exact he⟩⟩
            · go_wp2_with fail
              go_ret
              exact ⟨false, rfl, HB.out, fun h => by cases h⟩
          · intro key ca cn cc kl y1 y2 w1 cnt1 _ _ _ _ hrg1 hlt1 hg1 hs1 hen
            have HB1 := Lib.hid (show Below w.heap.size w w1 from HB.out.grown hg1 HB.out.size (fun k hk => by cases hk; exact Nat.le_refl _))
            have HRG1 := Lib.hid hrg1
            clear hrg1 hg1 hs1 hlm
            go_wp2_with fail
            go_roundw
            case rel => exact ⟨_, _, cnt1, rfl, HRG1.out, HB1.out⟩
            case measure => rw [HRG1.out.left_eq, HRG.out.left_eq]; omega

end Go.Proofs.YtndgmcggckpgfaaGreatDoor

/- Contracts of the reference of package manifest: Node. -/
namespace Go.Proofs.YtndgmcggckpgfaaGreatDoor
open Go.RowKit


def itVals (it : Item) : List RVal :=
  [textV it.name, numV it.kind, numV it.mode, numV it.time] ++
    (if it.kind = 1 then countV it.chunks.length :: it.chunks.flatMap refVals else if it.kind = 2 then refVals it.node else [textV it.link])
def valsTo (l : List Item) (k : Nat) : List RVal := countV l.length :: (l.take k).flatMap itVals
def nodeVals (l : List Item) : List RVal := countV l.length :: l.flatMap itVals
theorem valsTo_snoc {l : List Item} {k : Nat} {it : Item} (h : l[k]? = some it) : valsTo l (k + 1) = valsTo l k ++ itVals it := by
  unfold valsTo
  obtain ⟨hk, rfl⟩ := List.getElem?_eq_some_iff.1 h
  rw [List.take_succ_eq_append_getElem hk, List.flatMap_append]; simp
theorem valsTo_all (l : List Item) : valsTo l l.length = nodeVals l := by unfold valsTo nodeVals; rw [List.take_of_length_le (Nat.le_refl _)]
theorem valsTo_le (l : List Item) (k : Nat) : (valsTo l k).length ≤ (nodeVals l).length := by
  unfold valsTo nodeVals
  have h : l.flatMap itVals = (l.take k).flatMap itVals ++ (l.drop k).flatMap itVals := by rw [← List.flatMap_append, List.take_append_drop]
  rw [h]
  simp
/-- The strings of an item are short. -/
structure ItSmall (it : Item) : Prop where
  nm : it.name.size ≤ 65536
  lk : it.link.size ≤ 65536
  nd : it.node.name.size ≤ 65536
  ch : ∀ c ∈ it.chunks, c.name.size ≤ 65536
def nodeB (l : List Item) : List UInt8 := match encP (nodeVals l) with
  | .error _ => []
  | .ok b => b
structure NdAt (w : World) (xb : Nat) (cs : Array Value) (wq : World) (lv : Value) (vals : List RVal) : Prop where
  row : wq.ownsRow w.heap.size 91 6 lv vals.length (vals.flatMap rvC)
  box : wq.heap[xb]? = some (.cells cs 76 (0, 0))
  below : Below w.heap.size w wq
section
variable {w wq w' : World} {xb : Nat} {cs : Array Value} {lv v' : Value} {vals news : List RVal}
theorem NdAt.next (h : NdAt w xb cs wq lv vals) (hb : Below wq.heap.size wq w') : NdAt w xb cs w' lv vals :=
  ⟨owns_below h.row hb, (hb.block xb (lt_of_block h.box)).trans h.box, below_next h.below hb⟩
theorem NdAt.app (h : NdAt w xb cs wq lv vals) (ho : w'.ownsRow w.heap.size 91 6 v' (vals.length + news.length) (vals.flatMap rvC ++ news.flatMap rvC)) (hg : wq.grownBy w' lv.ownBlock) : NdAt w xb cs w' v' (vals ++ news) := by
  refine ⟨by rw [List.length_append, List.flatMap_append]; exact ho, (hg.block xb (lt_of_block h.box) (fun e => ?_)).trans h.box, below_grown h.below h.row hg (Nat.le_refl _) h.below.size⟩
  obtain ⟨c, hc⟩ := owns_cells h.row e.symm
  have := h.box.symm.trans hc
  simp at this
end
theorem Tryz.appVals : AppTy Tryz.prog 92 91 6 56 := AppTy.mk' (z := .agg #[.int .i64 0, .int .u64 0, .int .i64 0, .bool false, .string ⟨#[]⟩, .int .i64 0]) Tryz.underlying92 (by kernel_rfl) rfl (by decide) (by decide)
theorem rvC_one {l : List RVal} : ∀ u ∈ l.flatMap rvC, u.oneCell' = true := by
  intro u hu
  obtain ⟨x, _, hx⟩ := List.mem_flatMap.1 hu
  simp only [rvC, List.mem_cons, List.not_mem_nil, or_false] at hx
  rcases hx with rfl | rfl | rfl | rfl | rfl | rfl <;> rfl
theorem rvC_len : ∀ (l : List RVal), (l.flatMap rvC).length = l.length * 6
  | [] => rfl
  | x :: l => by rw [List.flatMap_cons, List.length_append, rvC_len l, List.length_cons]; simp [rvC]; omega
theorem ItemsAt.lts {S : Nat → Prop} {w : World} {v : Value} {l : List Item} (h : ItemsAt S w v l) : ItemsAt (· < w.heap.size) w v l := by
  obtain ⟨cells, hr, hin⟩ := h
  exact ⟨cells, hr.mono (fun k hk hS => hk) (by omega), hin.mono (fun c x _ ⟨cv, h1, ⟨cells, h2, h3⟩, h4⟩ => ⟨cv, h1, ⟨cells, h2.mono (fun k hk _ => hk) (by omega), h3⟩, h4⟩)⟩
theorem refVals_len : ∀ (l : List Ref), (l.flatMap refVals).length = 3 * l.length
  | [] => rfl
  | x :: l => by rw [List.flatMap_cons, List.length_append, refVals_len l, List.length_cons]; simp [refVals]; omega
def hd4 (it : Item) : List RVal := [textV it.name, numV it.kind, numV it.mode, numV it.time]
theorem itVals_file {it : Item} (h : it.kind = 1) : itVals it = hd4 it ++ (countV it.chunks.length :: it.chunks.flatMap refVals) := by unfold itVals hd4; rw [if_pos h]
theorem itVals_dir {it : Item} (h : it.kind = 2) : itVals it = hd4 it ++ refVals it.node := by unfold itVals hd4; rw [if_neg (by omega), if_pos h]
theorem itVals_link {it : Item} (h1 : ¬ it.kind = 1) (h2 : ¬ it.kind = 2) : itVals it = hd4 it ++ [textV it.link] := by unfold itVals hd4; rw [if_neg h1, if_neg h2]
theorem hd4_len (it : Item) : (hd4 it).length = 4 := rfl
theorem itVals_ok {it : Item} (h : ItSmall it) (hc : it.chunks.length ≤ 1000000) : ∀ x ∈ itVals it, RvOk x := by
  intro x hx
  unfold itVals at hx
  rcases List.mem_append.1 hx with hx | hx
  · simp only [List.mem_cons, List.not_mem_nil, or_false] at hx
    rcases hx with rfl | rfl | rfl | rfl
    · exact textV_ok h.nm
    · exact numV_ok _
    · exact numV_ok _
    · exact numV_ok _
  · split at hx
    · rcases List.mem_cons.1 hx with rfl | hx
      · exact countV_ok hc
      · obtain ⟨c, hc1, hc2⟩ := List.mem_flatMap.1 hx
        exact refVals_ok (h.ch c hc1) x hc2
    · split at hx
      · exact refVals_ok h.nd x hx
      · simp only [List.mem_singleton] at hx; subst hx; exact textV_ok h.lk
theorem nodeVals_ok {l : List Item} (hs : ∀ it ∈ l, ItSmall it) (hl : l.length ≤ 1000000) (hn : (nodeVals l).length ≤ 1000000) : ∀ x ∈ nodeVals l, RvOk x := by
  intro x hx
  unfold nodeVals at hx
  rcases List.mem_cons.1 hx with rfl | hx
  · exact countV_ok hl
  · obtain ⟨it, h1, h2⟩ := List.mem_flatMap.1 hx
    by_cases hk : it.kind = 1
    · refine itVals_ok (hs it h1) ?_ x h2
      have h3 : (itVals it).length ≤ (l.flatMap itVals).length := by
        obtain ⟨a, b, rfl⟩ := List.append_of_mem h1
        rw [List.flatMap_append, List.flatMap_cons, List.length_append, List.length_append]; omega
      have h4 : it.chunks.length ≤ (itVals it).length := by rw [itVals_file hk, List.length_append, List.length_cons, refVals_len]; omega
      unfold nodeVals at hn
      rw [List.length_cons] at hn
      omega
    · unfold itVals at h2
      rw [if_neg hk] at h2
      rcases List.mem_append.1 h2 with hx | hx
      · simp only [List.mem_cons, List.not_mem_nil, or_false] at hx
        rcases hx with rfl | rfl | rfl | rfl
        · exact textV_ok (hs it h1).nm
        · exact numV_ok _
        · exact numV_ok _
        · exact numV_ok _
      · split at hx
        · exact refVals_ok (hs it h1).nd x hx
        · simp only [List.mem_singleton] at hx; subst hx; exact textV_ok (hs it h1).lk
theorem rvs_row {S : Nat → Prop} {w : World} {v : Value} {l : List RVal} (h : RvsAt S w v l) : RowAt S w 6 v l.length (l.flatMap rvC) := by
  obtain ⟨cells, h1, h2⟩ := h
  have : ∀ (l : List RVal) (cells : List Value), RowsIn RvR cells l → cells = l.flatMap rvC := by
    intro l
    induction l with
    | nil => intro cells h; exact h
    | cons x l ih =>
      rintro cells ⟨c, rest, rfl, ⟨rfl, _⟩, hr⟩
      rw [ih rest hr]; rfl
  rw [← this l cells h2]; exact h1
def fileTo (v4 : List RVal) (cs : List Ref) (j : Nat) : List RVal := v4 ++ (countV cs.length :: (cs.take j).flatMap refVals)
theorem fileTo_snoc {v4 : List RVal} {cs : List Ref} {j : Nat} {c : Ref} (h : cs[j]? = some c) : fileTo v4 cs (j + 1) = fileTo v4 cs j ++ refVals c := by
  unfold fileTo
  rw [take_snoc' h, List.flatMap_append]; simp
theorem fileTo_all (v4 : List RVal) (cs : List Ref) : fileTo v4 cs cs.length = v4 ++ (countV cs.length :: cs.flatMap refVals) := by unfold fileTo; rw [List.take_of_length_le (Nat.le_refl _)]
theorem fileTo_le (v4 : List RVal) (cs : List Ref) (j : Nat) : (fileTo v4 cs j).length ≤ (v4 ++ (countV cs.length :: cs.flatMap refVals)).length := by
  unfold fileTo
  rw [List.length_append, List.length_append, List.length_cons, List.length_cons, refVals_len, refVals_len, List.length_take]
  omega
def NodeNew (l : List Item) (w : World) (e : Ending) (w' : World) : Prop := ∃ v, e = .returned v ∧ BytesAt (w.heap.size ≤ ·) w' v (nodeB l) ∧ Below w.heap.size w w'
set_option maxRecDepth 100000 in
set_option maxHeartbeats 4000000 in
theorem node24_any (S : Nat → Prop) (v : Value) (l : List Item) (w : World) (hv : ItemsAt S w v l) (hs : ∀ it ∈ l, ItSmall it) (hl : (nodeVals l).length ≤ 1000000) (hll : l.length ≤ 1000000) : Calls Tryz.prog 36 #[v] w (NodeNew l w) := by
  obtain ⟨a, cap, rfl, hc, hm, -⟩ := SeqAt.shape hv ItemR.len
  unfold maxLen at hm
  have HV := Lib.hid hv.lts
  have HS := Lib.hid hs
  have HL := Lib.hid hl
  have HO0 := Lib.hid (World.ownsRow_lit (e := 91) (size := 6) (base := w.heap.size) w #[.int .i64 7, .int .u64 0, .int .i64 (l.length : Int), .bool false, .string ⟨#[]⟩, .int .i64 0] 1 (Nat.le_refl _) (by unfold maxLen; omega) rfl)
  have HB0 := Lib.hid ((Below.refl w.heap.size w).alloc (Nat.le_refl _) (.cells #[.int .i64 7, .int .u64 0, .int .i64 (l.length : Int), .bool false, .string ⟨#[]⟩, .int .i64 0] 91))
  clear hv hs hl
  go_enter Tryz.func36, Tryz.ntmps36
  go_wp2_with fail
  go_loopw [3, 4] (fun lv i wr => ∃ (k : Nat), k ≤ l.length ∧ i = .int .i64 k ∧ wr.ownsRow w.heap.size 91 6 lv (valsTo l k).length ((valsTo l k).flatMap rvC) ∧ Below w.heap.size w wr) (fun _ i _ => l.length - (intOf i).toNat)
  case atStart => exact ⟨0, Nat.zero_le _, rfl, HO0.out, HB0.out⟩
  case round =>
    obtain ⟨k, hk, rfl, hown, hb⟩ := hrel
    have HO := Lib.hid hown
    have HB := Lib.hid hb
    obtain ⟨ao, co, rfl, hn1, hn2⟩ := owns_shape hown
    clear hown hb HO0 HB0
    by_cases hlt : k < l.length
    · obtain ⟨it, hit⟩ : ∃ it, l[k]? = some it := ⟨l[k], by simp [hlt]⟩
      obtain ⟨b, o, ca, cc, rfl, hok, hrf, -, -, hcl⟩ := items_at HV.out HB.out hit
      have HIS := Lib.hid (HS.out it (List.mem_of_getElem? hit))
      have HSN := Lib.hid (valsTo_snoc hit)
      have HLE := Lib.hid (show (valsTo l k ++ itVals it).length ≤ 1000000 by rw [← valsTo_snoc hit]; exact Nat.le_trans (valsTo_le _ _) HL.out)
      have q0 := hcl 0 (by omega)
      have q1 := hcl 1 (by omega)
      have q2 := hcl 2 (by omega)
      have q3 := hcl 3 (by omega)
      have q4 := hcl 4 (by omega)
      have q5 := hcl 5 (by omega)
      have q6 := hcl 6 (by omega)
      have q7 := hcl 7 (by omega)
      have q8 := hcl 8 (by omega)
      have q9 := hcl 9 (by omega)
      simp only [itemC, List.getElem?_cons_zero, List.getElem?_cons_succ, Nat.add_zero] at q0 q1 q2 q3 q4 q5 q6 q7 q8 q9
      obtain ⟨W, hW⟩ : ∃ W : World, W = wr.alloc (.cells #[.string it.name, .int .i64 it.kind, .int .i64 it.mode, .int .i64 it.time, .int .i64 it.size, .string it.link, .slice ca it.chunks.length cc, .string it.node.name, .int .i64 it.node.gen, .int .i64 it.node.size] 76) := ⟨_, rfl⟩
      have HAL := Lib.hid (show Below wr.heap.size wr W by rw [hW]; exact (Below.refl _ _).alloc (Nat.le_refl _) _)
      have HN1 := Lib.hid (show NdAt w wr.heap.size #[.string it.name, .int .i64 it.kind, .int .i64 it.mode, .int .i64 it.time, .int .i64 it.size, .string it.link, .slice ca it.chunks.length cc, .string it.node.name, .int .i64 it.node.gen, .int .i64 it.node.size] W (.slice ao (valsTo l k).length co) (valsTo l k) from ⟨owns_below HO.out HAL.out, by rw [hW]; exact heap_alloc_new wr _, below_next HB.out HAL.out⟩)
      have HRF := Lib.hid hrf
      have hol := hok
      clear hit hcl hok hol hrf
      obtain ⟨vk, hvk⟩ : ∃ vk, vk = valsTo l k := ⟨_, rfl⟩
      rw [← hvk] at HSN HLE HN1 hn1 ⊢
      clear hvk
      go_upto_region 6 with (fail)
      rw [← hW]
      clear hW q0 q1 q2 q3 q4 q5 q6 q7 q8 q9 HO
      refine hld_start (fun w' => w'.cell? ⟨wr.heap.size, 0, none⟩ = some (.string it.name) ∧ w'.cell? ⟨wr.heap.size, 1, none⟩ = some (.int .i64 it.kind) ∧ w'.cell? ⟨wr.heap.size, 2, none⟩ = some (.int .i64 it.mode) ∧ w'.cell? ⟨wr.heap.size, 3, none⟩ = some (.int .i64 it.time)) (by kernel_rfl) ?_
      obtain ⟨W2, hW2⟩ : ∃ W2 : World, W2 = W.drew := ⟨_, rfl⟩
      rw [← hW2]
      have HN2 := Lib.hid (HN1.out.next (show Below W.heap.size W W2 by rw [hW2]; exact (Below.refl _ _).drew))
      clear hW2 HN1
      have c0 := cellH (k := 0) HN2.out.box
      have c1 := cellH (k := 1) HN2.out.box
      have c2 := cellH (k := 2) HN2.out.box
      have c3 := cellH (k := 3) HN2.out.box
      simp only [List.getElem?_toArray, List.getElem?_cons_succ, List.getElem?_cons_zero] at c0 c1 c2 c3
      refine hld_take 0 rfl (by kernel_rfl) (by kernel_rfl) (by kernel_rfl) (fun _ _ _ h => h) rfl (by go_simp) (by rintro w' ⟨hw1, hw2, hw3, hw4⟩; go_simp; rfl) ?_
      simp only [Act.put, List.setIfInBounds_toArray, List.set_cons_succ, List.set_cons_zero]
      refine hld_take 1 rfl (by kernel_rfl) (by kernel_rfl) (by kernel_rfl) (fun _ _ _ h => h) rfl (by go_simp) (by rintro w' ⟨hw1, hw2, hw3, hw4⟩; go_simp; rfl) ?_
      simp only [Act.put, List.setIfInBounds_toArray, List.set_cons_succ, List.set_cons_zero]
      refine hld_take 2 rfl (by kernel_rfl) (by kernel_rfl) (by kernel_rfl) (fun _ _ _ h => h) rfl (by go_simp) (by rintro w' ⟨hw1, hw2, hw3, hw4⟩; go_simp; rfl) ?_
      simp only [Act.put, List.setIfInBounds_toArray, List.set_cons_succ, List.set_cons_zero]
      refine hld_take 3 rfl (by kernel_rfl) (by kernel_rfl) (by kernel_rfl) (fun _ _ _ h => h) rfl (by go_simp) (by rintro w' ⟨hw1, hw2, hw3, hw4⟩; go_simp; rfl) ?_
      simp only [Act.put, List.setIfInBounds_toArray, List.set_cons_succ, List.set_cons_zero]
      refine hld_take 4 rfl (by kernel_rfl) (by kernel_rfl) (by kernel_rfl) (fun _ _ _ h => h) rfl (by go_simp) (by rintro w' ⟨hw1, hw2, hw3, hw4⟩; go_simp; rfl) ?_
      simp only [Act.put, List.setIfInBounds_toArray, List.set_cons_succ, List.set_cons_zero]
      refine hld_take 5 rfl (by kernel_rfl) (by kernel_rfl) (by kernel_rfl) (fun _ _ _ h => h) rfl (by go_simp) (by rintro w' ⟨hw1, hw2, hw3, hw4⟩; go_simp; rfl) ?_
      simp only [Act.put, List.setIfInBounds_toArray, List.set_cons_succ, List.set_cons_zero]
      refine hld_take 7 rfl (by kernel_rfl) (by kernel_rfl) (by kernel_rfl) (fun _ _ _ h => h) rfl (by go_simp) (by rintro w' ⟨hw1, hw2, hw3, hw4⟩; go_simp; rfl) ?_
      simp only [Act.put, List.setIfInBounds_toArray, List.set_cons_succ, List.set_cons_zero]
      refine hld_take 8 rfl (by kernel_rfl) (by kernel_rfl) (by kernel_rfl) (fun _ _ _ h => h) rfl (by go_simp) (by rintro w' ⟨hw1, hw2, hw3, hw4⟩; go_simp; rfl) ?_
      simp only [Act.put, List.setIfInBounds_toArray, List.set_cons_succ, List.set_cons_zero]
      refine hld_take 10 rfl (by kernel_rfl) (by kernel_rfl) (by kernel_rfl) (fun _ _ _ h => h) rfl (by go_simp) (by rintro w' ⟨hw1, hw2, hw3, hw4⟩; go_simp; rfl) ?_
      simp only [Act.put, List.setIfInBounds_toArray, List.set_cons_succ, List.set_cons_zero]
      refine hld_take 11 rfl (by kernel_rfl) (by kernel_rfl) (by kernel_rfl) (fun _ _ _ h => h) rfl (by go_simp) (by rintro w' ⟨hw1, hw2, hw3, hw4⟩; go_simp; rfl) ?_
      simp only [Act.put, List.setIfInBounds_toArray, List.set_cons_succ, List.set_cons_zero]
      refine hld_bar 6 rfl (by kernel_rfl) rfl (fun K hK => ?_)
      go_wp2_with (go_at_call 43; refine (number24_any it.kind _).mono ?_; rintro e w1 ⟨rfl, hb1⟩)
      have HN3 := Lib.hid (HN2.out.next hb1)
      clear hb1 c0 c1 c2 c3
      have c0 := cellH (k := 0) HN3.out.box
      have c1 := cellH (k := 1) HN3.out.box
      have c2 := cellH (k := 2) HN3.out.box
      have c3 := cellH (k := 3) HN3.out.box
      simp only [List.getElem?_toArray, List.getElem?_cons_succ, List.getElem?_cons_zero] at c0 c1 c2 c3
      refine ⟨⟨c0, c1, c2, c3⟩, ?_⟩
      refine hld_bar 9 rfl (by kernel_rfl) rfl (fun K hK => ?_)
      go_wp2_with (go_at_call 43; refine (number24_any it.mode _).mono ?_; rintro e w2 ⟨rfl, hb2⟩)
      have HN4 := Lib.hid (HN3.out.next hb2)
      clear hb2 c0 c1 c2 c3
      have c0 := cellH (k := 0) HN4.out.box
      have c1 := cellH (k := 1) HN4.out.box
      have c2 := cellH (k := 2) HN4.out.box
      have c3 := cellH (k := 3) HN4.out.box
      simp only [List.getElem?_toArray, List.getElem?_cons_succ, List.getElem?_cons_zero] at c0 c1 c2 c3
      refine ⟨⟨c0, c1, c2, c3⟩, ?_⟩
      refine hld_bar 12 rfl (by kernel_rfl) rfl (fun K hK => ?_)
      go_wp2_with (go_at_call 43; refine (number24_any it.time _).mono ?_; rintro e w3 ⟨rfl, hb3⟩)
      have HN5 := Lib.hid (HN4.out.next hb3)
      clear hb3 c0 c1 c2 c3
      have c0 := cellH (k := 0) HN5.out.box
      have c1 := cellH (k := 1) HN5.out.box
      have c2 := cellH (k := 2) HN5.out.box
      have c3 := cellH (k := 3) HN5.out.box
      simp only [List.getElem?_toArray, List.getElem?_cons_succ, List.getElem?_cons_zero] at c0 c1 c2 c3
      refine ⟨⟨c0, c1, c2, c3⟩, ?_⟩
      refine hld_bar 13 rfl (by kernel_rfl) rfl (fun K hK => ?_)
      unfold rvV
      go_wp2_with fail
      have hcells : (#[Value.int .i64 5, .int .u64 0, .int .i64 0, .bool false, .string it.name, .int .i64 0, .int .i64 (numV it.kind).kind, .int .u64 (numV it.kind).u, .int .i64 (numV it.kind).n, .bool (numV it.kind).b, .string (numV it.kind).s, .int .i64 (numV it.kind).most, .int .i64 (numV it.mode).kind, .int .u64 (numV it.mode).u, .int .i64 (numV it.mode).n, .bool (numV it.mode).b, .string (numV it.mode).s, .int .i64 (numV it.mode).most, .int .i64 (numV it.time).kind, .int .u64 (numV it.time).u, .int .i64 (numV it.time).n, .bool (numV it.time).b, .string (numV it.time).s, .int .i64 (numV it.time).most] : Array Value) = ((hd4 it).flatMap rvC).toArray := rfl
      rw [hcells]
      obtain ⟨w4, hw4⟩ : ∃ w4 : World, w4 = w3.alloc (.cells ((hd4 it).flatMap rvC).toArray 91) := ⟨_, rfl⟩
      have HN6 := Lib.hid (HN5.out.next (show Below w3.heap.size w3 w4 by rw [hw4]; exact (Below.refl _ _).alloc (Nat.le_refl _) _))
      have HNW := Lib.hid (show RowAt (w.heap.size ≤ ·) w4 6 (.slice (some ⟨w3.heap.size, 0, none⟩) 4 4) 4 ((hd4 it).flatMap rvC) by
        have h1 := row_of_owns (World.ownsRow_lit (base := w3.heap.size) (e := 91) (size := 6) w3 ((hd4 it).flatMap rvC).toArray 4 (Nat.le_refl _) (by unfold maxLen; omega) rfl)
        rw [hw4]
        exact h1.weak (fun k hk => Nat.le_trans HN5.out.below.size hk.1))
      rw [← hw4]
      clear hw4 hcells HN2 HN3 HN4 HN5 c0 c1 c2 c3
      have c0 := cellH (k := 0) HN6.out.box
      have c1 := cellH (k := 1) HN6.out.box
      have c2 := cellH (k := 2) HN6.out.box
      have c3 := cellH (k := 3) HN6.out.box
      simp only [List.getElem?_toArray, List.getElem?_cons_succ, List.getElem?_cons_zero] at c0 c1 c2 c3
      have hll2 : vk.length + 4 ≤ 1000000 := by
        have h1 := HLE.out
        rw [List.length_append] at h1
        have h2 : 4 ≤ (itVals it).length := by unfold itVals; simp
        omega
      have hbz := HN6.out.below.size
      refine ⟨⟨c0, c1, c2, c3⟩, ?_⟩
      refine hld_bar 14 rfl (by kernel_rfl) rfl (fun K hK => ?_)
      go_wp2_with (at_builtin; go_must (refine wpList_appn Tryz.appVals rfl _ _ rfl w.heap.size (.slice ao vk.length co) vk.length (vk.flatMap rvC) rfl HN6.out.row _ 4 ((hd4 it).flatMap rvC) rfl HNW.out rvC_one (by omega) hbz ?_); intro v' wc hown' hgrow')
      have h7 := HN6.out.app (news := hd4 it) hown' hgrow'
      obtain ⟨v4, hv4e⟩ : ∃ v4, v4 = vk ++ hd4 it := ⟨_, rfl⟩
      rw [← hv4e] at h7
      have HN7 := Lib.hid h7
      have HV4 := Lib.hid hv4e
      have hv4 : v4.length ≤ 1000000 := by rw [hv4e, List.length_append, hd4_len]; omega
      clear h7 hv4e
      obtain ⟨a7, c7', rfl, -, -⟩ := owns_shape HN7.out.row
      clear hown' hgrow' c0 c1 c2 c3 HNW HN6 hbz
      have c0 := cellH (k := 0) HN7.out.box
      have c1 := cellH (k := 1) HN7.out.box
      have c2 := cellH (k := 2) HN7.out.box
      have c3 := cellH (k := 3) HN7.out.box
      simp only [List.getElem?_toArray, List.getElem?_cons_succ, List.getElem?_cons_zero] at c0 c1 c2 c3
      refine ⟨⟨c0, c1, c2, c3⟩, ?_⟩
      refine hld_take 15 rfl (by kernel_rfl) (by kernel_rfl) (by kernel_rfl) (fun _ _ _ h => h) rfl (by go_simp) (by rintro w' ⟨hw1, hw2, hw3, hw4⟩; go_simp; rfl) ?_
      simp only [Act.put, List.setIfInBounds_toArray, List.set_cons_succ, List.set_cons_zero]
      refine hld_done (by kernel_rfl) ?_
      clear c0 c1 c2 c3
      have hbz := HN7.out.below.size
      by_cases hk1 : it.kind = 1
      · have HIV := Lib.hid (show vk ++ itVals it = v4 ++ (countV it.chunks.length :: it.chunks.flatMap refVals) by rw [itVals_file hk1, HV4.out, List.append_assoc])
        have HFL := Lib.hid (show ∀ j, (fileTo v4 it.chunks j).length ≤ 1000000 from fun j => Nat.le_trans (fileTo_le v4 it.chunks j) (by rw [← HIV.out]; exact HLE.out))
        obtain ⟨_, _, hcv, hcc1, hcc2, -⟩ := SeqAt.shape HRF.out RefR.len
        cases hcv
        unfold maxLen at hcc2
        have e1 : (it.kind == 1) = true := by simpa using hk1
        clear hk1
        have c0 := cellH (k := 0) HN7.out.box
        have c1 := cellH (k := 1) HN7.out.box
        have c2 := cellH (k := 2) HN7.out.box
        have c3 := cellH (k := 3) HN7.out.box
        have c4 := cellH (k := 4) HN7.out.box
        have c5 := cellH (k := 5) HN7.out.box
        have c6 := cellH (k := 6) HN7.out.box
        have c7 := cellH (k := 7) HN7.out.box
        have c8 := cellH (k := 8) HN7.out.box
        have c9 := cellH (k := 9) HN7.out.box
        simp only [List.getElem?_toArray, List.getElem?_cons_succ, List.getElem?_cons_zero] at c0 c1 c2 c3 c4 c5 c6 c7 c8 c9
        go_wp2_with (at_builtin; go_must (refine wpList_app1 Tryz.appVals rfl _ _ rfl w.heap.size (.slice a7 v4.length c7') v4.length (v4.flatMap rvC) rfl wc (rvC (countV it.chunks.length)) _ rfl rfl (by have := rvC_one (l := [countV it.chunks.length]); simpa using this) HN7.out.row (by omega) hbz ?_); intro v' wd hown' hgrow' _; have h8 := HN7.out.app (news := [countV it.chunks.length]) (by simpa using hown') hgrow'; have HN8 := Lib.hid (show NdAt w wr.heap.size _ wd v' (fileTo v4 it.chunks 0) from h8); obtain ⟨a8, c8', rfl, -, -⟩ := owns_shape HN8.out.row; clear hown' hgrow' h8)
        clear c0 c1 c2 c3 c4 c5 c6 c7 c8 c9
        obtain ⟨wo, hwo⟩ : ∃ wo : World, wo = wr := ⟨_, rfl⟩
        subst hwo
        go_loopw [3, 6] (fun lv i wq => ∃ j : Nat, j ≤ it.chunks.length ∧ i = .int .i64 j ∧ NdAt w wo.heap.size #[.string it.name, .int .i64 it.kind, .int .i64 it.mode, .int .i64 it.time, .int .i64 it.size, .string it.link, .slice ca it.chunks.length cc, .string it.node.name, .int .i64 it.node.gen, .int .i64 it.node.size] wq lv (fileTo v4 it.chunks j)) (fun _ i _ => it.chunks.length - (intOf i).toNat)
        case atStart => exact ⟨0, Nat.zero_le _, rfl, HN8.out⟩
        case round =>
          obtain ⟨j, hj, rfl, hnd⟩ := hrel
          have HND := Lib.hid hnd
          have hfl := HFL.out j
          have hbq := hnd.below.size
          obtain ⟨a9, c9', rfl, -, -⟩ := owns_shape hnd.row
          have c6 := cellH (k := 6) hnd.box
          simp only [List.getElem?_toArray, List.getElem?_cons_succ, List.getElem?_cons_zero] at c6
          clear hnd HN8 HN7
          by_cases hlt2 : j < it.chunks.length
          · obtain ⟨c, hc⟩ : ∃ c, it.chunks[j]? = some c := ⟨it.chunks[j], by simp [hlt2]⟩
            have HRQ := Lib.hid (show RefsAt (fun k => k < w.heap.size) wr (.slice ca it.chunks.length cc) it.chunks from RefsAt.same HRF.out (fun k hk hS => ⟨hS, (HND.out.below.block k hS).trans (HB.out.block k hS).symm⟩))
            obtain ⟨b2, o2, rfl, hcok, p0, p1, p2⟩ := refs_at HRQ.out (Below.refl _ _) hc
            have HFS := Lib.hid (fileTo_snoc (v4 := v4) hc)
            have HCN := Lib.hid (HIS.out.ch c (List.mem_of_getElem? hc))
            clear hc hcok
            go_wp2_with fail
            refine (reference24_any c _ HCN.out).mono ?_
            rintro e w8 ⟨rv, rfl, hrv, hb8⟩
            have HN9 := Lib.hid (HND.out.next hb8)
            have HRW := Lib.hid (rvs_row hrv)
            have hbz8 := HN9.out.below.size
            obtain ⟨ra, rc, rfl, -, -, -⟩ := SeqAt.shape hrv RvR.len
            clear hrv hb8 p0 p1 p2 c6
            go_wp2_with (at_builtin; go_must (refine wpList_appn Tryz.appVals rfl _ _ rfl w.heap.size (.slice a9 (fileTo v4 it.chunks j).length c9') (fileTo v4 it.chunks j).length ((fileTo v4 it.chunks j).flatMap rvC) rfl HN9.out.row _ (refVals c).length ((refVals c).flatMap rvC) rfl HRW.out rvC_one (by simp only [refVals, List.length_cons, List.length_nil]; omega) hbz8 ?_); intro v' we hown' hgrow'; have h8 := HN9.out.app (news := refVals c) hown' hgrow'; rw [← HFS.out] at h8; have HNE := Lib.hid h8; obtain ⟨ae, ce, rfl, -, -⟩ := owns_shape h8.row; clear hown' hgrow' h8)
            go_roundw
            case rel => exact ⟨j + 1, by omega, by go_num, HNE.out⟩
            case measure => simp [intOf]; omega
          · obtain rfl : j = it.chunks.length := by omega
            have HFE := Lib.hid (show vk ++ itVals it = fileTo v4 it.chunks it.chunks.length by rw [fileTo_all, HIV.out])
            go_wp2_with fail
            go_roundw
            case rel => exact ⟨k + 1, by omega, by go_num, by rw [HSN.out, HFE.out]; exact HND.out.row, HND.out.below⟩
            case measure => simp [intOf]; omega
      · by_cases hk2 : it.kind = 2
        · have HIV := Lib.hid (show vk ++ itVals it = v4 ++ refVals it.node by rw [itVals_dir hk2, HV4.out, List.append_assoc])
          have e1 : (it.kind == 1) = false := by simpa using hk1
          have e2 : (it.kind == 2) = true := by simpa using hk2
          clear hk1 hk2
          have c0 := cellH (k := 0) HN7.out.box
          have c1 := cellH (k := 1) HN7.out.box
          have c2 := cellH (k := 2) HN7.out.box
          have c3 := cellH (k := 3) HN7.out.box
          have c4 := cellH (k := 4) HN7.out.box
          have c5 := cellH (k := 5) HN7.out.box
          have c6 := cellH (k := 6) HN7.out.box
          have c7 := cellH (k := 7) HN7.out.box
          have c8 := cellH (k := 8) HN7.out.box
          have c9 := cellH (k := 9) HN7.out.box
          simp only [List.getElem?_toArray, List.getElem?_cons_succ, List.getElem?_cons_zero] at c0 c1 c2 c3 c4 c5 c6 c7 c8 c9
          go_wp2_with fail
          refine (reference24_any it.node _ HIS.out.nd).mono ?_
          rintro e w8 ⟨rv, rfl, hrv, hb8⟩
          have HN8 := Lib.hid (HN7.out.next hb8)
          have HRW := Lib.hid (rvs_row hrv)
          have hbz8 := HN8.out.below.size
          obtain ⟨ra, rc, rfl, -, -, -⟩ := SeqAt.shape hrv RvR.len
          clear hrv hb8 c0 c1 c2 c3 c4 c5 c6 c7 c8 c9
          go_wp2_with (at_builtin; go_must (refine wpList_appn Tryz.appVals rfl _ _ rfl w.heap.size (.slice a7 v4.length c7') v4.length (v4.flatMap rvC) rfl HN8.out.row _ (refVals it.node).length ((refVals it.node).flatMap rvC) rfl HRW.out rvC_one (by simp only [refVals, List.length_cons, List.length_nil]; omega) hbz8 ?_); intro v' wd hown' hgrow'; have h8 := HN8.out.app (news := refVals it.node) hown' hgrow'; rw [← HIV.out] at h8; obtain ⟨v8, hv8⟩ : ∃ v8, v8 = vk ++ itVals it := ⟨_, rfl⟩; have HV8 := Lib.hid hv8; rw [← hv8] at h8; have HN9 := Lib.hid h8; obtain ⟨a8, c8', rfl, -, -⟩ := owns_shape h8.row; clear hown' hgrow' h8 hv8)
          go_roundw
          case rel => exact ⟨k + 1, by omega, by go_num, by rw [HSN.out, ← HV8.out]; exact HN9.out.row, HN9.out.below⟩
          case measure => simp [intOf]; omega
        · have HIV := Lib.hid (show vk ++ itVals it = v4 ++ [textV it.link] by rw [itVals_link hk1 hk2, HV4.out, List.append_assoc])
          have e1 : (it.kind == 1) = false := by simpa using hk1
          have e2 : (it.kind == 2) = false := by simpa using hk2
          clear hk1 hk2
          have c0 := cellH (k := 0) HN7.out.box
          have c1 := cellH (k := 1) HN7.out.box
          have c2 := cellH (k := 2) HN7.out.box
          have c3 := cellH (k := 3) HN7.out.box
          have c4 := cellH (k := 4) HN7.out.box
          have c5 := cellH (k := 5) HN7.out.box
          have c6 := cellH (k := 6) HN7.out.box
          have c7 := cellH (k := 7) HN7.out.box
          have c8 := cellH (k := 8) HN7.out.box
          have c9 := cellH (k := 9) HN7.out.box
          simp only [List.getElem?_toArray, List.getElem?_cons_succ, List.getElem?_cons_zero] at c0 c1 c2 c3 c4 c5 c6 c7 c8 c9
          go_wp2_with (at_builtin; go_must (refine wpList_app1 Tryz.appVals rfl _ _ rfl w.heap.size (.slice a7 v4.length c7') v4.length (v4.flatMap rvC) rfl wc (rvC (textV it.link)) _ rfl rfl (by have := rvC_one (l := [textV it.link]); simpa using this) HN7.out.row (by omega) hbz ?_); intro v' wd hown' hgrow' _; have h8 := HN7.out.app (news := [textV it.link]) (by simpa using hown') hgrow'; rw [← HIV.out] at h8; obtain ⟨v8, hv8⟩ : ∃ v8, v8 = vk ++ itVals it := ⟨_, rfl⟩; have HV8 := Lib.hid hv8; rw [← hv8] at h8; have HN8 := Lib.hid h8; obtain ⟨a8, c8', rfl, -, -⟩ := owns_shape h8.row; clear hown' hgrow' h8 hv8)
          go_roundw
          case rel => exact ⟨k + 1, by omega, by go_num, by rw [HSN.out, ← HV8.out]; exact HN8.out.row, HN8.out.below⟩
          case measure => simp [intOf]; omega
    · obtain rfl : k = l.length := by omega
      have HRS := Lib.hid (show RvsAt (fun _ => True) wr (.slice ao (valsTo l l.length).length co) (nodeVals l) by
        have h1 := row_of_owns HO.out
        have h2 := valsTo_all l
        rw [h2] at h1 ⊢
        exact ⟨_, h1.weak (fun _ _ => trivial), rv_rows (nodeVals_ok HS.out (by omega) HL.out)⟩)
      have HLL := HL
      go_wp2_with fail
      refine (encode_any _ _ _ _ HRS.out HLL.out).mono ?_
      rintro e w1 ⟨hb1, hres⟩
      have HB1 := Lib.hid (below_next HB.out hb1)
      have hz := HB.out.size
      clear hb1
      cases hen : encP (nodeVals l) with
      | error x =>
        rw [hen] at hres
        obtain ⟨rfl, hx⟩ := hres
        have HX := Lib.hid (show nodeB l = [] by unfold nodeB; rw [hen])
        clear hen hx
        go_wp2_with fail
        go_ret
        exact ⟨_, rfl, by rw [HX.out]; exact RowAt.nil _ _ _, HB1.out⟩
      | ok bs =>
        rw [hen] at hres
        obtain ⟨v, rfl, hv⟩ := hres
        have HX := Lib.hid (show nodeB l = bs by unfold nodeB; rw [hen])
        have HVB := Lib.hid hv
        obtain ⟨_, va, vc, rfl, hv1, hv2, -⟩ := hv
        clear hen
        go_wp2_with fail
        go_ret
        exact ⟨_, rfl, by rw [HX.out]; exact HVB.out.weak (fun k hk => Nat.le_trans hz hk), HB1.out⟩

end Go.Proofs.YtndgmcggckpgfaaGreatDoor

/- The chapter's example: the region that makes the snapshots and the contents, in every order (printed by gen_ex48.py). -/
namespace Go.Proofs.YtndgmcggckpgfaaGreatDoor
open Go Go.RowKit Go.Maps

def nameB (c : UInt8) : ByteArray := ⟨#[c, 0, 0, 0, 0, 0, 0, 0, 0, 0, 0, 0, 0, 0, 0, 0, 0, 0, 0, 0, 0, 0, 0, 0, 0, 0, 0, 0, 0, 0, 0, c]⟩
theorem nameB_small (c : UInt8) : (nameB c).size ≤ maxLen := show (32 : Nat) ≤ 9223372036854775807 by decide
theorem nameB_ne : ¬ nameB 49 = nameB 50 := by decide +kernel
theorem nameB_ne' : ¬ nameB 50 = nameB 49 := by decide +kernel
def exCells (ol tl : Nat) : Array Value := #[.int .i64 0, .int .i64 0, .int .i64 0, .string (nameB 49), .int .i64 0, .int .i64 (ol : Int), .int .i64 0, .int .i64 0, .string ⟨#[]⟩, .bool false, .int .i64 0, .int .i64 0, .int .i64 0, .string (nameB 50), .int .i64 0, .int .i64 (tl : Int), .int .i64 0, .int .i64 0, .string ⟨#[]⟩, .bool false]
def ExM (w0 wr : World) (mb : Nat) (m : List (Value × Value)) : Prop := w0.heap.size ≤ mb ∧ MapIs Tryz.prog 9 wr mb m
def ExS (w0 wr : World) (sb : Nat) (cs : Array Value) : Prop := w0.heap.size ≤ sb ∧ wr.heap[sb]? = some (.cells cs 62 (0, 0))
theorem ExM.next {w0 wr w1 : World} {mb : Nat} {m : List (Value × Value)} (h : ExM w0 wr mb m) (hb : Below wr.heap.size wr w1) : ExM w0 w1 mb m := ⟨h.1, h.2.same (hb.block mb h.2.lt)⟩
theorem ExS.next {w0 wr w1 : World} {sb : Nat} {cs : Array Value} (h : ExS w0 wr sb cs) (hb : Below wr.heap.size wr w1) : ExS w0 w1 sb cs := ⟨h.1, (hb.block sb (lt_of_block h.2)).trans h.2⟩
theorem ExS.grown {w0 wr w1 : World} {sb mb : Nat} {cs : Array Value} {m : List (Value × Value)} (h : ExS w0 wr sb cs) (hg : wr.grownBy w1 (some mb)) (hm : MapIs Tryz.prog 9 wr mb m) : ExS w0 w1 sb cs :=
  ⟨h.1, (hg.block sb (lt_of_block h.2) (fun e => by
    obtain ⟨es, clock, hh, _⟩ := hm
    cases e
    rw [h.2] at hh; cases hh)).trans h.2⟩
def ExPanic (Q : Exit → Act → World → Prop) : Prop := ∀ c, ∀ (a : Act) (d : Option Tmp) (v : Value) (w : World), Q (.panic c) (a.put d v) w → Q (.panic c) a w
theorem wpList_ins {w : World} {ops : Array Oper} {rest : List Oper} {o : Oper} {a : Act} {Q : Exit → Act → World → Prop} (hg : o.guard = none) (mo x v : Operand) (hop : o.op = Op.insert 23 mo x v) (b : Nat) (m : List (Value × Value)) (h : MapIs Tryz.prog 9 w b m) (hmo : a.eval mo = .map (some b)) (n : ByteArray) (val : Value) (hn : n.size ≤ maxLen) (hx : a.eval x = .string n) (hv : a.eval v = val) (hnew : ∀ p ∈ m, p.1 ≠ Value.string n)
    (hK : ∀ w', MapIs Tryz.prog 9 w' b (m ++ [(.string n, val)]) → w.grownBy w' (some b) → wpList Tryz.prog ops Q rest (a.put o.dst undef) w') : wpList Tryz.prog ops Q (o :: rest) a w := by
  refine wpList_plain hg fun K' hK' => ?_
  obtain ⟨w', hrun, r1, r2⟩ := h.put lawStr Tryz.underlying23 (keyStr hn) hnew val
  unfold Oper.wp
  simp [execOp, hop, hmo, hx, hv, hrun, Result.andThen]
  exact hK' _ _ (hK w' r1 r2)
theorem hld_op {P : Program} {ops : Array Oper} {Q : Exit → Act → World → Prop} {S : World → Prop} {dst : Option Tmp} {op : Op} {ty : TypeId} {pos : String} {aft : Array Edge} {g : Option (Nat × Bool)} {fuel : Nat} {listed : Array Bool} {a : Act} {w : World} (i : Nat) (hi : ops[i]? = some ⟨dst, op, ty, pos, aft, g⟩)
    (hw : Region.wanted ⟨dst, op, ty, pos, aft, g⟩ (yielded ops a.tmps) = true)
    (h : ∀ K : Act → World → Prop, (∀ a w, S w ∧ Hld P ops Q S fuel (listed.setIfInBounds i true) a w → K a w) → wpList P #[] (Exit.then K Q) [⟨dst, op, ty, pos, #[], none⟩] a w) :
    wpOp P ops Q i (fun a' w' => S w' ∧ wpAnyH P .any ops Q S fuel (listed.setIfInBounds i true) a' w') a w := by
  have hb : Bar P ops (fun a' w' => S w' ∧ wpAnyH P .any ops Q S fuel (listed.setIfInBounds i true) a' w') Q [⟨dst, op, ty, pos, aft, g⟩] a w :=
    bar_run hw (fun K hK => h K (fun a w hh => hK a w ⟨hh.1, hh.2.out⟩))
  unfold wpOp
  simp only [hi]
  exact Bar.out hb

def exOps : Array Oper := #[{ dst := some 23, op := Op.call { callee := Callee.value (Operand.func 35), args := #[Operand.const (Value.int IntKind.u8 49)], argTypes := #[5] }, type := 9, pos := "law.go:20", after := #[], guard := none },
  { dst := some 24, op := Op.move (Operand.tmp 4), type := 58, pos := "law.go:20", after := #[], guard := none },
  { dst := some 25, op := Op.call { callee := Callee.builtin Builtin.len, args := #[Operand.tmp 24], argTypes := #[58] }, type := 3, pos := "law.go:20", after := #[{ on := 1, ground := Ground.data }], guard := none },
  { dst := some 26, op := Op.build 43 #[(0, Operand.tmp 23), (2, Operand.tmp 25)], type := 43, pos := "law.go:20", after := #[{ on := 0, ground := Ground.data }, { on := 2, ground := Ground.data }], guard := none },
  { dst := some 27, op := Op.build 62 #[(3, Operand.tmp 26)], type := 62, pos := "law.go:20", after := #[{ on := 3, ground := Ground.data }], guard := none },
  { dst := some 28, op := Op.call { callee := Callee.value (Operand.func 35), args := #[Operand.const (Value.int IntKind.u8 50)], argTypes := #[5] }, type := 9, pos := "law.go:20", after := #[{ on := 0, ground := Ground.chain }], guard := none },
  { dst := some 29, op := Op.move (Operand.tmp 5), type := 58, pos := "law.go:20", after := #[], guard := none },
  { dst := some 30, op := Op.call { callee := Callee.builtin Builtin.len, args := #[Operand.tmp 29], argTypes := #[58] }, type := 3, pos := "law.go:20", after := #[{ on := 6, ground := Ground.data }], guard := none },
  { dst := some 31, op := Op.build 43 #[(0, Operand.tmp 28), (2, Operand.tmp 30)], type := 43, pos := "law.go:20", after := #[{ on := 5, ground := Ground.data }, { on := 7, ground := Ground.data }], guard := none },
  { dst := some 32, op := Op.build 62 #[(3, Operand.tmp 31)], type := 62, pos := "law.go:20", after := #[{ on := 8, ground := Ground.data }], guard := none },
  { dst := some 33, op := Op.buildSlice 22 2 #[(0, Operand.tmp 27), (1, Operand.tmp 32)], type := 22, pos := "law.go:20", after := #[{ on := 4, ground := Ground.data }, { on := 9, ground := Ground.data }], guard := none },
  { dst := some 34, op := Op.makeMap 23 none, type := 23, pos := "law.go:20", after := #[], guard := none },
  { dst := some 35, op := Op.call { callee := Callee.value (Operand.func 35), args := #[Operand.const (Value.int IntKind.u8 49)], argTypes := #[5] }, type := 9, pos := "law.go:20", after := #[{ on := 5, ground := Ground.chain }], guard := none },
  { dst := some 36, op := Op.move (Operand.tmp 4), type := 58, pos := "law.go:20", after := #[{ on := 19, ground := Ground.gcOnly Departure.lateStores }], guard := none },
  { dst := none, op := Op.insert 23 (Operand.tmp 34) (Operand.tmp 35) (Operand.tmp 36), type := 0, pos := "law.go:20", after := #[{ on := 11, ground := Ground.data }, { on := 12, ground := Ground.data }, { on := 13, ground := Ground.data }, { on := 19, ground := Ground.gcOnly Departure.lateStores }], guard := none },
  { dst := some 37, op := Op.call { callee := Callee.value (Operand.func 35), args := #[Operand.const (Value.int IntKind.u8 50)], argTypes := #[5] }, type := 9, pos := "law.go:20", after := #[{ on := 12, ground := Ground.chain }], guard := none },
  { dst := some 38, op := Op.move (Operand.tmp 5), type := 58, pos := "law.go:20", after := #[{ on := 19, ground := Ground.gcOnly Departure.lateStores }], guard := none },
  { dst := none, op := Op.insert 23 (Operand.tmp 34) (Operand.tmp 37) (Operand.tmp 38), type := 0, pos := "law.go:20", after := #[{ on := 11, ground := Ground.data }, { on := 15, ground := Ground.data }, { on := 16, ground := Ground.data }, { on := 19, ground := Ground.gcOnly Departure.lateStores }], guard := none },
  { dst := some 39, op := Op.move (Operand.tmp 34), type := 23, pos := "law.go:20", after := #[{ on := 11, ground := Ground.data }, { on := 12, ground := Ground.data }, { on := 13, ground := Ground.data }, { on := 14, ground := Ground.data }, { on := 15, ground := Ground.data }, { on := 16, ground := Ground.data }, { on := 17, ground := Ground.data }, { on := 19, ground := Ground.gcOnly Departure.lateStores }], guard := none },
  { dst := some 0, op := Op.assign (Operand.tmp 33), type := 22, pos := "law.go:20", after := #[{ on := 10, ground := Ground.data }, { on := 15, ground := Ground.chain }, { on := 0, ground := Ground.phase }, { on := 1, ground := Ground.phase }, { on := 2, ground := Ground.phase }, { on := 3, ground := Ground.phase }, { on := 4, ground := Ground.phase }, { on := 5, ground := Ground.phase }, { on := 6, ground := Ground.phase }, { on := 7, ground := Ground.phase }, { on := 8, ground := Ground.phase }, { on := 9, ground := Ground.phase }, { on := 10, ground := Ground.phase }, { on := 11, ground := Ground.textOnly Departure.lateStoresUnsure }, { on := 12, ground := Ground.textOnly Departure.lateStoresUnsure }, { on := 13, ground := Ground.textOnly Departure.lateStores }, { on := 14, ground := Ground.textOnly Departure.lateStores }, { on := 15, ground := Ground.textOnly Departure.lateStoresUnsure }, { on := 16, ground := Ground.textOnly Departure.lateStores }, { on := 17, ground := Ground.textOnly Departure.lateStores }, { on := 18, ground := Ground.textOnly Departure.lateStores }], guard := none },
  { dst := some 1, op := Op.assign (Operand.tmp 39), type := 23, pos := "law.go:20", after := #[{ on := 18, ground := Ground.data }, { on := 19, ground := Ground.chain }, { on := 0, ground := Ground.phase }, { on := 1, ground := Ground.phase }, { on := 2, ground := Ground.phase }, { on := 3, ground := Ground.phase }, { on := 4, ground := Ground.phase }, { on := 5, ground := Ground.phase }, { on := 6, ground := Ground.phase }, { on := 7, ground := Ground.phase }, { on := 8, ground := Ground.phase }, { on := 9, ground := Ground.phase }, { on := 10, ground := Ground.phase }, { on := 11, ground := Ground.phase }, { on := 12, ground := Ground.phase }, { on := 13, ground := Ground.phase }, { on := 14, ground := Ground.phase }, { on := 15, ground := Ground.phase }, { on := 16, ground := Ground.phase }, { on := 17, ground := Ground.phase }, { on := 18, ground := Ground.phase }, { on := 19, ground := Ground.phase }], guard := none }]
def ExQ (Q : Exit → Act → World → Prop) (w0 : World) (oa : Option Addr) (ol oc : Nat) (ta : Option Addr) (tl tc : Nat) : Prop :=
  ∀ (s2 s3 s6 s7 s8 s9 s10 s11 s12 s13 s14 s15 s16 s17 s18 s19 s20 s21 s22 : Value) (mb sb : Nat) (wr : World) (m : List (Value × Value)), (m = [(.string (nameB 49), .slice oa ol oc), (.string (nameB 50), .slice ta tl tc)] ∨ m = [(.string (nameB 50), .slice ta tl tc), (.string (nameB 49), .slice oa ol oc)]) → Below w0.heap.size w0 wr → ExM w0 wr mb m → ExS w0 wr sb (exCells ol tl) →
    Q .normal ⟨#[.slice (some ⟨sb, 0, none⟩) 2 2, .map (some mb), s2, s3, .slice oa ol oc, .slice ta tl tc, s6, s7, s8, s9, s10, s11, s12, s13, s14, s15, s16, s17, s18, s19, s20, s21, s22, .string (nameB 49), .slice oa ol oc, .int .i64 (ol : Int), .agg #[.string (nameB 49), .int .i64 0, .int .i64 (ol : Int)], .agg #[.int .i64 0, .int .i64 0, .int .i64 0, .string (nameB 49), .int .i64 0, .int .i64 (ol : Int), .int .i64 0, .int .i64 0, .string ⟨#[]⟩, .bool false], .string (nameB 50), .slice ta tl tc, .int .i64 (tl : Int), .agg #[.string (nameB 50), .int .i64 0, .int .i64 (tl : Int)], .agg #[.int .i64 0, .int .i64 0, .int .i64 0, .string (nameB 50), .int .i64 0, .int .i64 (tl : Int), .int .i64 0, .int .i64 0, .string ⟨#[]⟩, .bool false], .slice (some ⟨sb, 0, none⟩) 2 2, .map (some mb), .string (nameB 49), .slice oa ol oc, .string (nameB 50), .slice ta tl tc, .map (some mb)], []⟩ wr
set_option maxRecDepth 100000 in
theorem name49_any (w : World) : Calls Tryz.prog 35 #[.int .u8 49] w fun e w' => e = .returned (.string (nameB 49)) ∧ Below w.heap.size w w' := by
  have HAL := Lib.hid ((Below.refl w.heap.size w).alloc (Nat.le_refl _) (.cells #[.int .u8 49, .int .u8 0, .int .u8 0, .int .u8 0, .int .u8 0, .int .u8 0, .int .u8 0, .int .u8 0, .int .u8 0, .int .u8 0, .int .u8 0, .int .u8 0, .int .u8 0, .int .u8 0, .int .u8 0, .int .u8 0, .int .u8 0, .int .u8 0, .int .u8 0, .int .u8 0, .int .u8 0, .int .u8 0, .int .u8 0, .int .u8 0, .int .u8 0, .int .u8 0, .int .u8 0, .int .u8 0, .int .u8 0, .int .u8 0, .int .u8 0, .int .u8 49] 5))
  have hcv := conv_in (w := w.alloc (.cells #[.int .u8 49, .int .u8 0, .int .u8 0, .int .u8 0, .int .u8 0, .int .u8 0, .int .u8 0, .int .u8 0, .int .u8 0, .int .u8 0, .int .u8 0, .int .u8 0, .int .u8 0, .int .u8 0, .int .u8 0, .int .u8 0, .int .u8 0, .int .u8 0, .int .u8 0, .int .u8 0, .int .u8 0, .int .u8 0, .int .u8 0, .int .u8 0, .int .u8 0, .int .u8 0, .int .u8 0, .int .u8 0, .int .u8 0, .int .u8 0, .int .u8 0, .int .u8 49] 5)) (rb := w.heap.size + 1) (pv := .slice (some ⟨w.heap.size, 0, none⟩) 32 32) (bs := bl (nameB 49)) ⟨w.heap.size, 0, 32, rfl, by decide, by omega, fun j b hj => by
    rw [cellH (heap_alloc_new w _), Nat.zero_add]
    have h2 : ((bl (nameB 49)).map byteV)[j]? = some (byteV b) := by simp [hj]
    rw [List.getElem?_toArray]
    exact h2⟩
  rw [mk_bl] at hcv
  go_enter Tryz.func35, Tryz.ntmps35
  go_wp2_with fail
  go_ret
  exact ⟨rfl, HAL.out⟩
set_option maxRecDepth 100000 in
theorem name50_any (w : World) : Calls Tryz.prog 35 #[.int .u8 50] w fun e w' => e = .returned (.string (nameB 50)) ∧ Below w.heap.size w w' := by
  have HAL := Lib.hid ((Below.refl w.heap.size w).alloc (Nat.le_refl _) (.cells #[.int .u8 50, .int .u8 0, .int .u8 0, .int .u8 0, .int .u8 0, .int .u8 0, .int .u8 0, .int .u8 0, .int .u8 0, .int .u8 0, .int .u8 0, .int .u8 0, .int .u8 0, .int .u8 0, .int .u8 0, .int .u8 0, .int .u8 0, .int .u8 0, .int .u8 0, .int .u8 0, .int .u8 0, .int .u8 0, .int .u8 0, .int .u8 0, .int .u8 0, .int .u8 0, .int .u8 0, .int .u8 0, .int .u8 0, .int .u8 0, .int .u8 0, .int .u8 50] 5))
  have hcv := conv_in (w := w.alloc (.cells #[.int .u8 50, .int .u8 0, .int .u8 0, .int .u8 0, .int .u8 0, .int .u8 0, .int .u8 0, .int .u8 0, .int .u8 0, .int .u8 0, .int .u8 0, .int .u8 0, .int .u8 0, .int .u8 0, .int .u8 0, .int .u8 0, .int .u8 0, .int .u8 0, .int .u8 0, .int .u8 0, .int .u8 0, .int .u8 0, .int .u8 0, .int .u8 0, .int .u8 0, .int .u8 0, .int .u8 0, .int .u8 0, .int .u8 0, .int .u8 0, .int .u8 0, .int .u8 50] 5)) (rb := w.heap.size + 1) (pv := .slice (some ⟨w.heap.size, 0, none⟩) 32 32) (bs := bl (nameB 50)) ⟨w.heap.size, 0, 32, rfl, by decide, by omega, fun j b hj => by
    rw [cellH (heap_alloc_new w _), Nat.zero_add]
    have h2 : ((bl (nameB 50)).map byteV)[j]? = some (byteV b) := by simp [hj]
    rw [List.getElem?_toArray]
    exact h2⟩
  rw [mk_bl] at hcv
  go_enter Tryz.func35, Tryz.ntmps35
  go_wp2_with fail
  go_ret
  exact ⟨rfl, HAL.out⟩
set_option maxRecDepth 100000 in
theorem name97_any (w : World) : Calls Tryz.prog 35 #[.int .u8 97] w fun e w' => e = .returned (.string (nameB 97)) ∧ Below w.heap.size w w' := by
  have HAL := Lib.hid ((Below.refl w.heap.size w).alloc (Nat.le_refl _) (.cells #[.int .u8 97, .int .u8 0, .int .u8 0, .int .u8 0, .int .u8 0, .int .u8 0, .int .u8 0, .int .u8 0, .int .u8 0, .int .u8 0, .int .u8 0, .int .u8 0, .int .u8 0, .int .u8 0, .int .u8 0, .int .u8 0, .int .u8 0, .int .u8 0, .int .u8 0, .int .u8 0, .int .u8 0, .int .u8 0, .int .u8 0, .int .u8 0, .int .u8 0, .int .u8 0, .int .u8 0, .int .u8 0, .int .u8 0, .int .u8 0, .int .u8 0, .int .u8 97] 5))
  have hcv := conv_in (w := w.alloc (.cells #[.int .u8 97, .int .u8 0, .int .u8 0, .int .u8 0, .int .u8 0, .int .u8 0, .int .u8 0, .int .u8 0, .int .u8 0, .int .u8 0, .int .u8 0, .int .u8 0, .int .u8 0, .int .u8 0, .int .u8 0, .int .u8 0, .int .u8 0, .int .u8 0, .int .u8 0, .int .u8 0, .int .u8 0, .int .u8 0, .int .u8 0, .int .u8 0, .int .u8 0, .int .u8 0, .int .u8 0, .int .u8 0, .int .u8 0, .int .u8 0, .int .u8 0, .int .u8 97] 5)) (rb := w.heap.size + 1) (pv := .slice (some ⟨w.heap.size, 0, none⟩) 32 32) (bs := bl (nameB 97)) ⟨w.heap.size, 0, 32, rfl, by decide, by omega, fun j b hj => by
    rw [cellH (heap_alloc_new w _), Nat.zero_add]
    have h2 : ((bl (nameB 97)).map byteV)[j]? = some (byteV b) := by simp [hj]
    rw [List.getElem?_toArray]
    exact h2⟩
  rw [mk_bl] at hcv
  go_enter Tryz.func35, Tryz.ntmps35
  go_wp2_with fail
  go_ret
  exact ⟨rfl, HAL.out⟩
set_option maxRecDepth 100000 in
theorem name98_any (w : World) : Calls Tryz.prog 35 #[.int .u8 98] w fun e w' => e = .returned (.string (nameB 98)) ∧ Below w.heap.size w w' := by
  have HAL := Lib.hid ((Below.refl w.heap.size w).alloc (Nat.le_refl _) (.cells #[.int .u8 98, .int .u8 0, .int .u8 0, .int .u8 0, .int .u8 0, .int .u8 0, .int .u8 0, .int .u8 0, .int .u8 0, .int .u8 0, .int .u8 0, .int .u8 0, .int .u8 0, .int .u8 0, .int .u8 0, .int .u8 0, .int .u8 0, .int .u8 0, .int .u8 0, .int .u8 0, .int .u8 0, .int .u8 0, .int .u8 0, .int .u8 0, .int .u8 0, .int .u8 0, .int .u8 0, .int .u8 0, .int .u8 0, .int .u8 0, .int .u8 0, .int .u8 98] 5))
  have hcv := conv_in (w := w.alloc (.cells #[.int .u8 98, .int .u8 0, .int .u8 0, .int .u8 0, .int .u8 0, .int .u8 0, .int .u8 0, .int .u8 0, .int .u8 0, .int .u8 0, .int .u8 0, .int .u8 0, .int .u8 0, .int .u8 0, .int .u8 0, .int .u8 0, .int .u8 0, .int .u8 0, .int .u8 0, .int .u8 0, .int .u8 0, .int .u8 0, .int .u8 0, .int .u8 0, .int .u8 0, .int .u8 0, .int .u8 0, .int .u8 0, .int .u8 0, .int .u8 0, .int .u8 0, .int .u8 98] 5)) (rb := w.heap.size + 1) (pv := .slice (some ⟨w.heap.size, 0, none⟩) 32 32) (bs := bl (nameB 98)) ⟨w.heap.size, 0, 32, rfl, by decide, by omega, fun j b hj => by
    rw [cellH (heap_alloc_new w _), Nat.zero_add]
    have h2 : ((bl (nameB 98)).map byteV)[j]? = some (byteV b) := by simp [hj]
    rw [List.getElem?_toArray]
    exact h2⟩
  rw [mk_bl] at hcv
  go_enter Tryz.func35, Tryz.ntmps35
  go_wp2_with fail
  go_ret
  exact ⟨rfl, HAL.out⟩

end Go.Proofs.YtndgmcggckpgfaaGreatDoor
