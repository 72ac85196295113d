/- Texts of this proof, one after the other: TreeT, Ent, TreeM, TreeN, TreeO, FtA, App, FtB, FtC, FtD, Segs, Held, FtE, SortS, FtF, FtG, OwnE. -/
import Derived.Test.YtbkhdpocmmjnbaaGreatDoorMA
import Derived.Shelf.Bytes.SlClone
import Derived.Laws.OwnMore
import Derived.Lib.LazyBuf
import Derived.StillTailTactics
import Derived.WalkKit
import Derived.OrdersHeld
import Derived.Deep.RegionHeld
import Derived.Lib.OwnBridge
/- Trees of entries, in plain words: a directory is itself and what lies within the entries in it. -/
namespace Go.Proofs.YtbkhdpocmmjnbaaGreatDoor
open Go.RowKit

theorem parent_cat_of {l d : List UInt8} (h : parentL l = d) (hd : d ≠ []) : ∃ t, l = d ++ 47 :: t := by
  obtain ⟨t, ht⟩ := parent_back (l := l) (by rw [h]; exact hd)
  exact ⟨t, by rw [h] at ht; exact ht⟩
theorem cmp_le_within {s x : List UInt8} {t : List UInt8} (h : x = s ++ t) : cmpL s x ≤ 0 := by rw [h]; exact cmp_app s t
theorem kids_apart {L : List Ent} (h : TOk L) {a b x y : Ent} (ha : a ∈ L) (hb : b ∈ L) (hp : parentL (bl a.path) = parentL (bl b.path)) (hab : cmpE a b < 0) (hx : x ∈ L) (hy : y ∈ L) (hxa : inB a.path x = true) (hyb : inB b.path y = true) : cmpE x y < 0 := by
  have hva := vEnt_path (h.val a ha)
  have hvb := vEnt_path (h.val b hb)
  obtain ⟨t, ht, ht2⟩ := within_rest h hva hx hxa
  obtain ⟨u, hu, _⟩ := within_rest h hvb hy hyb
  have hby : cmpE b y ≤ 0 := cmp_le_within hu
  rcases Int.lt_or_le (cmpE x y) 0 with hlt | hge
  · exact hlt
  exfalso
  have hyx : cmpE y x ≤ 0 := by have := cmpE_neg x y; omega
  have hbx : cmpE b x ≤ 0 := cmpE_le_trans hby hyx
  rcases ht2 with rfl | ⟨r, rfl⟩
  · rw [List.append_nil] at ht
    have : cmpE a x = 0 := cmpE_zero.2 (bl_inj ht.symm)
    have h1 : cmpE x a = 0 := by have := cmpE_neg a x; omega
    have h2 := cmpE_le_trans (b := x) hbx (by omega : cmpE x a ≤ 0)
    have := cmpE_neg a b
    omega
  · rcases cmp_between (bl a.path) (bl b.path) r (by unfold cmpE at hab; omega) (by rw [← ht]; exact hbx) with h1 | ⟨s, h1⟩
    · have := cmpE_zero.2 (bl_inj h1)
      have h3 := cmpE_neg a b
      omega
    · have hl := parent_shorter hva
      rcases below_parent h1 with h2 | ⟨s', h2⟩
      · rw [hp, h2] at hl; omega
      · rw [hp, h2, List.length_append] at hl; omega
/-- Below a directory there is an entry in it. -/
theorem kid_above {L : List Ent} (h : TOk L) {d : ByteArray} : ∀ (n : Nat) {x : Ent}, (bl x.path).length ≤ n → x ∈ L → (bl d = [] ∨ ∃ r, bl x.path = bl d ++ 47 :: r) → ∃ k ∈ L, parentL (bl k.path) = bl d ∧ inB k.path x = true
  | 0, x, hn, hx, _ => by
    have := valid_ne (vEnt_path (h.val x hx))
    exact absurd (List.length_eq_zero_iff.1 (by omega)) this
  | n + 1, x, hn, hx, hd => by
    by_cases hp : parentL (bl x.path) = bl d
    · exact ⟨x, hx, hp, inB_self (h.val x hx)⟩
    · have hpd : parentL (bl x.path) ≠ [] ∧ (bl d = [] ∨ ∃ r, parentL (bl x.path) = bl d ++ 47 :: r) := by
        rcases hd with hd | ⟨r, hr⟩
        · exact ⟨by rw [← hd]; exact hp, .inl hd⟩
        · rcases below_parent hr with h1 | ⟨s, h1⟩
          · exact absurd h1 hp
          · exact ⟨by rw [h1]; simp, .inr ⟨s, h1⟩⟩
      obtain ⟨f, hf, hfp, _⟩ := dirE_zero (h.up x hx) hpd.1
      have hl := parent_shorter (vEnt_path (h.val x hx))
      obtain ⟨k, hk, hk1, hk2⟩ := kid_above h (d := d) n (x := f) (by rw [hfp]; omega) hf (by rw [hfp]; exact hpd.2)
      refine ⟨k, hk, hk1, ?_⟩
      obtain ⟨t, ht⟩ := parent_back hpd.1
      have hvk := vEnt_path (h.val k hk)
      obtain ⟨u, hu, hu2⟩ := within_rest h hvk hf hk2
      refine (inB_form h hvk hx).2 (.inr ?_)
      rw [ht, ← hfp, hu]
      rcases hu2 with rfl | ⟨r, rfl⟩
      · exact ⟨t, by simp⟩
      · exact ⟨r ++ 47 :: t, by simp⟩
theorem kid_below {L : List Ent} (h : TOk L) {d : ByteArray} {k x : Ent} (hk : k ∈ L) (hp : parentL (bl k.path) = bl d) (hx : x ∈ L) (hi : inB k.path x = true) : bl d = [] ∨ ∃ r, bl x.path = bl d ++ 47 :: r := by
  by_cases hd : bl d = []
  · exact .inl hd
  · obtain ⟨t, ht⟩ := parent_cat_of hp hd
    obtain ⟨u, hu, _⟩ := within_rest h (vEnt_path (h.val k hk)) hx hi
    exact .inr ⟨t ++ u, by rw [hu, ht]; simp⟩
def kidsE (L : List Ent) (d : ByteArray) : List Ent := L.filter fun e => decide (parentL (bl e.path) = bl d)
theorem mem_kids {L : List Ent} {d : ByteArray} {e : Ent} : e ∈ kidsE L d ↔ e ∈ L ∧ parentL (bl e.path) = bl d := by simp [kidsE]
theorem list_is {L : List Ent} {d : ByteArray} (h0 : (listP L d).2 = 0) : (d.size ≠ 0 → validP (bl d) = true) ∧ dirE L (bl d) = 0 ∧ (listP L d).1 = kidsE L d := by
  unfold listP at h0 ⊢
  split at h0
  · simp at h0
  rename_i h1
  rw [if_neg h1]
  split at h0
  · rename_i h2; exact absurd h0 h2
  rename_i h2
  rw [if_neg h2]
  exact ⟨fun h => by simpa [h] using h1, Classical.not_not.1 h2, rfl⟩
theorem mem_at_iff {L : List Ent} (h : TOk L) {k x : Ent} (hk : k ∈ L) : x ∈ atP L k.path ↔ x ∈ L ∧ inB k.path x = true := by
  rw [atP_there (findE_mem h.nodup hk), List.mem_filter]
theorem sums_at {L : List Ent} (h : TOk L) {d : ByteArray} (hd : dirE L (bl d) = 0) : atP L d = (findE L d).toList ++ (kidsE L d).flatMap fun k => atP L k.path := by
  have hself : bl d = [] → findE L d = none := fun h0 => find_none_iff.2 (fun e he hc => by
    have := valid_ne (vEnt_path (h.val e he))
    rw [hc] at this
    exact this h0)
  have hlt : ∀ x ∈ (kidsE L d).flatMap fun k => atP L k.path, x ∈ L ∧ (bl d = [] ∨ ∃ r, bl x.path = bl d ++ 47 :: r) := by
    intro x hx
    obtain ⟨k, hk, hxk⟩ := List.mem_flatMap.1 hx
    obtain ⟨hk1, hk2⟩ := mem_kids.1 hk
    obtain ⟨hx1, hx2⟩ := (mem_at_iff h hk1).1 hxk
    exact ⟨hx1, kid_below h hk1 hk2 hx1 hx2⟩
  have hs : SortedE ((findE L d).toList ++ (kidsE L d).flatMap fun k => atP L k.path) := by
    refine List.pairwise_append.2 ⟨by cases findE L d <;> simp, ?_, ?_⟩
    · rw [List.pairwise_flatMap]
      refine ⟨fun k _ => atP_sorted h _, ?_⟩
      have hk : SortedE (kidsE L d) := h.ord.filter _
      refine List.Pairwise.imp_of_mem ?_ hk
      intro a b ha hb hab x hx y hy
      obtain ⟨ha1, ha2⟩ := mem_kids.1 ha
      obtain ⟨hb1, hb2⟩ := mem_kids.1 hb
      obtain ⟨hx1, hx2⟩ := (mem_at_iff h ha1).1 hx
      obtain ⟨hy1, hy2⟩ := (mem_at_iff h hb1).1 hy
      exact kids_apart h ha1 hb1 (ha2.trans hb2.symm) hab hx1 hy1 hx2 hy2
    · intro f hf x hx
      cases hfd : findE L d with
      | none => rw [hfd] at hf; simp at hf
      | some g =>
        rw [hfd] at hf
        simp only [Option.toList_some, List.mem_singleton] at hf
        subst hf
        obtain ⟨hx1, hx2⟩ := hlt x hx
        rcases hx2 with h0 | ⟨r, hr⟩
        · rw [hself h0] at hfd; cases hfd
        · have hp := (findE_some hfd).2
          have h1 : cmpE f x ≤ 0 := cmp_le_within (by rw [hr, hp])
          rcases Int.lt_or_eq_of_le h1 with h2 | h2
          · exact h2
          · exfalso
            have h3 := congrArg bl (cmpE_zero.1 h2)
            rw [hp, hr] at h3
            have := congrArg List.length h3
            simp at this
  refine sorted_perm_eq (atP_sorted h d) hs ?_
  refine (List.perm_ext_iff_of_nodup (nodup_ent (atP_sorted h d).nodup) (nodup_ent hs.nodup)).2 (fun x => ?_)
  constructor
  · intro hx
    have hxL := atP_sub x hx
    rw [List.mem_append, List.mem_flatMap]
    by_cases hxd : x.path = d
    · left
      rw [find_of h.nodup hxL hxd]; simp
    · right
      have hw : bl d = [] ∨ ∃ r, bl x.path = bl d ++ 47 :: r := by
        by_cases h0 : bl d = []
        · exact .inl h0
        · have hi : inB d x = true := by
            have := (List.mem_filter.1 hx).2
            simp only [Bool.and_eq_true] at this
            exact this.1
          rcases (inB_iff h hxL).1 hi with h1 | h1 | ⟨_, h1⟩
          · exact .inl h1
          · exact absurd h1.symm hxd
          · exact .inr h1
      obtain ⟨k, h1, h2, h3⟩ := kid_above h _ (Nat.le_refl _) hxL hw
      exact ⟨k, mem_kids.2 ⟨h1, h2⟩, (mem_at_iff h h1).2 ⟨hxL, h3⟩⟩
  · intro hx
    rcases List.mem_append.1 hx with hx | hx
    · cases hfd : findE L d with
      | none => rw [hfd] at hx; simp at hx
      | some g =>
        rw [hfd] at hx
        simp only [Option.toList_some, List.mem_singleton] at hx
        subst hx
        obtain ⟨h1, h2⟩ := findE_some hfd
        rw [atP_there hfd, List.mem_filter]
        refine ⟨h1, ?_⟩
        have := inB_self (h.val x h1)
        rwa [h2] at this
    · obtain ⟨hx1, hx2⟩ := hlt x hx
      by_cases h0 : bl d = []
      · rw [atP_root h (size_zero.2 h0)]; exact hx1
      · obtain ⟨f, hf1, hf2, _⟩ := dirE_zero hd h0
        have hfd := find_of h.nodup hf1 (bl_inj hf2)
        rw [atP_there hfd, List.mem_filter]
        refine ⟨hx1, ?_⟩
        rcases hx2 with h1 | ⟨r, hr⟩
        · exact absurd h1 h0
        · exact (inB_iff h hx1).2 (.inr (.inr ⟨by rw [← hf2]; exact vEnt_path (h.val f hf1), r, hr⟩))
/- Counting adds up. -/
def addC (a b : Cnt) : Cnt := ⟨a.files + b.files, a.dirs + b.dirs, a.links + b.links, a.bytes + b.bytes⟩
theorem cnt_from : ∀ (l : List Ent) (c : Cnt), l.foldl cntE c = addC c (l.foldl cntE ⟨0, 0, 0, 0⟩)
  | [], c => by simp [addC]
  | e :: l, c => by
    rw [List.foldl_cons, List.foldl_cons, cnt_from l (cntE c e), cnt_from l (cntE ⟨0, 0, 0, 0⟩ e)]
    simp only [addC, cntE, Cnt.mk.injEq]
    omega
theorem cnt_app (a b : List Ent) : cntL (a ++ b) = addC (cntL a) (cntL b) := by
  unfold cntL
  rw [List.foldl_append, cnt_from]
theorem self_cnt {L : List Ent} (h : TOk L) {d : ByteArray} (hd : dirE L (bl d) = 0) : cntL (findE L d).toList = ⟨0, if d.size = 0 then 0 else 1, 0, 0⟩ := by
  by_cases h0 : bl d = []
  · rw [if_pos (size_zero.2 h0), find_none_iff.2 (fun e he hc => by
      have := valid_ne (vEnt_path (h.val e he))
      rw [hc] at this
      exact this h0)]
    rfl
  · rw [if_neg (fun hc => h0 (size_zero.1 hc))]
    obtain ⟨f, hf1, hf2, hf3⟩ := dirE_zero hd h0
    rw [find_of h.nodup hf1 (bl_inj hf2)]
    have := data_file (h.val f hf1) (by omega)
    simp [cntL, cntE, hf3, this]

end Go.Proofs.YtbkhdpocmmjnbaaGreatDoor

/- Entries in memory. -/
namespace Go.Proofs.YtbkhdpocmmjnbaaGreatDoor
open Go.RowKit

def u8V (b : UInt8) : Value := .int .u8 (b.toNat : Int)
def DataAt (S : Nat → Prop) (w : World) (v : Value) (bs : List UInt8) : Prop := RowAt S w 1 v bs.length (bs.map u8V)
theorem DataAt.below {S : Nat → Prop} {w w' : World} {v : Value} {bs : List UInt8} (h : DataAt S w v bs) (hb : Below w.heap.size w w') : DataAt S w' v bs := RowAt.below h (by omega) hb
theorem DataAt.nil (S : Nat → Prop) (w : World) : DataAt S w (.slice none 0 0) [] := RowAt.nil _ _ _
theorem u8_one (bs : List UInt8) : ∀ u ∈ bs.map u8V, u.oneCell' = true := fun u hu => by
  obtain ⟨b, _, rfl⟩ := List.mem_map.1 hu
  rfl
def entV (v : Value) (e : Ent) : Value := .agg #[.string e.path, .int .i64 e.kind, .int .i64 e.mode, .int .i64 e.time, v, .string e.link]
def entC (v : Value) (e : Ent) : List Value := [.string e.path, .int .i64 e.kind, .int .i64 e.mode, .int .i64 e.time, v, .string e.link]
structure EntOk (e : Ent) : Prop where
  pth : e.path.size ≤ maxLen
  lnk : e.link.size ≤ maxLen
  knd : (Lit.int .i64 e.kind).wf = true
  mde : (Lit.int .i64 e.mode).wf = true
  tim : (Lit.int .i64 e.time).wf = true
def EntR (S : Nat → Prop) (w : World) (c : List Value) (e : Ent) : Prop := ∃ v, c = entC v e ∧ DataAt S w v e.data ∧ EntOk e
theorem EntR.len {S : Nat → Prop} {w : World} (c : List Value) (e : Ent) (h : EntR S w c e) : c.length = 6 := by obtain ⟨v, rfl, _⟩ := h; rfl
theorem EntR.below {S : Nat → Prop} {w w' : World} {c : List Value} {e : Ent} (h : EntR S w c e) (hb : Below w.heap.size w w') : EntR S w' c e := by
  obtain ⟨v, h1, h2, h3⟩ := h
  exact ⟨v, h1, h2.below hb, h3⟩
def EntsAt (S : Nat → Prop) (w : World) (v : Value) (l : List Ent) : Prop := SeqAt S w 6 (EntR S w) v l
theorem EntsAt.below {S : Nat → Prop} {w w' : World} {v : Value} {l : List Ent} (h : EntsAt S w v l) (hb : Below w.heap.size w w') : EntsAt S w' v l :=
  SeqAt.below h (by omega) hb (fun _ _ _ hr => hr.below hb)
theorem EntsAt.nil (S : Nat → Prop) (w : World) : EntsAt S w (.slice none 0 0) [] := SeqAt.nil
/-- The six cells of an entry in a row. -/
theorem ents_at {S : Nat → Prop} {w : World} {a : Option Addr} {n cap : Nat} {l : List Ent} (hv : EntsAt S w (.slice a n cap) l) {k : Nat} {e : Ent} (hr : l[k]? = some e) :
    ∃ b o v, a = some ⟨b, o, none⟩ ∧ S b ∧ b < w.heap.size ∧ DataAt S w v e.data ∧ EntOk e ∧ n = l.length ∧ w.cell? ⟨b, o + k * 6, none⟩ = some (.string e.path) ∧ w.cell? ⟨b, o + k * 6 + 1, none⟩ = some (.int .i64 e.kind) ∧ w.cell? ⟨b, o + k * 6 + 2, none⟩ = some (.int .i64 e.mode) ∧ w.cell? ⟨b, o + k * 6 + 3, none⟩ = some (.int .i64 e.time) ∧ w.cell? ⟨b, o + k * 6 + 4, none⟩ = some v ∧ w.cell? ⟨b, o + k * 6 + 5, none⟩ = some (.string e.link) := by
  obtain ⟨a', cap', he, hn, hm, hat⟩ := SeqAt.shape hv EntR.len
  simp only [Value.slice.injEq] at he
  obtain ⟨rfl, rfl, rfl⟩ := he
  obtain ⟨b, o, c, ha, hb, ⟨v, hc, hd, hok⟩, hl, hj⟩ := hat k e hr
  subst hc
  have hc0 := hj 0 (by omega)
  exact ⟨b, o, v, ha, hb, block_lt (hc0.trans rfl), hd, hok, rfl, hc0, by have h := hj 1 (by omega); rwa [← Nat.add_assoc] at h, by have h := hj 2 (by omega); rwa [← Nat.add_assoc] at h, by have h := hj 3 (by omega); rwa [← Nat.add_assoc] at h, by have h := hj 4 (by omega); rwa [← Nat.add_assoc] at h, by have h := hj 5 (by omega); rwa [← Nat.add_assoc] at h⟩

end Go.Proofs.YtbkhdpocmmjnbaaGreatDoor

/- Trees in memory: a map whose values are entries. -/
namespace Go.Proofs.YtbkhdpocmmjnbaaGreatDoor
open Go Go.RowKit Go.Maps

abbrev VEnt := Value × Ent
def pairOf (x : VEnt) : Value × Value := (.string x.2.path, entV x.1 x.2)
theorem lawStr20 : Keyed Tryz.prog 9 := string_keyed Tryz.underlying9
theorem keyStr20 {n : ByteArray} (h : n.size ≤ maxLen) : ∃ l, keyOf Tryz.prog 9 (.string n) = some l := ⟨.string n.data.toList, by simp [keyOf, mapKey, Tryz.underlying9, h]⟩
/-- The map's block holds the entries xs in the order in which they came; their data lie in blocks of S. -/
structure MapE (S : Nat → Prop) (w : World) (mb : Nat) (xs : List VEnt) : Prop where
  map : MapS Tryz.prog 9 w mb (xs.map pairOf)
  dat : ∀ x ∈ xs, DataAt S w x.1 x.2.data ∧ EntOk x.2
  far : ¬ S mb
section
variable {S S' : Nat → Prop} {w w' : World} {mb : Nat} {xs : List VEnt}
theorem map_fst (xs : List VEnt) : (xs.map pairOf).map Prod.fst = (xs.map (fun x => x.2.path)).map Value.string := by
  rw [List.map_map, List.map_map]; rfl
theorem MapE.nodup (h : MapE S w mb xs) : (xs.map (fun x => x.2.path)).Nodup := by
  have := h.map.nodup
  rw [map_fst] at this
  unfold List.Nodup at this ⊢
  rw [List.pairwise_map] at this
  exact this.imp (fun h e => h (by rw [e]))
theorem MapE.nodupE (h : MapE S w mb xs) : ((xs.map Prod.snd).map Ent.path).Nodup := by
  rw [List.map_map]; exact h.nodup
theorem data_grown {v : Value} {bs : List UInt8} (h : DataAt S w v bs) (hf : ¬ S mb) (hg : w.grownBy w' (some mb)) : DataAt S w' v bs := by
  have h2 := RowAt.mono (T := fun k => S k ∧ k < w.heap.size) h (fun k hk hS => ⟨hS, hk⟩) (by omega)
  have h3 := h2.same (w' := w') (fun k hk => hg.block k hk.2 (fun e => hf (by cases e; exact hk.1)))
  obtain ⟨hl, a, cap, hv, hn, hm, h0⟩ := h3
  refine ⟨hl, a, cap, hv, hn, hm, ?_⟩
  rcases h0 with h0 | ⟨b, o, ha, hb, hc⟩
  · exact .inl h0
  · exact .inr ⟨b, o, ha, hb.1, hc⟩
theorem data_mono {v : Value} {bs : List UInt8} (h : DataAt S w v bs) (hs : ∀ k, S k → S' k) : DataAt S' w v bs := RowAt.mono h (fun k _ => hs k) (by omega)
theorem MapE.below (h : MapE S w mb xs) (hb : Below w.heap.size w w') : MapE S w' mb xs :=
  ⟨h.map.same (hb.block mb h.map.lt), fun x hx => ⟨(h.dat x hx).1.below hb, (h.dat x hx).2⟩, h.far⟩
theorem MapE.mono (h : MapE S w mb xs) (hs : ∀ k, S k → S' k) (hf : ¬ S' mb) : MapE S' w mb xs :=
  ⟨h.map, fun x hx => ⟨data_mono (h.dat x hx).1 hs, (h.dat x hx).2⟩, hf⟩
theorem MapE.mem (_ : MapE S w mb xs) {x : VEnt} (hx : x ∈ xs) : (Value.string x.2.path, entV x.1 x.2) ∈ xs.map pairOf := List.mem_map.2 ⟨x, hx, rfl⟩
theorem MapE.new (_ : MapE S w mb xs) {p : ByteArray} (hp : ∀ x ∈ xs, x.2.path ≠ p) : ∀ q ∈ xs.map pairOf, q.1 ≠ Value.string p := by
  intro q hq
  obtain ⟨x, hx, rfl⟩ := List.mem_map.1 hq
  intro e
  simp only [pairOf, Value.string.injEq] at e
  exact hp x hx e
/-- The map grows by an entry. -/
theorem MapE.put (h : MapE S w mb xs) {v : Value} {e : Ent} (hm : MapS Tryz.prog 9 w' mb (xs.map pairOf ++ [(.string e.path, entV v e)])) (hg : w.grownBy w' (some mb)) (hd : DataAt S w v e.data) (he : EntOk e) : MapE S w' mb (xs ++ [(v, e)]) := by
  refine ⟨by rw [List.map_append]; exact hm, fun x hx => ?_, h.far⟩
  rcases List.mem_append.1 hx with hx | hx
  · exact ⟨data_grown (h.dat x hx).1 h.far hg, (h.dat x hx).2⟩
  · rw [List.mem_singleton] at hx
    subst hx
    exact ⟨data_grown hd h.far hg, he⟩
theorem MapE.over {a b : List VEnt} {v0 : Value} {e0 : Ent} (h : MapE S w mb (a ++ (v0, e0) :: b)) {v : Value} {e : Ent} (hm : MapS Tryz.prog 9 w' mb (a.map pairOf ++ (.string e.path, entV v e) :: b.map pairOf)) (hg : w.grownBy w' (some mb)) (hd : DataAt S w v e.data) (he : EntOk e) : MapE S w' mb (a ++ (v, e) :: b) := by
  refine ⟨by rw [List.map_append, List.map_cons]; exact hm, fun x hx => ?_, h.far⟩
  rcases List.mem_append.1 hx with hx | hx
  · have := h.dat x (by simp [hx])
    exact ⟨data_grown this.1 h.far hg, this.2⟩
  · rcases List.mem_cons.1 hx with rfl | hx
    · exact ⟨data_grown hd h.far hg, he⟩
    · have := h.dat x (by simp [hx])
      exact ⟨data_grown this.1 h.far hg, this.2⟩
theorem MapE.del {a b : List VEnt} {x0 : VEnt} (h : MapE S w mb (a ++ x0 :: b)) (hm : MapS Tryz.prog 9 w' mb (a.map pairOf ++ b.map pairOf)) (hg : w.grownBy w' (some mb)) : MapE S w' mb (a ++ b) := by
  refine ⟨by rw [List.map_append]; exact hm, fun x hx => ?_, h.far⟩
  have := h.dat x (by rcases List.mem_append.1 hx with hx | hx <;> simp [hx])
  exact ⟨data_grown this.1 h.far hg, this.2⟩
theorem MapE.made (S : Nat → Prop) (w : World) (hf : ¬ S w.heap.size) : MapE S (w.alloc (.map #[] 0)) w.heap.size [] := ⟨MapS.made w, by simp, hf⟩
end
/-- The entry zero. -/
def zeroE : Value := .agg #[.string ByteArray.empty, .int .i64 0, .int .i64 0, .int .i64 0, .slice none 0 0, .string ByteArray.empty]
/-- A tree: its one cell holds the map; the entries are those of L. -/
structure TreeAt (S : Nat → Prop) (w : World) (tb mb : Nat) (L : List Ent) : Prop where
  cell : w.cell? ⟨tb, 0, none⟩ = some (.map (some mb))
  ne : tb ≠ mb
  far : ¬ S tb
  lt : ∀ k, S k → k < w.heap.size
  ok : TOk L
  ents : ∃ xs, MapE S w mb xs ∧ (xs.map Prod.snd).Perm L
section
variable {S S' : Nat → Prop} {w w' : World} {tb mb : Nat} {L : List Ent}
theorem TreeAt.below (h : TreeAt S w tb mb L) (hb : Below w.heap.size w w') : TreeAt S w' tb mb L := by
  obtain ⟨xs, h1, h2⟩ := h.ents
  exact ⟨(hb.cell (block_lt h.cell)).trans h.cell, h.ne, h.far, fun k hk => Nat.lt_of_lt_of_le (h.lt k hk) hb.size, h.ok, xs, h1.below hb, h2⟩
theorem find_vent {xs : List VEnt} {e : Ent} (h : e ∈ xs.map Prod.snd) : ∃ v, (v, e) ∈ xs := by
  obtain ⟨x, hx, rfl⟩ := List.mem_map.1 h
  exact ⟨x.1, hx⟩
theorem MapE.hit {xs : List VEnt} (h : MapE S w mb xs) {t : TypeId} (ht : Tryz.prog.underlying t = some (.map 9 30)) {v : Value} {e : Ent} (hm : (v, e) ∈ xs) (c : Bool) :
    (Instr.lookup t (.map (some mb)) (.string e.path) c).run Tryz.prog w = .ok (if c then .tuple #[entV v e, .bool true] else entV v e) w :=
  h.map.is.hit lawStr20 ht (keyStr20 (h.dat _ hm).2.pth) (h.mem hm) c
theorem MapE.miss {xs : List VEnt} (h : MapE S w mb xs) {t : TypeId} (ht : Tryz.prog.underlying t = some (.map 9 30)) (hz : (zeroValue 30).run Tryz.prog w = .ok zeroE w) {p : ByteArray} (hp : p.size ≤ maxLen) (hm : ∀ x ∈ xs, x.2.path ≠ p) (c : Bool) :
    (Instr.lookup t (.map (some mb)) (.string p) c).run Tryz.prog w = .ok (if c then .tuple #[zeroE, .bool false] else zeroE) w :=
  h.map.is.miss lawStr20 ht hz (keyStr20 hp) (h.new hm) c
theorem TreeAt.hit (h : TreeAt S w tb mb L) {t : TypeId} (ht : Tryz.prog.underlying t = some (.map 9 30)) {p : ByteArray} (hp : p.size ≤ maxLen) {e : Ent} (hf : findE L p = some e) (c : Bool) :
    ∃ v, (Instr.lookup t (.map (some mb)) (.string p) c).run Tryz.prog w = .ok (if c then .tuple #[entV v e, .bool true] else entV v e) w ∧ DataAt S w v e.data ∧ EntOk e := by
  obtain ⟨xs, hm, hperm⟩ := h.ents
  obtain ⟨h1, h2⟩ := findE_some hf
  obtain ⟨v, hv⟩ := find_vent (hperm.symm.subset h1)
  have := hm.mem hv
  rw [show (v, e).2.path = p from h2] at this
  exact ⟨v, hm.map.is.hit lawStr20 ht (keyStr20 hp) this c, hm.dat _ hv⟩
theorem TreeAt.miss (h : TreeAt S w tb mb L) {t : TypeId} (ht : Tryz.prog.underlying t = some (.map 9 30)) (hz : (zeroValue 30).run Tryz.prog w = .ok zeroE w) {p : ByteArray} (hp : p.size ≤ maxLen) (hf : findE L p = none) (c : Bool) :
    (Instr.lookup t (.map (some mb)) (.string p) c).run Tryz.prog w = .ok (if c then .tuple #[zeroE, .bool false] else zeroE) w := by
  obtain ⟨xs, hm, hperm⟩ := h.ents
  refine hm.map.is.miss lawStr20 ht hz (keyStr20 hp) (hm.new (fun x hx => ?_)) c
  exact findE_none hf x.2 (hperm.subset (List.mem_map.2 ⟨x, hx, rfl⟩))
theorem TreeAt.len (h : TreeAt S w tb mb L) {t : TypeId} (ht : Tryz.prog.underlying t = some (.map 9 30)) (ty : TypeId) : (Builtin.len_ #[t] ty #[.map (some mb)]).run Tryz.prog w = .ok (.int .i64 (L.length : Int)) w := by
  obtain ⟨xs, hm, hperm⟩ := h.ents
  have := hm.map.len ht ty
  rw [List.length_map] at this
  rw [← hperm.length_eq, List.length_map]
  exact this
end

end Go.Proofs.YtbkhdpocmmjnbaaGreatDoor

/- Trees in memory: putting an entry, striking entries out, at the instruction. -/
namespace Go.Proofs.YtbkhdpocmmjnbaaGreatDoor
open Go Go.RowKit Go.Maps

section
variable {S S' : Nat → Prop} {w w' : World} {tb mb : Nat} {L : List Ent} {xs : List VEnt} {t : TypeId}
theorem split_find {xs : List VEnt} {e : Ent} (h : e ∈ xs.map Prod.snd) : ∃ a v b, xs = a ++ (v, e) :: b := by
  obtain ⟨v, hv⟩ := find_vent h
  obtain ⟨a, b, rfl⟩ := List.append_of_mem hv
  exact ⟨a, v, b, rfl⟩
theorem MapE.putRun (h : MapE S w mb xs) (ht : Tryz.prog.underlying t = some (.map 9 30)) {v : Value} {e : Ent} (hn : ∀ x ∈ xs, x.2.path ≠ e.path) (hd : DataAt S w v e.data) (he : EntOk e) :
    ∃ w', (Instr.mapUpdate t (.map (some mb)) (.string e.path) (entV v e)).run Tryz.prog w = .ok () w' ∧ MapE S w' mb (xs ++ [(v, e)]) ∧ w.grownBy w' (some mb) := by
  obtain ⟨w', h1, h2, h3⟩ := h.map.put lawStr20 ht (keyStr20 he.pth) (h.new hn) (entV v e)
  exact ⟨w', h1, h.put h2 h3 hd he, h3⟩
theorem MapE.overRun {a b : List VEnt} {v0 : Value} {e0 : Ent} (h : MapE S w mb (a ++ (v0, e0) :: b)) (ht : Tryz.prog.underlying t = some (.map 9 30)) {v : Value} {e : Ent} (hp : e0.path = e.path) (hd : DataAt S w v e.data) (he : EntOk e) :
    ∃ w', (Instr.mapUpdate t (.map (some mb)) (.string e.path) (entV v e)).run Tryz.prog w = .ok () w' ∧ MapE S w' mb (a ++ (v, e) :: b) ∧ w.grownBy w' (some mb) := by
  have hm := h.map
  rw [List.map_append, List.map_cons, show pairOf (v0, e0) = (.string e.path, entV v0 e0) by unfold pairOf; rw [show (v0, e0).2.path = e.path from hp]] at hm
  obtain ⟨w', h1, h2, h3⟩ := hm.over lawStr20 ht (entV v e)
  exact ⟨w', h1, h.over h2 h3 hd he, h3⟩
theorem MapE.delRun {a b : List VEnt} {x0 : VEnt} (h : MapE S w mb (a ++ x0 :: b)) (ht : Tryz.prog.underlying t = some (.map 9 30)) (ty : TypeId) :
    ∃ w', (Builtin.delete_ #[t, 9] ty #[.map (some mb), .string x0.2.path]).run Tryz.prog w = .ok (.tuple #[]) w' ∧ MapE S w' mb (a ++ b) ∧ w.grownBy w' (some mb) := by
  have hm := h.map
  rw [List.map_append, List.map_cons] at hm
  obtain ⟨w', h1, h2, h3⟩ := MapS.del (key := .string x0.2.path) (old := entV x0.1 x0.2) hm lawStr20 ht ty
  exact ⟨w', h1, h.del h2 h3, h3⟩
theorem filter_split3 {a b : List Ent} {f : Ent} {p : ByteArray} (hn : ((a ++ f :: b).map Ent.path).Nodup) (hp : f.path = p) : (a ++ f :: b).filter (fun x => decide (x.path ≠ p)) = a ++ b := by
  rw [List.map_append, List.map_cons, List.nodup_append] at hn
  obtain ⟨_, h2, h3⟩ := hn
  rw [List.nodup_cons] at h2
  rw [List.filter_append, List.filter_cons]
  have ha : a.filter (fun x => decide (x.path ≠ p)) = a := by
    rw [List.filter_eq_self]
    intro x hx
    simp only [decide_eq_true_eq]
    intro e
    exact h3 x.path (List.mem_map.2 ⟨x, hx, rfl⟩) f.path (by simp) (e.trans hp.symm)
  have hb : b.filter (fun x => decide (x.path ≠ p)) = b := by
    rw [List.filter_eq_self]
    intro x hx
    simp only [decide_eq_true_eq]
    intro e
    exact h2.1 (List.mem_map.2 ⟨x, hx, e.trans hp.symm⟩)
  rw [ha, hb, hp]
  simp
/-- t.entries[e.Path] = e at a tree. -/
theorem TreeAt.put (h : TreeAt S w tb mb L) (ht : Tryz.prog.underlying t = some (.map 9 30)) {v : Value} {e : Ent} (hd : DataAt S w v e.data) (he : EntOk e) (h0 : (putP L e).2 = 0) :
    ∃ w', (Instr.mapUpdate t (.map (some mb)) (.string e.path) (entV v e)).run Tryz.prog w = .ok () w' ∧ TreeAt S w' tb mb (putP L e).1 ∧ w.grownBy w' (some mb) := by
  obtain ⟨xs, hm, hperm⟩ := h.ents
  obtain ⟨_, _, hput, hk⟩ := put_is h0
  have hrest : ∀ (ys : List VEnt) (w' : World), MapE S w' mb ys → (ys.map Prod.snd).Perm (L.filter (fun x => decide (x.path ≠ e.path)) ++ [e]) → w.grownBy w' (some mb) → TreeAt S w' tb mb (putP L e).1 := by
    intro ys w' h1 h2 h3
    refine ⟨h3.cell h.cell (fun e => h.ne (Option.some.inj e)), h.ne, h.far, fun k hk => Nat.lt_of_lt_of_le (h.lt k hk) h3.size, putP_ok h.ok e, ys, h1, ?_⟩
    rw [hput]
    exact h2.trans (sortP_perm _).symm
  rcases hk with ⟨hf, _⟩ | ⟨f, hf, _⟩
  · obtain ⟨w', h1, h2, h3⟩ := hm.putRun ht (v := v) (e := e) (fun x hx => findE_none hf x.2 (hperm.subset (List.mem_map.2 ⟨x, hx, rfl⟩))) hd he
    refine ⟨w', h1, hrest _ _ h2 ?_ h3, h3⟩
    have hfl : L.filter (fun x => decide (x.path ≠ e.path)) = L := by
      rw [List.filter_eq_self]
      intro x hx
      simpa using findE_none hf x hx
    rw [hfl, List.map_append]
    exact hperm.append_right _
  · obtain ⟨hf1, hf2⟩ := findE_some hf
    obtain ⟨a, v0, b, rfl⟩ := split_find (hperm.symm.subset hf1)
    obtain ⟨w', h1, h2, h3⟩ := hm.overRun ht (v := v) (e := e) hf2 hd he
    refine ⟨w', h1, hrest _ _ h2 ?_ h3, h3⟩
    have hn := hm.nodupE
    rw [List.map_append, List.map_cons] at hn hperm
    have h4 := hperm.filter (fun x => decide (x.path ≠ e.path))
    rw [filter_split3 hn hf2] at h4
    rw [List.map_append, List.map_cons]
    refine List.perm_middle.trans ?_
    refine (h4.cons e).trans ?_
    exact (List.perm_append_singleton e _).symm
end
section
variable {P : Program} {w : World} {ops : Array Oper} {rest : List Oper} {o : Oper} {a : Act} {Q : Exit → Act → World → Prop}
/-- m[k] = v by its run. -/
theorem wpList_updRun {Φ : World → Prop} (hg : o.guard = none) (mo x v : Operand) (t : TypeId) (hop : o.op = Op.mapUpdate t mo x v) (mv key val : Value) (hmo : a.eval mo = mv) (hx : a.eval x = key) (hv : a.eval v = val) (hrun : ∃ w', (Instr.mapUpdate t mv key val).run P w = .ok () w' ∧ Φ w')
    (hK : ∀ w', Φ w' → wpList P ops Q rest (a.put o.dst undef) w') : wpList P ops Q (o :: rest) a w := by
  refine wpList_plain hg fun K' hK' => ?_
  obtain ⟨w', hr, h2⟩ := hrun
  unfold Oper.wp
  simp [execOp, hop, hmo, hx, hv, hr, Result.andThen]
  exact hK' _ _ (hK w' h2)
theorem wpList_delRun {Φ : World → Prop} (hg : o.guard = none) (mo x : Operand) (t k : TypeId) (hop : o.op = Op.call { callee := Callee.builtin Builtin.delete, args := #[mo, x], argTypes := #[t, k] }) (mv key : Value) (hmo : a.eval mo = mv) (hx : a.eval x = key) (hrun : ∃ w', (Builtin.delete_ #[t, k] o.type #[mv, key]).run P w = .ok (.tuple #[]) w' ∧ Φ w')
    (hK : ∀ w', Φ w' → wpList P ops Q rest (a.put o.dst (.tuple #[])) w') : wpList P ops Q (o :: rest) a w := by
  refine wpList_plain hg fun K' hK' => ?_
  obtain ⟨w', hr, h2⟩ := hrun
  unfold Oper.wp
  simp [execOp, hop, resolve, invoke, builtin, hmo, hx, hr, Result.andThen]
  exact hK' _ _ (hK w' h2)
end

end Go.Proofs.YtbkhdpocmmjnbaaGreatDoor

/- Trees in memory: what a Remove and a Move leave. -/
namespace Go.Proofs.YtbkhdpocmmjnbaaGreatDoor
open Go Go.RowKit Go.Maps

def struckE (xs : List VEnt) (ps : List ByteArray) : List VEnt := xs.filter fun x => !hasP ps x.2.path
theorem struck_nil (xs : List VEnt) : struckE xs [] = xs := by
  unfold struckE
  rw [List.filter_eq_self]
  intro x _
  rfl
theorem struck_mem {xs : List VEnt} {ps : List ByteArray} {x : VEnt} : x ∈ struckE xs ps ↔ x ∈ xs ∧ x.2.path ∉ ps := by
  unfold struckE
  rw [List.mem_filter, Bool.not_eq_true', Bool.eq_false_iff, ne_eq, hasP_iff]
theorem struck_snoc (xs : List VEnt) (ps : List ByteArray) (p : ByteArray) : struckE xs (ps ++ [p]) = (struckE xs ps).filter (fun x => decide (x.2.path ≠ p)) := by
  unfold struckE
  rw [List.filter_filter]
  apply List.filter_congr
  intro x _
  unfold hasP
  rw [List.any_append]
  by_cases h : p = x.2.path
  · subst h; simp
  · have h' : ¬ x.2.path = p := fun e => h e.symm
    simp [h, h']
theorem struck_step {xs : List VEnt} (hn : (xs.map (fun x => x.2.path)).Nodup) {ps : List ByteArray} {x0 : VEnt} (hx : x0 ∈ xs) (hp : x0.2.path ∉ ps) : ∃ a b, struckE xs ps = a ++ x0 :: b ∧ a ++ b = struckE xs (ps ++ [x0.2.path]) := by
  have hm : x0 ∈ struckE xs ps := struck_mem.2 ⟨hx, hp⟩
  obtain ⟨a, b, hab⟩ := List.append_of_mem hm
  refine ⟨a, b, hab, ?_⟩
  rw [struck_snoc, hab]
  have hn2 : ((struckE xs ps).map (fun x => x.2.path)).Nodup := hn.sublist (List.filter_sublist.map _)
  rw [hab, List.map_append, List.map_cons, List.nodup_append] at hn2
  obtain ⟨_, h2, h3⟩ := hn2
  rw [List.nodup_cons] at h2
  rw [List.filter_append, List.filter_cons]
  have ha : a.filter (fun x => decide (x.2.path ≠ x0.2.path)) = a := by
    rw [List.filter_eq_self]
    intro x hx
    simp only [decide_eq_true_eq]
    intro e
    exact h3 x.2.path (List.mem_map.2 ⟨x, hx, rfl⟩) x0.2.path (by simp) e
  have hb : b.filter (fun x => decide (x.2.path ≠ x0.2.path)) = b := by
    rw [List.filter_eq_self]
    intro x hx
    simp only [decide_eq_true_eq]
    intro e
    exact h2.1 (List.mem_map.2 ⟨x, hx, e⟩)
  rw [ha, hb]
  simp
section
variable {S S' : Nat → Prop} {w w' : World} {tb mb : Nat} {L : List Ent} {xs : List VEnt} {t : TypeId}
theorem struck_snd (xs : List VEnt) (ps : List ByteArray) : (struckE xs ps).map Prod.snd = (xs.map Prod.snd).filter (fun e => !hasP ps e.path) := by
  unfold struckE
  rw [List.filter_map]
  rfl
theorem remove_is {L : List Ent} {p : ByteArray} {below : Bool} (h0 : (removeP L p below).2 = 0) : (∃ f, findE L p = some f) ∧ (removeP L p below).1 = L.filter (fun e => !inB p e) := by
  unfold removeP at h0 ⊢
  split at h0
  · simp at h0
  rename_i h1
  rw [if_neg h1]
  split at h0
  · simp at h0
  rename_i h2
  rw [if_neg h2]
  split at h0
  · simp at h0
  rename_i h3
  rw [if_neg h3]
  refine ⟨?_, rfl⟩
  cases hf : findE L p with
  | none => rw [hf] at h2; simp at h2
  | some f => exact ⟨f, rfl⟩
/-- The tree when the entries within p are struck out. -/
theorem TreeAt.removed (h : TreeAt S w tb mb L) {p : ByteArray} {below : Bool} (h0 : (removeP L p below).2 = 0) (hperm : (xs.map Prod.snd).Perm L) (hm : MapE S w' mb (struckE xs ((atP L p).map Ent.path))) (hg : w.grownBy w' (some mb)) : TreeAt S w' tb mb (removeP L p below).1 := by
  obtain ⟨⟨f, hf⟩, h1⟩ := remove_is h0
  refine ⟨hg.cell h.cell (fun e => h.ne (Option.some.inj e)), h.ne, h.far, fun k hk => Nat.lt_of_lt_of_le (h.lt k hk) hg.size, removeP_ok h.ok p below, _, hm, ?_⟩
  rw [h1, struck_snd]
  exact perm_removed h.ok hperm hf
/-- The tree when they stand at their new paths. -/
theorem TreeAt.moved (h : TreeAt S w tb mb L) {s d : ByteArray} (hv : Mv L s d) (hperm : (xs.map Prod.snd).Perm L) {ys : List VEnt} (hy : ys.map Prod.snd = (atP L s).map (moveE s d)) (hm : MapE S w' mb (struckE xs ((atP L s).map Ent.path) ++ ys)) (hg : w.grownBy w' (some mb)) : TreeAt S w' tb mb (moveP L s d).1 := by
  obtain ⟨f, hf⟩ := hv.is
  refine ⟨hg.cell h.cell (fun e => h.ne (Option.some.inj e)), h.ne, h.far, fun k hk => Nat.lt_of_lt_of_le (h.lt k hk) hg.size, moveP_ok h.ok s d, _, hm, ?_⟩
  rw [move_by hv, List.map_append, struck_snd, hy]
  exact (perm_moved h.ok hperm d hf).trans (sortP_perm _).symm
/-- A new tree. -/
theorem TreeAt.made (h : w.cell? ⟨tb, 0, none⟩ = some (.map (some mb))) (hne : tb ≠ mb) (hf : ¬ S tb) (hl : ∀ k, S k → k < w.heap.size) (hm : MapE S w mb []) : TreeAt S w tb mb [] := ⟨h, hne, hf, hl, TOk.nil, [], hm, List.Perm.refl _⟩
/-- Paths of entries of a sorted tree, each once. -/
theorem at_nodup (h : TOk L) (p : ByteArray) : ((atP L p).map Ent.path).Nodup := (atP_sorted h p).nodup
end

end Go.Proofs.YtbkhdpocmmjnbaaGreatDoor

/- Contracts of package filetree: validLink, valid, New; bytes.Clone. -/
namespace Go.Proofs.YtbkhdpocmmjnbaaGreatDoor
open Go.RowKit

theorem cell20 {w : World} {b k : Nat} {cs : Array Value} {t : TypeId} {x : Nat × Nat} (h : w.heap[b]? = some (.cells cs t x)) : w.cell? ⟨b, k, none⟩ = cs[k]? := by simp [World.cell?, h]
theorem indexByte20 (s : ByteArray) (w : World) : Calls Tryz.prog 71 #[.string s, .int .u8 0] w fun e w' => e = .returned (.int .i64 (Lib.indexByte (bl s) 0)) ∧ w = w' :=
  (Tryz.strings_IndexByte s 0 w).mono fun _ _ ⟨he, hw⟩ => ⟨he, hw.symm⟩
set_option maxHeartbeats 1000000 in
theorem validLink_any (s : ByteArray) (w : World) (hs : s.size ≤ maxLen) : Calls Tryz.prog 59 #[.string s] w fun e w' => e = .returned (.bool (vLinkB (bl s))) ∧ w = w' := by
  unfold maxLen at hs
  have HX := Lib.hid (show vLinkB (bl s) = (decide (1 ≤ s.size) && decide (s.size ≤ 512) && !(bl s).contains 0) by unfold vLinkB; rw [size_bl])
  have HI := Lib.hid (indexByte_contains (bl s) 0)
  go_enter Tryz.func59, Tryz.ntmps59
  go_wp2_with (go_at_call 71; refine (indexByte20 s _).mono ?_; rintro e w3 ⟨rfl, rfl⟩)
  · go_ret
    refine ⟨ret_bool ?_, rfl⟩
    have z1 : decide (1 ≤ s.size) = true := by simp; omega
    have z2 : decide (s.size ≤ 512) = true := by simp; omega
    rw [HX.out, z1, z2, ← HI.out]
    rw [Bool.eq_iff_iff]
    simp
  · go_ret
    refine ⟨ret_bool ?_, rfl⟩
    have z2 : decide (s.size ≤ 512) = false := by simp; omega
    rw [HX.out, z2]
    simp
  · go_ret
    refine ⟨ret_bool ?_, rfl⟩
    have z1 : decide (1 ≤ s.size) = false := decide_eq_false (by omega)
    rw [HX.out, z1]
    simp
theorem valid20_is (s : ByteArray) (b : Bool) (w : World) (he : Env w) (h : validP (bl s) = b) : Calls Tryz.prog 33 #[.string s] w fun e w' => e = .returned (.bool b) ∧ Below w.heap.size w w' := by
  rw [← h]; exact valid_any s w he
set_option maxRecDepth 100000 in
set_option maxHeartbeats 2000000 in
theorem validE_any (S : Nat → Prop) (en : Ent) (v : Value) (w : World) (hd : DataAt S w v en.data) (hok : EntOk en) (henv : Env w) : Calls Tryz.prog 45 #[entV v en] w fun e w' => e = .returned (.bool (vEnt en)) ∧ Below w.heap.size w w' := by
  obtain ⟨_, a, cap, rfl, hc, hm, -⟩ := hd
  unfold maxLen at hm
  have HE := Lib.hid henv
  have HO := Lib.hid hok
  have hq1 := hok.pth
  have hq2 := hok.lnk
  unfold maxLen at hq1 hq2
  have HL := Lib.hid (show en.link.toList.isEmpty = decide (en.link.size = 0) by rw [toList_bl, size_bl, Bool.eq_iff_iff]; simp)
  clear henv hok
  unfold entV
  cases hv : validP (bl en.path)
  · have HVP := Lib.hid hv
    clear hv
    go_enter Tryz.func45, Tryz.ntmps45
    go_wp2_with fail
    obtain ⟨W, hW⟩ : ∃ W, W = w.alloc (.cells #[.string en.path, .int .i64 en.kind, .int .i64 en.mode, .int .i64 en.time, .slice a en.data.length cap, .string en.link] 30) := ⟨_, rfl⟩
    rw [← hW]
    have HBW := Lib.hid (show Below w.heap.size w W by rw [hW]; exact (Below.refl _ _).alloc (Nat.le_refl _) _)
    have HBX := Lib.hid (show W.heap[w.heap.size]? = some (.cells #[.string en.path, .int .i64 en.kind, .int .i64 en.mode, .int .i64 en.time, .slice a en.data.length cap, .string en.link] 30 (0, 0)) by rw [hW]; exact heap_alloc_new w _)
    clear hW
    refine (valid20_is en.path false _ (HE.out.below HBW.out) HVP.out).mono ?_
    rintro e w1 ⟨rfl, hb1⟩
    have HB1 := Lib.hid (below_next HBW.out hb1)
    clear hb1
    go_wp2_with fail
    go_ret
    exact ⟨ret_bool (by simp [vEnt, HVP.out]), HB1.out⟩
  · have HVP := Lib.hid hv
    clear hv
    by_cases hmt : 0 ≤ en.mode ∧ en.mode ≤ 511 ∧ 0 ≤ en.time
    · have HH := Lib.hid (show vEnt en = vKind en by obtain ⟨x1, x2, x3⟩ := hmt; unfold vEnt vHeadE; rw [HVP.out]; simp [x1, x2, x3])
      obtain ⟨hm1, hm2, hm3⟩ := hmt
      go_enter Tryz.func45, Tryz.ntmps45
      go_wp2_with fail
      obtain ⟨W, hW⟩ : ∃ W, W = w.alloc (.cells #[.string en.path, .int .i64 en.kind, .int .i64 en.mode, .int .i64 en.time, .slice a en.data.length cap, .string en.link] 30) := ⟨_, rfl⟩
      rw [← hW]
      have HBW := Lib.hid (show Below w.heap.size w W by rw [hW]; exact (Below.refl _ _).alloc (Nat.le_refl _) _)
      have HBX := Lib.hid (show W.heap[w.heap.size]? = some (.cells #[.string en.path, .int .i64 en.kind, .int .i64 en.mode, .int .i64 en.time, .slice a en.data.length cap, .string en.link] 30 (0, 0)) by rw [hW]; exact heap_alloc_new w _)
      clear hW
      refine (valid20_is en.path true _ (HE.out.below HBW.out) HVP.out).mono ?_
      rintro e w1 ⟨rfl, hb1⟩
      have HBXr := Lib.hid ((hb1.block w.heap.size ((Array.getElem?_eq_some_iff.1 HBX.out).1)).trans HBX.out)
      have HB1 := Lib.hid (below_next HBW.out hb1)
      have hlt1 : w.heap.size < w1.heap.size := (Array.getElem?_eq_some_iff.1 HBXr.out).1
      have c0 := cell20 (k := 0) HBXr.out
      have c1 := cell20 (k := 1) HBXr.out
      have c2 := cell20 (k := 2) HBXr.out
      have c3 := cell20 (k := 3) HBXr.out
      have c4 := cell20 (k := 4) HBXr.out
      have c5 := cell20 (k := 5) HBXr.out
      simp only [List.getElem?_toArray, List.getElem?_cons_succ, List.getElem?_cons_zero] at c0 c1 c2 c3 c4 c5
      clear hb1 HBX
      by_cases hk1 : en.kind = 1
      · have e1 : (en.kind == 1) = true := by simp [hk1]
        have HK := Lib.hid (show vKind en = (decide (en.data.length ≤ 1048576) && decide (en.link.size = 0)) by unfold vKind; rw [if_pos hk1])
        clear hk1
        go_wp2_with fail
        · go_ret
          refine ⟨ret_bool ?_, HB1.out⟩
          rw [HH.out, HK.out, HL.out, decide_eq_true (p := en.data.length ≤ 1048576) (by omega)]
          rfl
        · go_ret
          refine ⟨ret_bool ?_, HB1.out⟩
          rw [HH.out, HK.out, decide_eq_false (p := en.data.length ≤ 1048576) (by omega)]
          rfl
      · have e1 : (en.kind == 1) = false := by simp [hk1]
        by_cases hk2 : en.kind = 2
        · have e2 : (en.kind == 2) = true := by simp [hk2]
          have HK := Lib.hid (show vKind en = (decide (en.data.length = 0) && decide (en.link.size = 0)) by unfold vKind; rw [if_neg hk1, if_pos hk2])
          clear hk1 hk2
          go_wp2_with fail
          · go_ret
            refine ⟨ret_bool ?_, HB1.out⟩
            rw [HH.out, HK.out, HL.out, decide_eq_true (p := en.data.length = 0) (by have h : en.data = [] := by assumption
                                                                                     rw [h]; rfl)]
            rfl
          · go_ret
            refine ⟨ret_bool ?_, HB1.out⟩
            rw [HH.out, HK.out, decide_eq_false (p := en.data.length = 0) (fun h => absurd (List.eq_nil_of_length_eq_zero h) (by assumption))]
            rfl
        · have e2 : (en.kind == 2) = false := by simp [hk2]
          by_cases hk3 : en.kind = 3
          · have e3 : (en.kind == 3) = true := by simp [hk3]
            have HK := Lib.hid (show vKind en = (decide (en.data.length = 0) && vLinkB (bl en.link)) by unfold vKind; rw [if_neg hk1, if_neg hk2, if_pos hk3])
            clear hk1 hk2 hk3
            go_wp2_with (go_at_call 59; refine (validLink_any en.link _ HO.out.lnk).mono ?_; rintro e w3 ⟨rfl, rfl⟩)
            · go_ret
              refine ⟨ret_bool ?_, HB1.out⟩
              rw [HH.out, HK.out, decide_eq_true (p := en.data.length = 0) (by have h : en.data = [] := by assumption
                                                                               rw [h]; rfl)]
              rfl
            · go_ret
              refine ⟨ret_bool ?_, HB1.out⟩
              rw [HH.out, HK.out, decide_eq_false (p := en.data.length = 0) (fun h => absurd (List.eq_nil_of_length_eq_zero h) (by assumption))]
              rfl
          · have e3 : (en.kind == 3) = false := by simp [hk3]
            have HK := Lib.hid (show vKind en = false by unfold vKind; rw [if_neg hk1, if_neg hk2, if_neg hk3])
            clear hk1 hk2 hk3
            go_wp2_with fail
            go_ret
            exact ⟨ret_bool (by rw [HH.out, HK.out]), HB1.out⟩
    · have HF := Lib.hid (show vEnt en = false by
        have : vHeadE en = false := by
          unfold vHeadE; rw [Bool.eq_false_iff]; simp; omega
        unfold vEnt; rw [this]; simp)
      go_enter Tryz.func45, Tryz.ntmps45
      go_wp2_with fail
      obtain ⟨W, hW⟩ : ∃ W, W = w.alloc (.cells #[.string en.path, .int .i64 en.kind, .int .i64 en.mode, .int .i64 en.time, .slice a en.data.length cap, .string en.link] 30) := ⟨_, rfl⟩
      rw [← hW]
      have HBW := Lib.hid (show Below w.heap.size w W by rw [hW]; exact (Below.refl _ _).alloc (Nat.le_refl _) _)
      have HBX := Lib.hid (show W.heap[w.heap.size]? = some (.cells #[.string en.path, .int .i64 en.kind, .int .i64 en.mode, .int .i64 en.time, .slice a en.data.length cap, .string en.link] 30 (0, 0)) by rw [hW]; exact heap_alloc_new w _)
      clear hW
      refine (valid20_is en.path true _ (HE.out.below HBW.out) HVP.out).mono ?_
      rintro e w1 ⟨rfl, hb1⟩
      have HBXr := Lib.hid ((hb1.block w.heap.size ((Array.getElem?_eq_some_iff.1 HBX.out).1)).trans HBX.out)
      have HB1 := Lib.hid (below_next HBW.out hb1)
      have hlt1 : w.heap.size < w1.heap.size := (Array.getElem?_eq_some_iff.1 HBXr.out).1
      have c0 := cell20 (k := 0) HBXr.out
      have c1 := cell20 (k := 1) HBXr.out
      have c2 := cell20 (k := 2) HBXr.out
      have c3 := cell20 (k := 3) HBXr.out
      have c4 := cell20 (k := 4) HBXr.out
      have c5 := cell20 (k := 5) HBXr.out
      simp only [List.getElem?_toArray, List.getElem?_cons_succ, List.getElem?_cons_zero] at c0 c1 c2 c3 c4 c5
      clear hb1 HBX
      go_wp2_with fail
      all_goals first
        | (exfalso; omega)
        | (go_ret
           exact ⟨ret_bool (by rw [HF.out]), HB1.out⟩)

end Go.Proofs.YtbkhdpocmmjnbaaGreatDoor

/- append with a whole slice behind it, onto a row that the call owns. -/
namespace Go.Proofs.YtbkhdpocmmjnbaaGreatDoor
open Go Go.RowKit

theorem run_append_zero {P : Program} {w : World} (base : Nat) (t ty e : TypeId) (i : TypeInfo) (size : Nat) (ht : P.underlying t = some (.slice e)) (hi : P.info? e = some i)
    (v : Value) (n : Nat) (xs : List Value) (hown : w.ownsRow base e size v n xs) (a : Option Addr) (c : Nat) :
    (Builtin.append_ #[t, t] ty #[v, .slice a 0 c]).run P w = .ok v w := by
  rcases hown.2 with ⟨rfl, rfl⟩ | ⟨g, cap, cur, rfl, _, _, hnc, _⟩
  · cases a <;> simp [Builtin.append_, run_underlying ht, sizeOf, typeInfo, hi, Builtin.lenOf, Builtin.firstCells, loadCells, loadCellsFrom]
  · cases a <;> simp [Builtin.append_, run_underlying ht, sizeOf, typeInfo, hi, Builtin.lenOf, Builtin.firstCells, hnc, storeCells, loadCells, loadCellsFrom]
theorem wpList_appn {P : Program} {ops : Array Oper} {rest : List Oper} {o : Oper} {a : Act} {Q : Exit → Act → World → Prop} {w : World} {t e : TypeId} {sz bytes : Nat} {S : Nat → Prop} (T : AppTy P t e sz bytes) (hgd : o.guard = none) (s x : Operand)
    (ho : o.op = .call { callee := .builtin .append, args := #[s, x], argTypes := #[t, t] }) (base : Nat) (v : Value) (n : Nat) (xs : List Value) (hs : a.eval s = v) (hown : w.ownsRow base e sz v n xs) (vx : Value) (m : Nat) (news : List Value)
    (hx : a.eval x = vx) (hrow : RowAt S w sz vx m news) (h1 : ∀ u ∈ news, u.oneCell' = true) (hn : n + m < 1099511627775) (hbase : base ≤ w.heap.size)
    (h : ∀ v' w', w'.ownsRow base e sz v' (n + m) (xs ++ news) → w.grownBy w' v.ownBlock → wpList P ops Q rest (a.put o.dst v') w') : wpList P ops Q (o :: rest) a w := by
  obtain ⟨ht, ⟨i, z, h11, h12, h13, h14, h15⟩, hpos, hsm⟩ := T
  obtain ⟨hl, ad, cap, rfl, _, _, h0⟩ := hrow
  refine wpList_plain hgd fun K hK => ?_
  have hz : m = 0 → o.wp P a w K Q := by
    rintro rfl
    have hn0 : news = [] := List.eq_nil_of_length_eq_zero (by rw [hl]; simp)
    subst hn0
    have hrun := run_append_zero (P := P) (w := w) base t o.type e i sz ht h11 v n xs hown ad cap
    unfold Oper.wp execOp
    simp only [ho, resolve, invoke, builtin, Sem.run_bind, Sem.run_pure, Result.andThen_ok, List.map_toArray, List.map_cons, List.map_nil, hs, hx, hrun]
    exact hK _ _ (h v w (by simpa using hown) ⟨rfl, rfl, rfl, Nat.le_refl _, fun _ _ _ => rfl⟩)
  rcases h0 with h0 | ⟨b, of, rfl, _, hc⟩
  · exact hz h0
  · have hnews : ∀ (j : Nat) u, news[j]? = some u → w.cell? ((⟨b, of, none⟩ : Addr).add j) = some u := fun j u hj => by rw [add_lit]; exact hc j u hj
    have h63 : n + m ≤ maxLen := by unfold maxLen; omega
    have hby : (n + m) * bytes ≤ 140737488355328 := by
      have : (n + m) * bytes ≤ 1099511627775 * 128 := Nat.mul_le_mul (by omega) hsm
      omega
    obtain ⟨v', w', hr, h2, hg, _⟩ := run_append_own (P := P) w base t o.type e i z sz bytes ht h11 h12 h13 h14 h15 hpos v n xs hown ⟨b, of, none⟩ m cap news hl hnews h1 h63 hby hbase
    unfold Oper.wp execOp
    simp only [ho, resolve, invoke, builtin, Sem.run_bind, Sem.run_pure, Result.andThen_ok, List.map_toArray, List.map_cons, List.map_nil, hs, hx, hr]
    exact hK _ _ (h v' w' h2 hg)

end Go.Proofs.YtbkhdpocmmjnbaaGreatDoor

/- Contracts of package filetree: bytes.Clone, copied. -/
namespace Go.Proofs.YtbkhdpocmmjnbaaGreatDoor
open Go.RowKit

theorem clone_any (S : Nat → Prop) (v : Value) (bs : List UInt8) (w : World) (hd : DataAt S w v bs) (hl : bs.length ≤ 140737488355328) : Calls Tryz.prog 49 #[v] w fun e w' => ∃ v', e = .returned v' ∧ w'.ownsRow w.heap.size 5 1 v' bs.length (bs.map u8V) ∧ Below w.heap.size w w' := by
  obtain ⟨_, a, cap, rfl, hn, hm, h0⟩ := hd
  cases a with
  | none =>
    have hz : bs.length = 0 := by
      rcases h0 with h0 | ⟨b, o, ha, _⟩
      · exact h0
      · cases ha
    obtain rfl := List.eq_nil_of_length_eq_zero hz
    refine (Any.bytes_Clone_nil Tryz.laysClone _ _ w).mono ?_
    rintro e w' ⟨rfl, rfl⟩
    exact ⟨_, rfl, World.ownsRow_nil _ _ _ _, Below.refl _ _⟩
  | some a =>
    refine (Any.bytes_Clone_at Tryz.laysClone a bs.length cap (bs.map fun b => (b.toNat : Int)) w (by simp) hl ?_).mono ?_
    · intro i hi
      rcases h0 with h0 | ⟨b, o, ha, _, hc⟩
      · omega
      · cases ha
        rw [add_lit]
        refine hc i _ ?_
        simp [hi, u8V]
    · rintro e w' ⟨v', rfl, h1, _, h2⟩
      refine ⟨v', rfl, ?_, h2⟩
      rw [List.map_map] at h1
      exact h1
theorem data_of_owns {w : World} {base : Nat} {v : Value} {bs : List UInt8} (h : w.ownsRow base 5 1 v bs.length (bs.map u8V)) : DataAt (fun k => base ≤ k ∧ k < w.heap.size) w v bs :=
  RowAt.mono (row_of_owns h) (fun k hk hS => ⟨hS.1, hk⟩) (by omega)
theorem owns_le20 {w : World} {base base' size n : Nat} {e : TypeId} {v : Value} {xs : List Value} (h : w.ownsRow base e size v n xs) (hb : base' ≤ base) : w.ownsRow base' e size v n xs :=
  ⟨h.1, h.2.imp id (fun ⟨g, cap, cur, e1, h1, h2⟩ => ⟨g, cap, cur, e1, Nat.le_trans hb h1, h2⟩)⟩
theorem frozen20 {w : World} {b k : Nat} {cs : Array Value} {t : TypeId} (h : w.heap[b]? = some (.cells cs t (0, 0))) : w.frozen? ⟨b, k, none⟩ = false := by simp [World.frozen?, h]
theorem set20 {w : World} {b k : Nat} {cs : Array Value} {t : TypeId} (h : w.heap[b]? = some (.cells cs t (0, 0))) (x : Value) : (w.setCell ⟨b, k, none⟩ x).heap[b]? = some (.cells (cs.setIfInBounds k x) t (0, 0)) := by
  simp only [World.setCell, Array.getElem?_modify, if_true, h, Option.map_some]; rfl
theorem setOther20 {w : World} {b c k : Nat} {o : Obj} (h : w.heap[b]? = some o) (hne : b ≠ c) (x : Value) : (w.setCell ⟨c, k, none⟩ x).heap[b]? = some o := by
  rw [Below.heap_setCell _ _ _ _ hne]; exact h
theorem alloc20 {w : World} {b : Nat} {o : Obj} (h : w.heap[b]? = some o) (x : Obj) : (w.alloc x).heap[b]? = some o := by
  have hlt := (Array.getElem?_eq_some_iff.1 h).1
  rw [Below.heap_alloc _ _ _ hlt]; exact h
theorem new20 (w : World) (x : Obj) : (w.alloc x).heap[w.heap.size]? = some x := by show (w.heap.push x)[w.heap.size]? = some x; simp
theorem new20b (w : World) (x y : Obj) : ((w.alloc x).alloc y).heap[w.heap.size + 1]? = some y := by
  have := new20 (w.alloc x) y
  rwa [show (w.alloc x).heap.size = w.heap.size + 1 by show (w.heap.push x).size = _; simp] at this
theorem lt20 {w : World} {b : Nat} {o : Obj} (h : w.heap[b]? = some o) : b < w.heap.size := (Array.getElem?_eq_some_iff.1 h).1
theorem six20 {w : World} {b : Nat} {a0 a1 a2 a3 a4 a5 x0 x1 x2 x3 x4 x5 : Value} {t : TypeId} (h : w.heap[b]? = some (.cells #[a0, a1, a2, a3, a4, a5] t (0, 0))) :
    ((((((w.setCell ⟨b, 0, none⟩ x0).setCell ⟨b, 1, none⟩ x1).setCell ⟨b, 2, none⟩ x2).setCell ⟨b, 3, none⟩ x3).setCell ⟨b, 4, none⟩ x4).setCell ⟨b, 5, none⟩ x5).heap[b]? = some (.cells #[x0, x1, x2, x3, x4, x5] t (0, 0)) :=
  set20 (set20 (set20 (set20 (set20 (set20 h x0) x1) x2) x3) x4) x5
set_option maxHeartbeats 1000000 in
theorem copied_res {a : Act} {w : World} {b : Nat} {x0 x1 x2 x3 x4 x5 : Value} (h : w.heap[b]? = some (.cells #[x0, x1, x2, x3, x4, x5] 30 (0, 0)))
    (h2 : a.tmps[2]? = some (.pointer (some ⟨b, 0, none⟩))) : (results Tryz.f32 a.tmps).run Tryz.prog w = .ok (.agg #[x0, x1, x2, x3, x4, x5]) w := by
  have m0 := cell20 (k := 0) h
  have m1 := cell20 (k := 1) h
  have m2 := cell20 (k := 2) h
  have m3 := cell20 (k := 3) h
  have m4 := cell20 (k := 4) h
  have m5 := cell20 (k := 5) h
  simp only [List.getElem?_toArray, List.getElem?_cons_succ, List.getElem?_cons_zero] at m0 m1 m2 m3 m4 m5
  simp [results, Tryz.results32, go_sem, h2, m0, m1, m2, m3, m4, m5]
theorem copied_end {a : Act} {w : World} {b : Nat} {a0 a1 a2 a3 a4 a5 x0 x1 x2 x3 x4 x5 : Value} {Q : Ending → World → Prop} (h : w.heap[b]? = some (.cells #[a0, a1, a2, a3, a4, a5] 30 (0, 0)))
    (h2 : a.tmps[2]? = some (.pointer (some ⟨b, 0, none⟩))) (hd : a.defers = [])
    (hQ : Q (.returned (.agg #[x0, x1, x2, x3, x4, x5])) ((((((w.setCell ⟨b, 0, none⟩ x0).setCell ⟨b, 1, none⟩ x1).setCell ⟨b, 2, none⟩ x2).setCell ⟨b, 3, none⟩ x3).setCell ⟨b, 4, none⟩ x4).setCell ⟨b, 5, none⟩ x5)) :
    bodyPost Tryz.prog Tryz.f32 Q Exit.ret a ((((((w.setCell ⟨b, 0, none⟩ x0).setCell ⟨b, 1, none⟩ x1).setCell ⟨b, 2, none⟩ x2).setCell ⟨b, 3, none⟩ x3).setCell ⟨b, 4, none⟩ x4).setCell ⟨b, 5, none⟩ x5) :=
  bodyPost_ret (copied_res (six20 h) h2) hd hQ
theorem below_set20 {B : Nat} {a w : World} {b k : Nat} {x : Value} (h : Below B a w) (hb : B ≤ b) : Below B a (w.setCell ⟨b, k, none⟩ x) := Below.setCell h hb x
set_option maxHeartbeats 1000000 in
theorem copied_any (S : Nat → Prop) (en : Ent) (v : Value) (w : World) (hd : DataAt S w v en.data) (hl : en.data.length ≤ 140737488355328) :
    Calls Tryz.prog 32 #[entV v en] w fun e w' => ∃ v', e = .returned (entV v' en) ∧ w'.ownsRow w.heap.size 5 1 v' en.data.length (en.data.map u8V) ∧ Below w.heap.size w w' := by
  have HD := Lib.hid hd
  obtain ⟨_, a, cap, rfl, hc, hm, -⟩ := hd
  unfold maxLen at hm
  unfold entV
  go_enter Tryz.func32, Tryz.ntmps32
  go_wp2_with fail
  obtain ⟨W, hW⟩ : ∃ W : World, W = (w.alloc (.cells #[.string en.path, .int .i64 en.kind, .int .i64 en.mode, .int .i64 en.time, .slice a en.data.length cap, .string en.link] 30)).alloc (.cells #[.string ⟨#[]⟩, .int .i64 0, .int .i64 0, .int .i64 0, .slice none 0 0, .string ⟨#[]⟩] 30) := ⟨_, rfl⟩
  rw [← hW]
  have HB0 := Lib.hid (show Below w.heap.size w W by rw [hW]; exact ((Below.refl _ _).alloc (Nat.le_refl _) _).alloc (by simp) _)
  have hz1 : W.heap[w.heap.size]? = some (.cells #[.string en.path, .int .i64 en.kind, .int .i64 en.mode, .int .i64 en.time, .slice a en.data.length cap, .string en.link] 30 (0, 0)) := by rw [hW]; exact alloc20 (new20 _ _) _
  have hz2 : W.heap[w.heap.size + 1]? = some (.cells #[.string ⟨#[]⟩, .int .i64 0, .int .i64 0, .int .i64 0, .slice none 0 0, .string ⟨#[]⟩] 30 (0, 0)) := by rw [hW]; exact new20b _ _ _
  refine (clone_any S _ en.data W (HD.out.below HB0.out) hl).mono ?_
  rintro e w1 ⟨v', rfl, ho, hb1⟩
  have HO := Lib.hid ho
  have HB1 := Lib.hid (below_next HB0.out hb1)
  have HX1 := Lib.hid ((hb1.block w.heap.size (lt20 hz1)).trans hz1)
  have HX2 := Lib.hid ((hb1.block (w.heap.size + 1) (lt20 hz2)).trans hz2)
  have HZ1 := Lib.hid (lt20 hz2)
  clear hz1 hz2 hW HB0 hb1 ho
  have q0 := cell20 (k := 0) HX1.out
  have q1 := cell20 (k := 1) HX1.out
  have q2 := cell20 (k := 2) HX1.out
  have q3 := cell20 (k := 3) HX1.out
  have q4 := cell20 (k := 4) HX1.out
  have q5 := cell20 (k := 5) HX1.out
  simp only [List.getElem?_toArray, List.getElem?_cons_succ, List.getElem?_cons_zero] at q0 q1 q2 q3 q4 q5
  have m0 := cell20 (k := 0) HX2.out
  have m1 := cell20 (k := 1) HX2.out
  have m2 := cell20 (k := 2) HX2.out
  have m3 := cell20 (k := 3) HX2.out
  have m4 := cell20 (k := 4) HX2.out
  have m5 := cell20 (k := 5) HX2.out
  simp only [List.getElem?_toArray, List.getElem?_cons_succ, List.getElem?_cons_zero] at m0 m1 m2 m3 m4 m5
  have g4 := frozen20 (k := 4) HX1.out
  have p0 := frozen20 (k := 0) HX2.out
  have p1 := frozen20 (k := 1) HX2.out
  have p2 := frozen20 (k := 2) HX2.out
  have p3 := frozen20 (k := 3) HX2.out
  have p4 := frozen20 (k := 4) HX2.out
  have p5 := frozen20 (k := 5) HX2.out
  obtain ⟨a', cap', hv', -, -⟩ := owns_shape HO.out
  rw [hv'] at HO ⊢
  go_wp2_with fail
  refine copied_end (b := w.heap.size + 1) (setOther20 HX2.out (by omega) _) (by kernel_rfl) (by kernel_rfl) ?_
  refine ⟨_, rfl, ?_, ?_⟩
  · have hz := HZ1.out
    refine owns_le20 (base := W.heap.size) ?_ (by omega)
    repeat refine ownsRow_setCell_below ?_ (by first | (show w.heap.size < _; omega) | (show w.heap.size + 1 < _; omega)) _
    exact HO.out
  · repeat refine below_set20 ?_ (by omega)
    exact HB1.out

end Go.Proofs.YtbkhdpocmmjnbaaGreatDoor

/- Contracts of package filetree: same, New, parent. -/
namespace Go.Proofs.YtbkhdpocmmjnbaaGreatDoor
open Go.RowKit

theorem conv_zero20 (a : Option Addr) (c : Nat) (w : World) : (convert 28 9 (.slice a 0 c)).run Tryz.prog w = .ok (.string ⟨#[]⟩) w := by cases a <;> kernel_rfl
theorem conv_data {S : Nat → Prop} {w : World} {v : Value} {bs : List UInt8} (hd : DataAt S w v bs) : (convert 28 9 v).run Tryz.prog w = .ok (.string (strOfNums (bs.map fun b => (b.toNat : Int)))) w := by
  obtain ⟨_, a, cap, rfl, hn, hm, h0⟩ := hd
  rcases h0 with h0 | ⟨b, o, rfl, _, hc⟩
  · obtain rfl := List.eq_nil_of_length_eq_zero h0
    exact conv_zero20 a cap w
  · exact run_convert_bytes_arg (P := Tryz.prog) w 28 5 Tryz.underlying28 Tryz.underlying5 b o bs.length cap (bs.map fun b => (b.toNat : Int)) (by simp) (fun i hi => by
      rw [hc i (u8V bs[i]) (by simp [hi])]
      simp [u8V, List.getD, hi]) 9 Tryz.underlying9
end Go.Proofs.YtbkhdpocmmjnbaaGreatDoor

/- Contracts of package filetree: New, parent. -/
namespace Go.Proofs.YtbkhdpocmmjnbaaGreatDoor
open Go.RowKit Go.Maps

theorem new_any (w : World) : Calls Tryz.prog 7 #[] w fun e w' => e = .returned (.pointer (some ⟨w.heap.size + 1, 0, none⟩)) ∧ TreeAt (fun _ => False) w' (w.heap.size + 1) w.heap.size [] ∧ Below w.heap.size w w' ∧ w'.heap.size = w.heap.size + 2 := by
  have hmm := @run_makeMap Tryz.prog
  go_enter Tryz.func7, Tryz.ntmps7
  go_wp2_with fail
  go_ret
  refine ⟨rfl, TreeAt.made ?_ (by omega) (fun h => h) (fun _ h => h.elim) ?_, ((Below.refl _ _).alloc (Nat.le_refl _) _).alloc (by simp) _, by simp⟩
  · exact cell20 (new20b w _ _)
  · have h := MapE.made (fun _ => False) w (fun h => h)
    exact h.below ((Below.refl _ _).alloc (by simp) _)
theorem zeroE_run (w : World) : (zeroValue 30).run Tryz.prog w = .ok zeroE w := by kernel_rfl
theorem mapTy : Tryz.prog.underlying 61 = some (.map 9 30) := Tryz.underlying61
theorem parent20 (p q : ByteArray) (w : World) (he : Env w) (hv : validP (bl p) = true) (hq : q = ⟨(parentL (bl p)).toArray⟩) :
    Calls Tryz.prog 35 #[.string p] w fun e w' => e = .returned (.tuple #[.string q, .bool true]) ∧ Below w.heap.size w w' := by
  rw [hq]; exact parent_any p w he hv
theorem empty20 (q : ByteArray) : q.toList.isEmpty = decide (bl q = []) := by rw [toList_bl, Bool.eq_iff_iff]; simp
set_option maxRecDepth 100000 in
set_option maxHeartbeats 1000000 in
theorem parentT_any (S : Nat → Prop) (tb mb : Nat) (L : List Ent) (p : ByteArray) (w : World) (ht : TreeAt S w tb mb L) (he : Env w) (hv : validP (bl p) = true) :
    Calls Tryz.prog 43 #[.pointer (some ⟨tb, 0, none⟩), .string p] w fun e w' => e = .returned (.int .i64 (dirE L (parentL (bl p)))) ∧ Below w.heap.size w w' := by
  obtain ⟨q, hq⟩ : ∃ q : ByteArray, q = ⟨(parentL (bl p)).toArray⟩ := ⟨_, rfl⟩
  have HQ := Lib.hid hq
  have hbq : bl q = parentL (bl p) := by rw [hq]; exact bl_mk _
  have HBQ := Lib.hid hbq
  have HT := Lib.hid ht
  have HE := Lib.hid he
  have hl := parent_shorter hv
  have hsz := valid_size hv
  have hqs : q.size ≤ maxLen := by rw [size_bl, hbq]; unfold maxLen; omega
  have HQS := Lib.hid hqs
  have HVP := Lib.hid hv
  clear hq ht he hl hsz hqs hv
  by_cases h0 : parentL (bl p) = []
  · have HF := Lib.hid (show dirE L (parentL (bl p)) = 0 by unfold dirE; rw [if_pos h0])
    have e1 : q.toList.isEmpty = true := by rw [empty20, hbq, decide_eq_true h0]
    clear h0 hbq
    go_enter Tryz.func43, Tryz.ntmps43
    go_wp2_with (go_at_call 35; refine (parent20 p q _ HE.out HVP.out HQ.out).mono ?_; rintro e w1 ⟨rfl, hb1⟩; have HB1 := Lib.hid hb1; clear hb1)
    go_ret
    exact ⟨ret_int (by rw [HF.out]), HB1.out⟩
  · have e1 : q.toList.isEmpty = false := by rw [empty20, hbq, decide_eq_false h0]
    cases hf : findE L q with
    | none =>
      have HF := Lib.hid (show dirE L (parentL (bl p)) = 4 by unfold dirE; rw [if_neg h0, ← HQ.out, hf])
      have HFN := Lib.hid hf
      clear h0 hbq hf
      go_enter Tryz.func43, Tryz.ntmps43
      go_wp2_with (go_at_call 35; refine (parent20 p q _ HE.out HVP.out HQ.out).mono ?_; rintro e w1 ⟨rfl, hb1⟩; have HT1 := Lib.hid (HT.out.below hb1); have hlk := HT1.out.miss mapTy (zeroE_run w1) HQS.out HFN.out true; have hcl := HT1.out.cell; unfold zeroE at hlk; simp only [if_true] at hlk; have HB1 := Lib.hid hb1; clear hb1)
      go_ret
      exact ⟨ret_int (by rw [HF.out]), HB1.out.alloc HB1.out.size _⟩
    | some f =>
      have HFS := Lib.hid hf
      by_cases hk : f.kind = 2
      · have HF := Lib.hid (show dirE L (parentL (bl p)) = 0 by unfold dirE; rw [if_neg h0, ← HQ.out, hf]; simp only [if_pos hk])
        have e2 : (f.kind != 2) = false := by simp [hk]
        clear h0 hbq hf hk
        go_enter Tryz.func43, Tryz.ntmps43
        go_wp2_with (go_at_call 35; refine (parent20 p q _ HE.out HVP.out HQ.out).mono ?_; rintro e w1 ⟨rfl, hb1⟩; have HT1 := Lib.hid (HT.out.below hb1); obtain ⟨v, hlk, hd, hok⟩ := HT1.out.hit mapTy HQS.out HFS.out true; obtain ⟨_, a, cap, rfl, hc, hm, -⟩ := hd; have hcl := HT1.out.cell; unfold entV at hlk; simp only [if_true] at hlk; have HB1 := Lib.hid hb1; clear hb1 hok hc hm)
        go_ret
        exact ⟨ret_int (by rw [HF.out]), HB1.out.alloc HB1.out.size _⟩
      · have HF := Lib.hid (show dirE L (parentL (bl p)) = 13 by unfold dirE; rw [if_neg h0, ← HQ.out, hf]; simp only [if_neg hk])
        have e2 : (f.kind != 2) = true := by simp [hk]
        clear h0 hbq hf hk
        go_enter Tryz.func43, Tryz.ntmps43
        go_wp2_with (go_at_call 35; refine (parent20 p q _ HE.out HVP.out HQ.out).mono ?_; rintro e w1 ⟨rfl, hb1⟩; have HT1 := Lib.hid (HT.out.below hb1); obtain ⟨v, hlk, hd, hok⟩ := HT1.out.hit mapTy HQS.out HFS.out true; obtain ⟨_, a, cap, rfl, hc, hm, -⟩ := hd; have hcl := HT1.out.cell; unfold entV at hlk; simp only [if_true] at hlk; have HB1 := Lib.hid hb1; clear hb1 hok hc hm)
        go_ret
        exact ⟨ret_int (by rw [HF.out]), HB1.out.alloc HB1.out.size _⟩

end Go.Proofs.YtbkhdpocmmjnbaaGreatDoor

/- A region that draws its order, cut into segments: within a segment the operations leave the world alone, and between segments there is one operation for which all earlier ones are waited for. Then the order of the text serves. -/
namespace Go.Proofs.YtbkhdpocmmjnbaaGreatDoor
open Go

section
variable {P : Program} {ops : Array Oper} {md : Region.Mode} {w : World}

/-- Every operation before m is waited for by a later one up to m; every operation behind m waits for one from m on. -/
def cutB (md : Region.Mode) (ops : Array Oper) (m : Nat) : Bool :=
  ((List.range m).all fun i => decide (ops.size ≤ m) || (List.range (m + 1)).any fun j => decide (i < j) && Region.waitsFor md ops j i) &&
  ((List.range ops.size).all fun t => decide (t ≤ m) || (List.range t).any fun u => decide (m ≤ u) && Region.waitsFor md ops t u)

theorem cut_waits {m : Nat} {listed : Array Bool} (hc : cutB md ops m = true) (inv : HeadInv md ops m listed) :
    ∀ (d i : Nat), m - i = d → i < m → listed.getD i true = false → ∀ t, m ≤ t → t ∉ Region.ready md ops listed := by
  simp only [cutB, Bool.and_eq_true] at hc
  obtain ⟨hs, hch⟩ := hc
  intro d
  induction d using Nat.strongRecOn with
  | _ d ih =>
    intro i hd hi hun t ht hr
    obtain ⟨_, ot, hot, hall⟩ := mem_ready.1 hr
    have htlt : t < ops.size := (Array.getElem?_eq_some_iff.1 hot).1
    rcases Nat.lt_or_ge m t with htm | htm
    · have h1 := List.all_eq_true.1 hch t (List.mem_range.2 htlt)
      simp only [Bool.or_eq_true, decide_eq_true_eq] at h1
      rcases h1 with h1 | h1
      · omega
      · obtain ⟨u, hu, hu2⟩ := List.any_eq_true.1 h1
        simp only [Bool.and_eq_true, decide_eq_true_eq] at hu2
        obtain ⟨o', ho', e, he, hb, hon⟩ := Region.waitsFor_spec hu2.2
        have ho : o' = ot := Option.some.inj (ho'.symm.trans hot)
        subst ho
        have h2 := hall e he hb
        rw [hon, getD_both (inv.tail u hu2.1 (by have := List.mem_range.1 hu; omega))] at h2
        cases h2
    · have htm' : t = m := by omega
      subst htm'
      have h1 := List.all_eq_true.1 hs i (List.mem_range.2 hi)
      simp only [Bool.or_eq_true, decide_eq_true_eq] at h1
      rcases h1 with h1 | h1
      · omega
      · obtain ⟨j, hj, hj2⟩ := List.any_eq_true.1 h1
        simp only [Bool.and_eq_true, decide_eq_true_eq] at hj2
        obtain ⟨oj, hoj, e, he, hb, hon⟩ := Region.waitsFor_spec hj2.2
        have hjle := List.mem_range.1 hj
        rcases Nat.lt_or_ge j t with hjt | hjt
        · cases hl : listed.getD j false with
          | true =>
            have h2 := inv.closed j oj hoj hl e he hb
            rw [hon, getD_both hun] at h2
            cases h2
          | false =>
            exact ih (t - j) (by omega) j rfl hjt (getD_in (by rw [inv.size]; omega) hl) t (Nat.le_refl _) hr
        · have hjt' : j = t := by omega
          subst hjt'
          have ho : oj = ot := Option.some.inj (hoj.symm.trans hot)
          subst ho
          have h2 := hall e he hb
          rw [hon, getD_both hun] at h2
          cases h2

theorem seg_first {m i : Nat} {oi : Oper} {v : Value} {L : Array Bool → Act → Prop} (hi : ops[i]? = some oi) (hsel : ∀ (j : Nat) (o : Oper) cs b, ops[j]? = some o → o.op ≠ .select cs b)
    (hc : cutB md ops m = true) (hin : i < m) (hdone : ∀ listed a, L listed a → ∀ j ∈ Region.ready md ops listed, m ≤ j) :
    ∀ (f : Nat) (listed : Array Bool) (a : Act), HeadInv md ops m listed →
      (∀ j oj, ops[j]? = some oj → j ≠ i → listed.getD j true = false → (∀ e ∈ oj.after, Region.binds md e = true → e.on ≠ i) → oi.apart ops oj = true) →
      i ∈ Region.ready md ops listed → YieldsAt P ops w oi v a →
      wpAnyL P md ops w m L f (listed.setIfInBounds i true) (a.put oi.dst v) → wpAnyL P md ops w m L (f + 1) listed a := by
  intro f
  induction f with
  | zero =>
    intro listed a inv _ hr hy H
    have hun := (mem_ready.1 hr).1
    refine ⟨List.ne_nil_of_mem hr, fun j hj => ?_⟩
    have hjm : j < m := Nat.lt_of_not_le fun h => cut_waits hc inv _ i rfl hin hun j h hj
    refine ⟨hjm, ?_⟩
    by_cases hji : j = i
    · subst hji; exact hy.stOp hi H
    · have := hdone _ _ H j (ready_mono hj hji)
      omega
  | succ f ih =>
    intro listed a inv hfree hr hy H
    have hun := (mem_ready.1 hr).1
    refine ⟨List.ne_nil_of_mem hr, fun j hj => ?_⟩
    have hjm : j < m := Nat.lt_of_not_le fun h => cut_waits hc inv _ i rfl hin hun j h hj
    refine ⟨hjm, ?_⟩
    by_cases hji : j = i
    · subst hji; exact hy.stOp hi H
    · have h1 := (H.2 j (ready_mono hj hji)).2
      obtain ⟨hjun, oj, hoj, hall⟩ := mem_ready.1 hj
      have hnot : ∀ e ∈ oj.after, Region.binds md e = true → e.on ≠ i := fun e he hb heq => by
        have h1 := hall e he hb
        rw [heq, getD_both hun] at h1
        cases h1
      have h2 := stOp_put hoj (hfree j oj hoj hji hjun hnot) (fun cs b => hsel i oi cs b hi) (fun cs b => hsel j oj cs b hoj) hy h1
      refine stOp_mono (fun a' h3 => ih (listed.setIfInBounds j true) a' (inv.set hj hjm) (fun k ok hk hki hunk hno => ?_) (ready_mono hr (Ne.symm hji)) h3.1 ?_) h2
      · refine hfree k ok hk hki ?_ hno
        by_cases hjk : j = k
        · subst hjk; exact hjun
        · rw [getD_set_ne true hjk] at hunk; exact hunk
      · rw [Array.setIfInBounds_comm _ _ hji]
        exact h3.2

/-- The list behind n operations from k on. -/
def behind : Nat → Nat → Array Bool → Array Bool
  | 0, _, listed => listed
  | n + 1, k, listed => behind n (k + 1) (listed.setIfInBounds k true)
/-- The n operations from k on may be taken in the order of the text. -/
def segB (md : Region.Mode) (ops : Array Oper) : Nat → Nat → Array Bool → Bool
  | 0, k, listed => (Region.ready md ops listed).all fun j => decide (k ≤ j)
  | n + 1, k, listed => (Region.ready md ops listed).contains k && Region.free md ops listed k && segB md ops n (k + 1) (listed.setIfInBounds k true)

theorem seg_lex {m : Nat} {Lq : Act → Prop} (hsel : Region.noSelect ops = true) (hc : cutB md ops m = true) (LM : Array Bool) :
    ∀ (l : List Oper) (k : Nat) (listed : Array Bool) (a : Act), (∀ j, j < l.length → l[j]? = ops[k + j]?) → k + l.length = m → HeadInv md ops m listed →
    segB md ops l.length k listed = true → behind l.length k listed = LM → wpStill P ops w Lq l a →
    wpAnyL P md ops w m (fun listed' a' => listed' = LM ∧ Lq a') l.length listed a ∧ ∀ j ∈ Region.ready md ops LM, m ≤ j
  | [], k, listed, a, _, hk, _, hB, hL, h => by
    have hkm : k = m := by simpa using hk
    subst hkm
    have hLM : listed = LM := hL
    subst hLM
    refine ⟨⟨rfl, h⟩, fun j hj => ?_⟩
    have := List.all_eq_true.1 hB j hj
    simpa using this
  | o :: l, k, listed, a, hl, hk, inv, hB, hL, h => by
    have h0 : ops[k]? = some o := by simpa using (hl 0 (by simp)).symm
    simp only [List.length_cons, segB, Bool.and_eq_true] at hB
    obtain ⟨⟨hr, hf⟩, hB'⟩ := hB
    have hkm : k < m := by simp only [List.length_cons] at hk; omega
    have hr' : k ∈ Region.ready md ops listed := by simpa using hr
    have hst : stOp P ops w k (wpStill P ops w Lq l) a := by unfold stOp; simp only [h0]; exact h
    obtain ⟨v, hy, hK⟩ := yieldsAt_of_stOp h0 hst
    have IH := seg_lex hsel hc LM l (k + 1) _ _ (fun j hj => by have := hl (j + 1) (by simp; omega); simpa [Nat.add_assoc, Nat.add_comm 1 j] using this) (by simp only [List.length_cons] at hk; omega) (inv.set hr' hkm) hB' hL hK
    refine ⟨seg_first h0 (Region.noSelect_spec hsel) hc hkm (fun listed' a' hL' => ?_) l.length listed a inv (Region.free_spec h0 hf) hr' hy IH.1, IH.2⟩
    rw [hL'.1]; exact IH.2

/-- The list is closed, and nothing from m on is in it. -/
def headB (md : Region.Mode) (ops : Array Oper) (m : Nat) (listed : Array Bool) : Bool :=
  decide (listed.size = ops.size) &&
  ((List.range ops.size).all fun j => !listed.getD j false || match ops[j]? with | some oj => oj.after.all (fun e => !Region.binds md e || listed.getD e.on false) | none => true) &&
  ((List.range ops.size).all fun t => decide (t < m) || !listed.getD t true)
theorem headB_spec {m : Nat} {listed : Array Bool} (h : headB md ops m listed = true) : HeadInv md ops m listed := by
  simp only [headB, Bool.and_eq_true, decide_eq_true_eq] at h
  obtain ⟨⟨h1, h2⟩, h3⟩ := h
  refine ⟨h1, fun j oj hj hl e he hb => ?_, fun t ht ht2 => ?_⟩
  · have := List.all_eq_true.1 h2 j (List.mem_range.2 (Array.getElem?_eq_some_iff.1 hj).1)
    rw [hl, hj] at this
    simp only [Bool.not_true, Bool.false_or] at this
    have := Array.all_eq_true'.1 this e he
    rw [hb] at this
    simpa using this
  · have := List.all_eq_true.1 h3 t (List.mem_range.2 ht2)
    simp only [Bool.or_eq_true, decide_eq_true_eq] at this
    rcases this with h | h
    · omega
    · simpa using h

/-- The segments: some n: n operations that leave the world alone; none: one operation that all wait for. -/
def segsB (md : Region.Mode) (ops : Array Oper) : List (Option Nat) → Nat → Array Bool → Bool
  | [], k, listed => decide (k = ops.size) && (Region.ready md ops listed).isEmpty
  | some n :: s, k, listed => decide (k + n ≤ ops.size) && cutB md ops (k + n) && headB md ops (k + n) listed && segB md ops n k listed && segsB md ops s (k + n) (behind n k listed)
  | none :: s, k, listed => decide (k < ops.size) && decide (Region.ready md ops listed = [k]) && segsB md ops s (k + 1) (listed.setIfInBounds k true)
/-- A segment, closed to the look of 'whnf'. -/
@[irreducible] def Seg (P : Program) (ops : Array Oper) (w : World) (Q : Act → Prop) (l : List Oper) (a : Act) : Prop := wpStill P ops w Q l a
theorem Seg.out {Q : Act → Prop} {l : List Oper} {a : Act} (h : Seg P ops w Q l a) : wpStill P ops w Q l a := by unfold Seg at h; exact h
theorem Seg.of {Q : Act → Prop} {l : List Oper} {a : Act} (h : wpStill P ops w Q l a) : Seg P ops w Q l a := by unfold Seg; exact h
@[irreducible] def Bar (P : Program) (ops : Array Oper) (next : Act → World → Prop) (Q : Exit → Act → World → Prop) (l : List Oper) (a : Act) (w : World) : Prop := wpList P ops (Exit.then next Q) l a w
theorem Bar.out {next : Act → World → Prop} {Q : Exit → Act → World → Prop} {l : List Oper} {a : Act} (h : Bar P ops next Q l a w) : wpList P ops (Exit.then next Q) l a w := by unfold Bar at h; exact h
theorem Bar.of {next : Act → World → Prop} {Q : Exit → Act → World → Prop} {l : List Oper} {a : Act} (h : wpList P ops (Exit.then next Q) l a w) : Bar P ops next Q l a w := by unfold Bar; exact h
def wpSegs (P : Program) (ops : Array Oper) (Q : Exit → Act → World → Prop) : List (Option Nat) → List Oper → Act → World → Prop
  | [], _, a, w => Q .normal a w
  | some n :: s, l, a, w => Seg P ops w (fun a' => wpSegs P ops Q s (l.drop n) a' w) (l.take n) a
  | none :: s, l, a, w => Bar P ops (fun a' w' => wpSegs P ops Q s (l.drop 1) a' w') Q (l.take 1) a w

theorem wpAny_of_segs {Q : Exit → Act → World → Prop} (hsel : Region.noSelect ops = true) : ∀ (s : List (Option Nat)) (l : List Oper) (k : Nat) (listed : Array Bool) (a : Act) (w : World),
    (∀ j, l[j]? = ops[k + j]?) → segsB md ops s k listed = true → wpSegs P ops Q s l a w → wpAny P md ops Q (ops.size - k) listed a w
  | [], l, k, listed, a, w, hl, hB, h => by
    simp only [segsB, Bool.and_eq_true, decide_eq_true_eq] at hB
    rw [hB.1, Nat.sub_self]
    exact ⟨by simpa using hB.2, h⟩
  | some n :: s, l, k, listed, a, w, hl, hB, h => by
    simp only [segsB, Bool.and_eq_true, decide_eq_true_eq] at hB
    obtain ⟨⟨⟨⟨hn, hc⟩, hh⟩, hs⟩, hB'⟩ := hB
    have hll : l.length = ops.size - k := by
      have h1 : ∀ j, j < l.length ↔ k + j < ops.size := fun j => by
        constructor
        · intro hj; have := hl j; rw [List.getElem?_eq_getElem hj] at this; exact (Array.getElem?_eq_some_iff.1 this.symm).1
        · intro hj; have := hl j; rw [Array.getElem?_eq_getElem hj] at this; exact (List.getElem?_eq_some_iff.1 this).1
      rcases Nat.lt_trichotomy l.length (ops.size - k) with h2 | h2 | h2
      · have := (h1 l.length).2 (by omega); omega
      · exact h2
      · have := (h1 (ops.size - k)).1 h2; omega
    have htl : (l.take n).length = n := by simp; omega
    have H := seg_lex (P := P) (md := md) (w := w) hsel hc (behind n k listed) (l.take n) k listed a (fun j hj => by
      rw [htl] at hj
      rw [List.getElem?_take, if_pos hj]; exact hl j) (by rw [htl]) (headB_spec hh) (by rw [htl]; exact hs) (by rw [htl]) (Seg.out h)
    have := wpAny_of_head (Q' := Q) (g := ops.size - (k + n)) (fun listed' a' hL => by
      rw [hL.1]
      exact wpAny_of_segs hsel s (l.drop n) (k + n) _ a' w (fun j => by rw [List.getElem?_drop, hl, Nat.add_assoc]) hB' hL.2) _ _ _ H.1
    rw [htl, show n + (ops.size - (k + n)) = ops.size - k by omega] at this
    exact this
  | none :: s, l, k, listed, a, w, hl, hB, h => by
    simp only [segsB, Bool.and_eq_true, decide_eq_true_eq] at hB
    obtain ⟨⟨hk, hr⟩, hB'⟩ := hB
    obtain ⟨o, ho⟩ : ∃ o, ops[k]? = some o := ⟨ops[k], by simp [hk]⟩
    have h0 : l[0]? = some o := by rw [hl]; exact ho
    obtain ⟨l', rfl⟩ : ∃ l', l = o :: l' := by
      cases l with
      | nil => simp at h0
      | cons x y => simp at h0; exact ⟨y, by rw [h0]⟩
    rw [show ops.size - k = (ops.size - (k + 1)) + 1 by omega]
    refine ⟨fun h1 => (by rw [hr] at h1; cases h1), fun i hi => ?_⟩
    rw [hr] at hi
    have hik : i = k := by simpa using hi
    subst hik
    have hw : wpOp P ops Q i (fun a' w' => wpSegs P ops Q s l' a' w') a w := by
      unfold wpOp
      simp only [ho]
      exact Bar.out h
    exact wpOp_mono (fun a' w' h' => wpAny_of_segs hsel s l' (i + 1) _ a' w' (fun j => by have := hl (j + 1); simpa [Nat.add_assoc, Nat.add_comm 1 j] using this) hB' h') hw

theorem wp_region_segs {id : Nat} {Q : Exit → Act → World → Prop} {a : Act} {w : World} {l : List Oper} (s : List (Option Nat)) (hm : P.follows .mixedOrders = true) (hsel : Region.noSelect l.toArray = true)
    (hB : segsB .any l.toArray s 0 (Array.replicate l.toArray.size false) = true) (h : wpSegs P l.toArray Q s l a w.drew) : (Code.region id l.toArray true).wp P Q a w := by
  refine wp_region_any hm ?_
  have := wpAny_of_segs (md := .any) (P := P) (Q := Q) hsel s l 0 _ a w.drew (by simp) hB h
  simpa using this

/-- The steps of a segment; the region's operations are laid aside. -/
theorem seg_nil {Q : Act → Prop} {a : Act} (h : Q a) : Seg P ops w Q [] a := Seg.of h
theorem seg_skip {Q : Act → Prop} {a : Act} {o : Oper} {rest : List Oper} (hw : Region.wanted o (yielded ops a.tmps) = false) (h : Seg P ops w Q rest (a.put o.dst undef)) : Seg P ops w Q (o :: rest) a := by
  refine Seg.of ?_
  unfold wpStill; rw [hw]; exact h.out
theorem seg_run {Q : Act → Prop} {a : Act} {dst : Option Tmp} {op : Op} {ty : TypeId} {pos : String} {aft : Array Edge} {g : Option (Nat × Bool)} {rest : List Oper} (hw : Region.wanted ⟨dst, op, ty, pos, aft, g⟩ (yielded ops a.tmps) = true)
    (h : ∀ K : Act → Prop, (∀ a, Seg P ops w Q rest a → K a) → Oper.still P ⟨dst, op, ty, pos, #[], none⟩ a w K) : Seg P ops w Q (⟨dst, op, ty, pos, aft, g⟩ :: rest) a := by
  refine Seg.of ?_
  unfold wpStill; rw [hw]; exact h _ (fun _ h => h.out)
theorem bar_skip {Q : Exit → Act → World → Prop} {next : Act → World → Prop} {a : Act} {o : Oper} (hw : Region.wanted o (yielded ops a.tmps) = false) (h : next (a.put o.dst undef) w) : Bar P ops next Q [o] a w := by
  refine Bar.of ?_
  unfold wpList; rw [hw]; exact h
theorem bar_run {Q : Exit → Act → World → Prop} {next : Act → World → Prop} {a : Act} {dst : Option Tmp} {op : Op} {ty : TypeId} {pos : String} {aft : Array Edge} {g : Option (Nat × Bool)} (hw : Region.wanted ⟨dst, op, ty, pos, aft, g⟩ (yielded ops a.tmps) = true)
    (h : ∀ K : Act → World → Prop, (∀ a w, next a w → K a w) → wpList P #[] (Exit.then K Q) [⟨dst, op, ty, pos, #[], none⟩] a w) : Bar P ops next Q [⟨dst, op, ty, pos, aft, g⟩] a w := by
  refine Bar.of ?_
  have := h _ (fun _ _ h => h)
  unfold wpList at this ⊢
  rw [hw]
  simp only [Region.wanted, if_true] at this
  exact this
end

end Go.Proofs.YtbkhdpocmmjnbaaGreatDoor

/- A region that draws its order: operations that yield the same in every world that meets S are taken first, in the order of the text; between them single operations that all wait for. -/
namespace Go.Proofs.YtbkhdpocmmjnbaaGreatDoor
open Go

section
variable {P : Program} {ops : Array Oper} {Q : Exit → Act → World → Prop} {S : World → Prop}
/-- A region on its way, closed to the look of 'whnf'. -/
@[irreducible] def Hld (P : Program) (ops : Array Oper) (Q : Exit → Act → World → Prop) (S : World → Prop) (fuel : Nat) (listed : Array Bool) (a : Act) (w : World) : Prop := wpAnyH P .any ops Q S fuel listed a w
theorem Hld.of {fuel : Nat} {listed : Array Bool} {a : Act} {w : World} (h : wpAnyH P .any ops Q S fuel listed a w) : Hld P ops Q S fuel listed a w := by unfold Hld; exact h
theorem Hld.out {fuel : Nat} {listed : Array Bool} {a : Act} {w : World} (h : Hld P ops Q S fuel listed a w) : wpAnyH P .any ops Q S fuel listed a w := by unfold Hld at h; exact h
theorem hld_start {id : Nat} {a : Act} {w : World} {l : List Oper} (S : World → Prop) (hm : P.follows .mixedOrders = true) (h : Hld P l.toArray Q S l.length (Array.replicate l.length false) a w.drew) : (Code.region id l.toArray true).wp P Q a w := by
  refine wp_region_held (S := S) hm ?_
  have := h.out
  simpa using this
theorem hld_take {dst : Option Tmp} {op : Op} {ty : TypeId} {pos : String} {aft : Array Edge} {g : Option (Nat × Bool)} {v : Value} {fuel : Nat} {listed : Array Bool} {a : Act} {w : World} (i : Nat) (hi : ops[i]? = some ⟨dst, op, ty, pos, aft, g⟩)
    (hs : Region.noSelect ops = true) (hf : Region.free .any ops listed i = true) (hr : (Region.ready .any ops listed).contains i = true)
    (hQ : ∀ c a w, Q (.panic c) (a.put dst v) w → Q (.panic c) a w) (hw : Region.wanted ⟨dst, op, ty, pos, aft, g⟩ (yielded ops a.tmps) = true) (hS : S w)
    (hy : ∀ w', S w' → (execOp a.eval ⟨dst, op, ty, pos, aft, g⟩).run P w' = .ok (.value v) w')
    (h : Hld P ops Q S fuel (listed.setIfInBounds i true) (a.put dst v) w) : Hld P ops Q S (fuel + 1) listed a w :=
  Hld.of (wpAnyH_take (oi := ⟨dst, op, ty, pos, aft, g⟩) hi hs hf hr hQ (.inl ⟨hw, hy⟩) hS h.out)

theorem hld_skip {dst : Option Tmp} {op : Op} {ty : TypeId} {pos : String} {aft : Array Edge} {g : Option (Nat × Bool)} {fuel : Nat} {listed : Array Bool} {a : Act} {w : World} (i : Nat) (hi : ops[i]? = some ⟨dst, op, ty, pos, aft, g⟩)
    (hs : Region.noSelect ops = true) (hf : Region.free .any ops listed i = true) (hr : (Region.ready .any ops listed).contains i = true)
    (hQ : ∀ c a w, Q (.panic c) (a.put dst undef) w → Q (.panic c) a w) (hw : Region.wanted ⟨dst, op, ty, pos, aft, g⟩ (yielded ops a.tmps) = false) (hS : S w)
    (h : Hld P ops Q S fuel (listed.setIfInBounds i true) (a.put dst undef) w) : Hld P ops Q S (fuel + 1) listed a w :=
  Hld.of (wpAnyH_take (oi := ⟨dst, op, ty, pos, aft, g⟩) hi hs hf hr hQ (.inr ⟨hw, rfl⟩) hS h.out)
theorem hld_bar {dst : Option Tmp} {op : Op} {ty : TypeId} {pos : String} {aft : Array Edge} {g : Option (Nat × Bool)} {fuel : Nat} {listed : Array Bool} {a : Act} {w : World} (i : Nat) (hi : ops[i]? = some ⟨dst, op, ty, pos, aft, g⟩) (hr : Region.ready .any ops listed = [i])
    (hw : Region.wanted ⟨dst, op, ty, pos, aft, g⟩ (yielded ops a.tmps) = true)
    (h : ∀ K : Act → World → Prop, (∀ a w, S w ∧ Hld P ops Q S fuel (listed.setIfInBounds i true) a w → K a w) → wpList P #[] (Exit.then K Q) [⟨dst, op, ty, pos, #[], none⟩] a w) : Hld P ops Q S (fuel + 1) listed a w := by
  refine Hld.of (wpAnyH_all hr (by simp) fun j hj => ?_)
  have hji : j = i := by simpa using hj
  subst hji
  have hb : Bar P ops (fun a' w' => S w' ∧ wpAnyH P .any ops Q S fuel (listed.setIfInBounds j true) a' w') Q [⟨dst, op, ty, pos, aft, g⟩] a w :=
    bar_run hw (fun K hK => h K (fun a w hh => hK a w ⟨hh.1, hh.2.out⟩))
  unfold wpOp
  simp only [hi]
  exact Bar.out hb
theorem hld_done {listed : Array Bool} {a : Act} {w : World} {fuel : Nat} (hr : Region.ready .any ops listed = []) (h : Q .normal a w) : Hld P ops Q S fuel listed a w := Hld.of (wpAnyH_done hr h fuel)
end
end Go.Proofs.YtbkhdpocmmjnbaaGreatDoor

/- Contracts of package filetree: Put. -/
namespace Go.Proofs.YtbkhdpocmmjnbaaGreatDoor
open Go.RowKit Go.Maps


/-- What an operation leaves: its error number, the tree, the map's block and new blocks alone are written. -/
def OpRes (S : Nat → Prop) (tb mb : Nat) (r : List Ent × Int) (w : World) (e : Ending) (w' : World) : Prop :=
  e = .returned (.int .i64 r.2) ∧ TreeAt (fun k => S k ∨ (w.heap.size ≤ k ∧ k < w'.heap.size)) w' tb mb r.1 ∧ w.grownBy w' (some mb)
theorem validE_is (S : Nat → Prop) (en : Ent) (v : Value) (b : Bool) (w : World) (hd : DataAt S w v en.data) (hok : EntOk en) (henv : Env w) (h : vEnt en = b) : Calls Tryz.prog 45 #[entV v en] w fun e w' => e = .returned (.bool b) ∧ Below w.heap.size w w' := by
  rw [← h]; exact validE_any S en v w hd hok henv
theorem parentT_is (S : Nat → Prop) (tb mb : Nat) (L : List Ent) (p : ByteArray) (w : World) (x : Int) (ht : TreeAt S w tb mb L) (he : Env w) (hv : validP (bl p) = true) (hx : dirE L (parentL (bl p)) = x) :
    Calls Tryz.prog 43 #[.pointer (some ⟨tb, 0, none⟩), .string p] w fun e w' => e = .returned (.int .i64 x) ∧ Below w.heap.size w w' := by
  rw [← hx]; exact parentT_any S tb mb L p w ht he hv
theorem TreeAt.mb_lt {S : Nat → Prop} {w : World} {tb mb : Nat} {L : List Ent} (h : TreeAt S w tb mb L) : mb < w.heap.size := by
  obtain ⟨xs, h1, _⟩ := h.ents
  exact h1.map.lt
theorem grown_of_below {w w' : World} (h : Below w.heap.size w w') (r : Option Nat) : w.grownBy w' r := ⟨h.os, h.tape, h.output, h.size, fun k hk _ => h.block k hk⟩
theorem TreeAt.mono {S S' : Nat → Prop} {w : World} {tb mb : Nat} {L : List Ent} (h : TreeAt S w tb mb L) (hs : ∀ k, S k → S' k) (h1 : ¬ S' tb) (h2 : ¬ S' mb) (h3 : ∀ k, S' k → k < w.heap.size) : TreeAt S' w tb mb L := by
  obtain ⟨xs, hm, hp⟩ := h.ents
  exact ⟨h.cell, h.ne, h1, h3, h.ok, xs, hm.mono hs h2, hp⟩
theorem TreeAt.wide {S : Nat → Prop} {w w' : World} {tb mb : Nat} {L : List Ent} (h : TreeAt S w tb mb L) (hb : Below w.heap.size w w') : TreeAt (fun k => S k ∨ (w.heap.size ≤ k ∧ k < w'.heap.size)) w' tb mb L := by
  have h0 := h.mb_lt
  have h1 := block_lt h.cell
  obtain ⟨xs, hm, _⟩ := h.ents
  have h2 := hm.far
  refine (h.below hb).mono (fun k hk => .inl hk) (fun hc => ?_) (fun hc => ?_) (fun k hk => ?_)
  · rcases hc with hc | hc
    · exact h.far hc
    · simp only at h1; omega
  · rcases hc with hc | hc
    · exact h2 hc
    · omega
  · rcases hk with hk | hk
    · exact Nat.lt_of_lt_of_le (h.lt k hk) hb.size
    · exact hk.2
theorem op_same {S : Nat → Prop} {tb mb : Nat} {L : List Ent} {w w' : World} {x : Int} (h : TreeAt S w tb mb L) (hb : Below w.heap.size w w') : OpRes S tb mb (L, x) w (.returned (.int .i64 x)) w' :=
  ⟨rfl, h.wide hb, grown_of_below hb _⟩
theorem op_done {S : Nat → Prop} {tb mb : Nat} {L M : List Ent} {w w5 w6 : World} {x : Int} (h : TreeAt S w tb mb L) (hb : Below w.heap.size w w5) (hg : w5.grownBy w6 (some mb)) (h6 : TreeAt (fun k => S k ∨ (w.heap.size ≤ k ∧ k < w5.heap.size)) w6 tb mb M) : OpRes S tb mb (M, x) w (.returned (.int .i64 x)) w6 := by
  have h0 := h.mb_lt
  have h1 := block_lt h.cell
  obtain ⟨xs, hm, _⟩ := h.ents
  have h2 := hm.far
  refine ⟨rfl, h6.mono (fun k hk => ?_) (fun hc => ?_) (fun hc => ?_) (fun k hk => ?_), (grown_of_below hb (some mb)).trans hg⟩
  · rcases hk with hk | hk
    · exact .inl hk
    · exact .inr ⟨hk.1, Nat.lt_of_lt_of_le hk.2 hg.size⟩
  · rcases hc with hc | hc
    · exact h.far hc
    · simp only at h1; omega
  · rcases hc with hc | hc
    · exact h2 hc
    · omega
  · rcases hk with hk | hk
    · exact Nat.lt_of_lt_of_le (h.lt k hk) (Nat.le_trans hb.size hg.size)
    · exact hk.2
theorem vEnt_data {e : Ent} (h : vEnt e = true) : e.data.length ≤ 140737488355328 := by
  unfold vEnt vKind at h
  simp only [Bool.and_eq_true] at h
  have h2 := h.2
  split at h2
  · simp only [Bool.and_eq_true, decide_eq_true_eq] at h2; omega
  · split at h2
    · simp only [Bool.and_eq_true, decide_eq_true_eq] at h2; omega
    · split at h2
      · simp only [Bool.and_eq_true, decide_eq_true_eq] at h2; omega
      · simp at h2
theorem copied_flat (S : Nat → Prop) (en : Ent) (v : Value) (w : World) (hd : DataAt S w v en.data) (hl : en.data.length ≤ 140737488355328) :
    Calls Tryz.prog 32 #[entV v en] w fun e w' => ∃ a' cap', e = .returned (.agg #[.string en.path, .int .i64 en.kind, .int .i64 en.mode, .int .i64 en.time, .slice a' en.data.length cap', .string en.link]) ∧ w'.ownsRow w.heap.size 5 1 (.slice a' en.data.length cap') en.data.length (en.data.map u8V) ∧ Below w.heap.size w w' :=
  (copied_any S en v w hd hl).mono fun _ _ ⟨v', he, ho, hb⟩ => by
    obtain ⟨a', cap', rfl, _, _⟩ := owns_shape ho
    exact ⟨a', cap', he, ho, hb⟩
set_option maxRecDepth 100000 in
set_option maxHeartbeats 2000000 in
theorem put_any (S T : Nat → Prop) (tb mb : Nat) (L : List Ent) (en : Ent) (v : Value) (w : World) (ht : TreeAt S w tb mb L) (hd : DataAt T w v en.data) (hok : EntOk en) (henv : Env w) :
    Calls Tryz.prog 26 #[.pointer (some ⟨tb, 0, none⟩), entV v en] w (OpRes S tb mb (putP L en) w) := by
  have HD := Lib.hid hd
  obtain ⟨_, a, cap, rfl, hc, hm, -⟩ := hd
  unfold maxLen at hm
  have HT := Lib.hid ht
  have HE := Lib.hid henv
  have HO := Lib.hid hok
  have hq1 := hok.pth
  unfold maxLen at hq1
  clear ht henv hok
  unfold entV
  cases hv : vEnt en
  · have HV := Lib.hid hv
    have HP := Lib.hid (show putP L en = (L, 1) by unfold putP; rw [if_pos hv])
    clear hv
    go_enter Tryz.func26, Tryz.ntmps26
    go_wp2_with fail
    obtain ⟨W, hW⟩ : ∃ W, W = w.alloc (.cells #[.string en.path, .int .i64 en.kind, .int .i64 en.mode, .int .i64 en.time, .slice a en.data.length cap, .string en.link] 30) := ⟨_, rfl⟩
    rw [← hW]
    have HBW := Lib.hid (show Below w.heap.size w W by rw [hW]; exact (Below.refl _ _).alloc (Nat.le_refl _) _)
    have HBX := Lib.hid (show W.heap[w.heap.size]? = some (.cells #[.string en.path, .int .i64 en.kind, .int .i64 en.mode, .int .i64 en.time, .slice a en.data.length cap, .string en.link] 30 (0, 0)) by rw [hW]; exact new20 w _)
    clear hW
    refine (validE_is T en _ false _ (HD.out.below HBW.out) HO.out (HE.out.below HBW.out) HV.out).mono ?_
    rintro e w1 ⟨rfl, hb1⟩
    have HB1 := Lib.hid (below_next HBW.out hb1)
    clear hb1
    go_wp2_with fail
    go_ret
    rw [HP.out]
    exact op_same HT.out HB1.out
  · have HVP := Lib.hid (vEnt_path hv)
    have HV := Lib.hid hv
    clear hv
    by_cases hdir : dirE L (parentL (bl en.path)) = 0
    · have HX := Lib.hid hdir
      clear hdir
      cases hf : findE L en.path with
      | none =>
        have HF := Lib.hid hf
        have HLK := Lib.hid (show ∀ W', Below w.heap.size w W' → (Instr.lookup 61 (.map (some mb)) (.string en.path) true).run Tryz.prog W' = .ok (.tuple #[.agg #[.string ByteArray.empty, .int .i64 0, .int .i64 0, .int .i64 0, .slice none 0 0, .string ByteArray.empty], .bool false]) W' from fun W' hb => by
          have := (HT.out.below hb).miss mapTy (zeroE_run W') HO.out.pth HF.out true
          unfold zeroE at this
          simpa only [if_true] using this)
        clear hf
        go_enter Tryz.func26, Tryz.ntmps26
        go_wp2_with fail
        obtain ⟨W, hW⟩ : ∃ W, W = w.alloc (.cells #[.string en.path, .int .i64 en.kind, .int .i64 en.mode, .int .i64 en.time, .slice a en.data.length cap, .string en.link] 30) := ⟨_, rfl⟩
        rw [← hW]
        have HBW := Lib.hid (show Below w.heap.size w W by rw [hW]; exact (Below.refl _ _).alloc (Nat.le_refl _) _)
        have HBX := Lib.hid (show W.heap[w.heap.size]? = some (.cells #[.string en.path, .int .i64 en.kind, .int .i64 en.mode, .int .i64 en.time, .slice a en.data.length cap, .string en.link] 30 (0, 0)) by rw [hW]; exact new20 w _)
        clear hW
        refine (validE_is T en _ true _ (HD.out.below HBW.out) HO.out (HE.out.below HBW.out) HV.out).mono ?_
        rintro e w1 ⟨rfl, hb1⟩
        have HB1 := Lib.hid (below_next HBW.out hb1)
        have HBX1 := Lib.hid ((hb1.block w.heap.size (lt20 HBX.out)).trans HBX.out)
        clear hb1
        have c0 := cell20 (k := 0) HBX1.out
        have c1 := cell20 (k := 1) HBX1.out
        have c2 := cell20 (k := 2) HBX1.out
        have c3 := cell20 (k := 3) HBX1.out
        have c4 := cell20 (k := 4) HBX1.out
        have c5 := cell20 (k := 5) HBX1.out
        simp only [List.getElem?_toArray, List.getElem?_cons_succ, List.getElem?_cons_zero] at c0 c1 c2 c3 c4 c5
        go_wp2_with (go_at_call 43; refine (parentT_is S tb mb L en.path _ 0 (HT.out.below HB1.out) (HE.out.below HB1.out) HVP.out HX.out).mono ?_; rintro e w2 ⟨rfl, hb2⟩)
        have HB2 := Lib.hid (below_next HB1.out hb2)
        have HBX2 := Lib.hid ((hb2.block w.heap.size (lt20 HBX1.out)).trans HBX1.out)
        clear hb2 c0 c1 c2 c3 c4 c5
        refine hld_start (fun w' => w'.cell? ⟨tb, 0, none⟩ = some (.map (some mb)) ∧ w'.cell? ⟨w.heap.size, 0, none⟩ = some (.string en.path) ∧ (Instr.lookup 61 (.map (some mb)) (.string en.path) true).run Tryz.prog w' = .ok (.tuple #[.agg #[.string ByteArray.empty, .int .i64 0, .int .i64 0, .int .i64 0, .slice none 0 0, .string ByteArray.empty], .bool false]) w') (by kernel_rfl) ?_
        obtain ⟨W2, hW2⟩ : ∃ W2 : World, W2 = w2.drew := ⟨_, rfl⟩
        rw [← hW2]
        have hbw : Below w2.heap.size w2 W2 := by rw [hW2]; exact (Below.refl _ _).drew
        have HB3 := Lib.hid (below_next HB2.out hbw)
        have HBX3 := Lib.hid ((hbw.block w.heap.size (lt20 HBX2.out)).trans HBX2.out)
        clear hW2 hbw
        have hS1 := (HT.out.below HB3.out).cell
        have hS2 := cell20 (k := 0) HBX3.out
        have hS3 := HLK.out W2 HB3.out
        simp only [List.getElem?_toArray, List.getElem?_cons_zero] at hS2
        refine hld_take 0 rfl (by kernel_rfl) (by kernel_rfl) (by kernel_rfl) (fun _ _ _ h => h) rfl ⟨hS1, hS2, hS3⟩ (by rintro w' ⟨hw1, hw2, hw3⟩; go_simp; rfl) ?_
        simp only [Act.put, List.setIfInBounds_toArray, List.set_cons_succ, List.set_cons_zero]
        refine hld_take 1 rfl (by kernel_rfl) (by kernel_rfl) (by kernel_rfl) (fun _ _ _ h => h) rfl ⟨hS1, hS2, hS3⟩ (by rintro w' ⟨hw1, hw2, hw3⟩; go_simp; rfl) ?_
        simp only [Act.put, List.setIfInBounds_toArray, List.set_cons_succ, List.set_cons_zero]
        refine hld_take 2 rfl (by kernel_rfl) (by kernel_rfl) (by kernel_rfl) (fun _ _ _ h => h) rfl ⟨hS1, hS2, hS3⟩ (by rintro w' ⟨hw1, hw2, hw3⟩; go_simp; rfl) ?_
        simp only [Act.put, List.setIfInBounds_toArray, List.set_cons_succ, List.set_cons_zero]
        refine hld_take 3 rfl (by kernel_rfl) (by kernel_rfl) (by kernel_rfl) (fun _ _ _ h => h) rfl ⟨hS1, hS2, hS3⟩ (by rintro w' ⟨hw1, hw2, hw3⟩; go_simp; rfl) ?_
        simp only [Act.put, List.setIfInBounds_toArray, List.set_cons_succ, List.set_cons_zero]
        refine hld_take 4 rfl (by kernel_rfl) (by kernel_rfl) (by kernel_rfl) (fun _ _ _ h => h) rfl ⟨hS1, hS2, hS3⟩ (by rintro w' ⟨hw1, hw2, hw3⟩; go_simp; rfl) ?_
        simp only [Act.put, List.setIfInBounds_toArray, List.set_cons_succ, List.set_cons_zero]
        refine hld_take 5 rfl (by kernel_rfl) (by kernel_rfl) (by kernel_rfl) (fun _ _ _ h => h) rfl ⟨hS1, hS2, hS3⟩ (by rintro w' ⟨hw1, hw2, hw3⟩; go_simp; rfl) ?_
        simp only [Act.put, List.setIfInBounds_toArray, List.set_cons_succ, List.set_cons_zero]
        refine hld_take 6 rfl (by kernel_rfl) (by kernel_rfl) (by kernel_rfl) (fun _ _ _ h => h) rfl ⟨hS1, hS2, hS3⟩ (by rintro w' ⟨hw1, hw2, hw3⟩; go_simp; rfl) ?_
        simp only [Act.put, List.setIfInBounds_toArray, List.set_cons_succ, List.set_cons_zero]
        refine hld_take 7 rfl (by kernel_rfl) (by kernel_rfl) (by kernel_rfl) (fun _ _ _ h => h) rfl ⟨hS1, hS2, hS3⟩ (by rintro w' ⟨hw1, hw2, hw3⟩; go_simp; rfl) ?_
        simp only [Act.put, List.setIfInBounds_toArray, List.set_cons_succ, List.set_cons_zero]
        refine hld_take 8 rfl (by kernel_rfl) (by kernel_rfl) (by kernel_rfl) (fun _ _ _ h => h) rfl ⟨hS1, hS2, hS3⟩ (by rintro w' ⟨hw1, hw2, hw3⟩; go_simp; rfl) ?_
        simp only [Act.put, List.setIfInBounds_toArray, List.set_cons_succ, List.set_cons_zero]
        refine hld_take 9 rfl (by kernel_rfl) (by kernel_rfl) (by kernel_rfl) (fun _ _ _ h => h) rfl ⟨hS1, hS2, hS3⟩ (by rintro w' ⟨hw1, hw2, hw3⟩; go_simp; rfl) ?_
        simp only [Act.put, List.setIfInBounds_toArray, List.set_cons_succ, List.set_cons_zero]
        refine hld_bar 10 rfl (by kernel_rfl) rfl (fun K hK => ?_)
        go_wp2_with fail
        obtain ⟨W3, hW3⟩ : ∃ W3 : World, W3 = W2.alloc (.cells #[.string ⟨#[]⟩, .int .i64 0, .int .i64 0, .int .i64 0, .slice none 0 0, .string ⟨#[]⟩] 30) := ⟨_, rfl⟩
        rw [← hW3]
        have hbw : Below W2.heap.size W2 W3 := by rw [hW3]; exact (Below.refl _ _).alloc (Nat.le_refl _) _
        have HB4 := Lib.hid (below_next HB3.out hbw)
        have HBX4 := Lib.hid ((hbw.block w.heap.size (lt20 HBX3.out)).trans HBX3.out)
        have HN4 := Lib.hid (show W3.heap[W2.heap.size]? = some (.cells #[.string ⟨#[]⟩, .int .i64 0, .int .i64 0, .int .i64 0, .slice none 0 0, .string ⟨#[]⟩] 30 (0, 0)) by rw [hW3]; exact new20 W2 _)
        have HSZ := Lib.hid (And.intro HB3.out.size (lt20 HBX3.out))
        clear hW3 hbw
        have hT1 := (HT.out.below HB4.out).cell
        have hT2 := cell20 (k := 0) HBX4.out
        have hT3 := HLK.out W3 HB4.out
        simp only [List.getElem?_toArray, List.getElem?_cons_zero] at hT2
        refine ⟨⟨hT1, hT2, hT3⟩, ?_⟩
        refine hld_bar 11 rfl (by kernel_rfl) rfl (fun K hK => ?_)
        have m0 := cell20 (k := 0) HN4.out
        have m1 := cell20 (k := 1) HN4.out
        have m2 := cell20 (k := 2) HN4.out
        have m3 := cell20 (k := 3) HN4.out
        have m4 := cell20 (k := 4) HN4.out
        have m5 := cell20 (k := 5) HN4.out
        simp only [List.getElem?_toArray, List.getElem?_cons_succ, List.getElem?_cons_zero] at m0 m1 m2 m3 m4 m5
        have p0 := frozen20 (k := 0) HN4.out
        have p1 := frozen20 (k := 1) HN4.out
        have p2 := frozen20 (k := 2) HN4.out
        have p3 := frozen20 (k := 3) HN4.out
        have p4 := frozen20 (k := 4) HN4.out
        have p5 := frozen20 (k := 5) HN4.out
        go_wp2_with fail
        clear m0 m1 m2 m3 m4 m5 p0 p1 p2 p3 p4 p5 hS1 hS2 hS3 hT1 hT2 hT3
        obtain ⟨W4, hW4⟩ : ∃ W4 : World, W4 = (((((W3.setCell ⟨W2.heap.size, 0, none⟩ (.string ByteArray.empty)).setCell ⟨W2.heap.size, 1, none⟩ (.int .i64 0)).setCell ⟨W2.heap.size, 2, none⟩ (.int .i64 0)).setCell ⟨W2.heap.size, 3, none⟩ (.int .i64 0)).setCell ⟨W2.heap.size, 4, none⟩ (.slice none 0 0)).setCell ⟨W2.heap.size, 5, none⟩ (.string ByteArray.empty) := ⟨_, rfl⟩
        rw [← hW4]
        have HB5 := Lib.hid (show Below w.heap.size w W4 by
          have h1 := HSZ.out.1
          rw [hW4]
          repeat refine below_set20 ?_ h1
          exact HB4.out)
        have HN5 := Lib.hid (show W4.heap[W2.heap.size]? = some (.cells #[.string ByteArray.empty, .int .i64 0, .int .i64 0, .int .i64 0, .slice none 0 0, .string ByteArray.empty] 30 (0, 0)) by rw [hW4]; exact six20 HN4.out)
        have HBX5 := Lib.hid (show W4.heap[w.heap.size]? = some (.cells #[.string en.path, .int .i64 en.kind, .int .i64 en.mode, .int .i64 en.time, .slice a en.data.length cap, .string en.link] 30 (0, 0)) by
          have h1 : w.heap.size ≠ W2.heap.size := by have := HSZ.out.2; omega
          rw [hW4]
          exact setOther20 (setOther20 (setOther20 (setOther20 (setOther20 (setOther20 HBX4.out h1 _) h1 _) h1 _) h1 _) h1 _) h1 _)
        clear hW4 HN4
        have hS1 := (HT.out.below HB5.out).cell
        have hS2 := cell20 (k := 0) HBX5.out
        have hS3 := HLK.out W4 HB5.out
        simp only [List.getElem?_toArray, List.getElem?_cons_zero] at hS2
        refine ⟨⟨hS1, hS2, hS3⟩, ?_⟩
        refine hld_take 12 rfl (by kernel_rfl) (by kernel_rfl) (by kernel_rfl) (fun _ _ _ h => h) rfl ⟨hS1, hS2, hS3⟩ (by rintro w' ⟨hw1, hw2, hw3⟩; go_simp; rfl) ?_
        simp only [Act.put, List.setIfInBounds_toArray, List.set_cons_succ, List.set_cons_zero]
        refine hld_done (by kernel_rfl) ?_
        clear hS1 hS2 hS3
        have hS1 := (HT.out.below HB5.out).cell
        have hlen := (HT.out.below HB5.out).len mapTy
        by_cases hful : 4096 ≤ L.length
        · have HP := Lib.hid (show putP L en = (L, 7) by unfold putP; rw [if_neg (by rw [HV.out]; simp), if_neg (by rw [HX.out]; simp), HF.out]; simp only [if_pos hful])
          have hfi : (4096 : Int) ≤ (L.length : Int) := by omega
          go_wp2_with fail
          go_ret
          rw [HP.out]
          exact op_same HT.out HB5.out
        · have HP0 := Lib.hid (show (putP L en).2 = 0 by unfold putP; rw [if_neg (by rw [HV.out]; simp), if_neg (by rw [HX.out]; simp), HF.out]; simp only [if_neg hful])
          have hfi : (L.length : Int) < (4096 : Int) := by omega
          go_wp2_with fail
          refine hld_start (fun w' => w'.cell? ⟨tb, 0, none⟩ = some (.map (some mb)) ∧ w'.cell? ⟨w.heap.size, 0, none⟩ = some (.string en.path) ∧ w'.cell? ⟨w.heap.size, 1, none⟩ = some (.int .i64 en.kind) ∧ w'.cell? ⟨w.heap.size, 2, none⟩ = some (.int .i64 en.mode) ∧ w'.cell? ⟨w.heap.size, 3, none⟩ = some (.int .i64 en.time) ∧ w'.cell? ⟨w.heap.size, 4, none⟩ = some (.slice a en.data.length cap) ∧ w'.cell? ⟨w.heap.size, 5, none⟩ = some (.string en.link)) (by kernel_rfl) ?_
          obtain ⟨W5, hW5⟩ : ∃ W5 : World, W5 = W4.drew := ⟨_, rfl⟩
          rw [← hW5]
          have hbw : Below W4.heap.size W4 W5 := by rw [hW5]; exact (Below.refl _ _).drew
          have HB6 := Lib.hid (below_next HB5.out hbw)
          have HBX6 := Lib.hid ((hbw.block w.heap.size (lt20 HBX5.out)).trans HBX5.out)
          clear hW5 hbw hS1
          have hS1 := (HT.out.below HB6.out).cell
          have c0 := cell20 (k := 0) HBX6.out
          have c1 := cell20 (k := 1) HBX6.out
          have c2 := cell20 (k := 2) HBX6.out
          have c3 := cell20 (k := 3) HBX6.out
          have c4 := cell20 (k := 4) HBX6.out
          have c5 := cell20 (k := 5) HBX6.out
          simp only [List.getElem?_toArray, List.getElem?_cons_succ, List.getElem?_cons_zero] at c0 c1 c2 c3 c4 c5
          refine hld_take 0 rfl (by kernel_rfl) (by kernel_rfl) (by kernel_rfl) (fun _ _ _ h => h) rfl ⟨hS1, c0, c1, c2, c3, c4, c5⟩ (by rintro w' ⟨hw1, hw2, hw3, hw4, hw5, hw6, hw7⟩; go_simp; rfl) ?_
          simp only [Act.put, List.setIfInBounds_toArray, List.set_cons_succ, List.set_cons_zero]
          refine hld_take 1 rfl (by kernel_rfl) (by kernel_rfl) (by kernel_rfl) (fun _ _ _ h => h) rfl ⟨hS1, c0, c1, c2, c3, c4, c5⟩ (by rintro w' ⟨hw1, hw2, hw3, hw4, hw5, hw6, hw7⟩; go_simp; rfl) ?_
          simp only [Act.put, List.setIfInBounds_toArray, List.set_cons_succ, List.set_cons_zero]
          refine hld_take 2 rfl (by kernel_rfl) (by kernel_rfl) (by kernel_rfl) (fun _ _ _ h => h) rfl ⟨hS1, c0, c1, c2, c3, c4, c5⟩ (by rintro w' ⟨hw1, hw2, hw3, hw4, hw5, hw6, hw7⟩; go_simp; rfl) ?_
          simp only [Act.put, List.setIfInBounds_toArray, List.set_cons_succ, List.set_cons_zero]
          refine hld_take 3 rfl (by kernel_rfl) (by kernel_rfl) (by kernel_rfl) (fun _ _ _ h => h) rfl ⟨hS1, c0, c1, c2, c3, c4, c5⟩ (by rintro w' ⟨hw1, hw2, hw3, hw4, hw5, hw6, hw7⟩; go_simp; rfl) ?_
          simp only [Act.put, List.setIfInBounds_toArray, List.set_cons_succ, List.set_cons_zero]
          refine hld_take 4 rfl (by kernel_rfl) (by kernel_rfl) (by kernel_rfl) (fun _ _ _ h => h) rfl ⟨hS1, c0, c1, c2, c3, c4, c5⟩ (by rintro w' ⟨hw1, hw2, hw3, hw4, hw5, hw6, hw7⟩; go_simp; rfl) ?_
          simp only [Act.put, List.setIfInBounds_toArray, List.set_cons_succ, List.set_cons_zero]
          refine hld_take 5 rfl (by kernel_rfl) (by kernel_rfl) (by kernel_rfl) (fun _ _ _ h => h) rfl ⟨hS1, c0, c1, c2, c3, c4, c5⟩ (by rintro w' ⟨hw1, hw2, hw3, hw4, hw5, hw6, hw7⟩; go_simp; rfl) ?_
          simp only [Act.put, List.setIfInBounds_toArray, List.set_cons_succ, List.set_cons_zero]
          refine hld_take 6 rfl (by kernel_rfl) (by kernel_rfl) (by kernel_rfl) (fun _ _ _ h => h) rfl ⟨hS1, c0, c1, c2, c3, c4, c5⟩ (by rintro w' ⟨hw1, hw2, hw3, hw4, hw5, hw6, hw7⟩; go_simp; rfl) ?_
          simp only [Act.put, List.setIfInBounds_toArray, List.set_cons_succ, List.set_cons_zero]
          refine hld_bar 7 rfl (by kernel_rfl) rfl (fun K hK => ?_)
          go_wp2_with (go_at_call 32; refine (copied_flat T en _ _ (HD.out.below HB6.out) (vEnt_data HV.out)).mono ?_; rintro e w5 ⟨a', cap', rfl, ho, hb5⟩)
          have HB7 := Lib.hid (below_next HB6.out hb5)
          have HBX7 := Lib.hid ((hb5.block w.heap.size (lt20 HBX6.out)).trans HBX6.out)
          have hd7 := data_mono (S' := fun k => S k ∨ (w.heap.size ≤ k ∧ k < w5.heap.size)) (data_of_owns ho) (fun k hk => .inr ⟨Nat.le_trans HB6.out.size hk.1, hk.2⟩)
          have hput := (HT.out.wide HB7.out).put mapTy hd7 HO.out HP0.out
          clear hS1 c0 c1 c2 c3 c4 c5
          have hS1 := (HT.out.below HB7.out).cell
          have c0 := cell20 (k := 0) HBX7.out
          have c1 := cell20 (k := 1) HBX7.out
          have c2 := cell20 (k := 2) HBX7.out
          have c3 := cell20 (k := 3) HBX7.out
          have c4 := cell20 (k := 4) HBX7.out
          have c5 := cell20 (k := 5) HBX7.out
          simp only [List.getElem?_toArray, List.getElem?_cons_succ, List.getElem?_cons_zero] at c0 c1 c2 c3 c4 c5
          have HPUT := Lib.hid hput
          clear ho hb5 hd7 hput
          refine ⟨⟨hS1, c0, c1, c2, c3, c4, c5⟩, ?_⟩
          refine hld_bar 8 rfl (by kernel_rfl) rfl (fun K hK => ?_)
          go_wp2_with (at_mapUpdate; go_must (refine wpList_updRun rfl _ _ _ _ rfl _ _ _ rfl rfl rfl HPUT.out ?_); rintro w6 ⟨ht6, hg6⟩)
          have HT6 := Lib.hid ht6
          have HG6 := Lib.hid hg6
          have hnb : some w.heap.size ≠ some mb := fun e => by have h1 := HT.out.mb_lt; have h2 := Option.some.inj e; omega
          have r1 := hg6.cell hS1 (fun e => HT.out.ne (Option.some.inj e))
          have r2 := hg6.cell c0 hnb
          have r3 := hg6.cell c1 hnb
          have r4 := hg6.cell c2 hnb
          have r5 := hg6.cell c3 hnb
          have r6 := hg6.cell c4 hnb
          have r7 := hg6.cell c5 hnb
          refine ⟨⟨r1, r2, r3, r4, r5, r6, r7⟩, ?_⟩
          clear ht6 hg6 r1 r2 r3 r4 r5 r6 r7 hS1 c0 c1 c2 c3 c4 c5 hnb
          refine hld_done (by kernel_rfl) ?_
          go_wp2_with fail
          go_ret
          rw [show putP L en = ((putP L en).1, 0) from Prod.ext rfl HP0.out]
          exact op_done HT.out HB7.out HG6.out HT6.out
      | some f =>
        obtain ⟨hf1, hf2⟩ := findE_some hf
        obtain ⟨xs, hm0, hperm⟩ := HT.out.ents
        obtain ⟨v0, hv0⟩ := find_vent (hperm.symm.subset hf1)
        obtain ⟨⟨_, af, cf, hsl, -, -, -⟩, -⟩ := hm0.dat _ hv0
        simp only at hsl
        subst hsl
        have HLK := Lib.hid (show ∀ W', Below w.heap.size w W' → (Instr.lookup 61 (.map (some mb)) (.string en.path) true).run Tryz.prog W' = .ok (.tuple #[.agg #[.string f.path, .int .i64 f.kind, .int .i64 f.mode, .int .i64 f.time, .slice af f.data.length cf, .string f.link], .bool true]) W' from fun W' hb => by
          have := (hm0.below hb).hit mapTy hv0 true
          rw [hf2] at this
          unfold entV at this
          rw [hf2] at this ⊢
          simpa only [if_true] using this)
        have HF := Lib.hid hf
        clear hf hf1 hf2 hm0 hv0 hperm
        by_cases hk : f.kind = en.kind
        · have HP0 := Lib.hid (show (putP L en).2 = 0 by unfold putP; rw [if_neg (by rw [HV.out]; simp), if_neg (by rw [HX.out]; simp), HF.out]; simp [hk])
          have HE2 := Lib.hid (show (f.kind != en.kind) = false by simp [hk])
          clear hk
          go_enter Tryz.func26, Tryz.ntmps26
          go_wp2_with fail
          obtain ⟨W, hW⟩ : ∃ W, W = w.alloc (.cells #[.string en.path, .int .i64 en.kind, .int .i64 en.mode, .int .i64 en.time, .slice a en.data.length cap, .string en.link] 30) := ⟨_, rfl⟩
          rw [← hW]
          have HBW := Lib.hid (show Below w.heap.size w W by rw [hW]; exact (Below.refl _ _).alloc (Nat.le_refl _) _)
          have HBX := Lib.hid (show W.heap[w.heap.size]? = some (.cells #[.string en.path, .int .i64 en.kind, .int .i64 en.mode, .int .i64 en.time, .slice a en.data.length cap, .string en.link] 30 (0, 0)) by rw [hW]; exact new20 w _)
          clear hW
          refine (validE_is T en _ true _ (HD.out.below HBW.out) HO.out (HE.out.below HBW.out) HV.out).mono ?_
          rintro e w1 ⟨rfl, hb1⟩
          have HB1 := Lib.hid (below_next HBW.out hb1)
          have HBX1 := Lib.hid ((hb1.block w.heap.size (lt20 HBX.out)).trans HBX.out)
          clear hb1
          have c0 := cell20 (k := 0) HBX1.out
          have c1 := cell20 (k := 1) HBX1.out
          have c2 := cell20 (k := 2) HBX1.out
          have c3 := cell20 (k := 3) HBX1.out
          have c4 := cell20 (k := 4) HBX1.out
          have c5 := cell20 (k := 5) HBX1.out
          simp only [List.getElem?_toArray, List.getElem?_cons_succ, List.getElem?_cons_zero] at c0 c1 c2 c3 c4 c5
          go_wp2_with (go_at_call 43; refine (parentT_is S tb mb L en.path _ 0 (HT.out.below HB1.out) (HE.out.below HB1.out) HVP.out HX.out).mono ?_; rintro e w2 ⟨rfl, hb2⟩)
          have HB2 := Lib.hid (below_next HB1.out hb2)
          have HBX2 := Lib.hid ((hb2.block w.heap.size (lt20 HBX1.out)).trans HBX1.out)
          clear hb2 c0 c1 c2 c3 c4 c5
          refine hld_start (fun w' => w'.cell? ⟨tb, 0, none⟩ = some (.map (some mb)) ∧ w'.cell? ⟨w.heap.size, 0, none⟩ = some (.string en.path) ∧ (Instr.lookup 61 (.map (some mb)) (.string en.path) true).run Tryz.prog w' = .ok (.tuple #[.agg #[.string f.path, .int .i64 f.kind, .int .i64 f.mode, .int .i64 f.time, .slice af f.data.length cf, .string f.link], .bool true]) w') (by kernel_rfl) ?_
          obtain ⟨W2, hW2⟩ : ∃ W2 : World, W2 = w2.drew := ⟨_, rfl⟩
          rw [← hW2]
          have hbw : Below w2.heap.size w2 W2 := by rw [hW2]; exact (Below.refl _ _).drew
          have HB3 := Lib.hid (below_next HB2.out hbw)
          have HBX3 := Lib.hid ((hbw.block w.heap.size (lt20 HBX2.out)).trans HBX2.out)
          clear hW2 hbw
          have hS1 := (HT.out.below HB3.out).cell
          have hS2 := cell20 (k := 0) HBX3.out
          have hS3 := HLK.out W2 HB3.out
          simp only [List.getElem?_toArray, List.getElem?_cons_zero] at hS2
          refine hld_take 0 rfl (by kernel_rfl) (by kernel_rfl) (by kernel_rfl) (fun _ _ _ h => h) rfl ⟨hS1, hS2, hS3⟩ (by rintro w' ⟨hw1, hw2, hw3⟩; go_simp; rfl) ?_
          simp only [Act.put, List.setIfInBounds_toArray, List.set_cons_succ, List.set_cons_zero]
          refine hld_take 1 rfl (by kernel_rfl) (by kernel_rfl) (by kernel_rfl) (fun _ _ _ h => h) rfl ⟨hS1, hS2, hS3⟩ (by rintro w' ⟨hw1, hw2, hw3⟩; go_simp; rfl) ?_
          simp only [Act.put, List.setIfInBounds_toArray, List.set_cons_succ, List.set_cons_zero]
          refine hld_take 2 rfl (by kernel_rfl) (by kernel_rfl) (by kernel_rfl) (fun _ _ _ h => h) rfl ⟨hS1, hS2, hS3⟩ (by rintro w' ⟨hw1, hw2, hw3⟩; go_simp; rfl) ?_
          simp only [Act.put, List.setIfInBounds_toArray, List.set_cons_succ, List.set_cons_zero]
          refine hld_take 3 rfl (by kernel_rfl) (by kernel_rfl) (by kernel_rfl) (fun _ _ _ h => h) rfl ⟨hS1, hS2, hS3⟩ (by rintro w' ⟨hw1, hw2, hw3⟩; go_simp; rfl) ?_
          simp only [Act.put, List.setIfInBounds_toArray, List.set_cons_succ, List.set_cons_zero]
          refine hld_take 4 rfl (by kernel_rfl) (by kernel_rfl) (by kernel_rfl) (fun _ _ _ h => h) rfl ⟨hS1, hS2, hS3⟩ (by rintro w' ⟨hw1, hw2, hw3⟩; go_simp; rfl) ?_
          simp only [Act.put, List.setIfInBounds_toArray, List.set_cons_succ, List.set_cons_zero]
          refine hld_take 5 rfl (by kernel_rfl) (by kernel_rfl) (by kernel_rfl) (fun _ _ _ h => h) rfl ⟨hS1, hS2, hS3⟩ (by rintro w' ⟨hw1, hw2, hw3⟩; go_simp; rfl) ?_
          simp only [Act.put, List.setIfInBounds_toArray, List.set_cons_succ, List.set_cons_zero]
          refine hld_take 6 rfl (by kernel_rfl) (by kernel_rfl) (by kernel_rfl) (fun _ _ _ h => h) rfl ⟨hS1, hS2, hS3⟩ (by rintro w' ⟨hw1, hw2, hw3⟩; go_simp; rfl) ?_
          simp only [Act.put, List.setIfInBounds_toArray, List.set_cons_succ, List.set_cons_zero]
          refine hld_take 7 rfl (by kernel_rfl) (by kernel_rfl) (by kernel_rfl) (fun _ _ _ h => h) rfl ⟨hS1, hS2, hS3⟩ (by rintro w' ⟨hw1, hw2, hw3⟩; go_simp; rfl) ?_
          simp only [Act.put, List.setIfInBounds_toArray, List.set_cons_succ, List.set_cons_zero]
          refine hld_take 8 rfl (by kernel_rfl) (by kernel_rfl) (by kernel_rfl) (fun _ _ _ h => h) rfl ⟨hS1, hS2, hS3⟩ (by rintro w' ⟨hw1, hw2, hw3⟩; go_simp; rfl) ?_
          simp only [Act.put, List.setIfInBounds_toArray, List.set_cons_succ, List.set_cons_zero]
          refine hld_take 9 rfl (by kernel_rfl) (by kernel_rfl) (by kernel_rfl) (fun _ _ _ h => h) rfl ⟨hS1, hS2, hS3⟩ (by rintro w' ⟨hw1, hw2, hw3⟩; go_simp; rfl) ?_
          simp only [Act.put, List.setIfInBounds_toArray, List.set_cons_succ, List.set_cons_zero]
          refine hld_bar 10 rfl (by kernel_rfl) rfl (fun K hK => ?_)
          go_wp2_with fail
          obtain ⟨W3, hW3⟩ : ∃ W3 : World, W3 = W2.alloc (.cells #[.string ⟨#[]⟩, .int .i64 0, .int .i64 0, .int .i64 0, .slice none 0 0, .string ⟨#[]⟩] 30) := ⟨_, rfl⟩
          rw [← hW3]
          have hbw : Below W2.heap.size W2 W3 := by rw [hW3]; exact (Below.refl _ _).alloc (Nat.le_refl _) _
          have HB4 := Lib.hid (below_next HB3.out hbw)
          have HBX4 := Lib.hid ((hbw.block w.heap.size (lt20 HBX3.out)).trans HBX3.out)
          have HN4 := Lib.hid (show W3.heap[W2.heap.size]? = some (.cells #[.string ⟨#[]⟩, .int .i64 0, .int .i64 0, .int .i64 0, .slice none 0 0, .string ⟨#[]⟩] 30 (0, 0)) by rw [hW3]; exact new20 W2 _)
          have HSZ := Lib.hid (And.intro HB3.out.size (lt20 HBX3.out))
          clear hW3 hbw
          have hT1 := (HT.out.below HB4.out).cell
          have hT2 := cell20 (k := 0) HBX4.out
          have hT3 := HLK.out W3 HB4.out
          simp only [List.getElem?_toArray, List.getElem?_cons_zero] at hT2
          refine ⟨⟨hT1, hT2, hT3⟩, ?_⟩
          refine hld_bar 11 rfl (by kernel_rfl) rfl (fun K hK => ?_)
          have m0 := cell20 (k := 0) HN4.out
          have m1 := cell20 (k := 1) HN4.out
          have m2 := cell20 (k := 2) HN4.out
          have m3 := cell20 (k := 3) HN4.out
          have m4 := cell20 (k := 4) HN4.out
          have m5 := cell20 (k := 5) HN4.out
          simp only [List.getElem?_toArray, List.getElem?_cons_succ, List.getElem?_cons_zero] at m0 m1 m2 m3 m4 m5
          have p0 := frozen20 (k := 0) HN4.out
          have p1 := frozen20 (k := 1) HN4.out
          have p2 := frozen20 (k := 2) HN4.out
          have p3 := frozen20 (k := 3) HN4.out
          have p4 := frozen20 (k := 4) HN4.out
          have p5 := frozen20 (k := 5) HN4.out
          go_wp2_with fail
          clear m0 m1 m2 m3 m4 m5 p0 p1 p2 p3 p4 p5 hS1 hS2 hS3 hT1 hT2 hT3
          obtain ⟨W4, hW4⟩ : ∃ W4 : World, W4 = (((((W3.setCell ⟨W2.heap.size, 0, none⟩ (.string f.path)).setCell ⟨W2.heap.size, 1, none⟩ (.int .i64 f.kind)).setCell ⟨W2.heap.size, 2, none⟩ (.int .i64 f.mode)).setCell ⟨W2.heap.size, 3, none⟩ (.int .i64 f.time)).setCell ⟨W2.heap.size, 4, none⟩ (.slice af f.data.length cf)).setCell ⟨W2.heap.size, 5, none⟩ (.string f.link) := ⟨_, rfl⟩
          rw [← hW4]
          have HB5 := Lib.hid (show Below w.heap.size w W4 by
            have h1 := HSZ.out.1
            rw [hW4]
            repeat refine below_set20 ?_ h1
            exact HB4.out)
          have HN5 := Lib.hid (show W4.heap[W2.heap.size]? = some (.cells #[.string f.path, .int .i64 f.kind, .int .i64 f.mode, .int .i64 f.time, .slice af f.data.length cf, .string f.link] 30 (0, 0)) by rw [hW4]; exact six20 HN4.out)
          have HBX5 := Lib.hid (show W4.heap[w.heap.size]? = some (.cells #[.string en.path, .int .i64 en.kind, .int .i64 en.mode, .int .i64 en.time, .slice a en.data.length cap, .string en.link] 30 (0, 0)) by
            have h1 : w.heap.size ≠ W2.heap.size := by have := HSZ.out.2; omega
            rw [hW4]
            exact setOther20 (setOther20 (setOther20 (setOther20 (setOther20 (setOther20 HBX4.out h1 _) h1 _) h1 _) h1 _) h1 _) h1 _)
          clear hW4 HN4
          have hS1 := (HT.out.below HB5.out).cell
          have hS2 := cell20 (k := 0) HBX5.out
          have hS3 := HLK.out W4 HB5.out
          simp only [List.getElem?_toArray, List.getElem?_cons_zero] at hS2
          refine ⟨⟨hS1, hS2, hS3⟩, ?_⟩
          refine hld_take 12 rfl (by kernel_rfl) (by kernel_rfl) (by kernel_rfl) (fun _ _ _ h => h) rfl ⟨hS1, hS2, hS3⟩ (by rintro w' ⟨hw1, hw2, hw3⟩; go_simp; rfl) ?_
          simp only [Act.put, List.setIfInBounds_toArray, List.set_cons_succ, List.set_cons_zero]
          refine hld_done (by kernel_rfl) ?_
          clear hS1 hS2 hS3
          have hS1 := (HT.out.below HB5.out).cell
          have q1 := cell20 (k := 1) HN5.out
          have q2 := cell20 (k := 1) HBX5.out
          simp only [List.getElem?_toArray, List.getElem?_cons_succ, List.getElem?_cons_zero] at q1 q2
          have e2 := HE2.out
          go_wp2_with fail
          clear q1 q2
          refine hld_start (fun w' => w'.cell? ⟨tb, 0, none⟩ = some (.map (some mb)) ∧ w'.cell? ⟨w.heap.size, 0, none⟩ = some (.string en.path) ∧ w'.cell? ⟨w.heap.size, 1, none⟩ = some (.int .i64 en.kind) ∧ w'.cell? ⟨w.heap.size, 2, none⟩ = some (.int .i64 en.mode) ∧ w'.cell? ⟨w.heap.size, 3, none⟩ = some (.int .i64 en.time) ∧ w'.cell? ⟨w.heap.size, 4, none⟩ = some (.slice a en.data.length cap) ∧ w'.cell? ⟨w.heap.size, 5, none⟩ = some (.string en.link)) (by kernel_rfl) ?_
          obtain ⟨W5, hW5⟩ : ∃ W5 : World, W5 = W4.drew := ⟨_, rfl⟩
          rw [← hW5]
          have hbw : Below W4.heap.size W4 W5 := by rw [hW5]; exact (Below.refl _ _).drew
          have HB6 := Lib.hid (below_next HB5.out hbw)
          have HBX6 := Lib.hid ((hbw.block w.heap.size (lt20 HBX5.out)).trans HBX5.out)
          clear hW5 hbw hS1
          have hS1 := (HT.out.below HB6.out).cell
          have c0 := cell20 (k := 0) HBX6.out
          have c1 := cell20 (k := 1) HBX6.out
          have c2 := cell20 (k := 2) HBX6.out
          have c3 := cell20 (k := 3) HBX6.out
          have c4 := cell20 (k := 4) HBX6.out
          have c5 := cell20 (k := 5) HBX6.out
          simp only [List.getElem?_toArray, List.getElem?_cons_succ, List.getElem?_cons_zero] at c0 c1 c2 c3 c4 c5
          refine hld_take 0 rfl (by kernel_rfl) (by kernel_rfl) (by kernel_rfl) (fun _ _ _ h => h) rfl ⟨hS1, c0, c1, c2, c3, c4, c5⟩ (by rintro w' ⟨hw1, hw2, hw3, hw4, hw5, hw6, hw7⟩; go_simp; rfl) ?_
          simp only [Act.put, List.setIfInBounds_toArray, List.set_cons_succ, List.set_cons_zero]
          refine hld_take 1 rfl (by kernel_rfl) (by kernel_rfl) (by kernel_rfl) (fun _ _ _ h => h) rfl ⟨hS1, c0, c1, c2, c3, c4, c5⟩ (by rintro w' ⟨hw1, hw2, hw3, hw4, hw5, hw6, hw7⟩; go_simp; rfl) ?_
          simp only [Act.put, List.setIfInBounds_toArray, List.set_cons_succ, List.set_cons_zero]
          refine hld_take 2 rfl (by kernel_rfl) (by kernel_rfl) (by kernel_rfl) (fun _ _ _ h => h) rfl ⟨hS1, c0, c1, c2, c3, c4, c5⟩ (by rintro w' ⟨hw1, hw2, hw3, hw4, hw5, hw6, hw7⟩; go_simp; rfl) ?_
          simp only [Act.put, List.setIfInBounds_toArray, List.set_cons_succ, List.set_cons_zero]
          refine hld_take 3 rfl (by kernel_rfl) (by kernel_rfl) (by kernel_rfl) (fun _ _ _ h => h) rfl ⟨hS1, c0, c1, c2, c3, c4, c5⟩ (by rintro w' ⟨hw1, hw2, hw3, hw4, hw5, hw6, hw7⟩; go_simp; rfl) ?_
          simp only [Act.put, List.setIfInBounds_toArray, List.set_cons_succ, List.set_cons_zero]
          refine hld_take 4 rfl (by kernel_rfl) (by kernel_rfl) (by kernel_rfl) (fun _ _ _ h => h) rfl ⟨hS1, c0, c1, c2, c3, c4, c5⟩ (by rintro w' ⟨hw1, hw2, hw3, hw4, hw5, hw6, hw7⟩; go_simp; rfl) ?_
          simp only [Act.put, List.setIfInBounds_toArray, List.set_cons_succ, List.set_cons_zero]
          refine hld_take 5 rfl (by kernel_rfl) (by kernel_rfl) (by kernel_rfl) (fun _ _ _ h => h) rfl ⟨hS1, c0, c1, c2, c3, c4, c5⟩ (by rintro w' ⟨hw1, hw2, hw3, hw4, hw5, hw6, hw7⟩; go_simp; rfl) ?_
          simp only [Act.put, List.setIfInBounds_toArray, List.set_cons_succ, List.set_cons_zero]
          refine hld_take 6 rfl (by kernel_rfl) (by kernel_rfl) (by kernel_rfl) (fun _ _ _ h => h) rfl ⟨hS1, c0, c1, c2, c3, c4, c5⟩ (by rintro w' ⟨hw1, hw2, hw3, hw4, hw5, hw6, hw7⟩; go_simp; rfl) ?_
          simp only [Act.put, List.setIfInBounds_toArray, List.set_cons_succ, List.set_cons_zero]
          refine hld_bar 7 rfl (by kernel_rfl) rfl (fun K hK => ?_)
          go_wp2_with (go_at_call 32; refine (copied_flat T en _ _ (HD.out.below HB6.out) (vEnt_data HV.out)).mono ?_; rintro e w5 ⟨a', cap', rfl, ho, hb5⟩)
          have HB7 := Lib.hid (below_next HB6.out hb5)
          have HBX7 := Lib.hid ((hb5.block w.heap.size (lt20 HBX6.out)).trans HBX6.out)
          have hd7 := data_mono (S' := fun k => S k ∨ (w.heap.size ≤ k ∧ k < w5.heap.size)) (data_of_owns ho) (fun k hk => .inr ⟨Nat.le_trans HB6.out.size hk.1, hk.2⟩)
          have hput := (HT.out.wide HB7.out).put mapTy hd7 HO.out HP0.out
          clear hS1 c0 c1 c2 c3 c4 c5
          have hS1 := (HT.out.below HB7.out).cell
          have c0 := cell20 (k := 0) HBX7.out
          have c1 := cell20 (k := 1) HBX7.out
          have c2 := cell20 (k := 2) HBX7.out
          have c3 := cell20 (k := 3) HBX7.out
          have c4 := cell20 (k := 4) HBX7.out
          have c5 := cell20 (k := 5) HBX7.out
          simp only [List.getElem?_toArray, List.getElem?_cons_succ, List.getElem?_cons_zero] at c0 c1 c2 c3 c4 c5
          have HPUT := Lib.hid hput
          clear ho hb5 hd7 hput
          refine ⟨⟨hS1, c0, c1, c2, c3, c4, c5⟩, ?_⟩
          refine hld_bar 8 rfl (by kernel_rfl) rfl (fun K hK => ?_)
          go_wp2_with (at_mapUpdate; go_must (refine wpList_updRun rfl _ _ _ _ rfl _ _ _ rfl rfl rfl HPUT.out ?_); rintro w6 ⟨ht6, hg6⟩)
          have HT6 := Lib.hid ht6
          have HG6 := Lib.hid hg6
          have hnb : some w.heap.size ≠ some mb := fun e => by have h1 := HT.out.mb_lt; have h2 := Option.some.inj e; omega
          have r1 := hg6.cell hS1 (fun e => HT.out.ne (Option.some.inj e))
          have r2 := hg6.cell c0 hnb
          have r3 := hg6.cell c1 hnb
          have r4 := hg6.cell c2 hnb
          have r5 := hg6.cell c3 hnb
          have r6 := hg6.cell c4 hnb
          have r7 := hg6.cell c5 hnb
          refine ⟨⟨r1, r2, r3, r4, r5, r6, r7⟩, ?_⟩
          clear ht6 hg6 r1 r2 r3 r4 r5 r6 r7 hS1 c0 c1 c2 c3 c4 c5 hnb
          refine hld_done (by kernel_rfl) ?_
          go_wp2_with fail
          go_ret
          rw [show putP L en = ((putP L en).1, 0) from Prod.ext rfl HP0.out]
          exact op_done HT.out HB7.out HG6.out HT6.out
        · have HP := Lib.hid (show putP L en = (L, 13) by unfold putP; rw [if_neg (by rw [HV.out]; simp), if_neg (by rw [HX.out]; simp), HF.out]; simp [hk])
          have HE2 := Lib.hid (show (f.kind != en.kind) = true by simp [hk])
          clear hk
          go_enter Tryz.func26, Tryz.ntmps26
          go_wp2_with fail
          obtain ⟨W, hW⟩ : ∃ W, W = w.alloc (.cells #[.string en.path, .int .i64 en.kind, .int .i64 en.mode, .int .i64 en.time, .slice a en.data.length cap, .string en.link] 30) := ⟨_, rfl⟩
          rw [← hW]
          have HBW := Lib.hid (show Below w.heap.size w W by rw [hW]; exact (Below.refl _ _).alloc (Nat.le_refl _) _)
          have HBX := Lib.hid (show W.heap[w.heap.size]? = some (.cells #[.string en.path, .int .i64 en.kind, .int .i64 en.mode, .int .i64 en.time, .slice a en.data.length cap, .string en.link] 30 (0, 0)) by rw [hW]; exact new20 w _)
          clear hW
          refine (validE_is T en _ true _ (HD.out.below HBW.out) HO.out (HE.out.below HBW.out) HV.out).mono ?_
          rintro e w1 ⟨rfl, hb1⟩
          have HB1 := Lib.hid (below_next HBW.out hb1)
          have HBX1 := Lib.hid ((hb1.block w.heap.size (lt20 HBX.out)).trans HBX.out)
          clear hb1
          have c0 := cell20 (k := 0) HBX1.out
          have c1 := cell20 (k := 1) HBX1.out
          have c2 := cell20 (k := 2) HBX1.out
          have c3 := cell20 (k := 3) HBX1.out
          have c4 := cell20 (k := 4) HBX1.out
          have c5 := cell20 (k := 5) HBX1.out
          simp only [List.getElem?_toArray, List.getElem?_cons_succ, List.getElem?_cons_zero] at c0 c1 c2 c3 c4 c5
          go_wp2_with (go_at_call 43; refine (parentT_is S tb mb L en.path _ 0 (HT.out.below HB1.out) (HE.out.below HB1.out) HVP.out HX.out).mono ?_; rintro e w2 ⟨rfl, hb2⟩)
          have HB2 := Lib.hid (below_next HB1.out hb2)
          have HBX2 := Lib.hid ((hb2.block w.heap.size (lt20 HBX1.out)).trans HBX1.out)
          clear hb2 c0 c1 c2 c3 c4 c5
          refine hld_start (fun w' => w'.cell? ⟨tb, 0, none⟩ = some (.map (some mb)) ∧ w'.cell? ⟨w.heap.size, 0, none⟩ = some (.string en.path) ∧ (Instr.lookup 61 (.map (some mb)) (.string en.path) true).run Tryz.prog w' = .ok (.tuple #[.agg #[.string f.path, .int .i64 f.kind, .int .i64 f.mode, .int .i64 f.time, .slice af f.data.length cf, .string f.link], .bool true]) w') (by kernel_rfl) ?_
          obtain ⟨W2, hW2⟩ : ∃ W2 : World, W2 = w2.drew := ⟨_, rfl⟩
          rw [← hW2]
          have hbw : Below w2.heap.size w2 W2 := by rw [hW2]; exact (Below.refl _ _).drew
          have HB3 := Lib.hid (below_next HB2.out hbw)
          have HBX3 := Lib.hid ((hbw.block w.heap.size (lt20 HBX2.out)).trans HBX2.out)
          clear hW2 hbw
          have hS1 := (HT.out.below HB3.out).cell
          have hS2 := cell20 (k := 0) HBX3.out
          have hS3 := HLK.out W2 HB3.out
          simp only [List.getElem?_toArray, List.getElem?_cons_zero] at hS2
          refine hld_take 0 rfl (by kernel_rfl) (by kernel_rfl) (by kernel_rfl) (fun _ _ _ h => h) rfl ⟨hS1, hS2, hS3⟩ (by rintro w' ⟨hw1, hw2, hw3⟩; go_simp; rfl) ?_
          simp only [Act.put, List.setIfInBounds_toArray, List.set_cons_succ, List.set_cons_zero]
          refine hld_take 1 rfl (by kernel_rfl) (by kernel_rfl) (by kernel_rfl) (fun _ _ _ h => h) rfl ⟨hS1, hS2, hS3⟩ (by rintro w' ⟨hw1, hw2, hw3⟩; go_simp; rfl) ?_
          simp only [Act.put, List.setIfInBounds_toArray, List.set_cons_succ, List.set_cons_zero]
          refine hld_take 2 rfl (by kernel_rfl) (by kernel_rfl) (by kernel_rfl) (fun _ _ _ h => h) rfl ⟨hS1, hS2, hS3⟩ (by rintro w' ⟨hw1, hw2, hw3⟩; go_simp; rfl) ?_
          simp only [Act.put, List.setIfInBounds_toArray, List.set_cons_succ, List.set_cons_zero]
          refine hld_take 3 rfl (by kernel_rfl) (by kernel_rfl) (by kernel_rfl) (fun _ _ _ h => h) rfl ⟨hS1, hS2, hS3⟩ (by rintro w' ⟨hw1, hw2, hw3⟩; go_simp; rfl) ?_
          simp only [Act.put, List.setIfInBounds_toArray, List.set_cons_succ, List.set_cons_zero]
          refine hld_take 4 rfl (by kernel_rfl) (by kernel_rfl) (by kernel_rfl) (fun _ _ _ h => h) rfl ⟨hS1, hS2, hS3⟩ (by rintro w' ⟨hw1, hw2, hw3⟩; go_simp; rfl) ?_
          simp only [Act.put, List.setIfInBounds_toArray, List.set_cons_succ, List.set_cons_zero]
          refine hld_take 5 rfl (by kernel_rfl) (by kernel_rfl) (by kernel_rfl) (fun _ _ _ h => h) rfl ⟨hS1, hS2, hS3⟩ (by rintro w' ⟨hw1, hw2, hw3⟩; go_simp; rfl) ?_
          simp only [Act.put, List.setIfInBounds_toArray, List.set_cons_succ, List.set_cons_zero]
          refine hld_take 6 rfl (by kernel_rfl) (by kernel_rfl) (by kernel_rfl) (fun _ _ _ h => h) rfl ⟨hS1, hS2, hS3⟩ (by rintro w' ⟨hw1, hw2, hw3⟩; go_simp; rfl) ?_
          simp only [Act.put, List.setIfInBounds_toArray, List.set_cons_succ, List.set_cons_zero]
          refine hld_take 7 rfl (by kernel_rfl) (by kernel_rfl) (by kernel_rfl) (fun _ _ _ h => h) rfl ⟨hS1, hS2, hS3⟩ (by rintro w' ⟨hw1, hw2, hw3⟩; go_simp; rfl) ?_
          simp only [Act.put, List.setIfInBounds_toArray, List.set_cons_succ, List.set_cons_zero]
          refine hld_take 8 rfl (by kernel_rfl) (by kernel_rfl) (by kernel_rfl) (fun _ _ _ h => h) rfl ⟨hS1, hS2, hS3⟩ (by rintro w' ⟨hw1, hw2, hw3⟩; go_simp; rfl) ?_
          simp only [Act.put, List.setIfInBounds_toArray, List.set_cons_succ, List.set_cons_zero]
          refine hld_take 9 rfl (by kernel_rfl) (by kernel_rfl) (by kernel_rfl) (fun _ _ _ h => h) rfl ⟨hS1, hS2, hS3⟩ (by rintro w' ⟨hw1, hw2, hw3⟩; go_simp; rfl) ?_
          simp only [Act.put, List.setIfInBounds_toArray, List.set_cons_succ, List.set_cons_zero]
          refine hld_bar 10 rfl (by kernel_rfl) rfl (fun K hK => ?_)
          go_wp2_with fail
          obtain ⟨W3, hW3⟩ : ∃ W3 : World, W3 = W2.alloc (.cells #[.string ⟨#[]⟩, .int .i64 0, .int .i64 0, .int .i64 0, .slice none 0 0, .string ⟨#[]⟩] 30) := ⟨_, rfl⟩
          rw [← hW3]
          have hbw : Below W2.heap.size W2 W3 := by rw [hW3]; exact (Below.refl _ _).alloc (Nat.le_refl _) _
          have HB4 := Lib.hid (below_next HB3.out hbw)
          have HBX4 := Lib.hid ((hbw.block w.heap.size (lt20 HBX3.out)).trans HBX3.out)
          have HN4 := Lib.hid (show W3.heap[W2.heap.size]? = some (.cells #[.string ⟨#[]⟩, .int .i64 0, .int .i64 0, .int .i64 0, .slice none 0 0, .string ⟨#[]⟩] 30 (0, 0)) by rw [hW3]; exact new20 W2 _)
          have HSZ := Lib.hid (And.intro HB3.out.size (lt20 HBX3.out))
          clear hW3 hbw
          have hT1 := (HT.out.below HB4.out).cell
          have hT2 := cell20 (k := 0) HBX4.out
          have hT3 := HLK.out W3 HB4.out
          simp only [List.getElem?_toArray, List.getElem?_cons_zero] at hT2
          refine ⟨⟨hT1, hT2, hT3⟩, ?_⟩
          refine hld_bar 11 rfl (by kernel_rfl) rfl (fun K hK => ?_)
          have m0 := cell20 (k := 0) HN4.out
          have m1 := cell20 (k := 1) HN4.out
          have m2 := cell20 (k := 2) HN4.out
          have m3 := cell20 (k := 3) HN4.out
          have m4 := cell20 (k := 4) HN4.out
          have m5 := cell20 (k := 5) HN4.out
          simp only [List.getElem?_toArray, List.getElem?_cons_succ, List.getElem?_cons_zero] at m0 m1 m2 m3 m4 m5
          have p0 := frozen20 (k := 0) HN4.out
          have p1 := frozen20 (k := 1) HN4.out
          have p2 := frozen20 (k := 2) HN4.out
          have p3 := frozen20 (k := 3) HN4.out
          have p4 := frozen20 (k := 4) HN4.out
          have p5 := frozen20 (k := 5) HN4.out
          go_wp2_with fail
          clear m0 m1 m2 m3 m4 m5 p0 p1 p2 p3 p4 p5 hS1 hS2 hS3 hT1 hT2 hT3
          obtain ⟨W4, hW4⟩ : ∃ W4 : World, W4 = (((((W3.setCell ⟨W2.heap.size, 0, none⟩ (.string f.path)).setCell ⟨W2.heap.size, 1, none⟩ (.int .i64 f.kind)).setCell ⟨W2.heap.size, 2, none⟩ (.int .i64 f.mode)).setCell ⟨W2.heap.size, 3, none⟩ (.int .i64 f.time)).setCell ⟨W2.heap.size, 4, none⟩ (.slice af f.data.length cf)).setCell ⟨W2.heap.size, 5, none⟩ (.string f.link) := ⟨_, rfl⟩
          rw [← hW4]
          have HB5 := Lib.hid (show Below w.heap.size w W4 by
            have h1 := HSZ.out.1
            rw [hW4]
            repeat refine below_set20 ?_ h1
            exact HB4.out)
          have HN5 := Lib.hid (show W4.heap[W2.heap.size]? = some (.cells #[.string f.path, .int .i64 f.kind, .int .i64 f.mode, .int .i64 f.time, .slice af f.data.length cf, .string f.link] 30 (0, 0)) by rw [hW4]; exact six20 HN4.out)
          have HBX5 := Lib.hid (show W4.heap[w.heap.size]? = some (.cells #[.string en.path, .int .i64 en.kind, .int .i64 en.mode, .int .i64 en.time, .slice a en.data.length cap, .string en.link] 30 (0, 0)) by
            have h1 : w.heap.size ≠ W2.heap.size := by have := HSZ.out.2; omega
            rw [hW4]
            exact setOther20 (setOther20 (setOther20 (setOther20 (setOther20 (setOther20 HBX4.out h1 _) h1 _) h1 _) h1 _) h1 _) h1 _)
          clear hW4 HN4
          have hS1 := (HT.out.below HB5.out).cell
          have hS2 := cell20 (k := 0) HBX5.out
          have hS3 := HLK.out W4 HB5.out
          simp only [List.getElem?_toArray, List.getElem?_cons_zero] at hS2
          refine ⟨⟨hS1, hS2, hS3⟩, ?_⟩
          refine hld_take 12 rfl (by kernel_rfl) (by kernel_rfl) (by kernel_rfl) (fun _ _ _ h => h) rfl ⟨hS1, hS2, hS3⟩ (by rintro w' ⟨hw1, hw2, hw3⟩; go_simp; rfl) ?_
          simp only [Act.put, List.setIfInBounds_toArray, List.set_cons_succ, List.set_cons_zero]
          refine hld_done (by kernel_rfl) ?_
          clear hS1 hS2 hS3
          have q1 := cell20 (k := 1) HN5.out
          have q2 := cell20 (k := 1) HBX5.out
          simp only [List.getElem?_toArray, List.getElem?_cons_succ, List.getElem?_cons_zero] at q1 q2
          have e2 := HE2.out
          go_wp2_with fail
          go_ret
          rw [HP.out]
          exact op_same HT.out HB5.out
    · have HP := Lib.hid (show putP L en = (L, dirE L (parentL (bl en.path))) by unfold putP; rw [if_neg (by rw [HV.out]; simp), if_pos hdir])
      obtain ⟨x, hx⟩ : ∃ x, dirE L (parentL (bl en.path)) = x := ⟨_, rfl⟩
      rw [hx] at hdir
      have HX := Lib.hid hx
      have e1 : (x != 0) = true := by simp [hdir]
      clear hx hdir
      go_enter Tryz.func26, Tryz.ntmps26
      go_wp2_with fail
      obtain ⟨W, hW⟩ : ∃ W, W = w.alloc (.cells #[.string en.path, .int .i64 en.kind, .int .i64 en.mode, .int .i64 en.time, .slice a en.data.length cap, .string en.link] 30) := ⟨_, rfl⟩
      rw [← hW]
      have HBW := Lib.hid (show Below w.heap.size w W by rw [hW]; exact (Below.refl _ _).alloc (Nat.le_refl _) _)
      have HBX := Lib.hid (show W.heap[w.heap.size]? = some (.cells #[.string en.path, .int .i64 en.kind, .int .i64 en.mode, .int .i64 en.time, .slice a en.data.length cap, .string en.link] 30 (0, 0)) by rw [hW]; exact new20 w _)
      clear hW
      refine (validE_is T en _ true _ (HD.out.below HBW.out) HO.out (HE.out.below HBW.out) HV.out).mono ?_
      rintro e w1 ⟨rfl, hb1⟩
      have HB1 := Lib.hid (below_next HBW.out hb1)
      have HBX1 := Lib.hid ((hb1.block w.heap.size (lt20 HBX.out)).trans HBX.out)
      clear hb1
      have c0 := cell20 (k := 0) HBX1.out
      have c1 := cell20 (k := 1) HBX1.out
      have c2 := cell20 (k := 2) HBX1.out
      have c3 := cell20 (k := 3) HBX1.out
      have c4 := cell20 (k := 4) HBX1.out
      have c5 := cell20 (k := 5) HBX1.out
      simp only [List.getElem?_toArray, List.getElem?_cons_succ, List.getElem?_cons_zero] at c0 c1 c2 c3 c4 c5
      go_wp2_with (go_at_call 43; refine (parentT_is S tb mb L en.path _ x (HT.out.below HB1.out) (HE.out.below HB1.out) HVP.out HX.out).mono ?_; rintro e w2 ⟨rfl, hb2⟩; have HB2 := Lib.hid (below_next HB1.out hb2); clear hb2)
      go_ret
      rw [HP.out, HX.out]
      exact op_same HT.out HB2.out

end Go.Proofs.YtbkhdpocmmjnbaaGreatDoor

/- slices.SortFunc at a row of paths that the call owns. -/
namespace Go.Proofs.YtbkhdpocmmjnbaaGreatDoor
open Go.RowKit Go.Shelf Go.Lib Go.Sort

def toS (s : ByteArray) : SPath := if h : s.size ≤ 9223372036854775807 then ⟨s, h⟩ else default
theorem enc_toS {s : ByteArray} (h : s.size ≤ maxLen) : encP (toS s) = .string s := by
  unfold maxLen at h
  unfold toS encP
  rw [dif_pos (by omega)]
theorem val_toS {s : ByteArray} (h : s.size ≤ maxLen) : (toS s).1 = s := by
  unfold maxLen at h
  unfold toS
  rw [dif_pos (by omega)]
theorem enc_map {l : List ByteArray} (h : ∀ s ∈ l, s.size ≤ maxLen) : (l.map toS).map encP = l.map Value.string := by
  rw [List.map_map]
  exact List.map_congr_left (fun s hs => enc_toS (h s hs))
/-- Two orders of one set of paths: the sorted one. -/
theorem sorted_paths {acc M : List ByteArray} (hp : acc.Perm M) (hs : ∀ s ∈ acc, s.size ≤ maxLen) (hM : M.Pairwise fun a b => cmpL (bl a) (bl b) < 0) : ((acc.map toS).mergeSort fun x y => !(ltOf cmpS) y x) = M.map toS := by
  have hsM : ∀ s ∈ M, s.size ≤ maxLen := fun s h => hs s (hp.symm.subset h)
  have h1 : ((acc.map toS).mergeSort fun x y => !(ltOf cmpS) y x).Perm (M.map toS) := (List.mergeSort_perm _ _).trans (hp.map toS)
  have h2 : ((acc.map toS).mergeSort fun x y => !(ltOf cmpS) y x).Pairwise fun a b => (!(ltOf cmpS) b a) = true := by
    refine List.pairwise_mergeSort ?_ ?_ _
    · intro a b c hab hbc
      simp only [Bool.not_eq_true'] at hab hbc ⊢
      exact swoS.ntrans c b a hbc hab
    · intro a b
      simp only [Bool.or_eq_true, Bool.not_eq_true']
      by_cases h : ltOf cmpS b a = true
      · right
        rw [ltT] at h
        rw [ltF]
        have := cmp_neg (bl a.1) (bl b.1)
        omega
      · left; simpa using h
  have h3 : (M.map toS).Pairwise fun a b => (!(ltOf cmpS) b a) = true := by
    rw [List.pairwise_map]
    refine List.Pairwise.imp_of_mem ?_ hM
    intro a b ha hb hab
    simp only [Bool.not_eq_true']
    rw [ltF, val_toS (hsM a ha), val_toS (hsM b hb)]
    have := cmp_neg (bl a) (bl b)
    omega
  refine List.Perm.eq_of_pairwise (le := fun a b => (!(ltOf cmpS) b a) = true) (fun a b _ _ hab hba => ?_) h2 h3 h1
  simp only [Bool.not_eq_true'] at hab hba
  exact totS a b hba hab
theorem grown_grow (W : World) (os : Array Obj) : W.grownBy (grow W os) none := ⟨rfl, rfl, rfl, by simp [grow], fun k hk _ => by simp [grow, Array.getElem?_append, hk]⟩
theorem sort_any (base : Nat) (v : Value) (acc M : List ByteArray) (w : World) (h : w.ownsRow base 9 1 v acc.length (acc.map Value.string)) (hs : ∀ s ∈ acc, s.size ≤ maxLen) (hp : acc.Perm M) (hM : M.Pairwise fun a b => cmpL (bl a) (bl b) < 0) (hn : acc.length < 4611686018427387904) (hb : base ≤ w.heap.size) :
    Calls Tryz.prog 52 #[v, .func (.func 53) #[] #[]] w fun e w' => e = .returned (.tuple #[]) ∧ w'.ownsRow base 9 1 v M.length (M.map Value.string) ∧ Below base w w' := by
  by_cases hv : v = .slice none 0 0
  · have h0 : acc = [] := by
      rcases h.2 with ⟨_, h1⟩ | ⟨g, cap, cur, e1, _⟩
      · simpa using h1
      · rw [hv] at e1; cases e1
    subst h0
    obtain rfl := List.nil_perm.1 hp
    subst hv
    refine (Tryz.slices_SortFunc_none (α := SPath) none 0 _ w).mono ?_
    rintro e w' ⟨rfl, rfl⟩
    exact ⟨rfl, h, Below.refl _ _⟩
  · rw [← enc_map hs] at h
    obtain ⟨g, cap, rfl, h1, h2, h3, h4, h5, h6⟩ := holds_of_ownsRow h hv
    have eg : ∀ args w, (callFunc 53 args).run Tryz.prog w = .ok (.enter 53 args) w := enters_of Tryz.func53 (by kernel_rfl) rfl
    have hsz : (acc.map toS).toArray.size = acc.length := by simp
    have hS := Tryz.slices_SortFunc_total encP (fun _ => rfl) cmpS swoS 53 #[] g 0 cap (acc.map toS).toArray w eg (cmpReadsS g 0 (acc.map toS).toArray.size w).lays h6 h2 (by rw [hsz]; exact hn) totS
    rw [hsz] at hS
    refine hS.mono ?_
    rintro e w' ⟨rfl, n, os, rfl⟩
    have hsM : ∀ s ∈ M, s.size ≤ maxLen := fun s h => hs s (hp.symm.subset h)
    refine ⟨rfl, ?_, ?_⟩
    · rw [sorted_paths hp hs hM, ← enc_map hsM]
      have hl : (M.map toS).length = acc.length := by rw [List.length_map, hp.length_eq]
      have h7 := ownsRow_putRow (q := n) (ys := M.map toS) h hl (Nat.le_refl _)
      rw [← hl, List.take_length] at h7
      rw [hl] at h7
      rw [← hp.length_eq]
      exact h7.kept (grown_grow _ os) (.inr (by simp [Value.ownBlock]))
    · exact (below_putRow (q := n) (Below.refl base w) h1).grown (grown_grow _ os) (by simpa [putRow, mapBlock, Sort.ahead] using hb) (fun k hk => by cases hk)

end Go.Proofs.YtbkhdpocmmjnbaaGreatDoor

/- Contracts of package filetree: paths. -/
namespace Go.Proofs.YtbkhdpocmmjnbaaGreatDoor
open Go.RowKit Go.Maps

/-- A list of strings that the call has made. -/
def PathsRes (M : List ByteArray) (w : World) (e : Ending) (w' : World) : Prop := ∃ v, e = .returned v ∧ w'.ownsRow w.heap.size 9 1 v M.length (M.map Value.string) ∧ Below w.heap.size w w'
def pathsM (L : List Ent) (p : ByteArray) : List ByteArray := (atP L p).map Ent.path
def matchB (p s : ByteArray) : Bool := decide (p.size = 0) || decide (s = p) || Lib.hasPrefix (bl s) (bl p ++ [47])
theorem at_match {L : List Ent} (h : TOk L) {p : ByteArray} (hp : p.size = 0 ∨ ∃ f, findE L p = some f) : atP L p = L.filter fun e => matchB p e.path := by
  rcases hp with hp | ⟨f, hf⟩
  · rw [atP_root h hp]
    symm
    rw [List.filter_eq_self]
    intro e _
    unfold matchB
    rw [decide_eq_true hp]; rfl
  · rw [atP_there hf]
    apply List.filter_congr
    intro e he
    have hv : p.size ≠ 0 := by
      obtain ⟨h1, h2⟩ := findE_some hf
      rw [← h2, ne_eq, size_zero]
      exact valid_ne (vEnt_path (h.val f h1))
    rw [inB_dir h hf he]
    unfold matchB
    rw [decide_eq_false hv]; rfl
theorem pathsM_sorted {L : List Ent} (h : TOk L) (p : ByteArray) : (pathsM L p).Pairwise fun a b => cmpL (bl a) (bl b) < 0 := by
  unfold pathsM
  rw [List.pairwise_map]
  exact atP_sorted h p
/-- What has been gathered while the map was ranged over. -/
def gotP (p : ByteArray) (vis : List VEnt) : List ByteArray := (vis.filter fun x => matchB p x.2.path).map fun x => x.2.path
theorem gotP_snoc (p : ByteArray) (vis : List VEnt) (x : VEnt) : gotP p (vis ++ [x]) = if matchB p x.2.path = true then gotP p vis ++ [x.2.path] else gotP p vis := by
  unfold gotP
  rw [List.filter_append]
  by_cases h : matchB p x.2.path = true
  · rw [if_pos h]; simp [h]
  · rw [if_neg h]; simp [h]
theorem gotP_end {S : Nat → Prop} {w : World} {mb : Nat} {xs vis : List VEnt} {L : List Ent} (_ : MapE S w mb xs) (ht : TOk L) (hL : (xs.map Prod.snd).Perm L) {p : ByteArray} (hp : p.size = 0 ∨ ∃ f, findE L p = some f) (hv : vis.Perm xs) : (gotP p vis).Perm (pathsM L p) := by
  unfold gotP pathsM
  rw [at_match ht hp]
  have h1 : (vis.filter fun x => matchB p x.2.path).map (fun x => x.2.path) = ((vis.map Prod.snd).filter fun e => matchB p e.path).map Ent.path := by
    rw [List.filter_map, List.map_map]; rfl
  rw [h1]
  exact (((hv.map Prod.snd).trans hL).filter _).map _
theorem ent_of_path {xs : List VEnt} (hn : (xs.map (fun x => x.2.path)).Nodup) {x y : VEnt} (hx : x ∈ xs) (hy : y ∈ xs) (h : x.2.path = y.2.path) : x = y := by
  unfold List.Nodup at hn
  rw [List.pairwise_map, List.pairwise_iff_getElem] at hn
  obtain ⟨i, hi, rfl⟩ := List.getElem_of_mem hx
  obtain ⟨j, hj, rfl⟩ := List.getElem_of_mem hy
  by_cases hij : i = j
  · subst hij; rfl
  · exfalso
    rcases Nat.lt_or_gt_of_ne hij with hlt | hlt
    · exact hn i j hi hj hlt h
    · exact hn j i hj hi hlt h.symm
theorem vent_nodup {xs : List VEnt} (hn : (xs.map (fun x => x.2.path)).Nodup) : xs.Nodup := by
  unfold List.Nodup at hn ⊢
  rw [List.pairwise_map] at hn
  exact hn.imp (fun h e => h (by rw [e]))
theorem pair_path {x y : VEnt} (h : pairOf x = pairOf y) : x.2.path = y.2.path := by
  have := congrArg Prod.fst h
  simpa [pairOf] using this
theorem vis_perm {S : Nat → Prop} {w : World} {mb : Nat} {xs vis : List VEnt} (hm : MapE S w mb xs) (hv : (vis.map pairOf).Perm (xs.map pairOf)) (hs : ∀ x ∈ vis, x ∈ xs) (hn : (vis.map (fun x => x.2.path)).Nodup) : vis.Perm xs := by
  refine (List.perm_ext_iff_of_nodup (vent_nodup hn) (vent_nodup hm.nodup)).2 (fun x => ⟨hs x, fun hx => ?_⟩)
  obtain ⟨y, hy, hyx⟩ := List.mem_map.1 (hv.symm.subset (List.mem_map.2 ⟨x, hx, rfl⟩))
  have := ent_of_path hm.nodup (hs y hy) hx (pair_path hyx)
  rw [← this]; exact hy
section
variable {P : Program} {k : TypeId} {w w' : World} {b r base sz n : Nat} {m vis : List (Value × Value)} {e : TypeId} {v : Value} {xs : List Value}
theorem rng_row (h : RngS P k w b r m vis) (ho : w.ownsRow base e sz v n xs) : some r ≠ v.ownBlock ∧ some b ≠ v.ownBlock := by
  obtain ⟨es, clock, since, seen, c0, hb, _, _, _, hr, _⟩ := h
  rcases ho.2 with ⟨rfl, _⟩ | ⟨g, cap, cur, rfl, _, hh, _⟩
  · exact ⟨by simp [Value.ownBlock], by simp [Value.ownBlock]⟩
  · constructor
    · intro e1
      simp only [Value.ownBlock, Option.some.injEq] at e1
      subst e1
      rw [hr] at hh; cases hh
    · intro e1
      simp only [Value.ownBlock, Option.some.injEq] at e1
      subst e1
      rw [hb] at hh; cases hh
theorem RngS.grown (h : RngS P k w b r m vis) (ho : w.ownsRow base e sz v n xs) (hg : w.grownBy w' v.ownBlock) : RngS P k w' b r m vis :=
  h.same (hg.block b h.map.lt (rng_row h ho).2) (hg.block r h.ltr (rng_row h ho).1)
end
theorem nodup_vsnoc {vis : List VEnt} (h : (vis.map (fun x => x.2.path)).Nodup) {x : VEnt} (hne : ∀ y ∈ vis, y.2.path ≠ x.2.path) : ((vis ++ [x]).map (fun x => x.2.path)).Nodup := by
  rw [List.map_append, List.nodup_append]
  refine ⟨h, by simp, fun a ha b hb => ?_⟩
  obtain ⟨y, hy, rfl⟩ := List.mem_map.1 ha
  simp only [List.map_cons, List.map_nil, List.mem_singleton] at hb
  rw [hb]; exact hne y hy
theorem got_size {S : Nat → Prop} {w : World} {mb : Nat} {xs vis : List VEnt} {p : ByteArray} (hm : MapE S w mb xs) (hs : ∀ x ∈ vis, x ∈ xs) : ∀ s ∈ gotP p vis, s.size ≤ maxLen := by
  intro s h
  unfold gotP at h
  obtain ⟨x, hx, rfl⟩ := List.mem_map.1 h
  exact (hm.dat x (hs x (List.mem_filter.1 hx).1)).2.pth
theorem wpList_gen {P : Program} {ops : Array Oper} {l : List Oper} {a : Act} {Q : Exit → Act → World → Prop} {w : World} (h : ∀ W, W = w → wpList P ops Q l a W) : wpList P ops Q l a w := h w rfl
theorem hasP20 (s q : ByteArray) (b : Bool) (w : World) (h : Lib.hasPrefix (bl s) (bl q) = b) : Calls Tryz.prog 51 #[.string s, .string q] w fun e w' => e = .returned (.bool b) ∧ w = w' := by
  rw [← h]
  exact (Tryz.strings_HasPrefix s q w).mono fun _ _ ⟨he, hw⟩ => ⟨he, hw.symm⟩
def LoopP (w : World) (p : ByteArray) (mb r : Nat) (xs : List VEnt) (v : Value) (wr : World) : Prop :=
  ∃ vis : List VEnt, RngS Tryz.prog 9 wr mb r (xs.map pairOf) (vis.map pairOf) ∧ (∀ x ∈ vis, x ∈ xs) ∧ (vis.map (fun x => x.2.path)).Nodup ∧ wr.ownsRow w.heap.size 9 1 v (gotP p vis).length ((gotP p vis).map Value.string) ∧ Below w.heap.size w wr
theorem got_len {xs vis : List VEnt} {p : ByteArray} (hs : ∀ x ∈ vis, x ∈ xs) (hn : (vis.map (fun x => x.2.path)).Nodup) (hl : xs.length ≤ 4096) : (gotP p vis).length ≤ 4096 := by
  unfold gotP
  rw [List.length_map]
  have h1 := List.length_filter_le (fun x : VEnt => matchB p x.2.path) vis
  have h2 : vis.length ≤ xs.length := by
    have : ∀ (a b : List VEnt), a.Nodup → (∀ x ∈ a, x ∈ b) → a.length ≤ b.length := by
      intro a
      induction a with
      | nil => intro b _ _; simp
      | cons x a ih =>
        intro b hn hs
        rw [List.nodup_cons] at hn
        have hxb : x ∈ b := hs x (by simp)
        obtain ⟨u, t, rfl⟩ := List.append_of_mem hxb
        have := ih (u ++ t) hn.2 (fun y hy => by
          have h := hs y (by simp [hy])
          rcases List.mem_append.1 h with h | h
          · simp [h]
          · rcases List.mem_cons.1 h with rfl | h
            · exact absurd hy hn.1
            · simp [h])
        simp only [List.length_cons, List.length_append] at this ⊢
        omega
    exact this vis xs (vent_nodup hn) hs
  omega
set_option maxRecDepth 100000 in
set_option maxHeartbeats 2000000 in
theorem paths_any (S : Nat → Prop) (tb mb : Nat) (L : List Ent) (p : ByteArray) (w : World) (ht : TreeAt S w tb mb L) (hps : p.size ≤ maxLen) :
    Calls Tryz.prog 34 #[.pointer (some ⟨tb, 0, none⟩), .string p] w (PathsRes (pathsM L p) w) := by
  have HT := Lib.hid ht
  have HPS := Lib.hid hps
  have hcl := ht.cell
  clear ht
  by_cases h0 : p.size = 0
  · obtain rfl : p = ⟨#[]⟩ := by
      apply bl_inj
      rw [size_zero.1 h0]; rfl
    clear h0
    go_enter Tryz.func34, Tryz.ntmps34
    obtain ⟨xs, hm, hperm⟩ := HT.out.ents
    have HM := Lib.hid hm
    have HPERM := Lib.hid hperm
    have hxl : xs.length ≤ 4096 := by have h1 := hperm.length_eq; have h2 := HT.out.ok.len; rw [List.length_map] at h1; omega
    have HXL := Lib.hid hxl
    clear hm hperm hxl
    go_wp2_with (at_range; go_must (refine wpList_rangeS rfl _ _ rfl mapTy mb _ rfl HM.out.map ?_); intro w0 hrg0 hb0 hs0)
    obtain ⟨r, hr⟩ : ∃ r, r = w.heap.size := ⟨_, rfl⟩
    rw [← hr] at hrg0 ⊢
    have HR := Lib.hid (show w.heap.size ≤ r by omega)
    clear hr hs0
    go_frame
    go_loopw [7, 8] (fun v _ wr => LoopP w ⟨#[]⟩ mb r xs v wr) (fun _ _ wr => wr.rangeLeft mb r)
    case atStart => exact ⟨[], hrg0, by simp, by simp, World.ownsRow_nil _ _ _ _, hb0⟩
    case round =>
      obtain ⟨vis, hrg, hsub, hnd, hown, hbr⟩ := hrel
      have HRG := Lib.hid hrg
      have HSUB := Lib.hid hsub
      have HND := Lib.hid hnd
      have HOWN := Lib.hid hown
      have HBR := Lib.hid hbr
      have hgl := got_len (p := ⟨#[]⟩) hsub hnd HXL.out
      have HGL := Lib.hid hgl
      have hsz := hbr.size
      clear hrg hsub hnd hown hbr hgl
      go_wp2_with (at_next; go_must (refine wpList_nextS rfl _ rfl mb r _ _ rfl HRG.out ?_ ?_))
      · intro hdone
        have hp2 := gotP_end (p := ⟨#[]⟩) (HM.out) HT.out.ok HPERM.out (.inl rfl) (vis_perm HM.out hdone HSUB.out HND.out)
        have HP2 := Lib.hid hp2
        clear hdone hp2
        go_wp2_with (go_at_call 52; refine (sort_any w.heap.size u7 (gotP ⟨#[]⟩ vis) (pathsM L ⟨#[]⟩) wr HOWN.out (got_size HM.out HSUB.out) HP2.out (pathsM_sorted HT.out.ok _) (by have := HGL.out; omega) hsz).mono ?_; rintro e w2 ⟨rfl, ho2, hb2⟩; have HO2 := Lib.hid ho2; have HB2 := Lib.hid hb2; clear ho2 hb2)
        go_ret
        exact ⟨_, rfl, HO2.out, HBR.out.trans HB2.out⟩
      · intro key v1 w1 a0 e0 hmem hxe hnew hrg1 hg1 hs1 hen
        obtain ⟨x, hxd⟩ : ∃ x : VEnt, x = (a0, e0) := ⟨_, rfl⟩
        rw [← hxd] at hmem hxe
        simp only [pairOf, Prod.mk.injEq] at hxe
        obtain ⟨rfl, rfl⟩ := hxe
        have HX := Lib.hid hmem
        have HNEW := Lib.hid (show ∀ y ∈ vis, y.2.path ≠ x.2.path from fun y hy e => hnew _ _ y.1 y.2 hy rfl (by rw [e]))
        clear hxd
        have hrow := rng_row HRG.out HOWN.out
        have HB1 := Lib.hid (HBR.out.grown hg1 hsz (fun k e => by cases e; exact HR.out))
        have HO1 := Lib.hid (HOWN.out.kept hg1 (.inr (fun e => hrow.1 e.symm)))
        have HRG1 := Lib.hid hrg1
        have hsz1 := HB1.out.size
        have HLEFT := Lib.hid HRG.out.left
        clear hmem hnew hrg1 hg1 hs1 hrow
        go_wp2_with (first | (fail) | (at_builtin; go_must (refine wpList_app1 Tryz.appStrings rfl _ _ rfl w.heap.size u7 (gotP ⟨#[]⟩ vis).length ((gotP ⟨#[]⟩ vis).map Value.string) rfl w1 [.string x.2.path] _ rfl rfl (by simp; rfl) HO1.out (by have := HGL.out; omega) hsz1 ?_); intro v' w2 hown2 hgrow2 _))
        have HO2 := Lib.hid hown2
        have HG2 := Lib.hid hgrow2
        clear hown2 hgrow2
        go_wp2_with fail
        go_roundw
        case rel =>
          refine ⟨vis ++ [x], ?_, ?_, ?_, ?_, below_grown HB1.out HO1.out HG2.out (Nat.le_refl _) hsz1⟩
          · rw [List.map_append]
            exact HRG1.out.grown HO1.out HG2.out
          · intro y hy
            rcases List.mem_append.1 hy with hy | hy
            · exact HSUB.out y hy
            · rw [List.mem_singleton] at hy; rw [hy]; exact HX.out
          · exact nodup_vsnoc HND.out HNEW.out
          · rw [gotP_snoc, if_pos (by rfl), List.length_append, List.map_append]
            exact HO2.out
        case measure =>
          have h1 := (HRG1.out.grown HO1.out HG2.out).left
          have h2 := HLEFT.out
          simp only [List.length_append, List.length_singleton] at h1
          omega
  · have e1 : p.toList.isEmpty = false := by rw [empty20, decide_eq_false (fun h => h0 (size_zero.2 h))]
    cases hf : findE L p with
    | none =>
      have HM := Lib.hid (show pathsM L p = [] by unfold pathsM; rw [atP_gone hf h0]; rfl)
      have hlk := HT.out.miss mapTy (zeroE_run w) hps hf true
      unfold zeroE at hlk
      simp only [if_true] at hlk
      clear hf h0 hps
      go_enter Tryz.func34, Tryz.ntmps34
      go_wp2_with fail
      go_ret
      rw [HM.out]
      refine ⟨_, rfl, World.ownsRow_nil _ _ _ _, ?_⟩
      exact (Below.refl _ _).alloc (Nat.le_refl _) _
    | some f =>
      have HP0 := Lib.hid (show p.size = 0 ∨ ∃ f, findE L p = some f from .inr ⟨f, hf⟩)
      have h512 : p.size ≤ 512 := by
        obtain ⟨h1, h2⟩ := findE_some hf
        rw [← h2, size_bl]
        exact valid_size (vEnt_path (HT.out.ok.val f h1))
      obtain ⟨v, hlk, hd, -⟩ := HT.out.hit mapTy hps hf true
      obtain ⟨_, a, cap, rfl, hc, hm, -⟩ := hd
      unfold entV at hlk
      simp only [if_true] at hlk
      by_cases hk : f.kind = 2
      · have e2 : (f.kind != 2) = false := by simp [hk]
        have HNE := Lib.hid h0
        clear hf h0 hps hk hc hm
        obtain ⟨xs, hm, hperm⟩ := HT.out.ents
        have HMW := Lib.hid hm
        have HPERM := Lib.hid hperm
        have hxl : xs.length ≤ 4096 := by have h1 := hperm.length_eq; have h2 := HT.out.ok.len; rw [List.length_map] at h1; omega
        have HXL := Lib.hid hxl
        clear hm hperm hxl
        go_enter Tryz.func34, Tryz.ntmps34
        have hltb : tb < w.heap.size := block_lt hcl
        have e9 : ∀ o : Obj, (w.alloc o).heap.size = w.heap.size + 1 := fun o => by simp
        go_wp2_with (at_range; go_must (refine wpList_rangeS rfl _ _ rfl mapTy mb _ rfl (HMW.out.below ((Below.refl _ _).alloc (Nat.le_refl _) _)).map ?_); intro w0 hrg0 hb0 hs0)
        rw [e9] at hrg0 hb0 ⊢
        have HM := Lib.hid HMW.out
        obtain ⟨r, hr⟩ : ∃ r, r = w.heap.size + 1 := ⟨_, rfl⟩
        have HB0 := Lib.hid (((Below.refl w.heap.size w).alloc (Nat.le_refl _) _).trans (hb0.mono (Nat.le_succ _)))
        rw [← hr] at hrg0 ⊢
        have HR := Lib.hid (show w.heap.size ≤ r by omega)
        clear hr hs0 hb0 e9
        go_frame
        go_loopw [7, 8] (fun v _ wr => LoopP w p mb r xs v wr) (fun _ _ wr => wr.rangeLeft mb r)
        case atStart => exact ⟨[], hrg0, by simp, by simp, World.ownsRow_nil _ _ _ _, HB0.out⟩
        case round =>
          obtain ⟨vis, hrg, hsub, hnd, hown, hbr⟩ := hrel
          have HRG := Lib.hid hrg
          have HSUB := Lib.hid hsub
          have HND := Lib.hid hnd
          have HOWN := Lib.hid hown
          have HBR := Lib.hid hbr
          have hgl := got_len (p := p) hsub hnd HXL.out
          have HGL := Lib.hid hgl
          have hsz := hbr.size
          clear hrg hsub hnd hown hbr hgl
          go_wp2_with (at_next; go_must (refine wpList_nextS rfl _ rfl mb r _ _ rfl HRG.out ?_ ?_))
          · intro hdone
            have hp2 := gotP_end (p := p) (HM.out) HT.out.ok HPERM.out HP0.out (vis_perm HM.out hdone HSUB.out HND.out)
            have HP2 := Lib.hid hp2
            clear hdone hp2
            go_wp2_with (go_at_call 52; refine (sort_any w.heap.size u7 (gotP p vis) (pathsM L p) wr HOWN.out (got_size HM.out HSUB.out) HP2.out (pathsM_sorted HT.out.ok _) (by have := HGL.out; omega) hsz).mono ?_; rintro e w2 ⟨rfl, ho2, hb2⟩; have HO2 := Lib.hid ho2; have HB2 := Lib.hid hb2; clear ho2 hb2)
            go_ret
            exact ⟨_, rfl, HO2.out, HBR.out.trans HB2.out⟩
          · intro key v1 w1 a0 e0 hmem hxe hnew hrg1 hg1 hs1 hen
            obtain ⟨x, hxd⟩ : ∃ x : VEnt, x = (a0, e0) := ⟨_, rfl⟩
            rw [← hxd] at hmem hxe
            simp only [pairOf, Prod.mk.injEq] at hxe
            obtain ⟨rfl, rfl⟩ := hxe
            have HX := Lib.hid hmem
            have HNEW := Lib.hid (show ∀ y ∈ vis, y.2.path ≠ x.2.path from fun y hy e => hnew _ _ y.1 y.2 hy rfl (by rw [e]))
            clear hxd
            have hrow := rng_row HRG.out HOWN.out
            have HB1 := Lib.hid (HBR.out.grown hg1 hsz (fun k e => by cases e; exact HR.out))
            have HO1 := Lib.hid (HOWN.out.kept hg1 (.inr (fun e => hrow.1 e.symm)))
            have HRG1 := Lib.hid hrg1
            have hsz1 := HB1.out.size
            have HLEFT := Lib.hid HRG.out.left
            clear hmem hnew hrg1 hg1 hs1 hrow
            by_cases hsp : x.2.path = p
            · have e3 : x.2.path.toList = p.toList := by rw [hsp]
              have HMT := Lib.hid (show matchB p x.2.path = true by unfold matchB; simp [hsp])
              clear hsp
              go_wp2_with (first | (fail) | (at_builtin; go_must (refine wpList_app1 Tryz.appStrings rfl _ _ rfl w.heap.size u7 (gotP p vis).length ((gotP p vis).map Value.string) rfl w1 [.string x.2.path] _ rfl rfl (by simp; rfl) HO1.out (by have := HGL.out; omega) hsz1 ?_); intro v' w2 hown2 hgrow2 _))
              have HO2 := Lib.hid hown2
              have HG2 := Lib.hid hgrow2
              clear hown2 hgrow2
              go_wp2_with fail
              go_roundw
              case rel =>
                refine ⟨vis ++ [x], ?_, ?_, ?_, ?_, below_grown HB1.out HO1.out HG2.out (Nat.le_refl _) hsz1⟩
                · rw [List.map_append]
                  exact HRG1.out.grown HO1.out HG2.out
                · intro y hy
                  rcases List.mem_append.1 hy with hy | hy
                  · exact HSUB.out y hy
                  · rw [List.mem_singleton] at hy; rw [hy]; exact HX.out
                · exact nodup_vsnoc HND.out HNEW.out
                · rw [gotP_snoc, if_pos HMT.out, List.length_append, List.map_append]
                  exact HO2.out
              case measure =>
                have h1 := (HRG1.out.grown HO1.out HG2.out).left
                have h2 := HLEFT.out
                simp only [List.length_append, List.length_singleton] at h1
                omega
            · have e3 : ¬ x.2.path.toList = p.toList := fun e => hsp (bl_inj (by rw [← toList_bl, ← toList_bl]; exact e))
              have e4 : (x.2.path.toList == p.toList) = false := by simpa using e3
              clear e3
              cases hpf : Lib.hasPrefix (bl x.2.path) (bl p ++ [47])
              · have HPF := Lib.hid (show Lib.hasPrefix (bl x.2.path) (bl (p ++ (⟨#[47]⟩ : ByteArray))) = false by rw [bl_append]; exact hpf)
                have HMT := Lib.hid (show ¬ matchB p x.2.path = true by unfold matchB; simp [hsp, HNE.out, hpf])
                clear hsp hpf
                go_wp2_with (go_at_call 51; refine (hasPrefix_any _ _ _).mono ?_; rintro e w2 ⟨rfl, rfl⟩; rw [HPF.out])
                go_roundw
                case rel =>
                  refine ⟨vis ++ [x], ?_, ?_, ?_, ?_, HB1.out⟩
                  · rw [List.map_append]
                    exact HRG1.out
                  · intro y hy
                    rcases List.mem_append.1 hy with hy | hy
                    · exact HSUB.out y hy
                    · rw [List.mem_singleton] at hy; rw [hy]; exact HX.out
                  · exact nodup_vsnoc HND.out HNEW.out
                  · rw [gotP_snoc, if_neg HMT.out]
                    exact HO1.out
                case measure =>
                  have h1 := HRG1.out.left
                  have h2 := HLEFT.out
                  simp only [List.length_append, List.length_singleton] at h1
                  omega
              · have HPF := Lib.hid (show Lib.hasPrefix (bl x.2.path) (bl (p ++ (⟨#[47]⟩ : ByteArray))) = true by rw [bl_append]; exact hpf)
                have HMT := Lib.hid (show matchB p x.2.path = true by unfold matchB; simp [hpf])
                clear hsp hpf
                go_wp2_with (first | (go_at_call 51; refine (hasPrefix_any _ _ _).mono ?_; rintro e w2 ⟨rfl, rfl⟩; rw [HPF.out]) | (at_builtin; go_must (refine wpList_app1 Tryz.appStrings rfl _ _ rfl w.heap.size u7 (gotP p vis).length ((gotP p vis).map Value.string) rfl w1 [.string x.2.path] _ rfl rfl (by simp; rfl) HO1.out (by have := HGL.out; omega) hsz1 ?_); intro v' w2 hown2 hgrow2 _))
                have HO2 := Lib.hid hown2
                have HG2 := Lib.hid hgrow2
                clear hown2 hgrow2
                go_wp2_with fail
                go_roundw
                case rel =>
                  refine ⟨vis ++ [x], ?_, ?_, ?_, ?_, below_grown HB1.out HO1.out HG2.out (Nat.le_refl _) hsz1⟩
                  · rw [List.map_append]
                    exact HRG1.out.grown HO1.out HG2.out
                  · intro y hy
                    rcases List.mem_append.1 hy with hy | hy
                    · exact HSUB.out y hy
                    · rw [List.mem_singleton] at hy; rw [hy]; exact HX.out
                  · exact nodup_vsnoc HND.out HNEW.out
                  · rw [gotP_snoc, if_pos HMT.out, List.length_append, List.map_append]
                    exact HO2.out
                case measure =>
                  have h1 := (HRG1.out.grown HO1.out HG2.out).left
                  have h2 := HLEFT.out
                  simp only [List.length_append, List.length_singleton] at h1
                  omega
      · have HM := Lib.hid (show pathsM L p = [p] by unfold pathsM; rw [atP_leaf HT.out.ok hf hk, List.map_cons, (findE_some hf).2]; rfl)
        have e2 : (f.kind != 2) = true := by simp [hk]
        clear hf h0 hps hk hc hm
        go_enter Tryz.func34, Tryz.ntmps34
        go_wp2_with fail
        go_ret
        rw [HM.out]
        refine ⟨_, rfl, ?_, ?_⟩
        · have h1 := World.ownsRow_lit (base := w.heap.size) (e := 9) (size := 1) (w.alloc (.cells #[.string f.path, .int .i64 f.kind, .int .i64 f.mode, .int .i64 f.time, .slice a f.data.length cap, .string f.link] 30)) #[.string p] 1 (by simp) (by unfold maxLen; omega) (by simp)
          rw [show (w.alloc (.cells #[.string f.path, .int .i64 f.kind, .int .i64 f.mode, .int .i64 f.time, .slice a f.data.length cap, .string f.link] 30)).heap.size = w.heap.size + 1 by simp] at h1
          exact h1
        · exact ((Below.refl _ _).alloc (Nat.le_refl _) _).alloc (by simp) _

end Go.Proofs.YtbkhdpocmmjnbaaGreatDoor

/- Contracts of package filetree: Remove. -/
namespace Go.Proofs.YtbkhdpocmmjnbaaGreatDoor
open Go.RowKit Go.Maps

/-- A path of the list, still in the map. -/
theorem path_at {S : Nat → Prop} {w : World} {mb : Nat} {xs : List VEnt} {L : List Ent} (_ : MapE S w mb xs) (hp : (xs.map Prod.snd).Perm L) {p q : ByteArray} (hq : q ∈ pathsM L p) : ∃ x ∈ xs, x.2.path = q := by
  unfold pathsM at hq
  obtain ⟨e, he, rfl⟩ := List.mem_map.1 hq
  obtain ⟨v, hv⟩ := find_vent (hp.symm.subset (atP_sub e he))
  exact ⟨_, hv, rfl⟩
theorem take_not_mem {M : List ByteArray} (hn : M.Nodup) {k : Nat} {q : ByteArray} (hq : M[k]? = some q) : q ∉ M.take k := by
  intro h
  obtain ⟨j, hj⟩ := List.mem_iff_getElem?.1 h
  rw [List.getElem?_take] at hj
  split at hj
  · rename_i hjk
    obtain ⟨h1, h2⟩ := List.getElem?_eq_some_iff.1 hq
    obtain ⟨h3, h4⟩ := List.getElem?_eq_some_iff.1 hj
    have := List.pairwise_iff_getElem.1 hn j k h3 h1 hjk
    exact this (h4.trans h2.symm)
  · cases hj
theorem del_step {S : Nat → Prop} {w : World} {mb : Nat} {xs : List VEnt} {M : List ByteArray} {k : Nat} {q : ByteArray} (h : MapE S w mb (struckE xs (M.take k))) (hn : (xs.map (fun x => x.2.path)).Nodup) (hM : M.Nodup) (hq : M[k]? = some q) (hx : ∃ x ∈ xs, x.2.path = q) :
    ∀ ty, ∃ w', (Builtin.delete_ #[61, 9] ty #[.map (some mb), .string q]).run Tryz.prog w = .ok (.tuple #[]) w' ∧ (MapE S w' mb (struckE xs (M.take (k + 1))) ∧ w.grownBy w' (some mb)) := by
  intro ty
  obtain ⟨x, hx, rfl⟩ := hx
  obtain ⟨a, b, h1, h2⟩ := struck_step hn hx (take_not_mem hM hq)
  rw [h1] at h
  obtain ⟨w', h3, h4, h5⟩ := h.delRun mapTy ty
  refine ⟨w', h3, ?_, h5⟩
  have ht : M.take (k + 1) = M.take k ++ [x.2.path] := by
    rw [List.take_add_one, hq]; rfl
  rw [ht, ← h2]
  exact h4
theorem remove_some {L : List Ent} {p : ByteArray} {below : Bool} {f : Ent} (hv : validP (bl p) = true) (hf : findE L p = some f) : removeP L p below = if below = false ∧ 1 < (pathsM L p).length then (L, 6) else (L.filter (fun e => !inB p e), 0) := by
  unfold removeP pathsM
  rw [hv, hf, List.length_map]
  simp
set_option maxRecDepth 100000 in
set_option maxHeartbeats 2000000 in
theorem remove_any (S : Nat → Prop) (tb mb : Nat) (L : List Ent) (p : ByteArray) (below : Bool) (w : World) (ht : TreeAt S w tb mb L) (hps : p.size ≤ maxLen) (henv : Env w) :
    Calls Tryz.prog 24 #[.pointer (some ⟨tb, 0, none⟩), .string p, .bool below] w (OpRes S tb mb (removeP L p below) w) := by
  have HT := Lib.hid ht
  have HE := Lib.hid henv
  have HPS := Lib.hid hps
  clear ht henv
  cases hv : validP (bl p)
  · have HV := Lib.hid hv
    have HP := Lib.hid (show removeP L p below = (L, 1) by unfold removeP; rw [if_pos hv])
    clear hv
    go_enter Tryz.func24, Tryz.ntmps24
    go_wp2_with (go_at_call 33; refine (valid20_is p false _ HE.out HV.out).mono ?_; rintro e w1 ⟨rfl, hb1⟩; have HB1 := Lib.hid hb1; clear hb1)
    go_ret
    rw [HP.out]
    exact op_same HT.out HB1.out
  · have HV := Lib.hid hv
    clear hv
    cases hf : findE L p with
    | none =>
      have HF := Lib.hid hf
      have HP := Lib.hid (show removeP L p below = (L, 4) by unfold removeP; rw [HV.out, hf]; simp)
      clear hf
      go_enter Tryz.func24, Tryz.ntmps24
      go_wp2_with (go_at_call 33; refine (valid20_is p true _ HE.out HV.out).mono ?_; rintro e w1 ⟨rfl, hb1⟩; have HT1 := Lib.hid (HT.out.below hb1); have hlk := HT1.out.miss mapTy (zeroE_run w1) HPS.out HF.out true; have hcl := HT1.out.cell; unfold zeroE at hlk; simp only [if_true] at hlk; have HB1 := Lib.hid hb1; clear hb1)
      go_ret
      rw [HP.out]
      exact op_same HT.out (HB1.out.alloc HB1.out.size _)
    | some f =>
      have HF := Lib.hid hf
      have HRM := Lib.hid (remove_some (below := below) HV.out hf)
      clear hf
      go_enter Tryz.func24, Tryz.ntmps24
      go_wp2_with (first | (go_at_call 33; refine (valid20_is p true _ HE.out HV.out).mono ?_; rintro e w1 ⟨rfl, hb1⟩; have HT1 := Lib.hid (HT.out.below hb1); obtain ⟨v, hlk, hd, -⟩ := HT1.out.hit mapTy HPS.out HF.out true; obtain ⟨_, a, cap, rfl, hc, hm, -⟩ := hd; have hcl := HT1.out.cell; unfold entV at hlk; simp only [if_true] at hlk; have HB1 := Lib.hid hb1; clear hb1 hc hm) | (go_at_call 34; refine (paths_any S tb mb L p _ (HT1.out.below ((Below.refl _ _).alloc (Nat.le_refl _) _)) HPS.out).mono ?_; rintro e w2 ⟨v2, rfl, ho, hb2⟩; obtain ⟨a2, c2, rfl, hn2, hm2⟩ := owns_shape ho))
      · have HP0 := Lib.hid (show removeP L p below = (L.filter (fun e => !inB p e), 0) by
          have hb : below = true := by assumption
          rw [HRM.out, if_neg (by simp [hb])])
        have HB2 := Lib.hid (below_next (HB1.out.alloc HB1.out.size _) hb2)
        obtain ⟨S2, hS2⟩ : ∃ S2 : Nat → Prop, S2 = fun k => S k ∨ (w.heap.size ≤ k ∧ k < w2.heap.size) := ⟨_, rfl⟩
        have HW := Lib.hid (show TreeAt S2 w2 tb mb L by rw [hS2]; exact HT.out.wide HB2.out)
        have HS2 := Lib.hid hS2
        obtain ⟨xs, hm0, hperm⟩ := HW.out.ents
        have HM0 := Lib.hid hm0
        have HPERM := Lib.hid hperm
        have hmlt := HT1.out.mb_lt
        have HROW := Lib.hid (RowAt.weak (T := fun k => mb < k) (row_of_owns ho) (fun k hk => by have := hk.1; simp at this; omega))
        unfold maxLen at hm2
        clear hS2 hm0 hperm hmlt ho hb2 hlk hcl
        go_loopw [11, 38] (fun _ i wr => ∃ k : Nat, k ≤ (pathsM L p).length ∧ i = .int .i64 k ∧ MapE S2 wr mb (struckE xs ((pathsM L p).take k)) ∧ w2.grownBy wr (some mb)) (fun _ i _ => (pathsM L p).length - (intOf i).toNat)
        case atStart => exact ⟨0, Nat.zero_le _, rfl, by rw [List.take_zero, struck_nil]; exact HM0.out, World.grownBy.refl _ _⟩
        case round =>
          obtain ⟨k, hk, rfl, hm, hg⟩ := hrel
          have HMK := Lib.hid hm
          have HG := Lib.hid hg
          by_cases hlt : k < (pathsM L p).length
          · obtain ⟨q, hq⟩ : ∃ q, (pathsM L p)[k]? = some q := ⟨_, List.getElem?_eq_getElem hlt⟩
            obtain ⟨_, a3, c3, he3, _, _, h03⟩ := HROW.out
            simp only [Value.slice.injEq] at he3
            obtain ⟨rfl, -, rfl⟩ := he3
            rcases h03 with h03 | ⟨b, o, rfl, hb, hcc⟩
            · omega
            have hc := hg.cell (hcc k (.string q) (by simp [hq])) (fun e => by have := Option.some.inj e; simp only at this; omega)
            have hcl := hg.cell HW.out.cell (fun e => HW.out.ne (Option.some.inj e))
            have HDEL := Lib.hid (del_step hm HM0.out.nodup (at_nodup HW.out.ok p) hq (path_at HM0.out HPERM.out (List.mem_of_getElem? hq)))
            clear hq hm hg hcc
            go_wp2_with (at_delete; go_must (refine wpList_delRun rfl _ _ _ _ rfl _ _ rfl rfl (HDEL.out _) ?_); rintro w3 ⟨hm3, hg3⟩)
            go_roundw
            case rel => exact ⟨k + 1, by omega, by go_num, hm3, HG.out.trans hg3⟩
            case measure => simp [intOf]; omega
          · clear hm hg
            go_wp2_with fail
            go_ret
            have hk2 : k = (pathsM L p).length := by omega
            have hmf := HMK.out
            rw [hk2, List.take_length] at hmf
            have hz : (removeP L p below).2 = 0 := by rw [HP0.out]
            have hrm := HW.out.removed hz HPERM.out hmf HG.out
            rw [HS2.out] at hrm
            rw [show removeP L p below = ((removeP L p below).1, 0) from Prod.ext rfl hz]
            exact op_done HT.out HB2.out HG.out hrm
      · have HB2 := Lib.hid (below_next (HB1.out.alloc HB1.out.size _) hb2)
        have HP := Lib.hid (show removeP L p below = (L, 6) by
          have hb : ¬ below = true := by assumption
          have hl : 1 < ((pathsM L p).length : Int) := by assumption
          rw [HRM.out, if_pos ⟨by simpa using hb, by omega⟩])
        clear hb2
        go_ret
        rw [HP.out]
        exact op_same HT.out HB2.out
      · have HP0 := Lib.hid (show removeP L p below = (L.filter (fun e => !inB p e), 0) by
          have hl : ((pathsM L p).length : Int) ≤ 1 := by assumption
          rw [HRM.out, if_neg (fun h => by have := h.2; omega)])
        have HB2 := Lib.hid (below_next (HB1.out.alloc HB1.out.size _) hb2)
        obtain ⟨S2, hS2⟩ : ∃ S2 : Nat → Prop, S2 = fun k => S k ∨ (w.heap.size ≤ k ∧ k < w2.heap.size) := ⟨_, rfl⟩
        have HW := Lib.hid (show TreeAt S2 w2 tb mb L by rw [hS2]; exact HT.out.wide HB2.out)
        have HS2 := Lib.hid hS2
        obtain ⟨xs, hm0, hperm⟩ := HW.out.ents
        have HM0 := Lib.hid hm0
        have HPERM := Lib.hid hperm
        have hmlt := HT1.out.mb_lt
        have HROW := Lib.hid (RowAt.weak (T := fun k => mb < k) (row_of_owns ho) (fun k hk => by have := hk.1; simp at this; omega))
        unfold maxLen at hm2
        clear hS2 hm0 hperm hmlt ho hb2 hlk hcl
        go_loopw [11, 38] (fun _ i wr => ∃ k : Nat, k ≤ (pathsM L p).length ∧ i = .int .i64 k ∧ MapE S2 wr mb (struckE xs ((pathsM L p).take k)) ∧ w2.grownBy wr (some mb)) (fun _ i _ => (pathsM L p).length - (intOf i).toNat)
        case atStart => exact ⟨0, Nat.zero_le _, rfl, by rw [List.take_zero, struck_nil]; exact HM0.out, World.grownBy.refl _ _⟩
        case round =>
          obtain ⟨k, hk, rfl, hm, hg⟩ := hrel
          have HMK := Lib.hid hm
          have HG := Lib.hid hg
          by_cases hlt : k < (pathsM L p).length
          · obtain ⟨q, hq⟩ : ∃ q, (pathsM L p)[k]? = some q := ⟨_, List.getElem?_eq_getElem hlt⟩
            obtain ⟨_, a3, c3, he3, _, _, h03⟩ := HROW.out
            simp only [Value.slice.injEq] at he3
            obtain ⟨rfl, -, rfl⟩ := he3
            rcases h03 with h03 | ⟨b, o, rfl, hb, hcc⟩
            · omega
            have hc := hg.cell (hcc k (.string q) (by simp [hq])) (fun e => by have := Option.some.inj e; simp only at this; omega)
            have hcl := hg.cell HW.out.cell (fun e => HW.out.ne (Option.some.inj e))
            have HDEL := Lib.hid (del_step hm HM0.out.nodup (at_nodup HW.out.ok p) hq (path_at HM0.out HPERM.out (List.mem_of_getElem? hq)))
            clear hq hm hg hcc
            go_wp2_with (at_delete; go_must (refine wpList_delRun rfl _ _ _ _ rfl _ _ rfl rfl (HDEL.out _) ?_); rintro w3 ⟨hm3, hg3⟩)
            go_roundw
            case rel => exact ⟨k + 1, by omega, by go_num, hm3, HG.out.trans hg3⟩
            case measure => simp [intOf]; omega
          · clear hm hg
            go_wp2_with fail
            go_ret
            have hk2 : k = (pathsM L p).length := by omega
            have hmf := HMK.out
            rw [hk2, List.take_length] at hmf
            have hz : (removeP L p below).2 = 0 := by rw [HP0.out]
            have hrm := HW.out.removed hz HPERM.out hmf HG.out
            rw [HS2.out] at hrm
            rw [show removeP L p below = ((removeP L p below).1, 0) from Prod.ext rfl hz]
            exact op_done HT.out HB2.out HG.out hrm

end Go.Proofs.YtbkhdpocmmjnbaaGreatDoor

/- Rows of entries that a call owns. -/
namespace Go.Proofs.YtbkhdpocmmjnbaaGreatDoor
open Go Go.RowKit Go.Maps

theorem Tryz.appEnts : AppTy Tryz.prog 27 30 6 80 := AppTy.mk' (z := zeroE) Tryz.underlying27 (by kernel_rfl) rfl (by decide) (by decide)
def entsC (ys : List VEnt) : List Value := ys.flatMap fun y => entC y.1 y.2
theorem entsC_snoc (ys : List VEnt) (y : VEnt) : entsC (ys ++ [y]) = entsC ys ++ entC y.1 y.2 := by simp [entsC]
theorem entsC_len : ∀ ys : List VEnt, (entsC ys).length = ys.length * 6
  | [] => rfl
  | y :: ys => by
    have := entsC_len ys
    unfold entsC at this ⊢
    rw [List.flatMap_cons, List.length_append, this, List.length_cons, show (entC y.1 y.2).length = 6 from rfl]; omega
theorem entC_one {a : Option Addr} {n c : Nat} {e : Ent} : ∀ u ∈ entC (.slice a n c) e, u.oneCell' = true := by
  intro u hu
  simp only [entC, List.mem_cons, List.not_mem_nil, or_false] at hu
  rcases hu with rfl | rfl | rfl | rfl | rfl | rfl <;> rfl
theorem entsC_get : ∀ {ys : List VEnt} {k : Nat} {y : VEnt}, ys[k]? = some y → ∀ j, j < 6 → (entsC ys)[k * 6 + j]? = (entC y.1 y.2)[j]?
  | [], k, _, h, _, _ => by simp at h
  | x :: ys, 0, y, h, j, hj => by
    simp at h; subst h
    unfold entsC
    rw [List.flatMap_cons, Nat.zero_mul, Nat.zero_add, List.getElem?_append_left (by exact hj)]
  | x :: ys, k + 1, y, h, j, hj => by
    have := entsC_get (ys := ys) (k := k) (y := y) (by simpa using h) j hj
    unfold entsC at this ⊢
    rw [List.flatMap_cons, List.getElem?_append_right (by show 6 ≤ _; omega), ← this]
    congr 1
    show (k + 1) * 6 + j - 6 = _
    omega
theorem entsC_in {S : Nat → Prop} {w : World} : ∀ {ys : List VEnt}, (∀ y ∈ ys, DataAt S w y.1 y.2.data ∧ EntOk y.2) → RowsIn (EntR S w) (entsC ys) (ys.map Prod.snd)
  | [], _ => rfl
  | y :: ys, h => ⟨entC y.1 y.2, entsC ys, by simp [entsC], ⟨y.1, rfl, h y (by simp)⟩, entsC_in (fun z hz => h z (by simp [hz]))⟩
/-- The six cells of an entry in an owned row. -/
theorem own_ent {w : World} {base n cap : Nat} {a : Option Addr} {ys : List VEnt} {m : Nat} (h : w.ownsRow base 30 6 (.slice a n cap) m (entsC ys)) {k : Nat} {y : VEnt} (hk : ys[k]? = some y) :
    ∃ b, a = some ⟨b, 0, none⟩ ∧ base ≤ b ∧ b < w.heap.size ∧ n = ys.length ∧ w.cell? ⟨b, k * 6, none⟩ = some (.string y.2.path) ∧ w.cell? ⟨b, k * 6 + 1, none⟩ = some (.int .i64 y.2.kind) ∧ w.cell? ⟨b, k * 6 + 2, none⟩ = some (.int .i64 y.2.mode) ∧ w.cell? ⟨b, k * 6 + 3, none⟩ = some (.int .i64 y.2.time) ∧ w.cell? ⟨b, k * 6 + 4, none⟩ = some y.1 ∧ w.cell? ⟨b, k * 6 + 5, none⟩ = some (.string y.2.link) := by
  have hlen := h.1
  rw [entsC_len] at hlen
  have hm : m = ys.length := by omega
  subst hm
  have hr := row_of_owns h
  obtain ⟨_, a', cap', he, _, _, h0⟩ := hr
  simp only [Value.slice.injEq] at he
  obtain ⟨rfl, rfl, rfl⟩ := he
  have hlt := (List.getElem?_eq_some_iff.1 hk).1
  rcases h0 with h0 | ⟨b, o, rfl, hb, hc⟩
  · omega
  · rcases h.2 with ⟨hn, _⟩ | ⟨g, cp, cur, hv, hbs, hh, _⟩
    · cases hn
    · simp only [Value.slice.injEq, Option.some.injEq, Addr.mk.injEq] at hv
      obtain ⟨⟨rfl, rfl, -⟩, -, rfl⟩ := hv
      have g := fun j (hj : j < 6) => hc (k * 6 + j) _ ((entsC_get hk j hj).trans (List.getElem?_eq_getElem (l := entC y.1 y.2) hj))
      have g0 := g 0 (by omega)
      have g1 := g 1 (by omega)
      have g2 := g 2 (by omega)
      have g3 := g 3 (by omega)
      have g4 := g 4 (by omega)
      have g5 := g 5 (by omega)
      simp only [Nat.zero_add, Nat.add_zero] at g0 g1 g2 g3 g4 g5
      exact ⟨b, rfl, hbs, (Array.getElem?_eq_some_iff.1 hh).1, rfl, g0, g1, g2, g3, g4, g5⟩
theorem DataAt.slice {S : Nat → Prop} {w : World} {v : Value} {bs : List UInt8} (h : DataAt S w v bs) : ∃ a c, v = .slice a bs.length c ∧ bs.length ≤ c ∧ c ≤ maxLen := by
  obtain ⟨_, a, c, rfl, h1, h2, _⟩ := h
  exact ⟨a, c, rfl, h1, h2⟩
/-- Blocks at and above B, other than the row's own. -/
def FreeB (B : Nat) (w : World) (v : Value) (k : Nat) : Prop := B ≤ k ∧ k < w.heap.size ∧ some k ≠ v.ownBlock
structure GotE (B : Nat) (w : World) (v : Value) (ys : List VEnt) : Prop where
  row : w.ownsRow B 30 6 v ys.length (entsC ys)
  dat : ∀ y ∈ ys, DataAt (FreeB B w v) w y.1 y.2.data ∧ EntOk y.2
theorem GotE.nil (B : Nat) (w : World) : GotE B w (.slice none 0 0) [] := ⟨World.ownsRow_nil _ _ _ _, by simp⟩
theorem own_lt {w : World} {B n sz : Nat} {e : TypeId} {v : Value} {xs : List Value} (h : w.ownsRow B e sz v n xs) {k : Nat} (hk : v.ownBlock = some k) : B ≤ k ∧ k < w.heap.size := h.lt k hk
theorem own_below {w w' : World} {B n sz : Nat} {e : TypeId} {v : Value} {xs : List Value} (h : w.ownsRow B e sz v n xs) (hb : Below w.heap.size w w') : w'.ownsRow B e sz v n xs := by
  refine h.kept (row := none) ⟨hb.os, hb.tape, hb.output, hb.size, fun k hk _ => hb.block k hk⟩ ?_
  cases hv : v.ownBlock
  · exact .inl rfl
  · exact .inr (by simp)
theorem GotE.below {B : Nat} {w w' : World} {v : Value} {ys : List VEnt} (h : GotE B w v ys) (hb : Below w.heap.size w w') : GotE B w' v ys := by
  exact ⟨own_below h.row hb, fun y hy => ⟨data_mono ((h.dat y hy).1.below hb) (fun k hk => ⟨hk.1, Nat.lt_of_lt_of_le hk.2.1 hb.size, hk.2.2⟩), (h.dat y hy).2⟩⟩
/-- One more entry, whose data lie in new blocks. -/
theorem GotE.push {B : Nat} {w w1 w2 : World} {v v' : Value} {ys : List VEnt} (h : GotE B w v ys) (hb : Below w.heap.size w w1) {y : VEnt} (hd : DataAt (fun k => w.heap.size ≤ k ∧ k < w1.heap.size) w1 y.1 y.2.data) (hok : EntOk y.2) (hB : B ≤ w.heap.size)
    (hown : w2.ownsRow B 30 6 v' (ys.length + 1) (entsC ys ++ entC y.1 y.2)) (hg : w1.grownBy w2 v.ownBlock) (hpl : ∀ k, v'.ownBlock = some k → v.ownBlock = some k ∨ w1.heap.size ≤ k) : GotE B w2 v' (ys ++ [y]) := by
  have h1 := h.below hb
  have key : ∀ z : VEnt, DataAt (FreeB B w1 v) w1 z.1 z.2.data → DataAt (FreeB B w2 v') w2 z.1 z.2.data := by
    intro z hz
    have h3 := RowAt.same (w' := w2) (RowAt.mono (T := fun k => FreeB B w1 v k ∧ k < w1.heap.size) hz (fun k hk hS => ⟨hS, hk⟩) (by omega)) (fun k hk => hg.block k hk.2 hk.1.2.2)
    refine RowAt.mono h3 (fun k hk hS => ⟨hS.1.1, hk, fun e => ?_⟩) (by omega)
    rcases hpl k e.symm with h5 | h5
    · exact hS.1.2.2 h5.symm
    · have := hS.2; omega
  refine ⟨by rw [List.length_append, List.length_singleton, entsC_snoc]; exact hown, fun z hz => ?_⟩
  rcases List.mem_append.1 hz with hz | hz
  · exact ⟨key z (h1.dat z hz).1, (h.dat z hz).2⟩
  · rw [List.mem_singleton] at hz
    subst hz
    refine ⟨key z (data_mono hd (fun k hk => ⟨Nat.le_trans hB hk.1, hk.2, fun e => ?_⟩)), hok⟩
    have := (own_lt h.row e.symm).2
    omega
theorem GotE.le {B B' : Nat} {w : World} {v : Value} {ys : List VEnt} (h : GotE B w v ys) (hB : B' ≤ B) : GotE B' w v ys :=
  ⟨owns_le20 h.row hB, fun y hy => ⟨data_mono (h.dat y hy).1 (fun _k hk => ⟨Nat.le_trans hB hk.1, hk.2⟩), (h.dat y hy).2⟩⟩
theorem GotE.seq {B : Nat} {w : World} {v : Value} {ys : List VEnt} (h : GotE B w v ys) : EntsAt (fun k => B ≤ k ∧ k < w.heap.size) w v (ys.map Prod.snd) := by
  refine ⟨entsC ys, ?_, entsC_in (fun y hy => ⟨data_mono (h.dat y hy).1 (fun k hk => ⟨hk.1, hk.2.1⟩), (h.dat y hy).2⟩)⟩
  rw [List.length_map]
  exact RowAt.mono (row_of_owns h.row) (fun k hk hS => ⟨hS.1, hk⟩) (by omega)

end Go.Proofs.YtbkhdpocmmjnbaaGreatDoor
