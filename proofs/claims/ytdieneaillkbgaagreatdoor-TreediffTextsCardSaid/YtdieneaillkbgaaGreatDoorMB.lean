/- Texts of this proof, one after the other: TreeT, Ent, TreeM, TreeN, DifP, DifQ, DifR, MrgP, DifS, MapR, Cmp, TreeO, FtA, App, FtB, FtC, FtD, Segs, Held, FtE, SortS, FtF. -/
import Derived.Test.YtdieneaillkbgaaGreatDoorMA
import Derived.Shelf.SlSortCmp.NoneTotal
import Derived.Shelf.Bytes.SlClone
import Derived.Laws.OwnMore
import Derived.Lib.LazyBuf
import Derived.StillTailTactics
import Derived.WalkKit
import Derived.OrdersHeld
import Derived.Deep.RegionHeld
import Derived.Lib.OwnBridge
/- Trees of entries, in plain words: a directory is itself and what lies within the entries in it. -/
namespace Go.Proofs.YtdieneaillkbgaaGreatDoor
open Go.RowKit

theorem parent_cat_of {l d : List UInt8} (h : parentL l = d) (hd : d ≠ []) : ∃ t, l = d ++ 47 :: t := by
  obtain ⟨t, ht⟩ := parent_back (l := l) (by rw [h]; exact hd)
  exact ⟨t, by rw [h] at ht; exact ht⟩
theorem cmp_le_within {s x : List UInt8} {t : List UInt8} (h : x = s ++ t) : cmpL s x ≤ 0 := by rw [h]; exact cmp_app s t
theorem kids_apart {L : List Ent} (h : TOk L) {a b x y : Ent} (ha : a ∈ L) (hb : b ∈ L) (hp : parentL (bl a.path) = parentL (bl b.path)) (hab : cmpE a b < 0) (hx : x ∈ L) (hy : y ∈ L) (hxa : inB a.path x = true) (hyb : inB b.path y = true) : cmpE x y < 0 := by
  have hva := vEnt_path (h.val a ha)
  have hvb := vEnt_path (h.val b hb)
  obtain ⟨t, ht, ht2⟩ := within_rest h hva hx hxa
  obtain ⟨u, hu, _⟩ := within_rest h hvb hy hyb
  have hby : cmpE b y ≤ 0 := cmp_le_within hu
  rcases Int.lt_or_le (cmpE x y) 0 with hlt | hge
  · exact hlt
  exfalso
  have hyx : cmpE y x ≤ 0 := by have := cmpE_neg x y; omega
  have hbx : cmpE b x ≤ 0 := cmpE_le_trans hby hyx
  rcases ht2 with rfl | ⟨r, rfl⟩
  · rw [List.append_nil] at ht
    have : cmpE a x = 0 := cmpE_zero.2 (bl_inj ht.symm)
    have h1 : cmpE x a = 0 := by have := cmpE_neg a x; omega
    have h2 := cmpE_le_trans (b := x) hbx (by omega : cmpE x a ≤ 0)
    have := cmpE_neg a b
    omega
  · rcases cmp_between (bl a.path) (bl b.path) r (by unfold cmpE at hab; omega) (by rw [← ht]; exact hbx) with h1 | ⟨s, h1⟩
    · have := cmpE_zero.2 (bl_inj h1)
      have h3 := cmpE_neg a b
      omega
    · have hl := parent_shorter hva
      rcases below_parent h1 with h2 | ⟨s', h2⟩
      · rw [hp, h2] at hl; omega
      · rw [hp, h2, List.length_append] at hl; omega
/-- Below a directory there is an entry in it. -/
theorem kid_above {L : List Ent} (h : TOk L) {d : ByteArray} : ∀ (n : Nat) {x : Ent}, (bl x.path).length ≤ n → x ∈ L → (bl d = [] ∨ ∃ r, bl x.path = bl d ++ 47 :: r) → ∃ k ∈ L, parentL (bl k.path) = bl d ∧ inB k.path x = true
  | 0, x, hn, hx, _ => by
    have := valid_ne (vEnt_path (h.val x hx))
    exact absurd (List.length_eq_zero_iff.1 (by omega)) this
  | n + 1, x, hn, hx, hd => by
    by_cases hp : parentL (bl x.path) = bl d
    · exact ⟨x, hx, hp, inB_self (h.val x hx)⟩
    · have hpd : parentL (bl x.path) ≠ [] ∧ (bl d = [] ∨ ∃ r, parentL (bl x.path) = bl d ++ 47 :: r) := by
        rcases hd with hd | ⟨r, hr⟩
        · exact ⟨by rw [← hd]; exact hp, .inl hd⟩
        · rcases below_parent hr with h1 | ⟨s, h1⟩
          · exact absurd h1 hp
          · exact ⟨by rw [h1]; simp, .inr ⟨s, h1⟩⟩
      obtain ⟨f, hf, hfp, _⟩ := dirE_zero (h.up x hx) hpd.1
      have hl := parent_shorter (vEnt_path (h.val x hx))
      obtain ⟨k, hk, hk1, hk2⟩ := kid_above h (d := d) n (x := f) (by rw [hfp]; omega) hf (by rw [hfp]; exact hpd.2)
      refine ⟨k, hk, hk1, ?_⟩
      obtain ⟨t, ht⟩ := parent_back hpd.1
      have hvk := vEnt_path (h.val k hk)
      obtain ⟨u, hu, hu2⟩ := within_rest h hvk hf hk2
      refine (inB_form h hvk hx).2 (.inr ?_)
      rw [ht, ← hfp, hu]
      rcases hu2 with rfl | ⟨r, rfl⟩
      · exact ⟨t, by simp⟩
      · exact ⟨r ++ 47 :: t, by simp⟩
theorem kid_below {L : List Ent} (h : TOk L) {d : ByteArray} {k x : Ent} (hk : k ∈ L) (hp : parentL (bl k.path) = bl d) (hx : x ∈ L) (hi : inB k.path x = true) : bl d = [] ∨ ∃ r, bl x.path = bl d ++ 47 :: r := by
  by_cases hd : bl d = []
  · exact .inl hd
  · obtain ⟨t, ht⟩ := parent_cat_of hp hd
    obtain ⟨u, hu, _⟩ := within_rest h (vEnt_path (h.val k hk)) hx hi
    exact .inr ⟨t ++ u, by rw [hu, ht]; simp⟩
def kidsE (L : List Ent) (d : ByteArray) : List Ent := L.filter fun e => decide (parentL (bl e.path) = bl d)
theorem mem_kids {L : List Ent} {d : ByteArray} {e : Ent} : e ∈ kidsE L d ↔ e ∈ L ∧ parentL (bl e.path) = bl d := by simp [kidsE]
theorem list_is {L : List Ent} {d : ByteArray} (h0 : (listP L d).2 = 0) : (d.size ≠ 0 → validP (bl d) = true) ∧ dirE L (bl d) = 0 ∧ (listP L d).1 = kidsE L d := by
  unfold listP at h0 ⊢
  split at h0
  · simp at h0
  rename_i h1
  rw [if_neg h1]
  split at h0
  · rename_i h2; exact absurd h0 h2
  rename_i h2
  rw [if_neg h2]
  exact ⟨fun h => by simpa [h] using h1, Classical.not_not.1 h2, rfl⟩
theorem mem_at_iff {L : List Ent} (h : TOk L) {k x : Ent} (hk : k ∈ L) : x ∈ atP L k.path ↔ x ∈ L ∧ inB k.path x = true := by
  rw [atP_there (findE_mem h.nodup hk), List.mem_filter]
theorem sums_at {L : List Ent} (h : TOk L) {d : ByteArray} (hd : dirE L (bl d) = 0) : atP L d = (findE L d).toList ++ (kidsE L d).flatMap fun k => atP L k.path := by
  have hself : bl d = [] → findE L d = none := fun h0 => find_none_iff.2 (fun e he hc => by
    have := valid_ne (vEnt_path (h.val e he))
    rw [hc] at this
    exact this h0)
  have hlt : ∀ x ∈ (kidsE L d).flatMap fun k => atP L k.path, x ∈ L ∧ (bl d = [] ∨ ∃ r, bl x.path = bl d ++ 47 :: r) := by
    intro x hx
    obtain ⟨k, hk, hxk⟩ := List.mem_flatMap.1 hx
    obtain ⟨hk1, hk2⟩ := mem_kids.1 hk
    obtain ⟨hx1, hx2⟩ := (mem_at_iff h hk1).1 hxk
    exact ⟨hx1, kid_below h hk1 hk2 hx1 hx2⟩
  have hs : SortedE ((findE L d).toList ++ (kidsE L d).flatMap fun k => atP L k.path) := by
    refine List.pairwise_append.2 ⟨by cases findE L d <;> simp, ?_, ?_⟩
    · rw [List.pairwise_flatMap]
      refine ⟨fun k _ => atP_sorted h _, ?_⟩
      have hk : SortedE (kidsE L d) := h.ord.filter _
      refine List.Pairwise.imp_of_mem ?_ hk
      intro a b ha hb hab x hx y hy
      obtain ⟨ha1, ha2⟩ := mem_kids.1 ha
      obtain ⟨hb1, hb2⟩ := mem_kids.1 hb
      obtain ⟨hx1, hx2⟩ := (mem_at_iff h ha1).1 hx
      obtain ⟨hy1, hy2⟩ := (mem_at_iff h hb1).1 hy
      exact kids_apart h ha1 hb1 (ha2.trans hb2.symm) hab hx1 hy1 hx2 hy2
    · intro f hf x hx
      cases hfd : findE L d with
      | none => rw [hfd] at hf; simp at hf
      | some g =>
        rw [hfd] at hf
        simp only [Option.toList_some, List.mem_singleton] at hf
        subst hf
        obtain ⟨hx1, hx2⟩ := hlt x hx
        rcases hx2 with h0 | ⟨r, hr⟩
        · rw [hself h0] at hfd; cases hfd
        · have hp := (findE_some hfd).2
          have h1 : cmpE f x ≤ 0 := cmp_le_within (by rw [hr, hp])
          rcases Int.lt_or_eq_of_le h1 with h2 | h2
          · exact h2
          · exfalso
            have h3 := congrArg bl (cmpE_zero.1 h2)
            rw [hp, hr] at h3
            have := congrArg List.length h3
            simp at this
  refine sorted_perm_eq (atP_sorted h d) hs ?_
  refine (List.perm_ext_iff_of_nodup (nodup_ent (atP_sorted h d).nodup) (nodup_ent hs.nodup)).2 (fun x => ?_)
  constructor
  · intro hx
    have hxL := atP_sub x hx
    rw [List.mem_append, List.mem_flatMap]
    by_cases hxd : x.path = d
    · left
      rw [find_of h.nodup hxL hxd]; simp
    · right
      have hw : bl d = [] ∨ ∃ r, bl x.path = bl d ++ 47 :: r := by
        by_cases h0 : bl d = []
        · exact .inl h0
        · have hi : inB d x = true := by
            have := (List.mem_filter.1 hx).2
            simp only [Bool.and_eq_true] at this
            exact this.1
          rcases (inB_iff h hxL).1 hi with h1 | h1 | ⟨_, h1⟩
          · exact .inl h1
          · exact absurd h1.symm hxd
          · exact .inr h1
      obtain ⟨k, h1, h2, h3⟩ := kid_above h _ (Nat.le_refl _) hxL hw
      exact ⟨k, mem_kids.2 ⟨h1, h2⟩, (mem_at_iff h h1).2 ⟨hxL, h3⟩⟩
  · intro hx
    rcases List.mem_append.1 hx with hx | hx
    · cases hfd : findE L d with
      | none => rw [hfd] at hx; simp at hx
      | some g =>
        rw [hfd] at hx
        simp only [Option.toList_some, List.mem_singleton] at hx
        subst hx
        obtain ⟨h1, h2⟩ := findE_some hfd
        rw [atP_there hfd, List.mem_filter]
        refine ⟨h1, ?_⟩
        have := inB_self (h.val x h1)
        rwa [h2] at this
    · obtain ⟨hx1, hx2⟩ := hlt x hx
      by_cases h0 : bl d = []
      · rw [atP_root h (size_zero.2 h0)]; exact hx1
      · obtain ⟨f, hf1, hf2, _⟩ := dirE_zero hd h0
        have hfd := find_of h.nodup hf1 (bl_inj hf2)
        rw [atP_there hfd, List.mem_filter]
        refine ⟨hx1, ?_⟩
        rcases hx2 with h1 | ⟨r, hr⟩
        · exact absurd h1 h0
        · exact (inB_iff h hx1).2 (.inr (.inr ⟨by rw [← hf2]; exact vEnt_path (h.val f hf1), r, hr⟩))
/- Counting adds up. -/
def addC (a b : Cnt) : Cnt := ⟨a.files + b.files, a.dirs + b.dirs, a.links + b.links, a.bytes + b.bytes⟩
theorem cnt_from : ∀ (l : List Ent) (c : Cnt), l.foldl cntE c = addC c (l.foldl cntE ⟨0, 0, 0, 0⟩)
  | [], c => by simp [addC]
  | e :: l, c => by
    rw [List.foldl_cons, List.foldl_cons, cnt_from l (cntE c e), cnt_from l (cntE ⟨0, 0, 0, 0⟩ e)]
    simp only [addC, cntE, Cnt.mk.injEq]
    omega
theorem cnt_app (a b : List Ent) : cntL (a ++ b) = addC (cntL a) (cntL b) := by
  unfold cntL
  rw [List.foldl_append, cnt_from]
theorem self_cnt {L : List Ent} (h : TOk L) {d : ByteArray} (hd : dirE L (bl d) = 0) : cntL (findE L d).toList = ⟨0, if d.size = 0 then 0 else 1, 0, 0⟩ := by
  by_cases h0 : bl d = []
  · rw [if_pos (size_zero.2 h0), find_none_iff.2 (fun e he hc => by
      have := valid_ne (vEnt_path (h.val e he))
      rw [hc] at this
      exact this h0)]
    rfl
  · rw [if_neg (fun hc => h0 (size_zero.1 hc))]
    obtain ⟨f, hf1, hf2, hf3⟩ := dirE_zero hd h0
    rw [find_of h.nodup hf1 (bl_inj hf2)]
    have := data_file (h.val f hf1) (by omega)
    simp [cntL, cntE, hf3, this]

end Go.Proofs.YtdieneaillkbgaaGreatDoor

/- Entries in memory. -/
namespace Go.Proofs.YtdieneaillkbgaaGreatDoor
open Go.RowKit

def u8V (b : UInt8) : Value := .int .u8 (b.toNat : Int)
def DataAt (S : Nat → Prop) (w : World) (v : Value) (bs : List UInt8) : Prop := RowAt S w 1 v bs.length (bs.map u8V)
theorem DataAt.below {S : Nat → Prop} {w w' : World} {v : Value} {bs : List UInt8} (h : DataAt S w v bs) (hb : Below w.heap.size w w') : DataAt S w' v bs := RowAt.below h (by omega) hb
theorem DataAt.nil (S : Nat → Prop) (w : World) : DataAt S w (.slice none 0 0) [] := RowAt.nil _ _ _
theorem u8_one (bs : List UInt8) : ∀ u ∈ bs.map u8V, u.oneCell' = true := fun u hu => by
  obtain ⟨b, _, rfl⟩ := List.mem_map.1 hu
  rfl
def entV (v : Value) (e : Ent) : Value := .agg #[.string e.path, .int .i64 e.kind, .int .i64 e.mode, .int .i64 e.time, v, .string e.link]
def entC (v : Value) (e : Ent) : List Value := [.string e.path, .int .i64 e.kind, .int .i64 e.mode, .int .i64 e.time, v, .string e.link]
structure EntOk (e : Ent) : Prop where
  pth : e.path.size ≤ maxLen
  lnk : e.link.size ≤ maxLen
  knd : (Lit.int .i64 e.kind).wf = true
  mde : (Lit.int .i64 e.mode).wf = true
  tim : (Lit.int .i64 e.time).wf = true
def EntR (S : Nat → Prop) (w : World) (c : List Value) (e : Ent) : Prop := ∃ v, c = entC v e ∧ DataAt S w v e.data ∧ EntOk e
theorem EntR.len {S : Nat → Prop} {w : World} (c : List Value) (e : Ent) (h : EntR S w c e) : c.length = 6 := by obtain ⟨v, rfl, _⟩ := h; rfl
theorem EntR.below {S : Nat → Prop} {w w' : World} {c : List Value} {e : Ent} (h : EntR S w c e) (hb : Below w.heap.size w w') : EntR S w' c e := by
  obtain ⟨v, h1, h2, h3⟩ := h
  exact ⟨v, h1, h2.below hb, h3⟩
def EntsAt (S : Nat → Prop) (w : World) (v : Value) (l : List Ent) : Prop := SeqAt S w 6 (EntR S w) v l
theorem EntsAt.below {S : Nat → Prop} {w w' : World} {v : Value} {l : List Ent} (h : EntsAt S w v l) (hb : Below w.heap.size w w') : EntsAt S w' v l :=
  SeqAt.below h (by omega) hb (fun _ _ _ hr => hr.below hb)
theorem EntsAt.nil (S : Nat → Prop) (w : World) : EntsAt S w (.slice none 0 0) [] := SeqAt.nil
/-- The six cells of an entry in a row. -/
theorem ents_at {S : Nat → Prop} {w : World} {a : Option Addr} {n cap : Nat} {l : List Ent} (hv : EntsAt S w (.slice a n cap) l) {k : Nat} {e : Ent} (hr : l[k]? = some e) :
    ∃ b o v, a = some ⟨b, o, none⟩ ∧ S b ∧ b < w.heap.size ∧ DataAt S w v e.data ∧ EntOk e ∧ n = l.length ∧ w.cell? ⟨b, o + k * 6, none⟩ = some (.string e.path) ∧ w.cell? ⟨b, o + k * 6 + 1, none⟩ = some (.int .i64 e.kind) ∧ w.cell? ⟨b, o + k * 6 + 2, none⟩ = some (.int .i64 e.mode) ∧ w.cell? ⟨b, o + k * 6 + 3, none⟩ = some (.int .i64 e.time) ∧ w.cell? ⟨b, o + k * 6 + 4, none⟩ = some v ∧ w.cell? ⟨b, o + k * 6 + 5, none⟩ = some (.string e.link) := by
  obtain ⟨a', cap', he, hn, hm, hat⟩ := SeqAt.shape hv EntR.len
  simp only [Value.slice.injEq] at he
  obtain ⟨rfl, rfl, rfl⟩ := he
  obtain ⟨b, o, c, ha, hb, ⟨v, hc, hd, hok⟩, hl, hj⟩ := hat k e hr
  subst hc
  have hc0 := hj 0 (by omega)
  exact ⟨b, o, v, ha, hb, block_lt (hc0.trans rfl), hd, hok, rfl, hc0, by have h := hj 1 (by omega); rwa [← Nat.add_assoc] at h, by have h := hj 2 (by omega); rwa [← Nat.add_assoc] at h, by have h := hj 3 (by omega); rwa [← Nat.add_assoc] at h, by have h := hj 4 (by omega); rwa [← Nat.add_assoc] at h, by have h := hj 5 (by omega); rwa [← Nat.add_assoc] at h⟩

end Go.Proofs.YtdieneaillkbgaaGreatDoor

/- Trees in memory: a map whose values are entries. -/
namespace Go.Proofs.YtdieneaillkbgaaGreatDoor
open Go Go.RowKit Go.Maps

abbrev VEnt := Value × Ent
def pairOf (x : VEnt) : Value × Value := (.string x.2.path, entV x.1 x.2)
theorem lawStr20 : Keyed Tryz.prog 9 := string_keyed Tryz.underlying9
theorem keyStr20 {n : ByteArray} (h : n.size ≤ maxLen) : ∃ l, keyOf Tryz.prog 9 (.string n) = some l := ⟨.string n.data.toList, by simp [keyOf, mapKey, Tryz.underlying9, h]⟩
/-- The map's block holds the entries xs in the order in which they came; their data lie in blocks of S. -/
structure MapE (S : Nat → Prop) (w : World) (mb : Nat) (xs : List VEnt) : Prop where
  map : MapS Tryz.prog 9 w mb (xs.map pairOf)
  dat : ∀ x ∈ xs, DataAt S w x.1 x.2.data ∧ EntOk x.2
  far : ¬ S mb
section
variable {S S' : Nat → Prop} {w w' : World} {mb : Nat} {xs : List VEnt}
theorem map_fst (xs : List VEnt) : (xs.map pairOf).map Prod.fst = (xs.map (fun x => x.2.path)).map Value.string := by
  rw [List.map_map, List.map_map]; rfl
theorem MapE.nodup (h : MapE S w mb xs) : (xs.map (fun x => x.2.path)).Nodup := by
  have := h.map.nodup
  rw [map_fst] at this
  unfold List.Nodup at this ⊢
  rw [List.pairwise_map] at this
  exact this.imp (fun h e => h (by rw [e]))
theorem MapE.nodupE (h : MapE S w mb xs) : ((xs.map Prod.snd).map Ent.path).Nodup := by
  rw [List.map_map]; exact h.nodup
theorem data_grown {v : Value} {bs : List UInt8} (h : DataAt S w v bs) (hf : ¬ S mb) (hg : w.grownBy w' (some mb)) : DataAt S w' v bs := by
  have h2 := RowAt.mono (T := fun k => S k ∧ k < w.heap.size) h (fun k hk hS => ⟨hS, hk⟩) (by omega)
  have h3 := h2.same (w' := w') (fun k hk => hg.block k hk.2 (fun e => hf (by cases e; exact hk.1)))
  obtain ⟨hl, a, cap, hv, hn, hm, h0⟩ := h3
  refine ⟨hl, a, cap, hv, hn, hm, ?_⟩
  rcases h0 with h0 | ⟨b, o, ha, hb, hc⟩
  · exact .inl h0
  · exact .inr ⟨b, o, ha, hb.1, hc⟩
theorem data_mono {v : Value} {bs : List UInt8} (h : DataAt S w v bs) (hs : ∀ k, S k → S' k) : DataAt S' w v bs := RowAt.mono h (fun k _ => hs k) (by omega)
theorem MapE.below (h : MapE S w mb xs) (hb : Below w.heap.size w w') : MapE S w' mb xs :=
  ⟨h.map.same (hb.block mb h.map.lt), fun x hx => ⟨(h.dat x hx).1.below hb, (h.dat x hx).2⟩, h.far⟩
theorem MapE.mono (h : MapE S w mb xs) (hs : ∀ k, S k → S' k) (hf : ¬ S' mb) : MapE S' w mb xs :=
  ⟨h.map, fun x hx => ⟨data_mono (h.dat x hx).1 hs, (h.dat x hx).2⟩, hf⟩
theorem MapE.mem (_ : MapE S w mb xs) {x : VEnt} (hx : x ∈ xs) : (Value.string x.2.path, entV x.1 x.2) ∈ xs.map pairOf := List.mem_map.2 ⟨x, hx, rfl⟩
theorem MapE.new (_ : MapE S w mb xs) {p : ByteArray} (hp : ∀ x ∈ xs, x.2.path ≠ p) : ∀ q ∈ xs.map pairOf, q.1 ≠ Value.string p := by
  intro q hq
  obtain ⟨x, hx, rfl⟩ := List.mem_map.1 hq
  intro e
  simp only [pairOf, Value.string.injEq] at e
  exact hp x hx e
/-- The map grows by an entry. -/
theorem MapE.put (h : MapE S w mb xs) {v : Value} {e : Ent} (hm : MapS Tryz.prog 9 w' mb (xs.map pairOf ++ [(.string e.path, entV v e)])) (hg : w.grownBy w' (some mb)) (hd : DataAt S w v e.data) (he : EntOk e) : MapE S w' mb (xs ++ [(v, e)]) := by
  refine ⟨by rw [List.map_append]; exact hm, fun x hx => ?_, h.far⟩
  rcases List.mem_append.1 hx with hx | hx
  · exact ⟨data_grown (h.dat x hx).1 h.far hg, (h.dat x hx).2⟩
  · rw [List.mem_singleton] at hx
    subst hx
    exact ⟨data_grown hd h.far hg, he⟩
theorem MapE.over {a b : List VEnt} {v0 : Value} {e0 : Ent} (h : MapE S w mb (a ++ (v0, e0) :: b)) {v : Value} {e : Ent} (hm : MapS Tryz.prog 9 w' mb (a.map pairOf ++ (.string e.path, entV v e) :: b.map pairOf)) (hg : w.grownBy w' (some mb)) (hd : DataAt S w v e.data) (he : EntOk e) : MapE S w' mb (a ++ (v, e) :: b) := by
  refine ⟨by rw [List.map_append, List.map_cons]; exact hm, fun x hx => ?_, h.far⟩
  rcases List.mem_append.1 hx with hx | hx
  · have := h.dat x (by simp [hx])
    exact ⟨data_grown this.1 h.far hg, this.2⟩
  · rcases List.mem_cons.1 hx with rfl | hx
    · exact ⟨data_grown hd h.far hg, he⟩
    · have := h.dat x (by simp [hx])
      exact ⟨data_grown this.1 h.far hg, this.2⟩
theorem MapE.del {a b : List VEnt} {x0 : VEnt} (h : MapE S w mb (a ++ x0 :: b)) (hm : MapS Tryz.prog 9 w' mb (a.map pairOf ++ b.map pairOf)) (hg : w.grownBy w' (some mb)) : MapE S w' mb (a ++ b) := by
  refine ⟨by rw [List.map_append]; exact hm, fun x hx => ?_, h.far⟩
  have := h.dat x (by rcases List.mem_append.1 hx with hx | hx <;> simp [hx])
  exact ⟨data_grown this.1 h.far hg, this.2⟩
theorem MapE.made (S : Nat → Prop) (w : World) (hf : ¬ S w.heap.size) : MapE S (w.alloc (.map #[] 0)) w.heap.size [] := ⟨MapS.made w, by simp, hf⟩
end
/-- The entry zero. -/
def zeroE : Value := .agg #[.string ByteArray.empty, .int .i64 0, .int .i64 0, .int .i64 0, .slice none 0 0, .string ByteArray.empty]
/-- A tree: its one cell holds the map; the entries are those of L. -/
structure TreeAt (S : Nat → Prop) (w : World) (tb mb : Nat) (L : List Ent) : Prop where
  cell : w.cell? ⟨tb, 0, none⟩ = some (.map (some mb))
  ne : tb ≠ mb
  far : ¬ S tb
  lt : ∀ k, S k → k < w.heap.size
  ok : TOk L
  ents : ∃ xs, MapE S w mb xs ∧ (xs.map Prod.snd).Perm L
section
variable {S S' : Nat → Prop} {w w' : World} {tb mb : Nat} {L : List Ent}
theorem TreeAt.below (h : TreeAt S w tb mb L) (hb : Below w.heap.size w w') : TreeAt S w' tb mb L := by
  obtain ⟨xs, h1, h2⟩ := h.ents
  exact ⟨(hb.cell (block_lt h.cell)).trans h.cell, h.ne, h.far, fun k hk => Nat.lt_of_lt_of_le (h.lt k hk) hb.size, h.ok, xs, h1.below hb, h2⟩
theorem find_vent {xs : List VEnt} {e : Ent} (h : e ∈ xs.map Prod.snd) : ∃ v, (v, e) ∈ xs := by
  obtain ⟨x, hx, rfl⟩ := List.mem_map.1 h
  exact ⟨x.1, hx⟩
theorem MapE.hit {xs : List VEnt} (h : MapE S w mb xs) {t : TypeId} (ht : Tryz.prog.underlying t = some (.map 9 48)) {v : Value} {e : Ent} (hm : (v, e) ∈ xs) (c : Bool) :
    (Instr.lookup t (.map (some mb)) (.string e.path) c).run Tryz.prog w = .ok (if c then .tuple #[entV v e, .bool true] else entV v e) w :=
  h.map.is.hit lawStr20 ht (keyStr20 (h.dat _ hm).2.pth) (h.mem hm) c
theorem MapE.miss {xs : List VEnt} (h : MapE S w mb xs) {t : TypeId} (ht : Tryz.prog.underlying t = some (.map 9 48)) (hz : (zeroValue 48).run Tryz.prog w = .ok zeroE w) {p : ByteArray} (hp : p.size ≤ maxLen) (hm : ∀ x ∈ xs, x.2.path ≠ p) (c : Bool) :
    (Instr.lookup t (.map (some mb)) (.string p) c).run Tryz.prog w = .ok (if c then .tuple #[zeroE, .bool false] else zeroE) w :=
  h.map.is.miss lawStr20 ht hz (keyStr20 hp) (h.new hm) c
theorem TreeAt.hit (h : TreeAt S w tb mb L) {t : TypeId} (ht : Tryz.prog.underlying t = some (.map 9 48)) {p : ByteArray} (hp : p.size ≤ maxLen) {e : Ent} (hf : findE L p = some e) (c : Bool) :
    ∃ v, (Instr.lookup t (.map (some mb)) (.string p) c).run Tryz.prog w = .ok (if c then .tuple #[entV v e, .bool true] else entV v e) w ∧ DataAt S w v e.data ∧ EntOk e := by
  obtain ⟨xs, hm, hperm⟩ := h.ents
  obtain ⟨h1, h2⟩ := findE_some hf
  obtain ⟨v, hv⟩ := find_vent (hperm.symm.subset h1)
  have := hm.mem hv
  rw [show (v, e).2.path = p from h2] at this
  exact ⟨v, hm.map.is.hit lawStr20 ht (keyStr20 hp) this c, hm.dat _ hv⟩
theorem TreeAt.miss (h : TreeAt S w tb mb L) {t : TypeId} (ht : Tryz.prog.underlying t = some (.map 9 48)) (hz : (zeroValue 48).run Tryz.prog w = .ok zeroE w) {p : ByteArray} (hp : p.size ≤ maxLen) (hf : findE L p = none) (c : Bool) :
    (Instr.lookup t (.map (some mb)) (.string p) c).run Tryz.prog w = .ok (if c then .tuple #[zeroE, .bool false] else zeroE) w := by
  obtain ⟨xs, hm, hperm⟩ := h.ents
  refine hm.map.is.miss lawStr20 ht hz (keyStr20 hp) (hm.new (fun x hx => ?_)) c
  exact findE_none hf x.2 (hperm.subset (List.mem_map.2 ⟨x, hx, rfl⟩))
theorem TreeAt.len (h : TreeAt S w tb mb L) {t : TypeId} (ht : Tryz.prog.underlying t = some (.map 9 48)) (ty : TypeId) : (Builtin.len_ #[t] ty #[.map (some mb)]).run Tryz.prog w = .ok (.int .i64 (L.length : Int)) w := by
  obtain ⟨xs, hm, hperm⟩ := h.ents
  have := hm.map.len ht ty
  rw [List.length_map] at this
  rw [← hperm.length_eq, List.length_map]
  exact this
end

end Go.Proofs.YtdieneaillkbgaaGreatDoor

/- Trees in memory: putting an entry, striking entries out, at the instruction. -/
namespace Go.Proofs.YtdieneaillkbgaaGreatDoor
open Go Go.RowKit Go.Maps

section
variable {S S' : Nat → Prop} {w w' : World} {tb mb : Nat} {L : List Ent} {xs : List VEnt} {t : TypeId}
theorem split_find {xs : List VEnt} {e : Ent} (h : e ∈ xs.map Prod.snd) : ∃ a v b, xs = a ++ (v, e) :: b := by
  obtain ⟨v, hv⟩ := find_vent h
  obtain ⟨a, b, rfl⟩ := List.append_of_mem hv
  exact ⟨a, v, b, rfl⟩
theorem MapE.putRun (h : MapE S w mb xs) (ht : Tryz.prog.underlying t = some (.map 9 48)) {v : Value} {e : Ent} (hn : ∀ x ∈ xs, x.2.path ≠ e.path) (hd : DataAt S w v e.data) (he : EntOk e) :
    ∃ w', (Instr.mapUpdate t (.map (some mb)) (.string e.path) (entV v e)).run Tryz.prog w = .ok () w' ∧ MapE S w' mb (xs ++ [(v, e)]) ∧ w.grownBy w' (some mb) := by
  obtain ⟨w', h1, h2, h3⟩ := h.map.put lawStr20 ht (keyStr20 he.pth) (h.new hn) (entV v e)
  exact ⟨w', h1, h.put h2 h3 hd he, h3⟩
theorem MapE.overRun {a b : List VEnt} {v0 : Value} {e0 : Ent} (h : MapE S w mb (a ++ (v0, e0) :: b)) (ht : Tryz.prog.underlying t = some (.map 9 48)) {v : Value} {e : Ent} (hp : e0.path = e.path) (hd : DataAt S w v e.data) (he : EntOk e) :
    ∃ w', (Instr.mapUpdate t (.map (some mb)) (.string e.path) (entV v e)).run Tryz.prog w = .ok () w' ∧ MapE S w' mb (a ++ (v, e) :: b) ∧ w.grownBy w' (some mb) := by
  have hm := h.map
  rw [List.map_append, List.map_cons, show pairOf (v0, e0) = (.string e.path, entV v0 e0) by unfold pairOf; rw [show (v0, e0).2.path = e.path from hp]] at hm
  obtain ⟨w', h1, h2, h3⟩ := hm.over lawStr20 ht (entV v e)
  exact ⟨w', h1, h.over h2 h3 hd he, h3⟩
theorem MapE.delRun {a b : List VEnt} {x0 : VEnt} (h : MapE S w mb (a ++ x0 :: b)) (ht : Tryz.prog.underlying t = some (.map 9 48)) (ty : TypeId) :
    ∃ w', (Builtin.delete_ #[t, 9] ty #[.map (some mb), .string x0.2.path]).run Tryz.prog w = .ok (.tuple #[]) w' ∧ MapE S w' mb (a ++ b) ∧ w.grownBy w' (some mb) := by
  have hm := h.map
  rw [List.map_append, List.map_cons] at hm
  obtain ⟨w', h1, h2, h3⟩ := MapS.del (key := .string x0.2.path) (old := entV x0.1 x0.2) hm lawStr20 ht ty
  exact ⟨w', h1, h.del h2 h3, h3⟩
theorem filter_split3 {a b : List Ent} {f : Ent} {p : ByteArray} (hn : ((a ++ f :: b).map Ent.path).Nodup) (hp : f.path = p) : (a ++ f :: b).filter (fun x => decide (x.path ≠ p)) = a ++ b := by
  rw [List.map_append, List.map_cons, List.nodup_append] at hn
  obtain ⟨_, h2, h3⟩ := hn
  rw [List.nodup_cons] at h2
  rw [List.filter_append, List.filter_cons]
  have ha : a.filter (fun x => decide (x.path ≠ p)) = a := by
    rw [List.filter_eq_self]
    intro x hx
    simp only [decide_eq_true_eq]
    intro e
    exact h3 x.path (List.mem_map.2 ⟨x, hx, rfl⟩) f.path (by simp) (e.trans hp.symm)
  have hb : b.filter (fun x => decide (x.path ≠ p)) = b := by
    rw [List.filter_eq_self]
    intro x hx
    simp only [decide_eq_true_eq]
    intro e
    exact h2.1 (List.mem_map.2 ⟨x, hx, e.trans hp.symm⟩)
  rw [ha, hb, hp]
  simp
/-- t.entries[e.Path] = e at a tree. -/
theorem TreeAt.put (h : TreeAt S w tb mb L) (ht : Tryz.prog.underlying t = some (.map 9 48)) {v : Value} {e : Ent} (hd : DataAt S w v e.data) (he : EntOk e) (h0 : (putP L e).2 = 0) :
    ∃ w', (Instr.mapUpdate t (.map (some mb)) (.string e.path) (entV v e)).run Tryz.prog w = .ok () w' ∧ TreeAt S w' tb mb (putP L e).1 ∧ w.grownBy w' (some mb) := by
  obtain ⟨xs, hm, hperm⟩ := h.ents
  obtain ⟨_, _, hput, hk⟩ := put_is h0
  have hrest : ∀ (ys : List VEnt) (w' : World), MapE S w' mb ys → (ys.map Prod.snd).Perm (L.filter (fun x => decide (x.path ≠ e.path)) ++ [e]) → w.grownBy w' (some mb) → TreeAt S w' tb mb (putP L e).1 := by
    intro ys w' h1 h2 h3
    refine ⟨h3.cell h.cell (fun e => h.ne (Option.some.inj e)), h.ne, h.far, fun k hk => Nat.lt_of_lt_of_le (h.lt k hk) h3.size, putP_ok h.ok e, ys, h1, ?_⟩
    rw [hput]
    exact h2.trans (sortP_perm _).symm
  rcases hk with ⟨hf, _⟩ | ⟨f, hf, _⟩
  · obtain ⟨w', h1, h2, h3⟩ := hm.putRun ht (v := v) (e := e) (fun x hx => findE_none hf x.2 (hperm.subset (List.mem_map.2 ⟨x, hx, rfl⟩))) hd he
    refine ⟨w', h1, hrest _ _ h2 ?_ h3, h3⟩
    have hfl : L.filter (fun x => decide (x.path ≠ e.path)) = L := by
      rw [List.filter_eq_self]
      intro x hx
      simpa using findE_none hf x hx
    rw [hfl, List.map_append]
    exact hperm.append_right _
  · obtain ⟨hf1, hf2⟩ := findE_some hf
    obtain ⟨a, v0, b, rfl⟩ := split_find (hperm.symm.subset hf1)
    obtain ⟨w', h1, h2, h3⟩ := hm.overRun ht (v := v) (e := e) hf2 hd he
    refine ⟨w', h1, hrest _ _ h2 ?_ h3, h3⟩
    have hn := hm.nodupE
    rw [List.map_append, List.map_cons] at hn hperm
    have h4 := hperm.filter (fun x => decide (x.path ≠ e.path))
    rw [filter_split3 hn hf2] at h4
    rw [List.map_append, List.map_cons]
    refine List.perm_middle.trans ?_
    refine (h4.cons e).trans ?_
    exact (List.perm_append_singleton e _).symm
end
section
variable {P : Program} {w : World} {ops : Array Oper} {rest : List Oper} {o : Oper} {a : Act} {Q : Exit → Act → World → Prop}
/-- m[k] = v by its run. -/
theorem wpList_updRun {Φ : World → Prop} (hg : o.guard = none) (mo x v : Operand) (t : TypeId) (hop : o.op = Op.mapUpdate t mo x v) (mv key val : Value) (hmo : a.eval mo = mv) (hx : a.eval x = key) (hv : a.eval v = val) (hrun : ∃ w', (Instr.mapUpdate t mv key val).run P w = .ok () w' ∧ Φ w')
    (hK : ∀ w', Φ w' → wpList P ops Q rest (a.put o.dst undef) w') : wpList P ops Q (o :: rest) a w := by
  refine wpList_plain hg fun K' hK' => ?_
  obtain ⟨w', hr, h2⟩ := hrun
  unfold Oper.wp
  simp [execOp, hop, hmo, hx, hv, hr, Result.andThen]
  exact hK' _ _ (hK w' h2)
theorem wpList_delRun {Φ : World → Prop} (hg : o.guard = none) (mo x : Operand) (t k : TypeId) (hop : o.op = Op.call { callee := Callee.builtin Builtin.delete, args := #[mo, x], argTypes := #[t, k] }) (mv key : Value) (hmo : a.eval mo = mv) (hx : a.eval x = key) (hrun : ∃ w', (Builtin.delete_ #[t, k] o.type #[mv, key]).run P w = .ok (.tuple #[]) w' ∧ Φ w')
    (hK : ∀ w', Φ w' → wpList P ops Q rest (a.put o.dst (.tuple #[])) w') : wpList P ops Q (o :: rest) a w := by
  refine wpList_plain hg fun K' hK' => ?_
  obtain ⟨w', hr, h2⟩ := hrun
  unfold Oper.wp
  simp [execOp, hop, resolve, invoke, builtin, hmo, hx, hr, Result.andThen]
  exact hK' _ _ (hK w' h2)
end

end Go.Proofs.YtdieneaillkbgaaGreatDoor

/- Differences of trees, in plain words: what Diff returns, what Apply returns; applying the difference in whatever order gives the other tree. -/
namespace Go.Proofs.YtdieneaillkbgaaGreatDoor
open Go

structure Chg where
  kind : Int
  path : ByteArray
  src : ByteArray
  en : Ent
deriving DecidableEq
def noPath : ByteArray := ⟨#[]⟩
def noEnt : Ent := ⟨⟨#[]⟩, 0, 0, 0, [], ⟨#[]⟩⟩
def movB (e : Ent) : Bool := (decide (e.kind = 1) && decide (0 < e.data.length)) || decide (e.kind = 3)
def alikeE (x y : Ent) : Bool := decide (x.kind = y.kind) && (decide (x.data = y.data) && decide (x.link = y.link))
/-- Whether there is an entry of the same kind at the same path. -/
def keptE (b : List Ent) (x : Ent) : Bool := match findE b x.path with
  | some f => decide (f.kind = x.kind)
  | none => false
def goneE (a b : List Ent) : List Ent := a.filter fun x => !keptE b x
structure DSt where
  rem : List Ent
  out : List Chg
def mateE (s : List Ent) (y : Ent) : Option Ent := if movB y = true then s.find? (fun g => alikeE g y) else none
def dropE (L : List Ent) (p : ByteArray) : List Ent := L.filter fun x => decide (x.path ≠ p)
def stepD (a : List Ent) (s : DSt) (y : Ent) : DSt :=
  if keptE a y = true then ⟨s.rem, if findE a y.path = some y then s.out else s.out ++ [⟨4, y.path, noPath, y⟩]⟩
  else match mateE s.rem y with
    | some g => ⟨dropE s.rem g.path, s.out ++ [⟨2, y.path, g.path, y⟩]⟩
    | none => ⟨s.rem, s.out ++ [⟨3, y.path, noPath, y⟩]⟩
def remC (g : Ent) : Chg := ⟨1, g.path, noPath, noEnt⟩
def ofK (k : Int) (cs : List Chg) : List Chg := cs.filter fun c => decide (c.kind = k)
def diffS (a b : List Ent) : DSt := b.foldl (stepD a) ⟨goneE a b, []⟩
def diffP (a b : List Ent) : List Chg := (diffS a b).rem.map remC ++ ofK 2 (diffS a b).out ++ ofK 3 (diffS a b).out ++ ofK 4 (diffS a b).out

def hasE (L : List Ent) (p : ByteArray) : Bool := (findE L p).isSome
def alikeAt (a : List Ent) (p : ByteArray) (e : Ent) : Bool := match findE a p with
  | some f => alikeE f e
  | none => false
def takeP (a : List Ent) : List Ent → List Chg → Option (List Ent)
  | left, [] => some left
  | left, c :: cs =>
    if c.kind = 1 then (if hasE left c.path = true then takeP a (dropE left c.path) cs else none)
    else if c.kind = 2 then (if (hasE left c.src && alikeAt a c.src c.en) = true then takeP a (dropE left c.src) cs else none)
    else takeP a left cs
structure PSt where
  added : List Ent
  mods : List Ent
def stepP (left : List Ent) (s : PSt) (c : Chg) : Option PSt :=
  if c.kind = 2 ∨ c.kind = 3 then (if (hasE left c.path || hasE s.added c.path) = true then none else some ⟨s.added ++ [c.en], s.mods⟩)
  else if c.kind = 4 then match findE left c.path with
    | some f => if f.kind ≠ c.en.kind ∨ hasE s.mods c.path = true then none else some ⟨s.added, s.mods ++ [c.en]⟩
    | none => none
  else some s
def putsP (left : List Ent) : PSt → List Chg → Option PSt
  | s, [] => some s
  | s, c :: cs => match stepP left s c with
    | some t => putsP left t cs
    | none => none
def overE (mods : List Ent) (x : Ent) : Ent := match findE mods x.path with
  | some y => y
  | none => x
def resE (left : List Ent) (s : PSt) : List Ent := left.map (overE s.mods) ++ s.added
def applyQ (a : List Ent) (cs : List Chg) : List Ent × Int := match takeP a a cs with
  | none => ([], 13)
  | some left => match putsP left ⟨[], []⟩ cs with
    | none => ([], 13)
    | some s => if checkP (sortP (resE left s)) = 0 then (sortP (resE left s), 0) else ([], 13)
def chgOk (c : Chg) : Bool :=
  if c.kind = 1 then validP (bl c.path) && (decide (c.src = noPath) && decide (c.en = noEnt))
  else if c.kind = 2 then decide (c.path = c.en.path) && (validP (bl c.src) && (vEnt c.en && decide (c.en.kind ≠ 2)))
  else if c.kind = 3 ∨ c.kind = 4 then decide (c.path = c.en.path) && (decide (c.src = noPath) && vEnt c.en)
  else false
/-- What check returns. -/
def chkC (a : List Ent) (cs : List Chg) : Int := if checkP a ≠ 0 then checkP a else if cs.all chgOk = false then 1 else 0
def applyP (a : List Ent) (cs : List Chg) : List Ent × Int := if chkC a cs ≠ 0 then ([], chkC a cs) else applyQ a cs

/- What is taken out, what is put in, what is changed. -/
def takesC (cs : List Chg) : List ByteArray := cs.filterMap fun c => if c.kind = 1 then some c.path else if c.kind = 2 then some c.src else none
def addsC (cs : List Chg) : List Ent := cs.filterMap fun c => if c.kind = 2 ∨ c.kind = 3 then some c.en else none
def modsC (cs : List Chg) : List Ent := cs.filterMap fun c => if c.kind = 4 then some c.en else none
def notIn (ps : List ByteArray) (p : ByteArray) : Bool := !hasP ps p
theorem notIn_iff {ps : List ByteArray} {p : ByteArray} : notIn ps p = true ↔ p ∉ ps := by
  unfold notIn
  rw [Bool.not_eq_true', ← Bool.not_eq_true, hasP_iff]
theorem findE_isSome {L : List Ent} {p : ByteArray} : hasE L p = true ↔ p ∈ L.map Ent.path := by
  unfold hasE
  rw [Option.isSome_iff_exists, List.mem_map]
  constructor
  · rintro ⟨e, he⟩; exact ⟨e, findE_some he⟩
  · rintro ⟨e, he, hp⟩
    cases hf : findE L p with
    | some f => exact ⟨f, rfl⟩
    | none => exact absurd hp (findE_none hf e he)
theorem take_ok {a : List Ent} : ∀ {cs : List Chg} {left : List Ent}, (takesC cs).Nodup → (∀ p ∈ takesC cs, p ∈ left.map Ent.path) → (∀ c ∈ cs, c.kind = 2 → alikeAt a c.src c.en = true) →
    takeP a left cs = some (left.filter fun x => notIn (takesC cs) x.path)
  | [], left, _, _, _ => by
    show some left = _
    rw [List.filter_eq_self.2 fun x _ => notIn_iff.2 (by simp [takesC])]
  | c :: cs, left, hn, hm, ha => by
    have ha' : ∀ c ∈ cs, c.kind = 2 → alikeAt a c.src c.en = true := fun x hx => ha x (List.mem_cons_of_mem _ hx)
    have key : ∀ p, takesC (c :: cs) = p :: takesC cs → p ∈ left.map Ent.path ∧ takeP a (dropE left p) cs = some (left.filter fun x => notIn (takesC (c :: cs)) x.path) := by
      intro p hp
      rw [hp] at hn hm ⊢
      have h1 := List.nodup_cons.1 hn
      refine ⟨hm p (List.mem_cons_self ..), ?_⟩
      rw [take_ok h1.2 (fun q hq => ?_) ha']
      · congr 1
        unfold dropE
        rw [List.filter_filter]
        congr 1
        funext x
        rw [Bool.eq_iff_iff]
        simp only [Bool.and_eq_true, decide_eq_true_eq, notIn_iff, List.mem_cons, not_or]
        exact And.comm
      · obtain ⟨e, he, hq2⟩ := List.mem_map.1 (hm q (List.mem_cons_of_mem _ hq))
        refine List.mem_map.2 ⟨e, List.mem_filter.2 ⟨he, ?_⟩, hq2⟩
        simp only [decide_eq_true_eq, hq2]
        exact fun h => h1.1 (h ▸ hq)
    unfold takeP
    by_cases h1 : c.kind = 1
    · obtain ⟨k1, k2⟩ := key c.path (by simp [takesC, h1])
      rw [if_pos h1, if_pos (findE_isSome.2 k1), k2]
    · rw [if_neg h1]
      by_cases h2 : c.kind = 2
      · obtain ⟨k1, k2⟩ := key c.src (by simp [takesC, h2])
        rw [if_pos h2, if_pos (by rw [findE_isSome.2 k1, ha c (List.mem_cons_self ..) h2]; rfl), k2]
      · rw [if_neg h2]
        have hk : takesC (c :: cs) = takesC cs := by simp [takesC, h1, h2]
        rw [hk] at hn hm ⊢
        exact take_ok hn hm ha'
theorem hasE_false {L : List Ent} {p : ByteArray} (h : p ∉ L.map Ent.path) : hasE L p = false := by
  rw [Bool.eq_false_iff]; exact fun hc => h (findE_isSome.1 hc)
theorem puts_ok {left : List Ent} : ∀ {cs : List Chg} {s : PSt}, ((s.added ++ addsC cs).map Ent.path).Nodup → (∀ e ∈ addsC cs, e.path ∉ left.map Ent.path) → ((s.mods ++ modsC cs).map Ent.path).Nodup →
    (∀ e ∈ modsC cs, ∃ f, findE left e.path = some f ∧ f.kind = e.kind) → (∀ c ∈ cs, c.kind ≠ 1 → c.path = c.en.path) → putsP left s cs = some ⟨s.added ++ addsC cs, s.mods ++ modsC cs⟩
  | [], s, _, _, _, _, _ => by simp [putsP, addsC, modsC]
  | c :: cs, s, ha, hl, hm, hk, hp => by
    have hp' : ∀ c ∈ cs, c.kind ≠ 1 → c.path = c.en.path := fun x hx => hp x (List.mem_cons_of_mem _ hx)
    unfold putsP stepP
    by_cases h1 : c.kind = 2 ∨ c.kind = 3
    · have e1 : addsC (c :: cs) = c.en :: addsC cs := by simp [addsC, h1]
      have e2 : modsC (c :: cs) = modsC cs := by
        have : c.kind ≠ 4 := by omega
        simp [modsC, this]
      rw [e1] at ha hl
      rw [e2] at hm hk
      have hcp := hp c (List.mem_cons_self ..) (by omega)
      have n1 : c.path ∉ left.map Ent.path := by rw [hcp]; exact hl _ (List.mem_cons_self ..)
      have n2 : c.path ∉ s.added.map Ent.path := by
        intro h
        rw [List.map_append, List.map_cons] at ha
        exact (List.nodup_append.1 ha).2.2 _ h _ (List.mem_cons_self ..) hcp
      rw [if_pos h1, hasE_false n1, hasE_false n2, if_neg (by simp)]
      have := puts_ok (left := left) (cs := cs) (s := ⟨s.added ++ [c.en], s.mods⟩) (by simpa using ha) (fun e he => hl e (List.mem_cons_of_mem _ he)) hm hk hp'
      simp only at this ⊢
      rw [this, e1, e2]
      simp
    · rw [if_neg h1]
      have e1 : addsC (c :: cs) = addsC cs := by simp [addsC, h1]
      rw [e1] at ha hl
      by_cases h4 : c.kind = 4
      · have e2 : modsC (c :: cs) = c.en :: modsC cs := by simp [modsC, h4]
        rw [e2] at hm hk
        have hcp := hp c (List.mem_cons_self ..) (by omega)
        obtain ⟨f, hf, hfk⟩ := hk c.en (List.mem_cons_self ..)
        have n2 : c.path ∉ s.mods.map Ent.path := by
          intro h
          rw [List.map_append, List.map_cons] at hm
          exact (List.nodup_append.1 hm).2.2 _ h _ (List.mem_cons_self ..) hcp
        rw [if_pos h4, hcp, hf]
        simp only
        rw [if_neg (by rw [← hcp, hasE_false n2]; simp [hfk])]
        have := puts_ok (left := left) (cs := cs) (s := ⟨s.added, s.mods ++ [c.en]⟩) ha hl (by simpa using hm) (fun e he => hk e (List.mem_cons_of_mem _ he)) hp'
        simp only at this ⊢
        rw [this, e1, e2]
        simp
      · rw [if_neg h4]
        have e2 : modsC (c :: cs) = modsC cs := by simp [modsC, h4]
        rw [e2] at hm hk
        simp only
        rw [puts_ok ha hl hm hk hp', e1, e2]

end Go.Proofs.YtdieneaillkbgaaGreatDoor

/- Differences of trees, in plain words: applying the difference, in whatever order, gives the other tree. -/
namespace Go.Proofs.YtdieneaillkbgaaGreatDoor
open Go

/-- What holds of a change that was found. -/
structure ChgIn (a b : List Ent) (c : Chg) : Prop where
  kind : c.kind = 2 ∨ c.kind = 3 ∨ c.kind = 4
  path : c.path = c.en.path
  mem : c.en ∈ b
  four : c.kind = 4 ↔ keptE a c.en = true
  two : c.kind = 2 → movB c.en = true ∧ ∃ g ∈ goneE a b, c.src = g.path ∧ alikeE g c.en = true
  src : c.kind ≠ 2 → c.src = noPath
structure DInv (a b pre : List Ent) (s : DSt) : Prop where
  sub : s.rem.Sublist (goneE a b)
  ens : s.out.map Chg.en = pre.filter fun y => decide (findE a y.path ≠ some y)
  all : ∀ c ∈ s.out, ChgIn a b c
  perm : (s.rem.map Ent.path ++ (ofK 2 s.out).map Chg.src).Perm ((goneE a b).map Ent.path)
theorem kept_find {a : List Ent} {y : Ent} (h : findE a y.path = some y) : keptE a y = true := by unfold keptE; rw [h]; simp
theorem kept_iff {a : List Ent} {y : Ent} : keptE a y = true ↔ ∃ f, findE a y.path = some f ∧ f.kind = y.kind := by
  unfold keptE
  cases h : findE a y.path with
  | none => simp
  | some f => simp
theorem gone_mem {a b : List Ent} {x : Ent} : x ∈ goneE a b ↔ x ∈ a ∧ keptE b x = false := by simp [goneE]
theorem drop_perm {L : List Ent} (hn : (L.map Ent.path).Nodup) {g : Ent} (hg : g ∈ L) : (g :: dropE L g.path).Perm L := by
  induction L with
  | nil => cases hg
  | cons x L ih =>
    have h1 := List.nodup_cons.1 hn
    unfold dropE
    rcases List.mem_cons.1 hg with rfl | hg'
    · rw [List.filter_cons_of_neg (by simp), List.filter_eq_self.2 (fun y hy => ?_)]
      simp only [decide_eq_true_eq]
      exact fun he => h1.1 (he ▸ List.mem_map_of_mem hy)
    · have hne : x.path ≠ g.path := fun he => h1.1 (he ▸ List.mem_map_of_mem hg')
      rw [List.filter_cons_of_pos (by simpa using hne)]
      exact (List.Perm.swap x g _).trans ((ih h1.2 hg').cons x)
theorem mate_some {s : List Ent} {y g : Ent} (h : mateE s y = some g) : g ∈ s ∧ movB y = true ∧ alikeE g y = true := by
  unfold mateE at h
  split at h
  · exact ⟨List.mem_of_find?_eq_some h, ‹_›, by simpa using List.find?_some h⟩
  · cases h
theorem ofK_app (k : Int) (l : List Chg) (c : Chg) : ofK k (l ++ [c]) = ofK k l ++ (if c.kind = k then [c] else []) := by
  unfold ofK
  rw [List.filter_append]
  congr 1
  by_cases h : c.kind = k <;> simp [h]
theorem DInv.nil (a b : List Ent) : DInv a b [] ⟨goneE a b, []⟩ := ⟨List.Sublist.refl _, by simp, by simp, by simp [ofK]⟩
theorem DInv.rem_nodup {a b pre : List Ent} {s : DSt} (h : DInv a b pre s) (ha : TOk a) : (s.rem.map Ent.path).Nodup :=
  ha.nodup.sublist ((h.sub.trans List.filter_sublist).map _)
theorem DInv.step {a b pre : List Ent} {s : DSt} (h : DInv a b pre s) (ha : TOk a) {y : Ent} (hy : y ∈ b) : DInv a b (pre ++ [y]) (stepD a s y) := by
  have hens : ∀ c : Chg, c.en = y → findE a y.path ≠ some y → (s.out ++ [c]).map Chg.en = (pre ++ [y]).filter fun y => decide (findE a y.path ≠ some y) := by
    intro c hc hne
    rw [List.filter_append, List.map_append, h.ens]
    simp [hc, hne]
  have hall : ∀ c : Chg, ChgIn a b c → ∀ x ∈ s.out ++ [c], ChgIn a b x := by
    intro c hc x hx
    rcases List.mem_append.1 hx with hx | hx
    · exact h.all x hx
    · rw [List.mem_singleton.1 hx]; exact hc
  unfold stepD
  by_cases hk : keptE a y = true
  · rw [if_pos hk]
    by_cases hf : findE a y.path = some y
    · rw [if_pos hf]
      refine ⟨h.sub, ?_, h.all, h.perm⟩
      rw [List.filter_append, h.ens]
      simp [hf]
    · rw [if_neg hf]
      refine ⟨h.sub, hens _ rfl hf, hall _ ⟨by simp, rfl, hy, by simpa using hk, fun he => by simp at he, fun _ => rfl⟩, ?_⟩
      rw [ofK_app]
      simpa using h.perm
  · rw [if_neg hk]
    have hf : findE a y.path ≠ some y := fun he => hk (kept_find he)
    cases hm : mateE s.rem y with
    | none =>
      refine ⟨h.sub, hens _ rfl hf, hall _ ⟨by simp, rfl, hy, by simpa using hk, fun he => by simp at he, fun _ => rfl⟩, ?_⟩
      rw [ofK_app]
      simpa using h.perm
    | some g =>
      obtain ⟨hg, hmv, hal⟩ := mate_some hm
      refine ⟨List.filter_sublist.trans h.sub, hens _ rfl hf, hall _ ⟨by simp, rfl, hy, by simpa using hk, fun _ => ⟨hmv, g, h.sub.subset hg, rfl, hal⟩, fun he => absurd rfl he⟩, ?_⟩
      rw [ofK_app]
      have hp := (drop_perm (h.rem_nodup ha) hg).map Ent.path
      refine List.Perm.trans ?_ h.perm
      simp only [if_true, List.map_append, List.map_cons, List.map_nil]
      rw [← List.append_assoc]
      refine (List.perm_append_singleton _ _).trans ?_
      exact (hp.append_right ((ofK 2 s.out).map Chg.src))
theorem dinv_fold {a b : List Ent} (ha : TOk a) : ∀ {r pre : List Ent} {s : DSt}, DInv a b pre s → (∀ y ∈ r, y ∈ b) → DInv a b (pre ++ r) (r.foldl (stepD a) s)
  | [], pre, s, h, _ => by simpa using h
  | y :: r, pre, s, h, hr => by
    rw [List.foldl_cons]
    have := dinv_fold ha (r := r) (h.step ha (hr y (List.mem_cons_self ..))) (fun z hz => hr z (List.mem_cons_of_mem _ hz))
    simpa using this
theorem dinv {a : List Ent} (ha : TOk a) (b : List Ent) : DInv a b b (diffS a b) := by
  have := dinv_fold ha (r := b) (DInv.nil a b) (fun _ h => h)
  simpa [diffS] using this

theorem takes_app (x y : List Chg) : takesC (x ++ y) = takesC x ++ takesC y := by simp [takesC]
theorem adds_app (x y : List Chg) : addsC (x ++ y) = addsC x ++ addsC y := by simp [addsC]
theorem mods_app (x y : List Chg) : modsC (x ++ y) = modsC x ++ modsC y := by simp [modsC]
theorem takes_rem : ∀ l : List Ent, takesC (l.map remC) = l.map Ent.path
  | [] => rfl
  | g :: l => by have := takes_rem l; simp only [takesC, List.map_cons, List.filterMap_cons, remC, if_true] at *; rw [this]
theorem adds_rem : ∀ l : List Ent, addsC (l.map remC) = []
  | [] => rfl
  | g :: l => by have := adds_rem l; simp only [addsC, List.map_cons, List.filterMap_cons, remC] at *; simpa using this
theorem mods_rem : ∀ l : List Ent, modsC (l.map remC) = []
  | [] => rfl
  | g :: l => by have := mods_rem l; simp only [modsC, List.map_cons, List.filterMap_cons, remC] at *; simpa using this
theorem ofK_cons (k : Int) (c : Chg) (l : List Chg) : ofK k (c :: l) = if c.kind = k then c :: ofK k l else ofK k l := by
  unfold ofK
  by_cases h : c.kind = k <;> simp [h]
theorem takes_ofK : ∀ l : List Chg, takesC (ofK 2 l) = (ofK 2 l).map Chg.src ∧ takesC (ofK 3 l) = [] ∧ takesC (ofK 4 l) = []
  | [] => ⟨rfl, rfl, rfl⟩
  | c :: l => by
    obtain ⟨h1, h2, h3⟩ := takes_ofK l
    refine ⟨?_, ?_, ?_⟩
    · rw [ofK_cons]; split
      · rename_i h; simp only [takesC, List.filterMap_cons, List.map_cons, h] at *; simpa using h1
      · exact h1
    · rw [ofK_cons]; split
      · rename_i h; simp only [takesC, List.filterMap_cons, h] at *; simpa using h2
      · exact h2
    · rw [ofK_cons]; split
      · rename_i h; simp only [takesC, List.filterMap_cons, h] at *; simpa using h3
      · exact h3
theorem adds_ofK : ∀ l : List Chg, addsC (ofK 2 l) = (ofK 2 l).map Chg.en ∧ addsC (ofK 3 l) = (ofK 3 l).map Chg.en ∧ addsC (ofK 4 l) = []
  | [] => ⟨rfl, rfl, rfl⟩
  | c :: l => by
    obtain ⟨h1, h2, h3⟩ := adds_ofK l
    refine ⟨?_, ?_, ?_⟩
    · rw [ofK_cons]; split
      · rename_i h; simp only [addsC, List.filterMap_cons, List.map_cons, h] at *; simpa using h1
      · exact h1
    · rw [ofK_cons]; split
      · rename_i h; simp only [addsC, List.filterMap_cons, List.map_cons, h] at *; simpa using h2
      · exact h2
    · rw [ofK_cons]; split
      · rename_i h; simp only [addsC, List.filterMap_cons, h] at *; simpa using h3
      · exact h3
theorem mods_ofK : ∀ l : List Chg, modsC (ofK 2 l) = [] ∧ modsC (ofK 3 l) = [] ∧ modsC (ofK 4 l) = (ofK 4 l).map Chg.en
  | [] => ⟨rfl, rfl, rfl⟩
  | c :: l => by
    obtain ⟨h1, h2, h3⟩ := mods_ofK l
    refine ⟨?_, ?_, ?_⟩
    · rw [ofK_cons]; split
      · rename_i h; simp only [modsC, List.filterMap_cons, h] at *; simpa using h1
      · exact h1
    · rw [ofK_cons]; split
      · rename_i h; simp only [modsC, List.filterMap_cons, h] at *; simpa using h2
      · exact h2
    · rw [ofK_cons]; split
      · rename_i h; simp only [modsC, List.filterMap_cons, List.map_cons, h] at *; simpa using h3
      · exact h3
theorem mem_ofK {k : Int} {l : List Chg} {c : Chg} : c ∈ ofK k l ↔ c ∈ l ∧ c.kind = k := by simp [ofK]
theorem takes_diff (a b : List Ent) : takesC (diffP a b) = (diffS a b).rem.map Ent.path ++ (ofK 2 (diffS a b).out).map Chg.src := by
  obtain ⟨h1, h2, h3⟩ := takes_ofK (diffS a b).out
  unfold diffP
  rw [takes_app, takes_app, takes_app, takes_rem, h1, h2, h3]; simp
theorem adds_diff (a b : List Ent) : addsC (diffP a b) = (ofK 2 (diffS a b).out).map Chg.en ++ (ofK 3 (diffS a b).out).map Chg.en := by
  obtain ⟨h1, h2, h3⟩ := adds_ofK (diffS a b).out
  unfold diffP
  rw [adds_app, adds_app, adds_app, adds_rem, h1, h2, h3]; simp
theorem mods_diff (a b : List Ent) : modsC (diffP a b) = (ofK 4 (diffS a b).out).map Chg.en := by
  obtain ⟨h1, h2, h3⟩ := mods_ofK (diffS a b).out
  unfold diffP
  rw [mods_app, mods_app, mods_app, mods_rem, h1, h2, h3]; simp
theorem out_mem {a : List Ent} (ha : TOk a) {b : List Ent} {e : Ent} : (∃ c ∈ (diffS a b).out, c.en = e) ↔ e ∈ b ∧ findE a e.path ≠ some e := by
  have h := (dinv ha b).ens
  have : e ∈ (diffS a b).out.map Chg.en ↔ e ∈ b.filter fun y => decide (findE a y.path ≠ some y) := by rw [h]
  simpa [List.mem_map] using this
theorem mem_adds {a : List Ent} (ha : TOk a) {b : List Ent} {e : Ent} : e ∈ addsC (diffP a b) ↔ e ∈ b ∧ keptE a e = false := by
  have hd := dinv ha b
  rw [adds_diff, List.mem_append, List.mem_map, List.mem_map]
  constructor
  · rintro (⟨c, hc, rfl⟩ | ⟨c, hc, rfl⟩) <;> obtain ⟨hc, hk⟩ := mem_ofK.1 hc <;> have hi := hd.all c hc <;> refine ⟨hi.mem, ?_⟩ <;> rw [Bool.eq_false_iff] <;> intro hx <;> have := hi.four.2 hx <;> omega
  · rintro ⟨hb, hk⟩
    obtain ⟨c, hc, rfl⟩ := (out_mem ha).2 ⟨hb, fun h => by rw [kept_find h] at hk; cases hk⟩
    have hi := hd.all c hc
    rcases hi.kind with h | h | h
    · exact Or.inl ⟨c, mem_ofK.2 ⟨hc, h⟩, rfl⟩
    · exact Or.inr ⟨c, mem_ofK.2 ⟨hc, h⟩, rfl⟩
    · rw [hi.four.1 h] at hk; cases hk
theorem mem_mods {a : List Ent} (ha : TOk a) {b : List Ent} {e : Ent} : e ∈ modsC (diffP a b) ↔ e ∈ b ∧ keptE a e = true ∧ findE a e.path ≠ some e := by
  have hd := dinv ha b
  rw [mods_diff, List.mem_map]
  constructor
  · rintro ⟨c, hc, rfl⟩
    obtain ⟨hc, hk⟩ := mem_ofK.1 hc
    have hi := hd.all c hc
    exact ⟨hi.mem, hi.four.1 hk, ((out_mem ha).1 ⟨c, hc, rfl⟩).2⟩
  · rintro ⟨hb, hk, hf⟩
    obtain ⟨c, hc, rfl⟩ := (out_mem ha).2 ⟨hb, hf⟩
    exact ⟨c, mem_ofK.2 ⟨hc, (hd.all c hc).four.2 hk⟩, rfl⟩
theorem out_nodup {a b : List Ent} (ha : TOk a) (hb : TOk b) : ((diffS a b).out.map Chg.path).Nodup := by
  have hd := dinv ha b
  have : (diffS a b).out.map Chg.path = ((diffS a b).out.map Chg.en).map Ent.path := by
    rw [List.map_map]; exact List.map_congr_left fun c hc => (hd.all c hc).path
  rw [this, hd.ens]
  exact hb.nodup.sublist (List.filter_sublist.map _)
theorem ofK_sub (k : Int) (l : List Chg) : (ofK k l).Sublist l := List.filter_sublist
/-- The paths at which something is put, each once. -/
theorem put_nodup3 {a b : List Ent} (ha : TOk a) (hb : TOk b) : ((ofK 2 (diffS a b).out ++ ofK 3 (diffS a b).out ++ ofK 4 (diffS a b).out).map Chg.path).Nodup := by
  have h := out_nodup ha hb
  have hp : (ofK 2 (diffS a b).out ++ ofK 3 (diffS a b).out ++ ofK 4 (diffS a b).out).Perm (diffS a b).out := by
    have hk : ∀ c ∈ (diffS a b).out, c.kind = 2 ∨ c.kind = 3 ∨ c.kind = 4 := fun c hc => ((dinv ha b).all c hc).kind
    generalize (diffS a b).out = l at hk
    clear h
    induction l with
    | nil => exact List.Perm.refl _
    | cons c l ih =>
      have ih := ih fun x hx => hk x (List.mem_cons_of_mem _ hx)
      rw [ofK_cons, ofK_cons, ofK_cons]
      rcases hk c (List.mem_cons_self ..) with h | h | h
      · rw [if_pos h, if_neg (by omega), if_neg (by omega)]
        exact ih.cons c
      · rw [if_neg (by omega), if_pos h, if_neg (by omega)]
        rw [List.append_assoc, List.cons_append]
        refine List.perm_middle.trans ?_
        rw [← List.append_assoc]
        exact ih.cons c
      · rw [if_neg (by omega), if_neg (by omega), if_pos h]
        exact List.perm_middle.trans (ih.cons c)
  exact (hp.map Chg.path).nodup_iff.2 h
theorem path_en {a b : List Ent} (ha : TOk a) {k : Int} {c : Chg} (hc : c ∈ ofK k (diffS a b).out) : c.path = c.en.path := ((dinv ha b).all c (mem_ofK.1 hc).1).path
theorem en_paths {a b : List Ent} (ha : TOk a) (k : Int) : ((ofK k (diffS a b).out).map Chg.en).map Ent.path = (ofK k (diffS a b).out).map Chg.path := by
  rw [List.map_map]; exact List.map_congr_left fun c hc => (path_en ha hc).symm
theorem adds_nodup {a b : List Ent} (ha : TOk a) (hb : TOk b) : ((addsC (diffP a b)).map Ent.path).Nodup := by
  have h := put_nodup3 ha hb
  rw [adds_diff, List.map_append, en_paths ha, en_paths ha, ← List.map_append]
  rw [List.map_append] at h
  exact (List.nodup_append.1 h).1
theorem mods_nodup {a b : List Ent} (ha : TOk a) (hb : TOk b) : ((modsC (diffP a b)).map Ent.path).Nodup := by
  have h := put_nodup3 ha hb
  rw [mods_diff, en_paths ha]
  rw [List.map_append] at h
  exact (List.nodup_append.1 h).2.1
theorem takes_perm {a : List Ent} (ha : TOk a) (b : List Ent) : (takesC (diffP a b)).Perm ((goneE a b).map Ent.path) := by
  rw [takes_diff]; exact (dinv ha b).perm

end Go.Proofs.YtdieneaillkbgaaGreatDoor

/- Differences of trees, in plain words: the difference applied in whatever order; the empty difference. -/
namespace Go.Proofs.YtdieneaillkbgaaGreatDoor
open Go

theorem sorted_mem_eq {L M : List Ent} (hL : SortedE L) (hM : SortedE M) (h : ∀ x, x ∈ L ↔ x ∈ M) : L = M := by
  induction L generalizing M with
  | nil =>
    cases M with
    | nil => rfl
    | cons y M => exact absurd ((h y).2 (List.mem_cons_self ..)) (by simp)
  | cons x L ih =>
    cases M with
    | nil => exact absurd ((h x).1 (List.mem_cons_self ..)) (by simp)
    | cons y M =>
      have hL' := List.pairwise_cons.1 hL
      have hM' := List.pairwise_cons.1 hM
      have hxy : x = y := by
        rcases List.mem_cons.1 ((h x).1 (List.mem_cons_self ..)) with he | hx
        · exact he
        · rcases List.mem_cons.1 ((h y).2 (List.mem_cons_self ..)) with he | hy
          · exact he.symm
          · have h1 := hM'.1 x hx
            have h2 := hL'.1 y hy
            have h3 := cmpE_lt_trans h1 h2
            rw [cmpE_zero.2 rfl] at h3
            omega
      subst hxy
      rw [ih hL'.2 hM'.2 fun z => ?_]
      constructor
      · intro hz
        rcases List.mem_cons.1 ((h z).1 (List.mem_cons_of_mem _ hz)) with he | hz'
        · have := hL'.1 z hz; rw [he, cmpE_zero.2 rfl] at this; omega
        · exact hz'
      · intro hz
        rcases List.mem_cons.1 ((h z).2 (List.mem_cons_of_mem _ hz)) with he | hz'
        · have := hM'.1 z hz; rw [he, cmpE_zero.2 rfl] at this; omega
        · exact hz'
theorem checkP_zero {L : List Ent} (h : TOk L) : checkP L = 0 := checkP_iff.2 h
theorem perm_fm {α β : Type} (f : α → Option β) {l m : List α} (h : l.Perm m) : (l.filterMap f).Perm (m.filterMap f) := h.filterMap f
theorem alike_at {a : List Ent} (ha : TOk a) {g e : Ent} (hg : g ∈ a) (h : alikeE g e = true) : alikeAt a g.path e = true := by
  unfold alikeAt; rw [findE_mem ha.nodup hg]; exact h
theorem valid_rem {a : List Ent} (ha : TOk a) {g : Ent} (hg : g ∈ a) : chgOk (remC g) = true := by
  unfold chgOk remC
  simp [vEnt_path (ha.val g hg)]
theorem mov_kind {e : Ent} (h : movB e = true) : e.kind ≠ 2 := by
  unfold movB at h
  simp only [Bool.or_eq_true, Bool.and_eq_true, decide_eq_true_eq] at h
  omega
theorem valid_in {a b : List Ent} (ha : TOk a) (hb : TOk b) {c : Chg} (h : ChgIn a b c) : chgOk c = true := by
  have hv := hb.val _ h.mem
  unfold chgOk
  rcases h.kind with hk | hk | hk
  · obtain ⟨hm, g, hg, hs, _⟩ := h.two hk
    have hvg := vEnt_path (ha.val g (gone_mem.1 hg).1)
    rw [if_neg (by omega), if_pos hk, hs]
    simp [hvg, hv, mov_kind hm, ← h.path]
  · rw [if_neg (by omega), if_neg (by omega), if_pos (Or.inl hk)]
    simp [hv, h.src (by omega), ← h.path]
  · rw [if_neg (by omega), if_neg (by omega), if_pos (Or.inr hk)]
    simp [hv, h.src (by omega), ← h.path]
theorem mem_diff {a b : List Ent} {c : Chg} (h : c ∈ diffP a b) : (∃ g ∈ (diffS a b).rem, c = remC g) ∨ c ∈ (diffS a b).out := by
  unfold diffP at h
  simp only [List.mem_append, List.mem_map] at h
  rcases h with ((⟨g, hg, rfl⟩ | h) | h) | h
  · exact Or.inl ⟨g, hg, rfl⟩
  · exact Or.inr (mem_ofK.1 h).1
  · exact Or.inr (mem_ofK.1 h).1
  · exact Or.inr (mem_ofK.1 h).1
theorem diff_valid {a b : List Ent} (ha : TOk a) (hb : TOk b) : ∀ c ∈ diffP a b, chgOk c = true := by
  intro c hc
  have hd := dinv ha b
  rcases mem_diff hc with ⟨g, hg, rfl⟩ | hc
  · exact valid_rem ha (gone_mem.1 (hd.sub.subset hg)).1
  · exact valid_in ha hb (hd.all c hc)
theorem find_filter {a : List Ent} {p : Ent → Bool} {q : ByteArray} {f : Ent} (hn : (a.map Ent.path).Nodup) (h : findE a q = some f) (hp : p f = true) : findE (a.filter p) q = some f := by
  obtain ⟨hm, hq⟩ := findE_some h
  have : (((a.filter p)).map Ent.path).Nodup := hn.sublist (List.filter_sublist.map _)
  rw [← hq]
  exact findE_mem this (List.mem_filter.2 ⟨hm, hp⟩)
theorem over_path (M : List Ent) (x : Ent) : (overE M x).path = x.path := by
  unfold overE
  split
  · exact (findE_some ‹_›).2
  · rfl
theorem kind_eq {a : List Ent} {y f : Ent} (h : keptE a y = true) (hf : findE a y.path = some f) : f.kind = y.kind := by
  unfold keptE at h; rw [hf] at h; simpa using h
/-- THE DIFFERENCE, APPLIED IN WHATEVER ORDER, GIVES THE OTHER TREE. -/
theorem apply_diff {a b : List Ent} (ha : TOk a) (hb : TOk b) {cs : List Chg} (hp : cs.Perm (diffP a b)) : applyP a cs = (b, 0) := by
  have hd := dinv ha b
  have hc0 : chkC a cs = 0 := by
    unfold chkC
    rw [checkP_zero ha, if_neg (by simp), if_neg]
    rw [Bool.not_eq_false, List.all_eq_true]
    exact fun c hc => diff_valid ha hb c (hp.mem_iff.1 hc)
  unfold applyP
  rw [hc0, if_neg (by simp)]
  have hT : (takesC cs).Perm ((goneE a b).map Ent.path) := (perm_fm _ hp).trans (takes_perm ha b)
  have hA : (addsC cs).Perm (addsC (diffP a b)) := perm_fm _ hp
  have hM : (modsC cs).Perm (modsC (diffP a b)) := perm_fm _ hp
  have hgn : ((goneE a b).map Ent.path).Nodup := ha.nodup.sublist (List.filter_sublist.map _)
  have hal : ∀ c ∈ cs, c.kind = 2 → alikeAt a c.src c.en = true := by
    intro c hc hk
    rcases mem_diff (hp.mem_iff.1 hc) with ⟨g, hg, rfl⟩ | hc
    · cases hk
    · obtain ⟨hm, g, hg, hs, hal⟩ := (hd.all c hc).two hk
      rw [hs]
      exact alike_at ha (gone_mem.1 hg).1 hal
  have htk := take_ok (a := a) (cs := cs) (left := a) (hT.nodup_iff.2 hgn) (fun p hq => by
    obtain ⟨g, hg, rfl⟩ := List.mem_map.1 (hT.mem_iff.1 hq)
    exact List.mem_map_of_mem (gone_mem.1 hg).1) hal
  have hleft : (a.filter fun x => notIn (takesC cs) x.path) = a.filter (keptE b) := by
    apply List.filter_congr
    intro x hx
    rw [Bool.eq_iff_iff, notIn_iff, hT.mem_iff, List.mem_map]
    constructor
    · intro h
      cases hkx : keptE b x with
      | true => rfl
      | false => exact absurd ⟨x, gone_mem.2 ⟨hx, hkx⟩, rfl⟩ h
    · rintro h ⟨g, hg, he⟩
      obtain ⟨hga, hgk⟩ := gone_mem.1 hg
      have h1 := findE_mem ha.nodup hga
      have h2 := findE_mem ha.nodup hx
      rw [he, h2] at h1
      cases h1
      rw [h] at hgk; cases hgk
  rw [hleft] at htk
  unfold applyQ
  rw [htk]
  simp only
  have hln : ((a.filter (keptE b)).map Ent.path).Nodup := ha.nodup.sublist (List.filter_sublist.map _)
  have hpath : ∀ c ∈ cs, c.kind ≠ 1 → c.path = c.en.path := by
    intro c hc hk
    rcases mem_diff (hp.mem_iff.1 hc) with ⟨g, hg, rfl⟩ | hc
    · exact absurd rfl hk
    · exact (hd.all c hc).path
  have hadd : ∀ e ∈ addsC cs, e.path ∉ (a.filter (keptE b)).map Ent.path := by
    intro e he hm
    obtain ⟨heb, hek⟩ := (mem_adds ha).1 (hA.mem_iff.1 he)
    obtain ⟨x, hx, hxp⟩ := List.mem_map.1 hm
    obtain ⟨hxa, hxk⟩ := List.mem_filter.1 hx
    have h1 : findE b x.path = some e := by rw [hxp]; exact findE_mem hb.nodup heb
    have h2 := kind_eq hxk h1
    have h3 : keptE a e = true := kept_iff.2 ⟨x, by rw [← hxp]; exact findE_mem ha.nodup hxa, h2.symm⟩
    rw [h3] at hek; cases hek
  have hkeep : ∀ y ∈ b, keptE a y = true → ∃ f, findE a y.path = some f ∧ f.kind = y.kind ∧ keptE b f = true ∧ f ∈ a := by
    intro y hy hk
    obtain ⟨f, hf, hfk⟩ := kept_iff.1 hk
    obtain ⟨hfa, hfp⟩ := findE_some hf
    exact ⟨f, hf, hfk, kept_iff.2 ⟨y, by rw [hfp]; exact findE_mem hb.nodup hy, hfk.symm⟩, hfa⟩
  have hps := puts_ok (left := a.filter (keptE b)) (cs := cs) (s := ⟨[], []⟩) (by simpa using (hA.map Ent.path).nodup_iff.2 (adds_nodup ha hb)) hadd
    (by simpa using (hM.map Ent.path).nodup_iff.2 (mods_nodup ha hb)) (fun e he => by
      obtain ⟨heb, hek, _⟩ := (mem_mods ha).1 (hM.mem_iff.1 he)
      obtain ⟨f, hf, hfk, hfb, _⟩ := hkeep e heb hek
      exact ⟨f, find_filter ha.nodup hf hfb, hfk⟩) hpath
  rw [hps]
  simp only [List.nil_append]
  have hover : ∀ f ∈ a.filter (keptE b), ∃ y ∈ b, findE b f.path = some y ∧ overE (modsC cs) f = y ∧ keptE a y = true := by
    intro f hf
    obtain ⟨hfa, hfk⟩ := List.mem_filter.1 hf
    obtain ⟨y, hy, hyk⟩ := kept_iff.1 hfk
    obtain ⟨hyb, hyp⟩ := findE_some hy
    have hka : findE a y.path = some f := by rw [hyp]; exact findE_mem ha.nodup hfa
    have hkk : keptE a y = true := kept_iff.2 ⟨f, hka, hyk.symm⟩
    refine ⟨y, hyb, hy, ?_, hkk⟩
    unfold overE
    have hmn : ((modsC cs).map Ent.path).Nodup := (hM.map Ent.path).nodup_iff.2 (mods_nodup ha hb)
    by_cases he : f = y
    · subst he
      cases hfm : findE (modsC cs) f.path with
      | none => rfl
      | some z =>
        obtain ⟨hz, hzp⟩ := findE_some hfm
        obtain ⟨hzb, _, hzf⟩ := (mem_mods ha).1 (hM.mem_iff.1 hz)
        have h1 := findE_mem hb.nodup hzb
        rw [hzp, hy] at h1
        cases h1
        exact absurd hka hzf
    · have : y ∈ modsC cs := hM.mem_iff.2 ((mem_mods ha).2 ⟨hyb, hkk, fun h => he (by rw [hka] at h; cases h; rfl)⟩)
      rw [← hyp, findE_mem hmn this]
  have hmem : ∀ x, x ∈ resE (a.filter (keptE b)) ⟨addsC cs, modsC cs⟩ ↔ x ∈ b := by
    intro x
    unfold resE
    rw [List.mem_append, List.mem_map]
    constructor
    · rintro (⟨f, hf, rfl⟩ | hx)
      · obtain ⟨y, hy, _, he, _⟩ := hover f hf; rw [he]; exact hy
      · exact ((mem_adds ha).1 (hA.mem_iff.1 hx)).1
    · intro hx
      cases hk : keptE a x with
      | true =>
        obtain ⟨f, hf, hfk, hfb, hfa⟩ := hkeep x hx hk
        have hfm : f ∈ a.filter (keptE b) := List.mem_filter.2 ⟨hfa, hfb⟩
        obtain ⟨y, hy, hyf, he, _⟩ := hover f hfm
        refine Or.inl ⟨f, hfm, ?_⟩
        rw [he]
        rw [(findE_some hf).2, findE_mem hb.nodup hx] at hyf
        cases hyf; rfl
      | false => exact Or.inr (hA.mem_iff.2 ((mem_adds ha).2 ⟨hx, hk⟩))
  have hrn : ((resE (a.filter (keptE b)) ⟨addsC cs, modsC cs⟩).map Ent.path).Nodup := by
    unfold resE
    rw [List.map_append, List.map_map, show (Ent.path ∘ overE (modsC cs)) = Ent.path from funext (over_path _)]
    refine List.nodup_append.2 ⟨hln, (hA.map Ent.path).nodup_iff.2 (adds_nodup ha hb), ?_⟩
    rintro p h1 q h2 rfl
    obtain ⟨e, he, rfl⟩ := List.mem_map.1 h2
    exact hadd e he h1
  have hs : sortP (resE (a.filter (keptE b)) ⟨addsC cs, modsC cs⟩) = b :=
    sorted_mem_eq (sortP_sorted hrn) hb.ord fun x => by rw [(sortP_perm _).mem_iff]; exact hmem x
  rw [hs, checkP_zero hb, if_pos rfl]
/-- The difference is empty just where the trees are equal. -/
theorem diff_self {a : List Ent} (ha : TOk a) : diffP a a = [] := by
  have hg : goneE a a = [] := by
    unfold goneE
    rw [List.filter_eq_nil_iff]
    intro x hx
    rw [kept_find (findE_mem ha.nodup hx)]; simp
  have hs : ∀ (r : List Ent), (∀ y ∈ r, y ∈ a) → r.foldl (stepD a) ⟨[], []⟩ = ⟨[], []⟩ := by
    intro r
    induction r with
    | nil => intro _; rfl
    | cons y r ih =>
      intro h
      have hf := findE_mem ha.nodup (h y (List.mem_cons_self ..))
      rw [List.foldl_cons]
      unfold stepD
      rw [if_pos (kept_find hf), if_pos hf]
      exact ih fun z hz => h z (List.mem_cons_of_mem _ hz)
  unfold diffP diffS
  rw [hg, hs a fun _ h => h]
  rfl
theorem diff_nil {a b : List Ent} (ha : TOk a) (hb : TOk b) (h : diffP a b = []) : a = b := by
  have h1 := apply_diff ha hb (cs := []) (by rw [h])
  have h2 := apply_diff ha ha (cs := []) (by rw [diff_self ha])
  rw [h1] at h2
  exact (Prod.mk.inj h2).1.symm
theorem diff_empty {a b : List Ent} (ha : TOk a) (hb : TOk b) : diffP a b = [] ↔ a = b := ⟨diff_nil ha hb, fun h => h ▸ diff_self ha⟩

end Go.Proofs.YtdieneaillkbgaaGreatDoor

/- Merges of three trees, in plain words. -/
namespace Go.Proofs.YtdieneaillkbgaaGreatDoor
open Go

def isDirO : Option Ent → Bool
  | some e => decide (e.kind = 2)
  | none => false
def upB (d l : List UInt8) : Bool := decide (d ≠ []) && Lib.hasPrefix l (d ++ [47])
theorem upB_iff {d l : List UInt8} : upB d l = true ↔ d ≠ [] ∧ ∃ r, l = d ++ 47 :: r := by
  unfold upB
  rw [Bool.and_eq_true, decide_eq_true_eq, hasPrefix_iff]
  constructor
  · rintro ⟨h, r, hr⟩; exact ⟨h, r, by rw [hr]; simp⟩
  · rintro ⟨h, r, hr⟩; exact ⟨h, r, by rw [hr]; simp⟩
theorem up_step {d l : List UInt8} : upB d l = true ↔ parentL l ≠ [] ∧ (d = parentL l ∨ upB d (parentL l) = true) := by
  constructor
  · intro h
    obtain ⟨hd, r, hr⟩ := upB_iff.1 h
    rcases below_parent hr with h1 | ⟨s, h1⟩
    · exact ⟨by rw [h1]; exact hd, Or.inl h1.symm⟩
    · refine ⟨by rw [h1]; simp, Or.inr (upB_iff.2 ⟨hd, s, h1⟩)⟩
  · rintro ⟨hp, h⟩
    obtain ⟨t, ht⟩ := parent_back hp
    rcases h with rfl | h
    · exact upB_iff.2 ⟨hp, t, ht⟩
    · obtain ⟨hd, r, hr⟩ := upB_iff.1 h
      exact upB_iff.2 ⟨hd, r ++ 47 :: t, by rw [ht, hr]; simp⟩
abbrev Look := ByteArray → Option Ent
def decM (x l r : List Ent) : Look := fun p => if findE l p = findE r p then findE l p else if findE l p = findE x p then findE r p else findE l p
def confM (x l r : List Ent) (p : ByteArray) : Bool := decide (findE l p ≠ findE r p) && (decide (findE l p ≠ findE x p) && decide (findE r p ≠ findE x p))
def needM (R : Look) (l : List Ent) (p : ByteArray) : Bool := l.any fun e => decide (R e.path = some e) && upB (bl p) (bl e.path)
def fixM (R : Look) (l : List Ent) (p : ByteArray) : Bool := needM R l p && !isDirO (R p)
def anyM (R : Look) (l : List Ent) : Look := fun p => if fixM R l p = true then findE l p else R p
def allUp (R : Look) (p : ByteArray) : Bool := (List.range (bl p).length).all fun i => !upB ((bl p).take i) (bl p) || isDirO (R ⟨((bl p).take i).toArray⟩)
def outM (R : Look) : Look := fun p => if allUp R p = true then R p else none
def midM (x l r : List Ent) : Look := anyM (decM x l r) l
def resM (x l r : List Ent) : Look := outM (midM x l r)
def isK (x l r : List Ent) (p : ByteArray) : Bool := confM x l r p || (fixM (decM x l r) l p || ((midM x l r p).isSome && !allUp (midM x l r) p))

theorem allUp_iff {R : Look} {p : ByteArray} : allUp R p = true ↔ ∀ q : ByteArray, upB (bl q) (bl p) = true → isDirO (R q) = true := by
  unfold allUp
  rw [List.all_eq_true]
  constructor
  · intro h q hq
    obtain ⟨hd, r, hr⟩ := upB_iff.1 hq
    have := h (bl q).length (List.mem_range.2 (by rw [hr]; simp))
    have ht : (bl p).take (bl q).length = bl q := by rw [hr]; simp
    rw [ht, hq] at this
    rw [path_bl rfl (p := q)]
    simpa using this
  · intro h i _
    cases hu : upB ((bl p).take i) (bl p) with
    | false => rfl
    | true => simpa using h ⟨((bl p).take i).toArray⟩ (by simpa [bl] using hu)
theorem bl_of (l : List UInt8) : bl ⟨l.toArray⟩ = l := by simp [bl]
theorem allUp_step {R : Look} {p : ByteArray} : allUp R p = true ↔ parentL (bl p) = [] ∨ (isDirO (R ⟨(parentL (bl p)).toArray⟩) = true ∧ allUp R ⟨(parentL (bl p)).toArray⟩ = true) := by
  rw [allUp_iff, allUp_iff]
  constructor
  · intro h
    by_cases hp : parentL (bl p) = []
    · exact Or.inl hp
    · refine Or.inr ⟨h _ (up_step.2 ⟨hp, Or.inl (bl_of _)⟩), fun q hq => h q (up_step.2 ⟨hp, Or.inr ?_⟩)⟩
      rwa [bl_of] at hq
  · rintro (hp | ⟨h1, h2⟩) q hq
    · exact absurd hp (up_step.1 hq).1
    · obtain ⟨_, hq | hq⟩ := up_step.1 hq
      · rw [path_bl hq]; exact h1
      · exact h2 q (by rw [bl_of]; exact hq)
theorem out_step {R : Look} {p : ByteArray} : outM R p = if parentL (bl p) = [] ∨ isDirO (outM R ⟨(parentL (bl p)).toArray⟩) = true then R p else none := by
  have key : allUp R p = true ↔ parentL (bl p) = [] ∨ isDirO (outM R ⟨(parentL (bl p)).toArray⟩) = true := by
    rw [allUp_step]
    have : isDirO (outM R ⟨(parentL (bl p)).toArray⟩) = true ↔ isDirO (R ⟨(parentL (bl p)).toArray⟩) = true ∧ allUp R ⟨(parentL (bl p)).toArray⟩ = true := by
      unfold outM
      by_cases h : allUp R ⟨(parentL (bl p)).toArray⟩ = true
      · rw [if_pos h]; exact ⟨fun x => ⟨x, h⟩, fun x => x.1⟩
      · rw [if_neg h]; exact ⟨fun x => (by cases x), fun x => absurd x.2 h⟩
    rw [this]
  show (if allUp R p = true then R p else none) = _
  by_cases h : allUp R p = true
  · rw [if_pos h, if_pos (key.1 h)]
  · rw [if_neg h, if_neg fun hx => h (key.2 hx)]

/-- A look-up that answers with entries at their own paths. -/
def AtOwn (R : Look) : Prop := ∀ p e, R p = some e → e.path = p
theorem dec_from {x l r : List Ent} {p : ByteArray} : decM x l r p = findE l p ∨ decM x l r p = findE r p := by
  unfold decM; split
  · exact Or.inl rfl
  · split
    · exact Or.inr rfl
    · exact Or.inl rfl
theorem mid_from {x l r : List Ent} {p : ByteArray} : midM x l r p = findE l p ∨ midM x l r p = findE r p := by
  unfold midM anyM; split
  · exact Or.inl rfl
  · exact dec_from
theorem res_mid {x l r : List Ent} {p : ByteArray} {e : Ent} (h : resM x l r p = some e) : midM x l r p = some e ∧ allUp (midM x l r) p = true := by
  unfold resM outM at h
  split at h
  · exact ⟨h, ‹_›⟩
  · cases h
theorem mid_own {x l r : List Ent} {p : ByteArray} {e : Ent} (h : midM x l r p = some e) : e.path = p ∧ (e ∈ l ∨ e ∈ r) := by
  rcases mid_from (x := x) (l := l) (r := r) (p := p) with h1 | h1
  · rw [h1] at h; have := findE_some h; exact ⟨this.2, Or.inl this.1⟩
  · rw [h1] at h; have := findE_some h; exact ⟨this.2, Or.inr this.1⟩

/-- THE MERGE: m is what is at each path; k are the paths in conflict. -/
structure IsMerge (x l r m : List Ent) (k : List ByteArray) : Prop where
  ord : SortedE m
  look : ∀ p, findE m p = resM x l r p
  kord : k.Pairwise fun a b => cmpL (bl a) (bl b) < 0
  kin : ∀ p, p ∈ k ↔ isK x l r p = true
theorem look_mem {m : List Ent} (h : SortedE m) {e : Ent} : e ∈ m ↔ findE m e.path = some e := ⟨fun he => findE_mem h.nodup he, fun he => (findE_some he).1⟩
theorem same_look {m n : List Ent} (hm : SortedE m) (hn : SortedE n) (h : ∀ p, findE m p = findE n p) : m = n :=
  sorted_mem_eq hm hn fun x => by rw [look_mem hm, look_mem hn, h]
theorem paths_eq {k j : List ByteArray} (hk : k.Pairwise fun a b => cmpL (bl a) (bl b) < 0) (hj : j.Pairwise fun a b => cmpL (bl a) (bl b) < 0) (h : ∀ p, p ∈ k ↔ p ∈ j) : k = j := by
  have h0 : ∀ x : ByteArray, ¬ cmpL (bl x) (bl x) < 0 := fun x => by have := cmp_neg (bl x) (bl x); omega
  have hlt : ∀ {a b c : ByteArray}, cmpL (bl a) (bl b) < 0 → cmpL (bl b) (bl c) < 0 → cmpL (bl a) (bl c) < 0 := fun {a b c} h1 h2 =>
    cmpE_lt_trans (a := ⟨a, 0, 0, 0, [], a⟩) (b := ⟨b, 0, 0, 0, [], b⟩) (c := ⟨c, 0, 0, 0, [], c⟩) h1 h2
  induction k generalizing j with
  | nil =>
    cases j with
    | nil => rfl
    | cons y j => exact absurd ((h y).2 (List.mem_cons_self ..)) (by simp)
  | cons x k ih =>
    cases j with
    | nil => exact absurd ((h x).1 (List.mem_cons_self ..)) (by simp)
    | cons y j =>
      have hk' := List.pairwise_cons.1 hk
      have hj' := List.pairwise_cons.1 hj
      have hxy : x = y := by
        rcases List.mem_cons.1 ((h x).1 (List.mem_cons_self ..)) with he | hx
        · exact he
        · rcases List.mem_cons.1 ((h y).2 (List.mem_cons_self ..)) with he | hy
          · exact he.symm
          · exact absurd (hlt (hj'.1 x hx) (hk'.1 y hy)) (h0 _)
      subst hxy
      rw [ih hk'.2 hj'.2 fun z => ?_]
      constructor
      · intro hz
        rcases List.mem_cons.1 ((h z).1 (List.mem_cons_of_mem _ hz)) with he | hz'
        · exact absurd (hk'.1 z hz) (he ▸ h0 _)
        · exact hz'
      · intro hz
        rcases List.mem_cons.1 ((h z).2 (List.mem_cons_of_mem _ hz)) with he | hz'
        · exact absurd (hj'.1 z hz) (he ▸ h0 _)
        · exact hz'
theorem merge_one {x l r m m' : List Ent} {k k' : List ByteArray} (h : IsMerge x l r m k) (h' : IsMerge x l r m' k') : m = m' ∧ k = k' :=
  ⟨same_look h.ord h'.ord fun p => by rw [h.look, h'.look], paths_eq h.kord h'.kord fun p => by rw [h.kin, h'.kin]⟩

/- Without conflicts. -/
def Calm (x l r : List Ent) : Prop := ∀ p, isK x l r p = false
theorem fix_mid {R : Look} {l : List Ent} (h : ∀ p, fixM R l p = false) : anyM R l = R := by
  funext p; unfold anyM; rw [h p]; simp
theorem calm_iff {x l r : List Ent} : Calm x l r ↔ (∀ p, confM x l r p = false) ∧ ∀ p, (decM x l r p).isSome = true → allUp (decM x l r) p = true := by
  constructor
  · intro h
    have h1 : ∀ p, confM x l r p = false ∧ fixM (decM x l r) l p = false ∧ ((midM x l r p).isSome && !allUp (midM x l r) p) = false := fun p => by
      have := h p
      unfold isK at this
      simpa only [Bool.or_eq_false_iff] using this
    have h2 : midM x l r = decM x l r := fix_mid fun p => (h1 p).2.1
    refine ⟨fun p => (h1 p).1, fun p hp => ?_⟩
    have := (h1 p).2.2
    rw [h2, hp] at this
    simpa using this
  · rintro ⟨h1, h2⟩
    have h3 : ∀ p, fixM (decM x l r) l p = false := by
      intro p
      cases hf : fixM (decM x l r) l p with
      | false => rfl
      | true =>
        unfold fixM needM at hf
        simp only [Bool.and_eq_true, List.any_eq_true, decide_eq_true_eq, Bool.not_eq_true'] at hf
        obtain ⟨⟨e, _, he, hu⟩, hd⟩ := hf
        have := allUp_iff.1 (h2 e.path (by rw [he]; rfl)) p hu
        rw [this] at hd; cases hd
    have h4 : midM x l r = decM x l r := fix_mid h3
    intro p
    unfold isK
    rw [h1, h3, h4]
    cases hs : (decM x l r p).isSome with
    | false => rfl
    | true => rw [h2 p hs]; rfl
theorem calm_look {x l r : List Ent} (h : Calm x l r) (p : ByteArray) : resM x l r p = decM x l r p := by
  have h1 := (calm_iff.1 h).2
  have h2 : midM x l r = decM x l r := fix_mid fun q => by
    have := h q
    unfold isK at this
    simp only [Bool.or_eq_false_iff] at this
    exact this.2.1
  unfold resM outM
  rw [h2]
  cases hd : decM x l r p with
  | none => simp
  | some e => rw [if_pos (h1 p (by rw [hd]; rfl))]
theorem conf_comm (x l r : List Ent) (p : ByteArray) : confM x l r p = confM x r l p := by
  unfold confM
  rw [Bool.eq_iff_iff]
  simp only [Bool.and_eq_true, decide_eq_true_eq, ne_eq]
  constructor
  · rintro ⟨a, b, c⟩; exact ⟨fun h => a h.symm, c, b⟩
  · rintro ⟨a, b, c⟩; exact ⟨fun h => a h.symm, c, b⟩
theorem dec_swap {L R X : Option Ent} (h : (decide (L ≠ R) && (decide (L ≠ X) && decide (R ≠ X))) = false) : (if L = R then L else if L = X then R else L) = if R = L then R else if R = X then L else R := by
  by_cases h1 : L = R
  · subst h1; rfl
  · have h1' : ¬ R = L := fun e => h1 e.symm
    simp only [if_neg h1, if_neg h1']
    by_cases h2 : L = X
    · subst h2; rw [if_pos rfl, if_neg h1']
    · by_cases h3 : R = X
      · subst h3; rw [if_neg h2, if_pos rfl]
      · simp [h1, h2, h3] at h
theorem dec_comm {x l r : List Ent} (h : ∀ p, confM x l r p = false) : decM x l r = decM x r l := by
  funext p
  exact dec_swap (h p)
theorem calm_comm {x l r : List Ent} (h : Calm x l r) : Calm x r l := by
  obtain ⟨h1, h2⟩ := calm_iff.1 h
  refine calm_iff.2 ⟨fun p => by rw [← conf_comm]; exact h1 p, ?_⟩
  rw [← dec_comm h1]; exact h2
theorem merge_calm {x l r m : List Ent} {k : List ByteArray} (h : IsMerge x l r m k) : k = [] ↔ Calm x l r := by
  constructor
  · rintro rfl p
    have := h.kin p
    simpa using this
  · intro hc
    cases k with
    | nil => rfl
    | cons p k =>
      have := (h.kin p).1 (List.mem_cons_self ..)
      rw [hc p] at this; cases this
theorem merge_swap {x l r m n : List Ent} {k j : List ByteArray} (h : IsMerge x l r m k) (h' : IsMerge x r l n j) : (k = [] ↔ j = []) ∧ (k = [] → m = n) := by
  refine ⟨?_, fun hk => ?_⟩
  · rw [merge_calm h, merge_calm h']; exact ⟨calm_comm, calm_comm⟩
  · have hc := (merge_calm h).1 hk
    refine same_look h.ord h'.ord fun p => ?_
    rw [h.look, h'.look, calm_look hc, calm_look (calm_comm hc), dec_comm (calm_iff.1 hc).1]
theorem tree_up {r : List Ent} (h : TOk r) : ∀ p, (findE r p).isSome = true → allUp (findE r) p = true := by
  intro p hp
  obtain ⟨e, he⟩ := Option.isSome_iff_exists.1 hp
  obtain ⟨hm, hpe⟩ := findE_some he
  rw [allUp_iff]
  intro q hq
  obtain ⟨hd, t, ht⟩ := upB_iff.1 hq
  obtain ⟨f, hf, hfp, hfk⟩ := TOk.above h hd _ (Nat.le_refl _) hm t (by rw [hpe]; exact ht)
  have : findE r q = some f := by rw [← bl_inj hfp]; exact findE_mem h.nodup hf
  rw [this]
  simp [isDirO, hfk]
theorem merge_right {x r m : List Ent} {k : List ByteArray} (hr : TOk r) (h : IsMerge x x r m k) : m = r ∧ k = [] := by
  have hd : decM x x r = findE r := by
    funext p; unfold decM
    by_cases h1 : findE x p = findE r p
    · rw [if_pos h1, h1]
    · rw [if_neg h1, if_pos rfl]
  have hc : Calm x x r := calm_iff.2 ⟨fun p => by simp [confM], by rw [hd]; exact tree_up hr⟩
  exact ⟨same_look h.ord hr.ord fun p => by rw [h.look, calm_look hc, hd], (merge_calm h).2 hc⟩
theorem merge_left {x l m : List Ent} {k : List ByteArray} (hl : TOk l) (h : IsMerge x l x m k) : m = l ∧ k = [] := by
  have hd : decM x l x = findE l := by
    funext p; unfold decM
    by_cases h1 : findE l p = findE x p
    · rw [if_pos h1]
    · rw [if_neg h1, if_neg h1]
  have hc : Calm x l x := calm_iff.2 ⟨fun p => by simp [confM], by rw [hd]; exact tree_up hl⟩
  exact ⟨same_look h.ord hl.ord fun p => by rw [h.look, calm_look hc, hd], (merge_calm h).2 hc⟩
theorem nodup_length : ∀ {l m : List ByteArray}, l.Nodup → (∀ x ∈ l, x ∈ m) → l.length ≤ m.length
  | [], _, _, _ => Nat.zero_le _
  | x :: l, m, hn, hs => by
    have h1 := List.nodup_cons.1 hn
    have := nodup_length (l := l) (m := m.filter fun y => decide (y ≠ x)) h1.2 fun y hy => List.mem_filter.2 ⟨hs y (List.mem_cons_of_mem _ hy), by
      simp only [decide_eq_true_eq]; intro e; exact h1.1 (e ▸ hy)⟩
    have hp : (m.filter fun y => decide (y ≠ x)).length < m.length := List.length_filter_lt_length_iff_exists.2 ⟨x, hs x (List.mem_cons_self ..), by simp⟩
    simp only [List.length_cons]
    omega
theorem res_val {x l r m : List Ent} {k : List ByteArray} (hm : IsMerge x l r m k) {e : Ent} (he : e ∈ m) : e ∈ l ∨ e ∈ r := by
  have := findE_mem hm.ord.nodup he
  rw [hm.look] at this
  exact (mid_own (res_mid this).1).2
theorem res_len {x l r m : List Ent} {k : List ByteArray} (hm : IsMerge x l r m k) : m.length ≤ l.length + r.length := by
  have h := nodup_length (l := m.map Ent.path) (m := (l ++ r).map Ent.path) hm.ord.nodup fun p hp => by
    obtain ⟨e, he, rfl⟩ := List.mem_map.1 hp
    rcases res_val hm he with h | h
    · exact List.mem_map_of_mem (List.mem_append_left _ h)
    · exact List.mem_map_of_mem (List.mem_append_right _ h)
  simpa using h
theorem merge_tree {x l r m : List Ent} {k : List ByteArray} (hl : TOk l) (hr : TOk r) (hlen : l.length + r.length ≤ 4096) (hm : IsMerge x l r m k) : TOk m := by
  have hin := fun (e : Ent) (he : e ∈ m) => res_val hm he
  refine tok_sub hm.ord (fun e he => (hin e he).elim (hl.val e) (hr.val e)) (fun e he => ?_) (Nat.le_trans (res_len hm) hlen)
  have h1 := findE_mem hm.ord.nodup he
  rw [hm.look] at h1
  unfold resM at h1
  rw [out_step] at h1
  split at h1
  · rename_i hc
    rcases hc with hc | hc
    · exact Or.inl hc
    · cases hf : outM (midM x l r) ⟨(parentL (bl e.path)).toArray⟩ with
      | none => rw [hf] at hc; cases hc
      | some f =>
        have h2 : findE m ⟨(parentL (bl e.path)).toArray⟩ = some f := by rw [hm.look]; exact hf
        obtain ⟨h3, h4⟩ := findE_some h2
        refine Or.inr ⟨f, h3, by rw [h4, bl_of], ?_⟩
        rw [hf] at hc
        simpa [isDirO] using hc
  · cases h1

end Go.Proofs.YtdieneaillkbgaaGreatDoor

/- Differences of trees, in plain words: what the specification's Diff and Apply do, step by step, is the same. -/
namespace Go.Proofs.YtdieneaillkbgaaGreatDoor
open Go

/- The specification keeps what goes, with marks. -/
def unused (g : List Ent) (u : List Bool) : List Ent := ((g.zip u).filter fun x => !x.2).map Prod.fst
def fromIx (y : Ent) (g : List Ent) (u : List Bool) : Option Nat := (List.range g.length).find? fun i => match g[i]?, u[i]? with
  | some x, some b => !b && (alikeE x y && (decide (y.kind = 3) || decide (0 < y.data.length)))
  | _, _ => false
theorem movB_of {y : Ent} (hy : vEnt y = true) : movB y = (decide (y.kind = 3) || decide (0 < y.data.length)) := by
  unfold movB
  rcases kind_of hy with h | h | h
  · simp [h]
  · have := data_file hy (by omega); simp [h, this]
  · simp [h]
theorem unused_new (g : List Ent) : unused g (List.replicate g.length false) = g := by
  unfold unused
  induction g with
  | nil => rfl
  | cons x g ih => simp only [List.length_cons, List.replicate_succ, List.zip_cons_cons]; rw [List.filter_cons_of_pos (by simp), List.map_cons, ih]

/- Inserting at its place. -/
def insF (L : List Ent) (e : Ent) : List Ent := (L.takeWhile fun x => decide (cmpE x e < 0)) ++ e :: L.dropWhile fun x => decide (cmpE x e < 0)
theorem insF_perm (L : List Ent) (e : Ent) : (insF L e).Perm (e :: L) := by
  unfold insF
  refine List.perm_middle.trans ?_
  rw [List.takeWhile_append_dropWhile]
theorem insF_sorted {L : List Ent} {e : Ent} (h : SortedE L) (hne : ∀ f ∈ L, f.path ≠ e.path) : SortedE (insF L e) := by
  induction L with
  | nil => exact List.pairwise_singleton _ _
  | cons x L ih =>
    have hx := List.pairwise_cons.1 h
    unfold insF
    by_cases hlt : cmpE x e < 0
    · rw [List.takeWhile_cons_of_pos (by simpa using hlt), List.dropWhile_cons_of_pos (by simpa using hlt), List.cons_append]
      have ih := ih hx.2 fun f hf => hne f (List.mem_cons_of_mem _ hf)
      refine List.pairwise_cons.2 ⟨fun y hy => ?_, ih⟩
      rcases List.mem_cons.1 ((insF_perm L e).mem_iff.1 hy) with rfl | hy
      · exact hlt
      · exact hx.1 y hy
    · rw [List.takeWhile_cons_of_neg (by simpa using hlt), List.dropWhile_cons_of_neg (by simpa using hlt), List.nil_append]
      have hgt : cmpE e x < 0 := by
        have h1 := cmpE_neg e x
        have h2 : cmpE x e ≠ 0 := fun h0 => hne x (List.mem_cons_self ..) (cmpE_zero.1 h0)
        omega
      refine List.pairwise_cons.2 ⟨fun y hy => ?_, h⟩
      rcases List.mem_cons.1 hy with rfl | hy
      · exact hgt
      · exact cmpE_lt_trans hgt (hx.1 y hy)
theorem insF_sort {M : List Ent} {e : Ent} (hn : (M.map Ent.path).Nodup) (hne : ∀ f ∈ M, f.path ≠ e.path) : insF (sortP M) e = sortP (M ++ [e]) := by
  have h1 : SortedE (sortP M) := sortP_sorted hn
  refine sorted_perm_eq (insF_sorted h1 fun f hf => hne f ((sortP_perm M).mem_iff.1 hf)) (sortP_sorted (nodup_snoc hn hne)) ?_
  refine (insF_perm _ _).trans ?_
  refine List.Perm.trans ?_ (sortP_perm _).symm
  exact ((sortP_perm M).cons e).trans (List.perm_append_singleton e M).symm

/- Apply, as the specification has it. -/
def atE (L : List Ent) (p : ByteArray) : Ent := (findE L p).getD noEnt
def takeR (a : List Ent) : List Ent → List Chg → Option (List Ent)
  | left, [] => some left
  | left, c :: cs =>
    if 2 < c.kind then takeR a left cs
    else
      let p := if c.kind = 2 then c.src else c.path
      if (!hasE left p || (decide (c.kind = 2) && !alikeE (atE a p) c.en)) = true then none else takeR a (dropE left p) cs
def putsR (left : List Ent) : List Ent → List Chg → List Chg → Option (List Ent)
  | out, _, [] => some out
  | out, pre, c :: cs =>
    if c.kind = 2 ∨ c.kind = 3 then (if hasE out c.path = true then none else putsR left (insF out c.en) (pre ++ [c]) cs)
    else if c.kind = 4 then
      (if pre.any (fun x => decide (x.kind = 4) && decide (x.path = c.path)) = true then none
       else if (atE left c.path).kind ≠ c.en.kind then none
       else putsR left (insF (dropE out c.path) c.en) (pre ++ [c]) cs)
    else putsR left out (pre ++ [c]) cs
def applyR (a : List Ent) (cs : List Chg) : List Ent × Int :=
  if cs.all chgOk = false then ([], 1) else match takeR a a cs with
  | none => ([], 13)
  | some left => match putsR left left [] cs with
    | none => ([], 13)
    | some out => if checkP out = 0 then (out, 0) else ([], 13)
theorem chg_kinds {c : Chg} (h : chgOk c = true) : c.kind = 1 ∨ c.kind = 2 ∨ c.kind = 3 ∨ c.kind = 4 := by
  unfold chgOk at h
  split at h
  · omega
  · split at h
    · omega
    · split at h
      · omega
      · cases h
theorem chg_ent {c : Chg} (h : chgOk c = true) (hk : c.kind ≠ 1) : vEnt c.en = true ∧ c.path = c.en.path := by
  unfold chgOk at h
  rw [if_neg hk] at h
  split at h
  · simp only [Bool.and_eq_true, decide_eq_true_eq] at h; exact ⟨h.2.2.1, h.1⟩
  · split at h
    · simp only [Bool.and_eq_true, decide_eq_true_eq] at h; exact ⟨h.2.2, h.1⟩
    · cases h
theorem vEnt_kind {e : Ent} (h : vEnt e = true) : e.kind ≠ 0 := by rcases kind_of h with h | h | h <;> omega
theorem alike_atE {a : List Ent} {p : ByteArray} {e : Ent} (h : vEnt e = true) : alikeE (atE a p) e = alikeAt a p e := by
  unfold atE alikeAt
  cases findE a p with
  | some f => rfl
  | none =>
    show alikeE noEnt e = false
    have := vEnt_kind h
    simp [alikeE, noEnt, Ne.symm this]
theorem take_same {a : List Ent} : ∀ {cs : List Chg} {left : List Ent}, (∀ c ∈ cs, chgOk c = true) → takeR a left cs = takeP a left cs
  | [], _, _ => rfl
  | c :: cs, left, h => by
    have hc := h c (List.mem_cons_self ..)
    have ih : ∀ left, takeR a left cs = takeP a left cs := fun left => take_same fun x hx => h x (List.mem_cons_of_mem _ hx)
    unfold takeR takeP
    rcases chg_kinds hc with hk | hk | hk | hk
    · rw [if_neg (show ¬ 2 < c.kind by omega), if_pos hk]
      have h2 : ¬ c.kind = 2 := by omega
      simp only [if_neg h2, ih]
      cases h1 : hasE left c.path <;> simp [h2]
    · rw [if_neg (show ¬ 2 < c.kind by omega), if_neg (show ¬ c.kind = 1 by omega), if_pos hk]
      have hv := chg_ent hc (by omega)
      simp only [if_pos hk, ih, alike_atE hv.1]
      cases h1 : hasE left c.src <;> cases h2 : alikeAt a c.src c.en <;> simp [hk]
    · rw [if_pos (show 2 < c.kind by omega), if_neg (show ¬ c.kind = 1 by omega), if_neg (show ¬ c.kind = 2 by omega), ih]
    · rw [if_pos (show 2 < c.kind by omega), if_neg (show ¬ c.kind = 1 by omega), if_neg (show ¬ c.kind = 2 by omega), ih]
theorem takeP_sub {a : List Ent} : ∀ {cs : List Chg} {left out : List Ent}, takeP a left cs = some out → out.Sublist left
  | [], left, out, h => by
    simp only [takeP, Option.some.injEq] at h
    subst h
    exact List.Sublist.refl _
  | c :: cs, left, out, h => by
    unfold takeP at h
    split at h
    · split at h
      · exact (takeP_sub h).trans List.filter_sublist
      · cases h
    · split at h
      · split at h
        · exact (takeP_sub h).trans List.filter_sublist
        · cases h
      · exact takeP_sub h
theorem hasE_perm {L M : List Ent} (hp : L.Perm M) (p : ByteArray) : hasE L p = hasE M p := by
  rw [Bool.eq_iff_iff, findE_isSome, findE_isSome, (hp.map Ent.path).mem_iff]
theorem res_paths (left : List Ent) (s : PSt) : (resE left s).map Ent.path = left.map Ent.path ++ s.added.map Ent.path := by
  unfold resE
  rw [List.map_append, List.map_map, show (Ent.path ∘ overE s.mods) = Ent.path from funext (over_path _)]
theorem hasE_mods {M : List Ent} {p : ByteArray} : hasE M p = M.any fun x => decide (x.path = p) := by
  rw [Bool.eq_iff_iff, findE_isSome, List.mem_map, List.any_eq_true]
  constructor
  · rintro ⟨e, he, hp⟩; exact ⟨e, he, by simpa using hp⟩
  · rintro ⟨e, he, hp⟩; exact ⟨e, he, by simpa using hp⟩
theorem findE_app_none {L M : List Ent} {p : ByteArray} (h : findE L p = none) : findE (L ++ M) p = findE M p := by
  unfold findE at *; rw [List.find?_append, h]; rfl
theorem findE_app_some {L M : List Ent} {p : ByteArray} {e : Ent} (h : findE L p = some e) : findE (L ++ M) p = some e := by
  unfold findE at *; rw [List.find?_append, h]; rfl
/-- Replacing an entry by one at the same path. -/
theorem over_snoc {mods : List Ent} {e : Ent} (hm : ∀ y ∈ mods, y.path ≠ e.path) (x : Ent) :
    overE (mods ++ [e]) x = if x.path = e.path then e else overE mods x := by
  unfold overE
  by_cases hx : x.path = e.path
  · rw [if_pos hx]
    have h1 : findE mods x.path = none := find_none_iff.2 fun y hy => by rw [hx]; exact hm y hy
    rw [findE_app_none h1]
    simp [findE, hx]
  · rw [if_neg hx]
    cases h1 : findE mods x.path with
    | some y => rw [findE_app_some h1]
    | none =>
      rw [findE_app_none h1]
      simp [findE, Ne.symm hx]
theorem drop_res {left : List Ent} {s : PSt} {e f : Ent} (hn : ((resE left s).map Ent.path).Nodup) (hf : findE left e.path = some f) (hm : ∀ y ∈ s.mods, y.path ≠ e.path) :
    (dropE (resE left s) e.path ++ [e]).Perm (resE left ⟨s.added, s.mods ++ [e]⟩) := by
  rw [res_paths] at hn
  obtain ⟨hn1, hn2, hn3⟩ := List.nodup_append.1 hn
  obtain ⟨hfm, hfp⟩ := findE_some hf
  unfold resE dropE
  rw [List.filter_append]
  have ha : s.added.filter (fun x => decide (x.path ≠ e.path)) = s.added := List.filter_eq_self.2 fun x hx => by
    simp only [decide_eq_true_eq]
    exact fun he => hn3 f.path (List.mem_map_of_mem hfm) x.path (List.mem_map_of_mem hx) (by rw [hfp, he])
  rw [ha]
  have hL : ∀ L : List Ent, (L.map Ent.path).Nodup → f ∈ L → ((L.map (overE s.mods)).filter (fun x => decide (x.path ≠ e.path)) ++ [e]).Perm (L.map (overE (s.mods ++ [e]))) := by
    intro L
    induction L with
    | nil => intro _ h; cases h
    | cons x L ih =>
      intro h1 h2
      have h3 := List.nodup_cons.1 h1
      by_cases hx : x.path = e.path
      · have hrest : (L.map (overE s.mods)).filter (fun x => decide (x.path ≠ e.path)) = L.map (overE s.mods) := List.filter_eq_self.2 fun y hy => by
          obtain ⟨z, hz, rfl⟩ := List.mem_map.1 hy
          simp only [decide_eq_true_eq, over_path]
          exact fun he => h3.1 (List.mem_map.2 ⟨z, hz, by rw [he, hx]⟩)
        have hmap : L.map (overE (s.mods ++ [e])) = L.map (overE s.mods) := List.map_congr_left fun z hz => by
          rw [over_snoc hm, if_neg]
          exact fun he => h3.1 (List.mem_map.2 ⟨z, hz, by rw [he, hx]⟩)
        rw [List.map_cons, List.filter_cons_of_neg (by simp [over_path, hx]), hrest, List.map_cons, hmap, over_snoc hm, if_pos hx]
        exact List.perm_append_singleton _ _
      · rw [List.map_cons, List.filter_cons_of_pos (by simp [over_path, hx]), List.map_cons, over_snoc hm, if_neg hx, List.cons_append]
        refine (ih h3.2 ?_).cons _
        rcases List.mem_cons.1 h2 with rfl | h2
        · exact absurd hfp hx
        · exact h2
  refine List.Perm.trans ?_ ((hL left hn1 hfm).append_right s.added)
  rw [List.append_assoc, List.append_assoc]
  exact (List.perm_append_comm).append_left _
theorem filter_sort {M : List Ent} (hn : (M.map Ent.path).Nodup) (p : ByteArray) : dropE (sortP M) p = sortP (dropE M p) := by
  have h1 : SortedE (dropE (sortP M) p) := (sortP_sorted hn).filter _
  have h2 : ((dropE M p).map Ent.path).Nodup := filter_nodup hn _
  refine sorted_perm_eq h1 (sortP_sorted h2) ?_
  exact ((sortP_perm M).filter _).trans (sortP_perm _).symm
theorem puts_same {left : List Ent} (hl : (left.map Ent.path).Nodup) : ∀ {cs pre : List Chg} {s : PSt}, (∀ c ∈ cs, chgOk c = true) → ((resE left s).map Ent.path).Nodup → (∀ p, hasE s.mods p = pre.any fun x => decide (x.kind = 4) && decide (x.path = p)) →
    putsR left (sortP (resE left s)) pre cs = (putsP left s cs).map fun t => sortP (resE left t)
  | [], _, _, _, _, _ => rfl
  | c :: cs, pre, s, h, hn, hp => by
    have hc := h c (List.mem_cons_self ..)
    have h' : ∀ c ∈ cs, chgOk c = true := fun x hx => h x (List.mem_cons_of_mem _ hx)
    unfold putsR putsP stepP
    by_cases h1 : c.kind = 2 ∨ c.kind = 3
    · rw [if_pos h1, if_pos h1]
      obtain ⟨hv, hcp⟩ := chg_ent hc (by omega)
      have hh : hasE (sortP (resE left s)) c.path = (hasE left c.path || hasE s.added c.path) := by
        rw [hasE_perm (sortP_perm _), Bool.eq_iff_iff, Bool.or_eq_true, findE_isSome, findE_isSome, findE_isSome, res_paths, List.mem_append]
      rw [hh]
      cases hb : (hasE left c.path || hasE s.added c.path) with
      | true => rfl
      | false =>
        have hne : ∀ f ∈ resE left s, f.path ≠ c.en.path := by
          intro f hf he
          have : hasE (sortP (resE left s)) c.path = true := by
            rw [hasE_perm (sortP_perm _), findE_isSome]
            exact List.mem_map.2 ⟨f, hf, by rw [he, hcp]⟩
          rw [hh, hb] at this; cases this
        have hr : resE left s ++ [c.en] = resE left ⟨s.added ++ [c.en], s.mods⟩ := by unfold resE; simp
        have hn' := nodup_snoc hn hne
        simp only [Bool.false_eq_true, if_false]
        rw [insF_sort hn hne, hr]
        rw [hr] at hn'
        refine puts_same hl h' hn' fun p => ?_
        rw [hp, List.any_append]
        have : c.kind ≠ 4 := by omega
        simp [this]
    · rw [if_neg h1, if_neg h1]
      by_cases h4 : c.kind = 4
      · rw [if_pos h4, if_pos h4, ← hp]
        obtain ⟨hv, hcp⟩ := chg_ent hc (by omega)
        unfold atE
        cases hf : findE left c.path with
        | none =>
          have : noEnt.kind ≠ c.en.kind := fun e => vEnt_kind hv e.symm
          simp only [Option.getD_none]
          rw [if_pos this]
          cases hasE s.mods c.path <;> rfl
        | some f =>
          simp only [Option.getD_some]
          cases hm : hasE s.mods c.path with
          | true => simp
          | false =>
            simp only [Bool.false_eq_true, if_false, or_false]
            by_cases hk : f.kind = c.en.kind
            · rw [if_neg (by simpa using hk), if_neg (by simpa using hk)]
              have hmn : ∀ y ∈ s.mods, y.path ≠ c.en.path := by
                intro y hy he
                have : hasE s.mods c.path = true := findE_isSome.2 (List.mem_map.2 ⟨y, hy, by rw [he, hcp]⟩)
                rw [hm] at this; cases this
              rw [hcp] at hf ⊢
              have hpm := drop_res hn hf hmn
              have hdn : ((dropE (resE left s) c.en.path).map Ent.path).Nodup := filter_nodup hn _
              have hdne : ∀ f ∈ dropE (resE left s) c.en.path, f.path ≠ c.en.path := fun f hf => by simpa using (List.mem_filter.1 hf).2
              have hsn := (hpm.map Ent.path).nodup_iff.1 (nodup_snoc hdn hdne)
              rw [filter_sort hn, insF_sort hdn hdne]
              rw [sorted_perm_eq (sortP_sorted (nodup_snoc hdn hdne)) (sortP_sorted hsn) ((sortP_perm _).trans (hpm.trans (sortP_perm _).symm))]
              refine puts_same hl h' hsn fun p => ?_
              rw [hasE_mods, List.any_append, ← hasE_mods, hp, List.any_append]
              simp [h4, hcp]
            · rw [if_pos (by simpa using hk), if_pos (by simpa using hk)]
              rfl
      · rw [if_neg h4, if_neg h4]
        refine puts_same hl h' hn fun p => ?_
        rw [hp, List.any_append]
        simp [h4]
theorem apply_same {a : List Ent} (ha : TOk a) (cs : List Chg) : applyR a cs = applyP a cs := by
  unfold applyR applyP chkC
  rw [checkP_zero ha]
  cases hv : cs.all chgOk with
  | false => simp
  | true =>
    have hall : ∀ c ∈ cs, chgOk c = true := List.all_eq_true.1 hv
    simp only [Bool.true_eq_false, if_false, ne_eq, not_true_eq_false]
    unfold applyQ
    rw [take_same hall]
    cases ht : takeP a a cs with
    | none => rfl
    | some left =>
      have hsub := takeP_sub ht
      have hl : SortedE left := List.Pairwise.sublist hsub ha.ord
      have h0 : resE left ⟨[], []⟩ = left := by
        unfold resE
        rw [show overE [] = id from funext fun x => rfl]
        simp
      have := puts_same hl.nodup (cs := cs) (pre := []) (s := ⟨[], []⟩) hall (by rw [h0]; exact hl.nodup) (fun p => rfl)
      rw [h0, sortP_same hl] at this
      simp only
      rw [this]
      cases putsP left ⟨[], []⟩ cs with
      | none => rfl
      | some t => rfl

end Go.Proofs.YtdieneaillkbgaaGreatDoor

/- Maps in memory by what is looked up in them: entries by their paths, sets of paths. -/
namespace Go.Proofs.YtdieneaillkbgaaGreatDoor
open Go Go.RowKit Go.Maps Go.MapKept

section
variable {P : Program} {k t e : TypeId} {w w' : World} {b : Nat} {m : List (Value × Value)} {key val z : Value}
theorem MapS.delMiss (h : MapS P k w b m) (K : Keyed P k) (ht : P.underlying t = some (.map k e)) (hkey : ∃ l, keyOf P k key = some l) (hm : ∀ p ∈ m, p.1 ≠ key) (ty : TypeId) :
    ∃ w', (Builtin.delete_ #[t, k] ty #[.map (some b), key]).run P w = .ok (.tuple #[]) w' ∧ MapS P k w' b m ∧ w.grownBy w' (some b) := by
  obtain ⟨es, clock, hb, he, hst, hk⟩ := h
  obtain ⟨kl, hkl⟩ := hkey
  rcases K.find w hkl es.toList (MapIs.keys he hk) with ⟨h1, h2⟩ | ⟨j, e0, h1, h2, h3⟩
  · refine ⟨ChangeMaps.setBlock w b (.map es clock), ?_, ⟨_, _, heapSame hb _, he, hst, hk⟩, grown_setBlock hb _⟩
    simp [Builtin.delete_, run_underlying ht, MapKept.run_getObj_map hb, K.check w _ hkl, h1, MapKept.run_setObj_map _ hb, Result.andThen, ChangeMaps.setBlock]
  · exact absurd h3 (hm (e0.key, e0.val) (by rw [← he]; exact List.mem_map.2 ⟨e0, List.mem_of_getElem? h2, rfl⟩))
end
theorem grown_refl (w : World) (r : Option Nat) : w.grownBy w r := ⟨rfl, rfl, rfl, Nat.le_refl _, fun _ _ _ => rfl⟩

/- Entries by their paths. -/
def MapR (S : Nat → Prop) (w : World) (mb : Nat) (R : Look) : Prop := ∃ xs, MapE S w mb xs ∧ ∀ p, findE (xs.map Prod.snd) p = R p
def putL (R : Look) (e : Ent) : Look := fun q => if q = e.path then some e else R q
def delL (R : Look) (p : ByteArray) : Look := fun q => if q = p then none else R q
theorem findE_cons (x : Ent) (l : List Ent) (q : ByteArray) : findE (x :: l) q = if x.path = q then some x else findE l q := by
  unfold findE
  by_cases h : x.path = q
  · rw [if_pos h, List.find?_cons_of_pos (by simpa using h)]
  · rw [if_neg h, List.find?_cons_of_neg (by simpa using h)]
theorem findE_mid {a b : List Ent} {x y : Ent} (hn : ((a ++ x :: b).map Ent.path).Nodup) (hp : x.path = y.path) (q : ByteArray) : findE (a ++ y :: b) q = if q = y.path then some y else findE (a ++ x :: b) q := by
  have ha : findE a y.path = none := find_none_iff.2 fun f hf he => by
    rw [List.map_append, List.map_cons] at hn
    exact (List.nodup_append.1 hn).2.2 f.path (List.mem_map_of_mem hf) x.path (List.mem_cons_self ..) (by rw [he, hp])
  by_cases hq : q = y.path
  · subst hq
    rw [if_pos rfl, findE_app_none ha, findE_cons, if_pos rfl]
  · rw [if_neg hq]
    cases hf : findE a q with
    | some f => rw [findE_app_some hf, findE_app_some hf]
    | none => rw [findE_app_none hf, findE_app_none hf, findE_cons, findE_cons, if_neg (fun e => hq e.symm), if_neg (fun e => hq (by rw [← e, hp]))]
theorem findE_out {a b : List Ent} {x : Ent} (hn : ((a ++ x :: b).map Ent.path).Nodup) (q : ByteArray) : findE (a ++ b) q = if q = x.path then none else findE (a ++ x :: b) q := by
  by_cases hq : q = x.path
  · subst hq
    rw [if_pos rfl, find_none_iff]
    intro f hf he
    rw [List.map_append, List.map_cons] at hn
    obtain ⟨_, h2, h3⟩ := List.nodup_append.1 hn
    rcases List.mem_append.1 hf with hf | hf
    · exact h3 f.path (List.mem_map_of_mem hf) x.path (List.mem_cons_self ..) he
    · exact (List.nodup_cons.1 h2).1 (he ▸ List.mem_map_of_mem hf)
  · rw [if_neg hq]
    cases hf : findE a q with
    | some f => rw [findE_app_some hf, findE_app_some hf]
    | none => rw [findE_app_none hf, findE_app_none hf, findE_cons, if_neg (fun e => hq e.symm)]
section
variable {S S' : Nat → Prop} {w w' : World} {mb : Nat} {R : Look} {t : TypeId}
theorem MapR.lt (h : MapR S w mb R) : mb < w.heap.size := by obtain ⟨_, h, _⟩ := h; exact h.map.lt
theorem MapR.far (h : MapR S w mb R) : ¬ S mb := by obtain ⟨_, h, _⟩ := h; exact h.far
theorem MapR.below (h : MapR S w mb R) (hb : Below w.heap.size w w') : MapR S w' mb R := by obtain ⟨xs, h1, h2⟩ := h; exact ⟨xs, h1.below hb, h2⟩
theorem MapR.mono (h : MapR S w mb R) (hs : ∀ k, S k → S' k) (hf : ¬ S' mb) : MapR S' w mb R := by obtain ⟨xs, h1, h2⟩ := h; exact ⟨xs, h1.mono hs hf, h2⟩
/-- Another block has grown. -/
theorem MapR.other {nb : Nat} (h : MapR S w mb R) (hg : w.grownBy w' (some nb)) (hne : mb ≠ nb) (hf : ¬ S nb) : MapR S w' mb R := by
  obtain ⟨xs, h1, h2⟩ := h
  exact ⟨xs, ⟨h1.map.same (hg.block mb h1.map.lt fun e => hne (Option.some.inj e)), fun x hx => ⟨data_grown (h1.dat x hx).1 hf hg, (h1.dat x hx).2⟩, h1.far⟩, h2⟩
theorem MapR.own (h : MapR S w mb R) {p : ByteArray} {e : Ent} (he : R p = some e) : e.path = p := by
  obtain ⟨xs, _, h2⟩ := h
  rw [← h2] at he
  exact (findE_some he).2
theorem MapR.ok (h : MapR S w mb R) {p : ByteArray} {e : Ent} (he : R p = some e) : EntOk e := by
  obtain ⟨xs, h1, h2⟩ := h
  rw [← h2] at he
  obtain ⟨v, hv⟩ := find_vent (findE_some he).1
  exact (h1.dat _ hv).2
theorem MapR.hit (h : MapR S w mb R) (ht : Tryz.prog.underlying t = some (.map 9 48)) {p : ByteArray} {e : Ent} (hf : R p = some e) (c : Bool) :
    ∃ v, (Instr.lookup t (.map (some mb)) (.string p) c).run Tryz.prog w = .ok (if c then .tuple #[entV v e, .bool true] else entV v e) w ∧ DataAt S w v e.data ∧ EntOk e := by
  obtain ⟨xs, hm, h2⟩ := h
  rw [← h2] at hf
  obtain ⟨h1, h2⟩ := findE_some hf
  obtain ⟨v, hv⟩ := find_vent h1
  have := hm.hit ht hv c
  rw [h2] at this
  exact ⟨v, this, hm.dat _ hv⟩
theorem MapR.miss (h : MapR S w mb R) (ht : Tryz.prog.underlying t = some (.map 9 48)) (hz : (zeroValue 48).run Tryz.prog w = .ok zeroE w) {p : ByteArray} (hp : p.size ≤ maxLen) (hf : R p = none) (c : Bool) :
    (Instr.lookup t (.map (some mb)) (.string p) c).run Tryz.prog w = .ok (if c then .tuple #[zeroE, .bool false] else zeroE) w := by
  obtain ⟨xs, hm, h2⟩ := h
  rw [← h2] at hf
  exact hm.miss ht hz hp (fun x hx => findE_none hf x.2 (List.mem_map_of_mem hx)) c
theorem MapR.put (h : MapR S w mb R) (ht : Tryz.prog.underlying t = some (.map 9 48)) {v : Value} {e : Ent} (hd : DataAt S w v e.data) (he : EntOk e) :
    ∃ w', (Instr.mapUpdate t (.map (some mb)) (.string e.path) (entV v e)).run Tryz.prog w = .ok () w' ∧ MapR S w' mb (putL R e) ∧ w.grownBy w' (some mb) := by
  obtain ⟨xs, hm, h2⟩ := h
  cases hf : findE (xs.map Prod.snd) e.path with
  | none =>
    obtain ⟨w', h3, h4, h5⟩ := hm.putRun ht (fun x hx => findE_none hf x.2 (List.mem_map_of_mem hx)) hd he
    refine ⟨w', h3, ⟨_, h4, fun q => ?_⟩, h5⟩
    rw [List.map_append]
    unfold putL
    by_cases hq : q = e.path
    · subst hq
      rw [if_pos rfl, findE_app_none hf]
      simp [findE]
    · rw [if_neg hq, ← h2]
      cases hg : findE (xs.map Prod.snd) q with
      | some f => rw [findE_app_some hg]
      | none => rw [findE_app_none hg]; simp [findE, Ne.symm hq]
  | some f =>
    obtain ⟨hfm, hfp⟩ := findE_some hf
    obtain ⟨a, v0, b, rfl⟩ := split_find hfm
    obtain ⟨w', h3, h4, h5⟩ := hm.overRun ht hfp hd he
    refine ⟨w', h3, ⟨_, h4, fun q => ?_⟩, h5⟩
    have hn := hm.nodupE
    rw [List.map_append, List.map_cons] at hn ⊢
    unfold putL
    rw [findE_mid hn hfp, ← h2, List.map_append, List.map_cons]
theorem MapR.del (h : MapR S w mb R) (ht : Tryz.prog.underlying t = some (.map 9 48)) {p : ByteArray} (hp : p.size ≤ maxLen) (ty : TypeId) :
    ∃ w', (Builtin.delete_ #[t, 9] ty #[.map (some mb), .string p]).run Tryz.prog w = .ok (.tuple #[]) w' ∧ MapR S w' mb (delL R p) ∧ w.grownBy w' (some mb) := by
  obtain ⟨xs, hm, h2⟩ := h
  cases hf : findE (xs.map Prod.snd) p with
  | none =>
    obtain ⟨w', h3, h4, h5⟩ := hm.map.delMiss lawStr20 ht (keyStr20 hp) (hm.new fun x hx => findE_none hf x.2 (List.mem_map_of_mem hx)) ty
    refine ⟨w', h3, ⟨xs, ⟨h4, fun x hx => ⟨data_grown (hm.dat x hx).1 hm.far h5, (hm.dat x hx).2⟩, hm.far⟩, fun q => ?_⟩, h5⟩
    unfold delL
    by_cases hq : q = p
    · subst hq; rw [if_pos rfl, hf]
    · rw [if_neg hq, h2]
  | some f =>
    obtain ⟨hfm, hfp⟩ := findE_some hf
    obtain ⟨a, v0, b, rfl⟩ := split_find hfm
    obtain ⟨w', h3, h4, h5⟩ := hm.delRun ht ty
    rw [show (v0, f).2.path = p from hfp] at h3
    refine ⟨w', h3, ⟨_, h4, fun q => ?_⟩, h5⟩
    have hn := hm.nodupE
    rw [List.map_append, List.map_cons] at hn
    rw [List.map_append]
    unfold delL
    rw [findE_out hn, ← h2, List.map_append, List.map_cons, show (v0, f).2.path = p from hfp]
theorem MapR.len (h : MapR S w mb R) {ps : List ByteArray} (hps : ∀ p, (R p).isSome = true → p ∈ ps) (ht : Tryz.prog.underlying t = some (.map 9 48)) (ty : TypeId) :
    ∃ n : Nat, n ≤ ps.length ∧ (Builtin.len_ #[t] ty #[.map (some mb)]).run Tryz.prog w = .ok (.int .i64 (n : Int)) w := by
  obtain ⟨xs, hm, h2⟩ := h
  refine ⟨xs.length, ?_, by have := hm.map.len ht ty; rw [List.length_map] at this; exact this⟩
  have := nodup_length (l := (xs.map Prod.snd).map Ent.path) (m := ps) hm.nodupE fun p hp => hps p (by
    obtain ⟨e, he, rfl⟩ := List.mem_map.1 hp
    rw [← h2, findE_mem hm.nodupE he]; rfl)
  simpa using this
theorem MapR.made (S : Nat → Prop) (w : World) (hf : ¬ S w.heap.size) : MapR S (w.alloc (.map #[] 0)) w.heap.size (fun _ => none) := ⟨[], MapE.made S w hf, fun _ => rfl⟩
end
/-- What a list of entries answers. -/
theorem putL_snoc {L : List Ent} {e : Ent} (h : ∀ f ∈ L, f.path ≠ e.path) : putL (findE L) e = findE (L ++ [e]) := by
  funext q
  unfold putL
  by_cases hq : q = e.path
  · subst hq
    rw [if_pos rfl, findE_app_none (find_none_iff.2 h)]
    simp [findE]
  · rw [if_neg hq]
    cases hg : findE L q with
    | some f => rw [findE_app_some hg]
    | none => rw [findE_app_none hg]; simp [findE, Ne.symm hq]

/- Sets of paths. -/
def boolP (p : ByteArray) : Value × Value := (.string p, .bool true)
def SetR (w : World) (mb : Nat) (K : ByteArray → Bool) : Prop := ∃ ps : List ByteArray, MapS Tryz.prog 9 w mb (ps.map boolP) ∧ (∀ p ∈ ps, p.size ≤ maxLen) ∧ ∀ p, p ∈ ps ↔ K p = true
def addK (K : ByteArray → Bool) (p : ByteArray) : ByteArray → Bool := fun q => decide (q = p) || K q
def delK (K : ByteArray → Bool) (p : ByteArray) : ByteArray → Bool := fun q => decide (q ≠ p) && K q
section
variable {w w' : World} {mb : Nat} {K : ByteArray → Bool} {t : TypeId}
theorem bool_new {ps : List ByteArray} {p : ByteArray} (h : p ∉ ps) : ∀ q ∈ ps.map boolP, q.1 ≠ Value.string p := by
  intro q hq
  obtain ⟨x, hx, rfl⟩ := List.mem_map.1 hq
  intro e
  simp only [boolP, Value.string.injEq] at e
  exact h (e ▸ hx)
theorem SetR.lt (h : SetR w mb K) : mb < w.heap.size := by obtain ⟨_, h, _⟩ := h; exact h.lt
theorem SetR.same (h : SetR w mb K) (hs : w'.heap[mb]? = w.heap[mb]?) : SetR w' mb K := by obtain ⟨ps, h1, h2⟩ := h; exact ⟨ps, h1.same hs, h2⟩
theorem SetR.below (h : SetR w mb K) (hb : Below w.heap.size w w') : SetR w' mb K := h.same (hb.block mb h.lt)
theorem SetR.other {nb : Nat} (h : SetR w mb K) (hg : w.grownBy w' (some nb)) (hne : mb ≠ nb) : SetR w' mb K := h.same (hg.block mb h.lt fun e => hne (Option.some.inj e))
theorem SetR.made (w : World) : SetR (w.alloc (.map #[] 0)) w.heap.size (fun _ => false) := ⟨[], MapS.made w, by simp, by simp⟩
theorem SetR.get (h : SetR w mb K) (ht : Tryz.prog.underlying t = some (.map 9 4)) (hz : (zeroValue 4).run Tryz.prog w = .ok (.bool false) w) {p : ByteArray} (hp : p.size ≤ maxLen) :
    (Instr.lookup t (.map (some mb)) (.string p) false).run Tryz.prog w = .ok (.bool (K p)) w := by
  obtain ⟨ps, hm, h2, h3⟩ := h
  cases hK : K p with
  | true => exact hm.is.hit lawStr20 ht (keyStr20 hp) (List.mem_map.2 ⟨p, (h3 p).2 hK, rfl⟩) false
  | false => exact hm.is.miss lawStr20 ht hz (keyStr20 hp) (bool_new fun hc => by rw [(h3 p).1 hc] at hK; cases hK) false
theorem SetR.put (h : SetR w mb K) (ht : Tryz.prog.underlying t = some (.map 9 4)) {p : ByteArray} (hp : p.size ≤ maxLen) :
    ∃ w', (Instr.mapUpdate t (.map (some mb)) (.string p) (.bool true)).run Tryz.prog w = .ok () w' ∧ SetR w' mb (addK K p) ∧ w.grownBy w' (some mb) := by
  obtain ⟨ps, hm, h2, h3⟩ := h
  cases hK : K p with
  | true =>
    obtain ⟨a, b, rfl⟩ := List.append_of_mem ((h3 p).2 hK)
    rw [List.map_append, List.map_cons] at hm
    obtain ⟨w', h4, h5, h6⟩ := MapS.over (key := .string p) (old := .bool true) hm lawStr20 ht (.bool true)
    refine ⟨w', h4, ⟨a ++ p :: b, by rw [List.map_append, List.map_cons]; exact h5, h2, fun q => ?_⟩, h6⟩
    rw [h3]
    unfold addK
    by_cases hq : q = p
    · subst hq; simp [hK]
    · simp [hq]
  | false =>
    have hn : p ∉ ps := fun hc => by rw [(h3 p).1 hc] at hK; cases hK
    obtain ⟨w', h4, h5, h6⟩ := hm.put lawStr20 ht (keyStr20 hp) (bool_new hn) (.bool true)
    refine ⟨w', h4, ⟨ps ++ [p], by rw [List.map_append]; exact h5, fun q hq => ?_, fun q => ?_⟩, h6⟩
    · rcases List.mem_append.1 hq with hq | hq
      · exact h2 q hq
      · rw [List.mem_singleton.1 hq]; exact hp
    · rw [List.mem_append, h3, List.mem_singleton]
      unfold addK
      rw [Bool.or_eq_true, decide_eq_true_eq]
      exact Or.comm
theorem SetR.del (h : SetR w mb K) (ht : Tryz.prog.underlying t = some (.map 9 4)) {p : ByteArray} (hp : p.size ≤ maxLen) (ty : TypeId) :
    ∃ w', (Builtin.delete_ #[t, 9] ty #[.map (some mb), .string p]).run Tryz.prog w = .ok (.tuple #[]) w' ∧ SetR w' mb (delK K p) ∧ w.grownBy w' (some mb) := by
  obtain ⟨ps, hm, h2, h3⟩ := h
  cases hK : K p with
  | false =>
    have hn : p ∉ ps := fun hc => by rw [(h3 p).1 hc] at hK; cases hK
    obtain ⟨w', h4, h5, h6⟩ := hm.delMiss lawStr20 ht (keyStr20 hp) (bool_new hn) ty
    refine ⟨w', h4, ⟨ps, h5, h2, fun q => ?_⟩, h6⟩
    rw [h3]
    unfold delK
    by_cases hq : q = p
    · subst hq; simp [hK]
    · simp [hq]
  | true =>
    have hnd := hm.nodup
    obtain ⟨a, b, rfl⟩ := List.append_of_mem ((h3 p).2 hK)
    rw [List.map_append, List.map_cons] at hm
    obtain ⟨w', h4, h5, h6⟩ := MapS.del (key := .string p) (old := .bool true) hm lawStr20 ht ty
    refine ⟨w', h4, ⟨a ++ b, by rw [List.map_append]; exact h5, fun q hq => h2 q (by rcases List.mem_append.1 hq with h | h <;> simp [h]), fun q => ?_⟩, h6⟩
    have hn : (a ++ p :: b).Nodup := by
      rw [List.map_map] at hnd
      unfold List.Nodup at hnd ⊢
      rw [List.pairwise_map] at hnd
      exact hnd.imp fun h e => h (by rw [e])
    have hnp : p ∉ a ++ b := by
      intro hc
      obtain ⟨_, n2, n3⟩ := List.nodup_append.1 hn
      rcases List.mem_append.1 hc with hc | hc
      · exact n3 p hc p (List.mem_cons_self ..) rfl
      · exact (List.nodup_cons.1 n2).1 hc
    unfold delK
    rw [Bool.and_eq_true, decide_eq_true_eq, ← h3]
    constructor
    · intro hq
      exact ⟨fun e => hnp (e ▸ hq), by rcases List.mem_append.1 hq with h | h <;> simp [h]⟩
    · rintro ⟨hne, hq⟩
      rcases List.mem_append.1 hq with h | h
      · simp [h]
      · rcases List.mem_cons.1 h with h | h
        · exact absurd h hne
        · simp [h]
end

end Go.Proofs.YtdieneaillkbgaaGreatDoor

/- pathname.Compare draws and lays nothing: the order for a sort. -/
namespace Go.Proofs.YtdieneaillkbgaaGreatDoor
open Go.RowKit Go.Shelf Go.Lib Go.Sort

theorem drew_more {a w : World} (h : ∃ n, w = a.drewN n) (m : Nat) : ∃ n, w.drewN m = a.drewN n := by
  obtain ⟨n, rfl⟩ := h
  exact ⟨n + m, by rw [World.drewN_drewN]⟩
set_option maxHeartbeats 400000 in
theorem compare_drew (a b : ByteArray) (w : World) (ha : a.size ≤ 9223372036854775807) :
    Calls Tryz.prog 52 #[.string a, .string b] w fun e w' => e = .returned (.int .i64 (cmpL (bl a) (bl b))) ∧ ∃ n, w' = w.drewN n := by
  go_enter Tryz.func52, Tryz.ntmps52
  go_wp2_with fail
  obtain ⟨m, hm⟩ : ∃ m : Nat, min (a.size : Int) (b.size : Int) = m := ⟨min a.size b.size, by omega⟩
  have hm1 : m ≤ a.size := by omega
  have hm2 : m ≤ b.size := by omega
  have hm3 : m = a.size ∨ m = b.size := by omega
  rw [hm]
  have HM := Lib.hid hm3
  clear hm hm3
  go_loopw [12] (fun i wr => ∃ k : Nat, k ≤ m ∧ i = .int .i64 k ∧ (∃ n, wr = w.drewN n) ∧ cmpL (bl a) (bl b) = cmpL ((bl a).drop k) ((bl b).drop k)) (fun i _ => m - (intOf i).toNat)
  case atStart => exact ⟨0, Nat.zero_le _, rfl, ⟨0, rfl⟩, rfl⟩
  case round =>
    obtain ⟨k, hk, rfl, hbw, hc⟩ := hrel
    have HC := Lib.hid hc
    have HB := Lib.hid hbw
    clear hc hbw
    by_cases hlt : k < m
    · have h1 : (k : Int) < (a.size : Int) := by omega
      have h2 : (k : Int) < (b.size : Int) := by omega
      have h3 : k < a.size := by omega
      have h4 : k < b.size := by omega
      by_cases hq : a[k] = b[k]
      · have hq2 : (((a[k]).toNat : Int) != (b[k]).toNat) = false := by simp [hq]
        have HQ := Lib.hid hq
        clear hq
        go_wp2_with fail
        go_quiet (fail)
        go_wp2_with fail
        go_roundw
        case rel =>
          refine ⟨k + 1, by omega, by go_num, drew_more HB.out nq, ?_⟩
          rw [HC.out]
          refine cmp_take (by rw [← size_bl]; exact h3) (by rw [← size_bl]; exact h4) ?_
          rw [← byte_bl, ← byte_bl]; exact HQ.out
        case measure => simp [intOf]; omega
      · have hq2 : (((a[k]).toNat : Int) != (b[k]).toNat) = true := by
          rw [bne_iff_ne]; intro e; apply hq; exact UInt8.toNat_inj.1 (by omega)
        have HQ := Lib.hid hq
        clear hq
        go_wp2_with fail
        go_quiet (fail)
        go_wp2_with fail
        have hW : ∃ W, W = wr.drewN nq ∧ (∃ n, W = w.drewN n) := ⟨_, rfl, drew_more HB.out nq⟩
        obtain ⟨W, hWe, hWb⟩ := hW
        rw [← hWe]
        have HB2 := Lib.hid hWb
        clear hWe hWb HB
        have hr1 := (a[k]).toNat_lt
        have hr2 := (b[k]).toNat_lt
        go_quiet ((first | (go_at_call 80; refine quietL (rank_any _ _ (by omega) (by omega))) | (go_at_call 81; refine quietL (compareInt_any _ _ _))))
        go_wp2_with fail
        go_ret
        refine ⟨ret_int ?_, drew_more HB2.out _⟩
        rw [rank_int, rank_int, HC.out, cmp_stop (by rw [← size_bl]; exact h3) (by rw [← size_bl]; exact h4) (by rw [← byte_bl, ← byte_bl]; exact HQ.out), ← byte_bl, ← byte_bl]
    · go_wp2_with (go_at_call 81; refine (compareInt_any _ _ _).mono ?_; rintro e w' ⟨rfl, rfl⟩)
      go_ret
      refine ⟨ret_int ?_, HB.out⟩
      have hM := HM.out
      rw [HC.out, cmp_end (by rw [← size_bl]; omega) (by rw [← size_bl]; omega) (by rw [← size_bl, ← size_bl]; omega), ← size_bl, ← size_bl]



/- Paths as a sort's elements. -/
abbrev SPath := {s : ByteArray // s.size ≤ 9223372036854775807}
instance : Inhabited SPath := ⟨⟨ByteArray.empty, by decide⟩⟩
def encP (s : SPath) : Value := .string s.1
def cmpS (a b : SPath) : Int := cmpL (bl a.1) (bl b.1)
theorem ltS (a b : SPath) : ltOf cmpS a b = decide (cmpS a b < 0) := rfl
theorem ltT (a b : SPath) : ltOf cmpS a b = true ↔ cmpL (bl a.1) (bl b.1) < 0 := by rw [ltS, decide_eq_true_eq]; rfl
theorem ltF (a b : SPath) : ltOf cmpS a b = false ↔ ¬ cmpL (bl a.1) (bl b.1) < 0 := by rw [ltS, decide_eq_false_iff_not]; rfl
theorem swoS : SWO (ltOf cmpS) where
  irrefl x := by
    rw [ltS]
    have := (cmp_zero (bl x.1) (bl x.1)).2 rfl
    simp [cmpS, this]
  trans x y z h1 h2 := by
    rw [ltT] at h1 h2 ⊢
    obtain ⟨h3, h4⟩ := cmp_trans (bl x.1) (bl y.1) (bl z.1) (by omega) (by omega)
    rcases Int.lt_or_eq_of_le h3 with h | h
    · exact h
    · have := (h4 h).1; omega
  ntrans x y z h1 h2 := by
    rw [ltF] at h1 h2 ⊢
    have e1 := cmp_neg (bl x.1) (bl y.1)
    have e2 := cmp_neg (bl y.1) (bl z.1)
    have e3 := cmp_neg (bl x.1) (bl z.1)
    have := (cmp_trans (bl z.1) (bl y.1) (bl x.1) (by omega) (by omega)).1
    omega
theorem totS (x y : SPath) (h1 : ltOf cmpS x y = false) (h2 : ltOf cmpS y x = false) : x = y := by
  rw [ltF] at h1 h2
  have e1 := cmp_neg (bl x.1) (bl y.1)
  exact Subtype.ext (bl_inj ((cmp_zero _ _).1 (by omega)))
theorem cmpReadsS (blk off size : Nat) (w : World) : CmpReads Tryz.prog 52 #[] encP cmpS blk off size w := fun _ _ _ _ x y => compare_drew x.1 y.1 _ x.2
end Go.Proofs.YtdieneaillkbgaaGreatDoor

/- Trees in memory: what a Remove and a Move leave. -/
namespace Go.Proofs.YtdieneaillkbgaaGreatDoor
open Go Go.RowKit Go.Maps

def struckE (xs : List VEnt) (ps : List ByteArray) : List VEnt := xs.filter fun x => !hasP ps x.2.path
theorem struck_nil (xs : List VEnt) : struckE xs [] = xs := by
  unfold struckE
  rw [List.filter_eq_self]
  intro x _
  rfl
theorem struck_mem {xs : List VEnt} {ps : List ByteArray} {x : VEnt} : x ∈ struckE xs ps ↔ x ∈ xs ∧ x.2.path ∉ ps := by
  unfold struckE
  rw [List.mem_filter, Bool.not_eq_true', Bool.eq_false_iff, ne_eq, hasP_iff]
theorem struck_snoc (xs : List VEnt) (ps : List ByteArray) (p : ByteArray) : struckE xs (ps ++ [p]) = (struckE xs ps).filter (fun x => decide (x.2.path ≠ p)) := by
  unfold struckE
  rw [List.filter_filter]
  apply List.filter_congr
  intro x _
  unfold hasP
  rw [List.any_append]
  by_cases h : p = x.2.path
  · subst h; simp
  · have h' : ¬ x.2.path = p := fun e => h e.symm
    simp [h, h']
theorem struck_step {xs : List VEnt} (hn : (xs.map (fun x => x.2.path)).Nodup) {ps : List ByteArray} {x0 : VEnt} (hx : x0 ∈ xs) (hp : x0.2.path ∉ ps) : ∃ a b, struckE xs ps = a ++ x0 :: b ∧ a ++ b = struckE xs (ps ++ [x0.2.path]) := by
  have hm : x0 ∈ struckE xs ps := struck_mem.2 ⟨hx, hp⟩
  obtain ⟨a, b, hab⟩ := List.append_of_mem hm
  refine ⟨a, b, hab, ?_⟩
  rw [struck_snoc, hab]
  have hn2 : ((struckE xs ps).map (fun x => x.2.path)).Nodup := hn.sublist (List.filter_sublist.map _)
  rw [hab, List.map_append, List.map_cons, List.nodup_append] at hn2
  obtain ⟨_, h2, h3⟩ := hn2
  rw [List.nodup_cons] at h2
  rw [List.filter_append, List.filter_cons]
  have ha : a.filter (fun x => decide (x.2.path ≠ x0.2.path)) = a := by
    rw [List.filter_eq_self]
    intro x hx
    simp only [decide_eq_true_eq]
    intro e
    exact h3 x.2.path (List.mem_map.2 ⟨x, hx, rfl⟩) x0.2.path (by simp) e
  have hb : b.filter (fun x => decide (x.2.path ≠ x0.2.path)) = b := by
    rw [List.filter_eq_self]
    intro x hx
    simp only [decide_eq_true_eq]
    intro e
    exact h2.1 (List.mem_map.2 ⟨x, hx, e⟩)
  rw [ha, hb]
  simp
section
variable {S S' : Nat → Prop} {w w' : World} {tb mb : Nat} {L : List Ent} {xs : List VEnt} {t : TypeId}
theorem struck_snd (xs : List VEnt) (ps : List ByteArray) : (struckE xs ps).map Prod.snd = (xs.map Prod.snd).filter (fun e => !hasP ps e.path) := by
  unfold struckE
  rw [List.filter_map]
  rfl
theorem remove_is {L : List Ent} {p : ByteArray} {below : Bool} (h0 : (removeP L p below).2 = 0) : (∃ f, findE L p = some f) ∧ (removeP L p below).1 = L.filter (fun e => !inB p e) := by
  unfold removeP at h0 ⊢
  split at h0
  · simp at h0
  rename_i h1
  rw [if_neg h1]
  split at h0
  · simp at h0
  rename_i h2
  rw [if_neg h2]
  split at h0
  · simp at h0
  rename_i h3
  rw [if_neg h3]
  refine ⟨?_, rfl⟩
  cases hf : findE L p with
  | none => rw [hf] at h2; simp at h2
  | some f => exact ⟨f, rfl⟩
/-- The tree when the entries within p are struck out. -/
theorem TreeAt.removed (h : TreeAt S w tb mb L) {p : ByteArray} {below : Bool} (h0 : (removeP L p below).2 = 0) (hperm : (xs.map Prod.snd).Perm L) (hm : MapE S w' mb (struckE xs ((atP L p).map Ent.path))) (hg : w.grownBy w' (some mb)) : TreeAt S w' tb mb (removeP L p below).1 := by
  obtain ⟨⟨f, hf⟩, h1⟩ := remove_is h0
  refine ⟨hg.cell h.cell (fun e => h.ne (Option.some.inj e)), h.ne, h.far, fun k hk => Nat.lt_of_lt_of_le (h.lt k hk) hg.size, removeP_ok h.ok p below, _, hm, ?_⟩
  rw [h1, struck_snd]
  exact perm_removed h.ok hperm hf
/-- The tree when they stand at their new paths. -/
theorem TreeAt.moved (h : TreeAt S w tb mb L) {s d : ByteArray} (hv : Mv L s d) (hperm : (xs.map Prod.snd).Perm L) {ys : List VEnt} (hy : ys.map Prod.snd = (atP L s).map (moveE s d)) (hm : MapE S w' mb (struckE xs ((atP L s).map Ent.path) ++ ys)) (hg : w.grownBy w' (some mb)) : TreeAt S w' tb mb (moveP L s d).1 := by
  obtain ⟨f, hf⟩ := hv.is
  refine ⟨hg.cell h.cell (fun e => h.ne (Option.some.inj e)), h.ne, h.far, fun k hk => Nat.lt_of_lt_of_le (h.lt k hk) hg.size, moveP_ok h.ok s d, _, hm, ?_⟩
  rw [move_by hv, List.map_append, struck_snd, hy]
  exact (perm_moved h.ok hperm d hf).trans (sortP_perm _).symm
/-- A new tree. -/
theorem TreeAt.made (h : w.cell? ⟨tb, 0, none⟩ = some (.map (some mb))) (hne : tb ≠ mb) (hf : ¬ S tb) (hl : ∀ k, S k → k < w.heap.size) (hm : MapE S w mb []) : TreeAt S w tb mb [] := ⟨h, hne, hf, hl, TOk.nil, [], hm, List.Perm.refl _⟩
/-- Paths of entries of a sorted tree, each once. -/
theorem at_nodup (h : TOk L) (p : ByteArray) : ((atP L p).map Ent.path).Nodup := (atP_sorted h p).nodup
end

end Go.Proofs.YtdieneaillkbgaaGreatDoor

/- Contracts of package filetree: validLink, valid, New; bytes.Clone. -/
namespace Go.Proofs.YtdieneaillkbgaaGreatDoor
open Go.RowKit

theorem cell20 {w : World} {b k : Nat} {cs : Array Value} {t : TypeId} {x : Nat × Nat} (h : w.heap[b]? = some (.cells cs t x)) : w.cell? ⟨b, k, none⟩ = cs[k]? := by simp [World.cell?, h]
theorem indexByte20 (s : ByteArray) (w : World) : Calls Tryz.prog 100 #[.string s, .int .u8 0] w fun e w' => e = .returned (.int .i64 (Lib.indexByte (bl s) 0)) ∧ w = w' :=
  (Tryz.strings_IndexByte s 0 w).mono fun _ _ ⟨he, hw⟩ => ⟨he, hw.symm⟩
set_option maxHeartbeats 1000000 in
theorem validLink_any (s : ByteArray) (w : World) (hs : s.size ≤ maxLen) : Calls Tryz.prog 87 #[.string s] w fun e w' => e = .returned (.bool (vLinkB (bl s))) ∧ w = w' := by
  unfold maxLen at hs
  have HX := Lib.hid (show vLinkB (bl s) = (decide (1 ≤ s.size) && decide (s.size ≤ 512) && !(bl s).contains 0) by unfold vLinkB; rw [size_bl])
  have HI := Lib.hid (indexByte_contains (bl s) 0)
  go_enter Tryz.func87, Tryz.ntmps87
  go_wp2_with (go_at_call 100; refine (indexByte20 s _).mono ?_; rintro e w3 ⟨rfl, rfl⟩)
  · go_ret
    refine ⟨ret_bool ?_, rfl⟩
    have z1 : decide (1 ≤ s.size) = true := by simp; omega
    have z2 : decide (s.size ≤ 512) = true := by simp; omega
    rw [HX.out, z1, z2, ← HI.out]
    rw [Bool.eq_iff_iff]
    simp
  · go_ret
    refine ⟨ret_bool ?_, rfl⟩
    have z2 : decide (s.size ≤ 512) = false := by simp; omega
    rw [HX.out, z2]
    simp
  · go_ret
    refine ⟨ret_bool ?_, rfl⟩
    have z1 : decide (1 ≤ s.size) = false := decide_eq_false (by omega)
    rw [HX.out, z1]
    simp
theorem valid20_is (s : ByteArray) (b : Bool) (w : World) (he : Env w) (h : validP (bl s) = b) : Calls Tryz.prog 86 #[.string s] w fun e w' => e = .returned (.bool b) ∧ Below w.heap.size w w' := by
  rw [← h]; exact valid_any s w he
set_option maxRecDepth 100000 in
set_option maxHeartbeats 2000000 in
theorem validE_any (S : Nat → Prop) (en : Ent) (v : Value) (w : World) (hd : DataAt S w v en.data) (hok : EntOk en) (henv : Env w) : Calls Tryz.prog 63 #[entV v en] w fun e w' => e = .returned (.bool (vEnt en)) ∧ Below w.heap.size w w' := by
  obtain ⟨_, a, cap, rfl, hc, hm, -⟩ := hd
  unfold maxLen at hm
  have HE := Lib.hid henv
  have HO := Lib.hid hok
  have hq1 := hok.pth
  have hq2 := hok.lnk
  unfold maxLen at hq1 hq2
  have HL := Lib.hid (show en.link.toList.isEmpty = decide (en.link.size = 0) by rw [toList_bl, size_bl, Bool.eq_iff_iff]; simp)
  clear henv hok
  unfold entV
  cases hv : validP (bl en.path)
  · have HVP := Lib.hid hv
    clear hv
    go_enter Tryz.func63, Tryz.ntmps63
    go_wp2_with fail
    obtain ⟨W, hW⟩ : ∃ W, W = w.alloc (.cells #[.string en.path, .int .i64 en.kind, .int .i64 en.mode, .int .i64 en.time, .slice a en.data.length cap, .string en.link] 48) := ⟨_, rfl⟩
    rw [← hW]
    have HBW := Lib.hid (show Below w.heap.size w W by rw [hW]; exact (Below.refl _ _).alloc (Nat.le_refl _) _)
    have HBX := Lib.hid (show W.heap[w.heap.size]? = some (.cells #[.string en.path, .int .i64 en.kind, .int .i64 en.mode, .int .i64 en.time, .slice a en.data.length cap, .string en.link] 48 (0, 0)) by rw [hW]; exact heap_alloc_new w _)
    clear hW
    refine (valid20_is en.path false _ (HE.out.below HBW.out) HVP.out).mono ?_
    rintro e w1 ⟨rfl, hb1⟩
    have HB1 := Lib.hid (below_next HBW.out hb1)
    clear hb1
    go_wp2_with fail
    go_ret
    exact ⟨ret_bool (by simp [vEnt, HVP.out]), HB1.out⟩
  · have HVP := Lib.hid hv
    clear hv
    by_cases hmt : 0 ≤ en.mode ∧ en.mode ≤ 511 ∧ 0 ≤ en.time
    · have HH := Lib.hid (show vEnt en = vKind en by obtain ⟨x1, x2, x3⟩ := hmt; unfold vEnt vHeadE; rw [HVP.out]; simp [x1, x2, x3])
      obtain ⟨hm1, hm2, hm3⟩ := hmt
      go_enter Tryz.func63, Tryz.ntmps63
      go_wp2_with fail
      obtain ⟨W, hW⟩ : ∃ W, W = w.alloc (.cells #[.string en.path, .int .i64 en.kind, .int .i64 en.mode, .int .i64 en.time, .slice a en.data.length cap, .string en.link] 48) := ⟨_, rfl⟩
      rw [← hW]
      have HBW := Lib.hid (show Below w.heap.size w W by rw [hW]; exact (Below.refl _ _).alloc (Nat.le_refl _) _)
      have HBX := Lib.hid (show W.heap[w.heap.size]? = some (.cells #[.string en.path, .int .i64 en.kind, .int .i64 en.mode, .int .i64 en.time, .slice a en.data.length cap, .string en.link] 48 (0, 0)) by rw [hW]; exact heap_alloc_new w _)
      clear hW
      refine (valid20_is en.path true _ (HE.out.below HBW.out) HVP.out).mono ?_
      rintro e w1 ⟨rfl, hb1⟩
      have HBXr := Lib.hid ((hb1.block w.heap.size ((Array.getElem?_eq_some_iff.1 HBX.out).1)).trans HBX.out)
      have HB1 := Lib.hid (below_next HBW.out hb1)
      have hlt1 : w.heap.size < w1.heap.size := (Array.getElem?_eq_some_iff.1 HBXr.out).1
      have c0 := cell20 (k := 0) HBXr.out
      have c1 := cell20 (k := 1) HBXr.out
      have c2 := cell20 (k := 2) HBXr.out
      have c3 := cell20 (k := 3) HBXr.out
      have c4 := cell20 (k := 4) HBXr.out
      have c5 := cell20 (k := 5) HBXr.out
      simp only [List.getElem?_toArray, List.getElem?_cons_succ, List.getElem?_cons_zero] at c0 c1 c2 c3 c4 c5
      clear hb1 HBX
      by_cases hk1 : en.kind = 1
      · have e1 : (en.kind == 1) = true := by simp [hk1]
        have HK := Lib.hid (show vKind en = (decide (en.data.length ≤ 1048576) && decide (en.link.size = 0)) by unfold vKind; rw [if_pos hk1])
        clear hk1
        go_wp2_with fail
        · go_ret
          refine ⟨ret_bool ?_, HB1.out⟩
          rw [HH.out, HK.out, HL.out, decide_eq_true (p := en.data.length ≤ 1048576) (by omega)]
          rfl
        · go_ret
          refine ⟨ret_bool ?_, HB1.out⟩
          rw [HH.out, HK.out, decide_eq_false (p := en.data.length ≤ 1048576) (by omega)]
          rfl
      · have e1 : (en.kind == 1) = false := by simp [hk1]
        by_cases hk2 : en.kind = 2
        · have e2 : (en.kind == 2) = true := by simp [hk2]
          have HK := Lib.hid (show vKind en = (decide (en.data.length = 0) && decide (en.link.size = 0)) by unfold vKind; rw [if_neg hk1, if_pos hk2])
          clear hk1 hk2
          go_wp2_with fail
          · go_ret
            refine ⟨ret_bool ?_, HB1.out⟩
            rw [HH.out, HK.out, HL.out, decide_eq_true (p := en.data.length = 0) (by have h : en.data = [] := by assumption
                                                                                     rw [h]; rfl)]
            rfl
          · go_ret
            refine ⟨ret_bool ?_, HB1.out⟩
            rw [HH.out, HK.out, decide_eq_false (p := en.data.length = 0) (fun h => absurd (List.eq_nil_of_length_eq_zero h) (by assumption))]
            rfl
        · have e2 : (en.kind == 2) = false := by simp [hk2]
          by_cases hk3 : en.kind = 3
          · have e3 : (en.kind == 3) = true := by simp [hk3]
            have HK := Lib.hid (show vKind en = (decide (en.data.length = 0) && vLinkB (bl en.link)) by unfold vKind; rw [if_neg hk1, if_neg hk2, if_pos hk3])
            clear hk1 hk2 hk3
            go_wp2_with (go_at_call 87; refine (validLink_any en.link _ HO.out.lnk).mono ?_; rintro e w3 ⟨rfl, rfl⟩)
            · go_ret
              refine ⟨ret_bool ?_, HB1.out⟩
              rw [HH.out, HK.out, decide_eq_true (p := en.data.length = 0) (by have h : en.data = [] := by assumption
                                                                               rw [h]; rfl)]
              rfl
            · go_ret
              refine ⟨ret_bool ?_, HB1.out⟩
              rw [HH.out, HK.out, decide_eq_false (p := en.data.length = 0) (fun h => absurd (List.eq_nil_of_length_eq_zero h) (by assumption))]
              rfl
          · have e3 : (en.kind == 3) = false := by simp [hk3]
            have HK := Lib.hid (show vKind en = false by unfold vKind; rw [if_neg hk1, if_neg hk2, if_neg hk3])
            clear hk1 hk2 hk3
            go_wp2_with fail
            go_ret
            exact ⟨ret_bool (by rw [HH.out, HK.out]), HB1.out⟩
    · have HF := Lib.hid (show vEnt en = false by
        have : vHeadE en = false := by
          unfold vHeadE; rw [Bool.eq_false_iff]; simp; omega
        unfold vEnt; rw [this]; simp)
      go_enter Tryz.func63, Tryz.ntmps63
      go_wp2_with fail
      obtain ⟨W, hW⟩ : ∃ W, W = w.alloc (.cells #[.string en.path, .int .i64 en.kind, .int .i64 en.mode, .int .i64 en.time, .slice a en.data.length cap, .string en.link] 48) := ⟨_, rfl⟩
      rw [← hW]
      have HBW := Lib.hid (show Below w.heap.size w W by rw [hW]; exact (Below.refl _ _).alloc (Nat.le_refl _) _)
      have HBX := Lib.hid (show W.heap[w.heap.size]? = some (.cells #[.string en.path, .int .i64 en.kind, .int .i64 en.mode, .int .i64 en.time, .slice a en.data.length cap, .string en.link] 48 (0, 0)) by rw [hW]; exact heap_alloc_new w _)
      clear hW
      refine (valid20_is en.path true _ (HE.out.below HBW.out) HVP.out).mono ?_
      rintro e w1 ⟨rfl, hb1⟩
      have HBXr := Lib.hid ((hb1.block w.heap.size ((Array.getElem?_eq_some_iff.1 HBX.out).1)).trans HBX.out)
      have HB1 := Lib.hid (below_next HBW.out hb1)
      have hlt1 : w.heap.size < w1.heap.size := (Array.getElem?_eq_some_iff.1 HBXr.out).1
      have c0 := cell20 (k := 0) HBXr.out
      have c1 := cell20 (k := 1) HBXr.out
      have c2 := cell20 (k := 2) HBXr.out
      have c3 := cell20 (k := 3) HBXr.out
      have c4 := cell20 (k := 4) HBXr.out
      have c5 := cell20 (k := 5) HBXr.out
      simp only [List.getElem?_toArray, List.getElem?_cons_succ, List.getElem?_cons_zero] at c0 c1 c2 c3 c4 c5
      clear hb1 HBX
      go_wp2_with fail
      all_goals first
        | (exfalso; omega)
        | (go_ret
           exact ⟨ret_bool (by rw [HF.out]), HB1.out⟩)

end Go.Proofs.YtdieneaillkbgaaGreatDoor

/- append with a whole slice behind it, onto a row that the call owns. -/
namespace Go.Proofs.YtdieneaillkbgaaGreatDoor
open Go Go.RowKit

theorem run_append_zero {P : Program} {w : World} (base : Nat) (t ty e : TypeId) (i : TypeInfo) (size : Nat) (ht : P.underlying t = some (.slice e)) (hi : P.info? e = some i)
    (v : Value) (n : Nat) (xs : List Value) (hown : w.ownsRow base e size v n xs) (a : Option Addr) (c : Nat) :
    (Builtin.append_ #[t, t] ty #[v, .slice a 0 c]).run P w = .ok v w := by
  rcases hown.2 with ⟨rfl, rfl⟩ | ⟨g, cap, cur, rfl, _, _, hnc, _⟩
  · cases a <;> simp [Builtin.append_, run_underlying ht, sizeOf, typeInfo, hi, Builtin.lenOf, Builtin.firstCells, loadCells, loadCellsFrom]
  · cases a <;> simp [Builtin.append_, run_underlying ht, sizeOf, typeInfo, hi, Builtin.lenOf, Builtin.firstCells, hnc, storeCells, loadCells, loadCellsFrom]
theorem wpList_appn {P : Program} {ops : Array Oper} {rest : List Oper} {o : Oper} {a : Act} {Q : Exit → Act → World → Prop} {w : World} {t e : TypeId} {sz bytes : Nat} {S : Nat → Prop} (T : AppTy P t e sz bytes) (hgd : o.guard = none) (s x : Operand)
    (ho : o.op = .call { callee := .builtin .append, args := #[s, x], argTypes := #[t, t] }) (base : Nat) (v : Value) (n : Nat) (xs : List Value) (hs : a.eval s = v) (hown : w.ownsRow base e sz v n xs) (vx : Value) (m : Nat) (news : List Value)
    (hx : a.eval x = vx) (hrow : RowAt S w sz vx m news) (h1 : ∀ u ∈ news, u.oneCell' = true) (hn : n + m < 1099511627775) (hbase : base ≤ w.heap.size)
    (h : ∀ v' w', w'.ownsRow base e sz v' (n + m) (xs ++ news) → w.grownBy w' v.ownBlock → wpList P ops Q rest (a.put o.dst v') w') : wpList P ops Q (o :: rest) a w := by
  obtain ⟨ht, ⟨i, z, h11, h12, h13, h14, h15⟩, hpos, hsm⟩ := T
  obtain ⟨hl, ad, cap, rfl, _, _, h0⟩ := hrow
  refine wpList_plain hgd fun K hK => ?_
  have hz : m = 0 → o.wp P a w K Q := by
    rintro rfl
    have hn0 : news = [] := List.eq_nil_of_length_eq_zero (by rw [hl]; simp)
    subst hn0
    have hrun := run_append_zero (P := P) (w := w) base t o.type e i sz ht h11 v n xs hown ad cap
    unfold Oper.wp execOp
    simp only [ho, resolve, invoke, builtin, Sem.run_bind, Sem.run_pure, Result.andThen_ok, List.map_toArray, List.map_cons, List.map_nil, hs, hx, hrun]
    exact hK _ _ (h v w (by simpa using hown) ⟨rfl, rfl, rfl, Nat.le_refl _, fun _ _ _ => rfl⟩)
  rcases h0 with h0 | ⟨b, of, rfl, _, hc⟩
  · exact hz h0
  · have hnews : ∀ (j : Nat) u, news[j]? = some u → w.cell? ((⟨b, of, none⟩ : Addr).add j) = some u := fun j u hj => by rw [add_lit]; exact hc j u hj
    have h63 : n + m ≤ maxLen := by unfold maxLen; omega
    have hby : (n + m) * bytes ≤ 140737488355328 := by
      have : (n + m) * bytes ≤ 1099511627775 * 128 := Nat.mul_le_mul (by omega) hsm
      omega
    obtain ⟨v', w', hr, h2, hg, _⟩ := run_append_own (P := P) w base t o.type e i z sz bytes ht h11 h12 h13 h14 h15 hpos v n xs hown ⟨b, of, none⟩ m cap news hl hnews h1 h63 hby hbase
    unfold Oper.wp execOp
    simp only [ho, resolve, invoke, builtin, Sem.run_bind, Sem.run_pure, Result.andThen_ok, List.map_toArray, List.map_cons, List.map_nil, hs, hx, hr]
    exact hK _ _ (h v' w' h2 hg)

end Go.Proofs.YtdieneaillkbgaaGreatDoor

/- Contracts of package filetree: bytes.Clone, copied. -/
namespace Go.Proofs.YtdieneaillkbgaaGreatDoor
open Go.RowKit

theorem clone_any (S : Nat → Prop) (v : Value) (bs : List UInt8) (w : World) (hd : DataAt S w v bs) (hl : bs.length ≤ 140737488355328) : Calls Tryz.prog 89 #[v] w fun e w' => ∃ v', e = .returned v' ∧ w'.ownsRow w.heap.size 5 1 v' bs.length (bs.map u8V) ∧ Below w.heap.size w w' := by
  obtain ⟨_, a, cap, rfl, hn, hm, h0⟩ := hd
  cases a with
  | none =>
    have hz : bs.length = 0 := by
      rcases h0 with h0 | ⟨b, o, ha, _⟩
      · exact h0
      · cases ha
    obtain rfl := List.eq_nil_of_length_eq_zero hz
    refine (Any.bytes_Clone_nil Tryz.laysClone _ _ w).mono ?_
    rintro e w' ⟨rfl, rfl⟩
    exact ⟨_, rfl, World.ownsRow_nil _ _ _ _, Below.refl _ _⟩
  | some a =>
    refine (Any.bytes_Clone_at Tryz.laysClone a bs.length cap (bs.map fun b => (b.toNat : Int)) w (by simp) hl ?_).mono ?_
    · intro i hi
      rcases h0 with h0 | ⟨b, o, ha, _, hc⟩
      · omega
      · cases ha
        rw [add_lit]
        refine hc i _ ?_
        simp [hi, u8V]
    · rintro e w' ⟨v', rfl, h1, _, h2⟩
      refine ⟨v', rfl, ?_, h2⟩
      rw [List.map_map] at h1
      exact h1
theorem data_of_owns {w : World} {base : Nat} {v : Value} {bs : List UInt8} (h : w.ownsRow base 5 1 v bs.length (bs.map u8V)) : DataAt (fun k => base ≤ k ∧ k < w.heap.size) w v bs :=
  RowAt.mono (row_of_owns h) (fun k hk hS => ⟨hS.1, hk⟩) (by omega)
theorem owns_le20 {w : World} {base base' size n : Nat} {e : TypeId} {v : Value} {xs : List Value} (h : w.ownsRow base e size v n xs) (hb : base' ≤ base) : w.ownsRow base' e size v n xs :=
  ⟨h.1, h.2.imp id (fun ⟨g, cap, cur, e1, h1, h2⟩ => ⟨g, cap, cur, e1, Nat.le_trans hb h1, h2⟩)⟩
theorem frozen20 {w : World} {b k : Nat} {cs : Array Value} {t : TypeId} (h : w.heap[b]? = some (.cells cs t (0, 0))) : w.frozen? ⟨b, k, none⟩ = false := by simp [World.frozen?, h]
theorem set20 {w : World} {b k : Nat} {cs : Array Value} {t : TypeId} (h : w.heap[b]? = some (.cells cs t (0, 0))) (x : Value) : (w.setCell ⟨b, k, none⟩ x).heap[b]? = some (.cells (cs.setIfInBounds k x) t (0, 0)) := by
  simp only [World.setCell, Array.getElem?_modify, if_true, h, Option.map_some]; rfl
theorem setOther20 {w : World} {b c k : Nat} {o : Obj} (h : w.heap[b]? = some o) (hne : b ≠ c) (x : Value) : (w.setCell ⟨c, k, none⟩ x).heap[b]? = some o := by
  rw [Below.heap_setCell _ _ _ _ hne]; exact h
theorem alloc20 {w : World} {b : Nat} {o : Obj} (h : w.heap[b]? = some o) (x : Obj) : (w.alloc x).heap[b]? = some o := by
  have hlt := (Array.getElem?_eq_some_iff.1 h).1
  rw [Below.heap_alloc _ _ _ hlt]; exact h
theorem new20 (w : World) (x : Obj) : (w.alloc x).heap[w.heap.size]? = some x := by show (w.heap.push x)[w.heap.size]? = some x; simp
theorem new20b (w : World) (x y : Obj) : ((w.alloc x).alloc y).heap[w.heap.size + 1]? = some y := by
  have := new20 (w.alloc x) y
  rwa [show (w.alloc x).heap.size = w.heap.size + 1 by show (w.heap.push x).size = _; simp] at this
theorem lt20 {w : World} {b : Nat} {o : Obj} (h : w.heap[b]? = some o) : b < w.heap.size := (Array.getElem?_eq_some_iff.1 h).1
theorem six20 {w : World} {b : Nat} {a0 a1 a2 a3 a4 a5 x0 x1 x2 x3 x4 x5 : Value} {t : TypeId} (h : w.heap[b]? = some (.cells #[a0, a1, a2, a3, a4, a5] t (0, 0))) :
    ((((((w.setCell ⟨b, 0, none⟩ x0).setCell ⟨b, 1, none⟩ x1).setCell ⟨b, 2, none⟩ x2).setCell ⟨b, 3, none⟩ x3).setCell ⟨b, 4, none⟩ x4).setCell ⟨b, 5, none⟩ x5).heap[b]? = some (.cells #[x0, x1, x2, x3, x4, x5] t (0, 0)) :=
  set20 (set20 (set20 (set20 (set20 (set20 h x0) x1) x2) x3) x4) x5
theorem below_set20 {B : Nat} {a w : World} {b k : Nat} {x : Value} (h : Below B a w) (hb : B ≤ b) : Below B a (w.setCell ⟨b, k, none⟩ x) := Below.setCell h hb x
end Go.Proofs.YtdieneaillkbgaaGreatDoor

/- Contracts of package filetree: same, New, parent. -/
namespace Go.Proofs.YtdieneaillkbgaaGreatDoor
open Go.RowKit

theorem conv_zero20 (a : Option Addr) (c : Nat) (w : World) : (convert 46 9 (.slice a 0 c)).run Tryz.prog w = .ok (.string ⟨#[]⟩) w := by cases a <;> kernel_rfl
theorem conv_data {S : Nat → Prop} {w : World} {v : Value} {bs : List UInt8} (hd : DataAt S w v bs) : (convert 46 9 v).run Tryz.prog w = .ok (.string (strOfNums (bs.map fun b => (b.toNat : Int)))) w := by
  obtain ⟨_, a, cap, rfl, hn, hm, h0⟩ := hd
  rcases h0 with h0 | ⟨b, o, rfl, _, hc⟩
  · obtain rfl := List.eq_nil_of_length_eq_zero h0
    exact conv_zero20 a cap w
  · exact run_convert_bytes_arg (P := Tryz.prog) w 46 5 Tryz.underlying46 Tryz.underlying5 b o bs.length cap (bs.map fun b => (b.toNat : Int)) (by simp) (fun i hi => by
      rw [hc i (u8V bs[i]) (by simp [hi])]
      simp [u8V, List.getD, hi]) 9 Tryz.underlying9
theorem equal20 (S T : Nat → Prop) (v1 v2 : Value) (bs cs : List UInt8) (w : World) (h1 : DataAt S w v1 bs) (h2 : DataAt T w v2 cs) : Calls Tryz.prog 85 #[v1, v2] w fun e w' => e = .returned (.bool (decide (bs = cs))) ∧ w = w' := by
  refine (Tryz.bytes_Equal v1 v2 _ _ w (conv_data h1) (conv_data h2)).mono ?_
  rintro e w' ⟨rfl, rfl⟩
  refine ⟨ret_bool ?_, rfl⟩
  have hb : ∀ l : List UInt8, Lib.bytesOf (l.map fun b => (b.toNat : Int)) = l := by
    intro l
    induction l with
    | nil => rfl
    | cons x l ih => simp [Lib.bytesOf] at ih ⊢; exact ih
  rw [hb, hb, Bool.eq_iff_iff]
  simp
end Go.Proofs.YtdieneaillkbgaaGreatDoor

/- Contracts of package filetree: New, parent. -/
namespace Go.Proofs.YtdieneaillkbgaaGreatDoor
open Go.RowKit Go.Maps

theorem zeroE_run (w : World) : (zeroValue 48).run Tryz.prog w = .ok zeroE w := by kernel_rfl
theorem mapTy : Tryz.prog.underlying 75 = some (.map 9 48) := Tryz.underlying75
theorem parent20 (p q : ByteArray) (w : World) (he : Env w) (hv : validP (bl p) = true) (hq : q = ⟨(parentL (bl p)).toArray⟩) :
    Calls Tryz.prog 64 #[.string p] w fun e w' => e = .returned (.tuple #[.string q, .bool true]) ∧ Below w.heap.size w w' := by
  rw [hq]; exact parent_any p w he hv
theorem empty20 (q : ByteArray) : q.toList.isEmpty = decide (bl q = []) := by rw [toList_bl, Bool.eq_iff_iff]; simp
end Go.Proofs.YtdieneaillkbgaaGreatDoor

/- A region that draws its order, cut into segments: within a segment the operations leave the world alone, and between segments there is one operation for which all earlier ones are waited for. Then the order of the text serves. -/
namespace Go.Proofs.YtdieneaillkbgaaGreatDoor
open Go

section
variable {P : Program} {ops : Array Oper} {md : Region.Mode} {w : World}

/-- Every operation before m is waited for by a later one up to m; every operation behind m waits for one from m on. -/
def cutB (md : Region.Mode) (ops : Array Oper) (m : Nat) : Bool :=
  ((List.range m).all fun i => decide (ops.size ≤ m) || (List.range (m + 1)).any fun j => decide (i < j) && Region.waitsFor md ops j i) &&
  ((List.range ops.size).all fun t => decide (t ≤ m) || (List.range t).any fun u => decide (m ≤ u) && Region.waitsFor md ops t u)

theorem cut_waits {m : Nat} {listed : Array Bool} (hc : cutB md ops m = true) (inv : HeadInv md ops m listed) :
    ∀ (d i : Nat), m - i = d → i < m → listed.getD i true = false → ∀ t, m ≤ t → t ∉ Region.ready md ops listed := by
  simp only [cutB, Bool.and_eq_true] at hc
  obtain ⟨hs, hch⟩ := hc
  intro d
  induction d using Nat.strongRecOn with
  | _ d ih =>
    intro i hd hi hun t ht hr
    obtain ⟨_, ot, hot, hall⟩ := mem_ready.1 hr
    have htlt : t < ops.size := (Array.getElem?_eq_some_iff.1 hot).1
    rcases Nat.lt_or_ge m t with htm | htm
    · have h1 := List.all_eq_true.1 hch t (List.mem_range.2 htlt)
      simp only [Bool.or_eq_true, decide_eq_true_eq] at h1
      rcases h1 with h1 | h1
      · omega
      · obtain ⟨u, hu, hu2⟩ := List.any_eq_true.1 h1
        simp only [Bool.and_eq_true, decide_eq_true_eq] at hu2
        obtain ⟨o', ho', e, he, hb, hon⟩ := Region.waitsFor_spec hu2.2
        have ho : o' = ot := Option.some.inj (ho'.symm.trans hot)
        subst ho
        have h2 := hall e he hb
        rw [hon, getD_both (inv.tail u hu2.1 (by have := List.mem_range.1 hu; omega))] at h2
        cases h2
    · have htm' : t = m := by omega
      subst htm'
      have h1 := List.all_eq_true.1 hs i (List.mem_range.2 hi)
      simp only [Bool.or_eq_true, decide_eq_true_eq] at h1
      rcases h1 with h1 | h1
      · omega
      · obtain ⟨j, hj, hj2⟩ := List.any_eq_true.1 h1
        simp only [Bool.and_eq_true, decide_eq_true_eq] at hj2
        obtain ⟨oj, hoj, e, he, hb, hon⟩ := Region.waitsFor_spec hj2.2
        have hjle := List.mem_range.1 hj
        rcases Nat.lt_or_ge j t with hjt | hjt
        · cases hl : listed.getD j false with
          | true =>
            have h2 := inv.closed j oj hoj hl e he hb
            rw [hon, getD_both hun] at h2
            cases h2
          | false =>
            exact ih (t - j) (by omega) j rfl hjt (getD_in (by rw [inv.size]; omega) hl) t (Nat.le_refl _) hr
        · have hjt' : j = t := by omega
          subst hjt'
          have ho : oj = ot := Option.some.inj (hoj.symm.trans hot)
          subst ho
          have h2 := hall e he hb
          rw [hon, getD_both hun] at h2
          cases h2

theorem seg_first {m i : Nat} {oi : Oper} {v : Value} {L : Array Bool → Act → Prop} (hi : ops[i]? = some oi) (hsel : ∀ (j : Nat) (o : Oper) cs b, ops[j]? = some o → o.op ≠ .select cs b)
    (hc : cutB md ops m = true) (hin : i < m) (hdone : ∀ listed a, L listed a → ∀ j ∈ Region.ready md ops listed, m ≤ j) :
    ∀ (f : Nat) (listed : Array Bool) (a : Act), HeadInv md ops m listed →
      (∀ j oj, ops[j]? = some oj → j ≠ i → listed.getD j true = false → (∀ e ∈ oj.after, Region.binds md e = true → e.on ≠ i) → oi.apart ops oj = true) →
      i ∈ Region.ready md ops listed → YieldsAt P ops w oi v a →
      wpAnyL P md ops w m L f (listed.setIfInBounds i true) (a.put oi.dst v) → wpAnyL P md ops w m L (f + 1) listed a := by
  intro f
  induction f with
  | zero =>
    intro listed a inv _ hr hy H
    have hun := (mem_ready.1 hr).1
    refine ⟨List.ne_nil_of_mem hr, fun j hj => ?_⟩
    have hjm : j < m := Nat.lt_of_not_le fun h => cut_waits hc inv _ i rfl hin hun j h hj
    refine ⟨hjm, ?_⟩
    by_cases hji : j = i
    · subst hji; exact hy.stOp hi H
    · have := hdone _ _ H j (ready_mono hj hji)
      omega
  | succ f ih =>
    intro listed a inv hfree hr hy H
    have hun := (mem_ready.1 hr).1
    refine ⟨List.ne_nil_of_mem hr, fun j hj => ?_⟩
    have hjm : j < m := Nat.lt_of_not_le fun h => cut_waits hc inv _ i rfl hin hun j h hj
    refine ⟨hjm, ?_⟩
    by_cases hji : j = i
    · subst hji; exact hy.stOp hi H
    · have h1 := (H.2 j (ready_mono hj hji)).2
      obtain ⟨hjun, oj, hoj, hall⟩ := mem_ready.1 hj
      have hnot : ∀ e ∈ oj.after, Region.binds md e = true → e.on ≠ i := fun e he hb heq => by
        have h1 := hall e he hb
        rw [heq, getD_both hun] at h1
        cases h1
      have h2 := stOp_put hoj (hfree j oj hoj hji hjun hnot) (fun cs b => hsel i oi cs b hi) (fun cs b => hsel j oj cs b hoj) hy h1
      refine stOp_mono (fun a' h3 => ih (listed.setIfInBounds j true) a' (inv.set hj hjm) (fun k ok hk hki hunk hno => ?_) (ready_mono hr (Ne.symm hji)) h3.1 ?_) h2
      · refine hfree k ok hk hki ?_ hno
        by_cases hjk : j = k
        · subst hjk; exact hjun
        · rw [getD_set_ne true hjk] at hunk; exact hunk
      · rw [Array.setIfInBounds_comm _ _ hji]
        exact h3.2

/-- The list behind n operations from k on. -/
def behind : Nat → Nat → Array Bool → Array Bool
  | 0, _, listed => listed
  | n + 1, k, listed => behind n (k + 1) (listed.setIfInBounds k true)
/-- The n operations from k on may be taken in the order of the text. -/
def segB (md : Region.Mode) (ops : Array Oper) : Nat → Nat → Array Bool → Bool
  | 0, k, listed => (Region.ready md ops listed).all fun j => decide (k ≤ j)
  | n + 1, k, listed => (Region.ready md ops listed).contains k && Region.free md ops listed k && segB md ops n (k + 1) (listed.setIfInBounds k true)

theorem seg_lex {m : Nat} {Lq : Act → Prop} (hsel : Region.noSelect ops = true) (hc : cutB md ops m = true) (LM : Array Bool) :
    ∀ (l : List Oper) (k : Nat) (listed : Array Bool) (a : Act), (∀ j, j < l.length → l[j]? = ops[k + j]?) → k + l.length = m → HeadInv md ops m listed →
    segB md ops l.length k listed = true → behind l.length k listed = LM → wpStill P ops w Lq l a →
    wpAnyL P md ops w m (fun listed' a' => listed' = LM ∧ Lq a') l.length listed a ∧ ∀ j ∈ Region.ready md ops LM, m ≤ j
  | [], k, listed, a, _, hk, _, hB, hL, h => by
    have hkm : k = m := by simpa using hk
    subst hkm
    have hLM : listed = LM := hL
    subst hLM
    refine ⟨⟨rfl, h⟩, fun j hj => ?_⟩
    have := List.all_eq_true.1 hB j hj
    simpa using this
  | o :: l, k, listed, a, hl, hk, inv, hB, hL, h => by
    have h0 : ops[k]? = some o := by simpa using (hl 0 (by simp)).symm
    simp only [List.length_cons, segB, Bool.and_eq_true] at hB
    obtain ⟨⟨hr, hf⟩, hB'⟩ := hB
    have hkm : k < m := by simp only [List.length_cons] at hk; omega
    have hr' : k ∈ Region.ready md ops listed := by simpa using hr
    have hst : stOp P ops w k (wpStill P ops w Lq l) a := by unfold stOp; simp only [h0]; exact h
    obtain ⟨v, hy, hK⟩ := yieldsAt_of_stOp h0 hst
    have IH := seg_lex hsel hc LM l (k + 1) _ _ (fun j hj => by have := hl (j + 1) (by simp; omega); simpa [Nat.add_assoc, Nat.add_comm 1 j] using this) (by simp only [List.length_cons] at hk; omega) (inv.set hr' hkm) hB' hL hK
    refine ⟨seg_first h0 (Region.noSelect_spec hsel) hc hkm (fun listed' a' hL' => ?_) l.length listed a inv (Region.free_spec h0 hf) hr' hy IH.1, IH.2⟩
    rw [hL'.1]; exact IH.2

/-- The list is closed, and nothing from m on is in it. -/
def headB (md : Region.Mode) (ops : Array Oper) (m : Nat) (listed : Array Bool) : Bool :=
  decide (listed.size = ops.size) &&
  ((List.range ops.size).all fun j => !listed.getD j false || match ops[j]? with | some oj => oj.after.all (fun e => !Region.binds md e || listed.getD e.on false) | none => true) &&
  ((List.range ops.size).all fun t => decide (t < m) || !listed.getD t true)
theorem headB_spec {m : Nat} {listed : Array Bool} (h : headB md ops m listed = true) : HeadInv md ops m listed := by
  simp only [headB, Bool.and_eq_true, decide_eq_true_eq] at h
  obtain ⟨⟨h1, h2⟩, h3⟩ := h
  refine ⟨h1, fun j oj hj hl e he hb => ?_, fun t ht ht2 => ?_⟩
  · have := List.all_eq_true.1 h2 j (List.mem_range.2 (Array.getElem?_eq_some_iff.1 hj).1)
    rw [hl, hj] at this
    simp only [Bool.not_true, Bool.false_or] at this
    have := Array.all_eq_true'.1 this e he
    rw [hb] at this
    simpa using this
  · have := List.all_eq_true.1 h3 t (List.mem_range.2 ht2)
    simp only [Bool.or_eq_true, decide_eq_true_eq] at this
    rcases this with h | h
    · omega
    · simpa using h

/-- The segments: some n: n operations that leave the world alone; none: one operation that all wait for. -/
def segsB (md : Region.Mode) (ops : Array Oper) : List (Option Nat) → Nat → Array Bool → Bool
  | [], k, listed => decide (k = ops.size) && (Region.ready md ops listed).isEmpty
  | some n :: s, k, listed => decide (k + n ≤ ops.size) && cutB md ops (k + n) && headB md ops (k + n) listed && segB md ops n k listed && segsB md ops s (k + n) (behind n k listed)
  | none :: s, k, listed => decide (k < ops.size) && decide (Region.ready md ops listed = [k]) && segsB md ops s (k + 1) (listed.setIfInBounds k true)
/-- A segment, closed to the look of 'whnf'. -/
@[irreducible] def Seg (P : Program) (ops : Array Oper) (w : World) (Q : Act → Prop) (l : List Oper) (a : Act) : Prop := wpStill P ops w Q l a
theorem Seg.out {Q : Act → Prop} {l : List Oper} {a : Act} (h : Seg P ops w Q l a) : wpStill P ops w Q l a := by unfold Seg at h; exact h
theorem Seg.of {Q : Act → Prop} {l : List Oper} {a : Act} (h : wpStill P ops w Q l a) : Seg P ops w Q l a := by unfold Seg; exact h
@[irreducible] def Bar (P : Program) (ops : Array Oper) (next : Act → World → Prop) (Q : Exit → Act → World → Prop) (l : List Oper) (a : Act) (w : World) : Prop := wpList P ops (Exit.then next Q) l a w
theorem Bar.out {next : Act → World → Prop} {Q : Exit → Act → World → Prop} {l : List Oper} {a : Act} (h : Bar P ops next Q l a w) : wpList P ops (Exit.then next Q) l a w := by unfold Bar at h; exact h
theorem Bar.of {next : Act → World → Prop} {Q : Exit → Act → World → Prop} {l : List Oper} {a : Act} (h : wpList P ops (Exit.then next Q) l a w) : Bar P ops next Q l a w := by unfold Bar; exact h
def wpSegs (P : Program) (ops : Array Oper) (Q : Exit → Act → World → Prop) : List (Option Nat) → List Oper → Act → World → Prop
  | [], _, a, w => Q .normal a w
  | some n :: s, l, a, w => Seg P ops w (fun a' => wpSegs P ops Q s (l.drop n) a' w) (l.take n) a
  | none :: s, l, a, w => Bar P ops (fun a' w' => wpSegs P ops Q s (l.drop 1) a' w') Q (l.take 1) a w

theorem wpAny_of_segs {Q : Exit → Act → World → Prop} (hsel : Region.noSelect ops = true) : ∀ (s : List (Option Nat)) (l : List Oper) (k : Nat) (listed : Array Bool) (a : Act) (w : World),
    (∀ j, l[j]? = ops[k + j]?) → segsB md ops s k listed = true → wpSegs P ops Q s l a w → wpAny P md ops Q (ops.size - k) listed a w
  | [], l, k, listed, a, w, hl, hB, h => by
    simp only [segsB, Bool.and_eq_true, decide_eq_true_eq] at hB
    rw [hB.1, Nat.sub_self]
    exact ⟨by simpa using hB.2, h⟩
  | some n :: s, l, k, listed, a, w, hl, hB, h => by
    simp only [segsB, Bool.and_eq_true, decide_eq_true_eq] at hB
    obtain ⟨⟨⟨⟨hn, hc⟩, hh⟩, hs⟩, hB'⟩ := hB
    have hll : l.length = ops.size - k := by
      have h1 : ∀ j, j < l.length ↔ k + j < ops.size := fun j => by
        constructor
        · intro hj; have := hl j; rw [List.getElem?_eq_getElem hj] at this; exact (Array.getElem?_eq_some_iff.1 this.symm).1
        · intro hj; have := hl j; rw [Array.getElem?_eq_getElem hj] at this; exact (List.getElem?_eq_some_iff.1 this).1
      rcases Nat.lt_trichotomy l.length (ops.size - k) with h2 | h2 | h2
      · have := (h1 l.length).2 (by omega); omega
      · exact h2
      · have := (h1 (ops.size - k)).1 h2; omega
    have htl : (l.take n).length = n := by simp; omega
    have H := seg_lex (P := P) (md := md) (w := w) hsel hc (behind n k listed) (l.take n) k listed a (fun j hj => by
      rw [htl] at hj
      rw [List.getElem?_take, if_pos hj]; exact hl j) (by rw [htl]) (headB_spec hh) (by rw [htl]; exact hs) (by rw [htl]) (Seg.out h)
    have := wpAny_of_head (Q' := Q) (g := ops.size - (k + n)) (fun listed' a' hL => by
      rw [hL.1]
      exact wpAny_of_segs hsel s (l.drop n) (k + n) _ a' w (fun j => by rw [List.getElem?_drop, hl, Nat.add_assoc]) hB' hL.2) _ _ _ H.1
    rw [htl, show n + (ops.size - (k + n)) = ops.size - k by omega] at this
    exact this
  | none :: s, l, k, listed, a, w, hl, hB, h => by
    simp only [segsB, Bool.and_eq_true, decide_eq_true_eq] at hB
    obtain ⟨⟨hk, hr⟩, hB'⟩ := hB
    obtain ⟨o, ho⟩ : ∃ o, ops[k]? = some o := ⟨ops[k], by simp [hk]⟩
    have h0 : l[0]? = some o := by rw [hl]; exact ho
    obtain ⟨l', rfl⟩ : ∃ l', l = o :: l' := by
      cases l with
      | nil => simp at h0
      | cons x y => simp at h0; exact ⟨y, by rw [h0]⟩
    rw [show ops.size - k = (ops.size - (k + 1)) + 1 by omega]
    refine ⟨fun h1 => (by rw [hr] at h1; cases h1), fun i hi => ?_⟩
    rw [hr] at hi
    have hik : i = k := by simpa using hi
    subst hik
    have hw : wpOp P ops Q i (fun a' w' => wpSegs P ops Q s l' a' w') a w := by
      unfold wpOp
      simp only [ho]
      exact Bar.out h
    exact wpOp_mono (fun a' w' h' => wpAny_of_segs hsel s l' (i + 1) _ a' w' (fun j => by have := hl (j + 1); simpa [Nat.add_assoc, Nat.add_comm 1 j] using this) hB' h') hw

theorem wp_region_segs {id : Nat} {Q : Exit → Act → World → Prop} {a : Act} {w : World} {l : List Oper} (s : List (Option Nat)) (hm : P.follows .mixedOrders = true) (hsel : Region.noSelect l.toArray = true)
    (hB : segsB .any l.toArray s 0 (Array.replicate l.toArray.size false) = true) (h : wpSegs P l.toArray Q s l a w.drew) : (Code.region id l.toArray true).wp P Q a w := by
  refine wp_region_any hm ?_
  have := wpAny_of_segs (md := .any) (P := P) (Q := Q) hsel s l 0 _ a w.drew (by simp) hB h
  simpa using this

/-- The steps of a segment; the region's operations are laid aside. -/
theorem seg_nil {Q : Act → Prop} {a : Act} (h : Q a) : Seg P ops w Q [] a := Seg.of h
theorem seg_skip {Q : Act → Prop} {a : Act} {o : Oper} {rest : List Oper} (hw : Region.wanted o (yielded ops a.tmps) = false) (h : Seg P ops w Q rest (a.put o.dst undef)) : Seg P ops w Q (o :: rest) a := by
  refine Seg.of ?_
  unfold wpStill; rw [hw]; exact h.out
theorem seg_run {Q : Act → Prop} {a : Act} {dst : Option Tmp} {op : Op} {ty : TypeId} {pos : String} {aft : Array Edge} {g : Option (Nat × Bool)} {rest : List Oper} (hw : Region.wanted ⟨dst, op, ty, pos, aft, g⟩ (yielded ops a.tmps) = true)
    (h : ∀ K : Act → Prop, (∀ a, Seg P ops w Q rest a → K a) → Oper.still P ⟨dst, op, ty, pos, #[], none⟩ a w K) : Seg P ops w Q (⟨dst, op, ty, pos, aft, g⟩ :: rest) a := by
  refine Seg.of ?_
  unfold wpStill; rw [hw]; exact h _ (fun _ h => h.out)
theorem bar_skip {Q : Exit → Act → World → Prop} {next : Act → World → Prop} {a : Act} {o : Oper} (hw : Region.wanted o (yielded ops a.tmps) = false) (h : next (a.put o.dst undef) w) : Bar P ops next Q [o] a w := by
  refine Bar.of ?_
  unfold wpList; rw [hw]; exact h
theorem bar_run {Q : Exit → Act → World → Prop} {next : Act → World → Prop} {a : Act} {dst : Option Tmp} {op : Op} {ty : TypeId} {pos : String} {aft : Array Edge} {g : Option (Nat × Bool)} (hw : Region.wanted ⟨dst, op, ty, pos, aft, g⟩ (yielded ops a.tmps) = true)
    (h : ∀ K : Act → World → Prop, (∀ a w, next a w → K a w) → wpList P #[] (Exit.then K Q) [⟨dst, op, ty, pos, #[], none⟩] a w) : Bar P ops next Q [⟨dst, op, ty, pos, aft, g⟩] a w := by
  refine Bar.of ?_
  have := h _ (fun _ _ h => h)
  unfold wpList at this ⊢
  rw [hw]
  simp only [Region.wanted, if_true] at this
  exact this
end

end Go.Proofs.YtdieneaillkbgaaGreatDoor

/- A region that draws its order: operations that yield the same in every world that meets S are taken first, in the order of the text; between them single operations that all wait for. -/
namespace Go.Proofs.YtdieneaillkbgaaGreatDoor
open Go

section
variable {P : Program} {ops : Array Oper} {Q : Exit → Act → World → Prop} {S : World → Prop}
/-- A region on its way, closed to the look of 'whnf'. -/
@[irreducible] def Hld (P : Program) (ops : Array Oper) (Q : Exit → Act → World → Prop) (S : World → Prop) (fuel : Nat) (listed : Array Bool) (a : Act) (w : World) : Prop := wpAnyH P .any ops Q S fuel listed a w
theorem Hld.of {fuel : Nat} {listed : Array Bool} {a : Act} {w : World} (h : wpAnyH P .any ops Q S fuel listed a w) : Hld P ops Q S fuel listed a w := by unfold Hld; exact h
theorem Hld.out {fuel : Nat} {listed : Array Bool} {a : Act} {w : World} (h : Hld P ops Q S fuel listed a w) : wpAnyH P .any ops Q S fuel listed a w := by unfold Hld at h; exact h
theorem hld_start {id : Nat} {a : Act} {w : World} {l : List Oper} (S : World → Prop) (hm : P.follows .mixedOrders = true) (h : Hld P l.toArray Q S l.length (Array.replicate l.length false) a w.drew) : (Code.region id l.toArray true).wp P Q a w := by
  refine wp_region_held (S := S) hm ?_
  have := h.out
  simpa using this
theorem hld_take {dst : Option Tmp} {op : Op} {ty : TypeId} {pos : String} {aft : Array Edge} {g : Option (Nat × Bool)} {v : Value} {fuel : Nat} {listed : Array Bool} {a : Act} {w : World} (i : Nat) (hi : ops[i]? = some ⟨dst, op, ty, pos, aft, g⟩)
    (hs : Region.noSelect ops = true) (hf : Region.free .any ops listed i = true) (hr : (Region.ready .any ops listed).contains i = true)
    (hQ : ∀ c a w, Q (.panic c) (a.put dst v) w → Q (.panic c) a w) (hw : Region.wanted ⟨dst, op, ty, pos, aft, g⟩ (yielded ops a.tmps) = true) (hS : S w)
    (hy : ∀ w', S w' → (execOp a.eval ⟨dst, op, ty, pos, aft, g⟩).run P w' = .ok (.value v) w')
    (h : Hld P ops Q S fuel (listed.setIfInBounds i true) (a.put dst v) w) : Hld P ops Q S (fuel + 1) listed a w :=
  Hld.of (wpAnyH_take (oi := ⟨dst, op, ty, pos, aft, g⟩) hi hs hf hr hQ (.inl ⟨hw, hy⟩) hS h.out)

theorem hld_skip {dst : Option Tmp} {op : Op} {ty : TypeId} {pos : String} {aft : Array Edge} {g : Option (Nat × Bool)} {fuel : Nat} {listed : Array Bool} {a : Act} {w : World} (i : Nat) (hi : ops[i]? = some ⟨dst, op, ty, pos, aft, g⟩)
    (hs : Region.noSelect ops = true) (hf : Region.free .any ops listed i = true) (hr : (Region.ready .any ops listed).contains i = true)
    (hQ : ∀ c a w, Q (.panic c) (a.put dst undef) w → Q (.panic c) a w) (hw : Region.wanted ⟨dst, op, ty, pos, aft, g⟩ (yielded ops a.tmps) = false) (hS : S w)
    (h : Hld P ops Q S fuel (listed.setIfInBounds i true) (a.put dst undef) w) : Hld P ops Q S (fuel + 1) listed a w :=
  Hld.of (wpAnyH_take (oi := ⟨dst, op, ty, pos, aft, g⟩) hi hs hf hr hQ (.inr ⟨hw, rfl⟩) hS h.out)
theorem hld_bar {dst : Option Tmp} {op : Op} {ty : TypeId} {pos : String} {aft : Array Edge} {g : Option (Nat × Bool)} {fuel : Nat} {listed : Array Bool} {a : Act} {w : World} (i : Nat) (hi : ops[i]? = some ⟨dst, op, ty, pos, aft, g⟩) (hr : Region.ready .any ops listed = [i])
    (hw : Region.wanted ⟨dst, op, ty, pos, aft, g⟩ (yielded ops a.tmps) = true)
    (h : ∀ K : Act → World → Prop, (∀ a w, S w ∧ Hld P ops Q S fuel (listed.setIfInBounds i true) a w → K a w) → wpList P #[] (Exit.then K Q) [⟨dst, op, ty, pos, #[], none⟩] a w) : Hld P ops Q S (fuel + 1) listed a w := by
  refine Hld.of (wpAnyH_all hr (by simp) fun j hj => ?_)
  have hji : j = i := by simpa using hj
  subst hji
  have hb : Bar P ops (fun a' w' => S w' ∧ wpAnyH P .any ops Q S fuel (listed.setIfInBounds j true) a' w') Q [⟨dst, op, ty, pos, aft, g⟩] a w :=
    bar_run hw (fun K hK => h K (fun a w hh => hK a w ⟨hh.1, hh.2.out⟩))
  unfold wpOp
  simp only [hi]
  exact Bar.out hb
theorem hld_done {listed : Array Bool} {a : Act} {w : World} {fuel : Nat} (hr : Region.ready .any ops listed = []) (h : Q .normal a w) : Hld P ops Q S fuel listed a w := Hld.of (wpAnyH_done hr h fuel)
end
end Go.Proofs.YtdieneaillkbgaaGreatDoor

/- Contracts of package filetree: Put. -/
namespace Go.Proofs.YtdieneaillkbgaaGreatDoor
open Go.RowKit Go.Maps


/-- What an operation leaves: its error number, the tree, the map's block and new blocks alone are written. -/
def OpRes (S : Nat → Prop) (tb mb : Nat) (r : List Ent × Int) (w : World) (e : Ending) (w' : World) : Prop :=
  e = .returned (.int .i64 r.2) ∧ TreeAt (fun k => S k ∨ (w.heap.size ≤ k ∧ k < w'.heap.size)) w' tb mb r.1 ∧ w.grownBy w' (some mb)
theorem validE_is (S : Nat → Prop) (en : Ent) (v : Value) (b : Bool) (w : World) (hd : DataAt S w v en.data) (hok : EntOk en) (henv : Env w) (h : vEnt en = b) : Calls Tryz.prog 63 #[entV v en] w fun e w' => e = .returned (.bool b) ∧ Below w.heap.size w w' := by
  rw [← h]; exact validE_any S en v w hd hok henv
theorem TreeAt.mb_lt {S : Nat → Prop} {w : World} {tb mb : Nat} {L : List Ent} (h : TreeAt S w tb mb L) : mb < w.heap.size := by
  obtain ⟨xs, h1, _⟩ := h.ents
  exact h1.map.lt
theorem grown_of_below {w w' : World} (h : Below w.heap.size w w') (r : Option Nat) : w.grownBy w' r := ⟨h.os, h.tape, h.output, h.size, fun k hk _ => h.block k hk⟩
theorem TreeAt.mono {S S' : Nat → Prop} {w : World} {tb mb : Nat} {L : List Ent} (h : TreeAt S w tb mb L) (hs : ∀ k, S k → S' k) (h1 : ¬ S' tb) (h2 : ¬ S' mb) (h3 : ∀ k, S' k → k < w.heap.size) : TreeAt S' w tb mb L := by
  obtain ⟨xs, hm, hp⟩ := h.ents
  exact ⟨h.cell, h.ne, h1, h3, h.ok, xs, hm.mono hs h2, hp⟩
theorem TreeAt.wide {S : Nat → Prop} {w w' : World} {tb mb : Nat} {L : List Ent} (h : TreeAt S w tb mb L) (hb : Below w.heap.size w w') : TreeAt (fun k => S k ∨ (w.heap.size ≤ k ∧ k < w'.heap.size)) w' tb mb L := by
  have h0 := h.mb_lt
  have h1 := block_lt h.cell
  obtain ⟨xs, hm, _⟩ := h.ents
  have h2 := hm.far
  refine (h.below hb).mono (fun k hk => .inl hk) (fun hc => ?_) (fun hc => ?_) (fun k hk => ?_)
  · rcases hc with hc | hc
    · exact h.far hc
    · simp only at h1; omega
  · rcases hc with hc | hc
    · exact h2 hc
    · omega
  · rcases hk with hk | hk
    · exact Nat.lt_of_lt_of_le (h.lt k hk) hb.size
    · exact hk.2
theorem op_same {S : Nat → Prop} {tb mb : Nat} {L : List Ent} {w w' : World} {x : Int} (h : TreeAt S w tb mb L) (hb : Below w.heap.size w w') : OpRes S tb mb (L, x) w (.returned (.int .i64 x)) w' :=
  ⟨rfl, h.wide hb, grown_of_below hb _⟩
theorem op_done {S : Nat → Prop} {tb mb : Nat} {L M : List Ent} {w w5 w6 : World} {x : Int} (h : TreeAt S w tb mb L) (hb : Below w.heap.size w w5) (hg : w5.grownBy w6 (some mb)) (h6 : TreeAt (fun k => S k ∨ (w.heap.size ≤ k ∧ k < w5.heap.size)) w6 tb mb M) : OpRes S tb mb (M, x) w (.returned (.int .i64 x)) w6 := by
  have h0 := h.mb_lt
  have h1 := block_lt h.cell
  obtain ⟨xs, hm, _⟩ := h.ents
  have h2 := hm.far
  refine ⟨rfl, h6.mono (fun k hk => ?_) (fun hc => ?_) (fun hc => ?_) (fun k hk => ?_), (grown_of_below hb (some mb)).trans hg⟩
  · rcases hk with hk | hk
    · exact .inl hk
    · exact .inr ⟨hk.1, Nat.lt_of_lt_of_le hk.2 hg.size⟩
  · rcases hc with hc | hc
    · exact h.far hc
    · simp only at h1; omega
  · rcases hc with hc | hc
    · exact h2 hc
    · omega
  · rcases hk with hk | hk
    · exact Nat.lt_of_lt_of_le (h.lt k hk) (Nat.le_trans hb.size hg.size)
    · exact hk.2
theorem vEnt_data {e : Ent} (h : vEnt e = true) : e.data.length ≤ 140737488355328 := by
  unfold vEnt vKind at h
  simp only [Bool.and_eq_true] at h
  have h2 := h.2
  split at h2
  · simp only [Bool.and_eq_true, decide_eq_true_eq] at h2; omega
  · split at h2
    · simp only [Bool.and_eq_true, decide_eq_true_eq] at h2; omega
    · split at h2
      · simp only [Bool.and_eq_true, decide_eq_true_eq] at h2; omega
      · simp at h2
end Go.Proofs.YtdieneaillkbgaaGreatDoor

/- slices.SortFunc at a row of paths that the call owns. -/
namespace Go.Proofs.YtdieneaillkbgaaGreatDoor
open Go.RowKit Go.Shelf Go.Lib Go.Sort

def toS (s : ByteArray) : SPath := if h : s.size ≤ 9223372036854775807 then ⟨s, h⟩ else default
theorem enc_toS {s : ByteArray} (h : s.size ≤ maxLen) : encP (toS s) = .string s := by
  unfold maxLen at h
  unfold toS encP
  rw [dif_pos (by omega)]
theorem val_toS {s : ByteArray} (h : s.size ≤ maxLen) : (toS s).1 = s := by
  unfold maxLen at h
  unfold toS
  rw [dif_pos (by omega)]
theorem enc_map {l : List ByteArray} (h : ∀ s ∈ l, s.size ≤ maxLen) : (l.map toS).map encP = l.map Value.string := by
  rw [List.map_map]
  exact List.map_congr_left (fun s hs => enc_toS (h s hs))
/-- Two orders of one set of paths: the sorted one. -/
theorem sorted_paths {acc M : List ByteArray} (hp : acc.Perm M) (hs : ∀ s ∈ acc, s.size ≤ maxLen) (hM : M.Pairwise fun a b => cmpL (bl a) (bl b) < 0) : ((acc.map toS).mergeSort fun x y => !(ltOf cmpS) y x) = M.map toS := by
  have hsM : ∀ s ∈ M, s.size ≤ maxLen := fun s h => hs s (hp.symm.subset h)
  have h1 : ((acc.map toS).mergeSort fun x y => !(ltOf cmpS) y x).Perm (M.map toS) := (List.mergeSort_perm _ _).trans (hp.map toS)
  have h2 : ((acc.map toS).mergeSort fun x y => !(ltOf cmpS) y x).Pairwise fun a b => (!(ltOf cmpS) b a) = true := by
    refine List.pairwise_mergeSort ?_ ?_ _
    · intro a b c hab hbc
      simp only [Bool.not_eq_true'] at hab hbc ⊢
      exact swoS.ntrans c b a hbc hab
    · intro a b
      simp only [Bool.or_eq_true, Bool.not_eq_true']
      by_cases h : ltOf cmpS b a = true
      · right
        rw [ltT] at h
        rw [ltF]
        have := cmp_neg (bl a.1) (bl b.1)
        omega
      · left; simpa using h
  have h3 : (M.map toS).Pairwise fun a b => (!(ltOf cmpS) b a) = true := by
    rw [List.pairwise_map]
    refine List.Pairwise.imp_of_mem ?_ hM
    intro a b ha hb hab
    simp only [Bool.not_eq_true']
    rw [ltF, val_toS (hsM a ha), val_toS (hsM b hb)]
    have := cmp_neg (bl a) (bl b)
    omega
  refine List.Perm.eq_of_pairwise (le := fun a b => (!(ltOf cmpS) b a) = true) (fun a b _ _ hab hba => ?_) h2 h3 h1
  simp only [Bool.not_eq_true'] at hab hba
  exact totS a b hba hab
theorem grown_grow (W : World) (os : Array Obj) : W.grownBy (grow W os) none := ⟨rfl, rfl, rfl, by simp [grow], fun k hk _ => by simp [grow, Array.getElem?_append, hk]⟩
theorem sort_any (base : Nat) (v : Value) (acc M : List ByteArray) (w : World) (h : w.ownsRow base 9 1 v acc.length (acc.map Value.string)) (hs : ∀ s ∈ acc, s.size ≤ maxLen) (hp : acc.Perm M) (hM : M.Pairwise fun a b => cmpL (bl a) (bl b) < 0) (hn : acc.length < 4611686018427387904) (hb : base ≤ w.heap.size) :
    Calls Tryz.prog 78 #[v, .func (.func 52) #[] #[]] w fun e w' => e = .returned (.tuple #[]) ∧ w'.ownsRow base 9 1 v M.length (M.map Value.string) ∧ Below base w w' := by
  by_cases hv : v = .slice none 0 0
  · have h0 : acc = [] := by
      rcases h.2 with ⟨_, h1⟩ | ⟨g, cap, cur, e1, _⟩
      · simpa using h1
      · rw [hv] at e1; cases e1
    subst h0
    obtain rfl := List.nil_perm.1 hp
    subst hv
    refine (Tryz.slices_SortFunc_none (α := SPath) none 0 _ w).mono ?_
    rintro e w' ⟨rfl, rfl⟩
    exact ⟨rfl, h, Below.refl _ _⟩
  · rw [← enc_map hs] at h
    obtain ⟨g, cap, rfl, h1, h2, h3, h4, h5, h6⟩ := holds_of_ownsRow h hv
    have eg : ∀ args w, (callFunc 52 args).run Tryz.prog w = .ok (.enter 52 args) w := enters_of Tryz.func52 (by kernel_rfl) rfl
    have hsz : (acc.map toS).toArray.size = acc.length := by simp
    have hS := Tryz.slices_SortFunc_total encP (fun _ => rfl) cmpS swoS 52 #[] g 0 cap (acc.map toS).toArray w eg (cmpReadsS g 0 (acc.map toS).toArray.size w).lays h6 h2 (by rw [hsz]; exact hn) totS
    rw [hsz] at hS
    refine hS.mono ?_
    rintro e w' ⟨rfl, n, os, rfl⟩
    have hsM : ∀ s ∈ M, s.size ≤ maxLen := fun s h => hs s (hp.symm.subset h)
    refine ⟨rfl, ?_, ?_⟩
    · rw [sorted_paths hp hs hM, ← enc_map hsM]
      have hl : (M.map toS).length = acc.length := by rw [List.length_map, hp.length_eq]
      have h7 := ownsRow_putRow (q := n) (ys := M.map toS) h hl (Nat.le_refl _)
      rw [← hl, List.take_length] at h7
      rw [hl] at h7
      rw [← hp.length_eq]
      exact h7.kept (grown_grow _ os) (.inr (by simp [Value.ownBlock]))
    · exact (below_putRow (q := n) (Below.refl base w) h1).grown (grown_grow _ os) (by simpa [putRow, mapBlock, Sort.ahead] using hb) (fun k hk => by cases hk)

end Go.Proofs.YtdieneaillkbgaaGreatDoor

/- Contracts of package filetree: paths. -/
namespace Go.Proofs.YtdieneaillkbgaaGreatDoor
open Go.RowKit Go.Maps

/-- A list of strings that the call has made. -/
def PathsRes (M : List ByteArray) (w : World) (e : Ending) (w' : World) : Prop := ∃ v, e = .returned v ∧ w'.ownsRow w.heap.size 9 1 v M.length (M.map Value.string) ∧ Below w.heap.size w w'
def pathsM (L : List Ent) (p : ByteArray) : List ByteArray := (atP L p).map Ent.path
def matchB (p s : ByteArray) : Bool := decide (p.size = 0) || decide (s = p) || Lib.hasPrefix (bl s) (bl p ++ [47])
theorem at_match {L : List Ent} (h : TOk L) {p : ByteArray} (hp : p.size = 0 ∨ ∃ f, findE L p = some f) : atP L p = L.filter fun e => matchB p e.path := by
  rcases hp with hp | ⟨f, hf⟩
  · rw [atP_root h hp]
    symm
    rw [List.filter_eq_self]
    intro e _
    unfold matchB
    rw [decide_eq_true hp]; rfl
  · rw [atP_there hf]
    apply List.filter_congr
    intro e he
    have hv : p.size ≠ 0 := by
      obtain ⟨h1, h2⟩ := findE_some hf
      rw [← h2, ne_eq, size_zero]
      exact valid_ne (vEnt_path (h.val f h1))
    rw [inB_dir h hf he]
    unfold matchB
    rw [decide_eq_false hv]; rfl
theorem pathsM_sorted {L : List Ent} (h : TOk L) (p : ByteArray) : (pathsM L p).Pairwise fun a b => cmpL (bl a) (bl b) < 0 := by
  unfold pathsM
  rw [List.pairwise_map]
  exact atP_sorted h p
/-- What has been gathered while the map was ranged over. -/
def gotP (p : ByteArray) (vis : List VEnt) : List ByteArray := (vis.filter fun x => matchB p x.2.path).map fun x => x.2.path
theorem gotP_snoc (p : ByteArray) (vis : List VEnt) (x : VEnt) : gotP p (vis ++ [x]) = if matchB p x.2.path = true then gotP p vis ++ [x.2.path] else gotP p vis := by
  unfold gotP
  rw [List.filter_append]
  by_cases h : matchB p x.2.path = true
  · rw [if_pos h]; simp [h]
  · rw [if_neg h]; simp [h]
theorem gotP_end {S : Nat → Prop} {w : World} {mb : Nat} {xs vis : List VEnt} {L : List Ent} (_ : MapE S w mb xs) (ht : TOk L) (hL : (xs.map Prod.snd).Perm L) {p : ByteArray} (hp : p.size = 0 ∨ ∃ f, findE L p = some f) (hv : vis.Perm xs) : (gotP p vis).Perm (pathsM L p) := by
  unfold gotP pathsM
  rw [at_match ht hp]
  have h1 : (vis.filter fun x => matchB p x.2.path).map (fun x => x.2.path) = ((vis.map Prod.snd).filter fun e => matchB p e.path).map Ent.path := by
    rw [List.filter_map, List.map_map]; rfl
  rw [h1]
  exact (((hv.map Prod.snd).trans hL).filter _).map _
theorem ent_of_path {xs : List VEnt} (hn : (xs.map (fun x => x.2.path)).Nodup) {x y : VEnt} (hx : x ∈ xs) (hy : y ∈ xs) (h : x.2.path = y.2.path) : x = y := by
  unfold List.Nodup at hn
  rw [List.pairwise_map, List.pairwise_iff_getElem] at hn
  obtain ⟨i, hi, rfl⟩ := List.getElem_of_mem hx
  obtain ⟨j, hj, rfl⟩ := List.getElem_of_mem hy
  by_cases hij : i = j
  · subst hij; rfl
  · exfalso
    rcases Nat.lt_or_gt_of_ne hij with hlt | hlt
    · exact hn i j hi hj hlt h
    · exact hn j i hj hi hlt h.symm
theorem vent_nodup {xs : List VEnt} (hn : (xs.map (fun x => x.2.path)).Nodup) : xs.Nodup := by
  unfold List.Nodup at hn ⊢
  rw [List.pairwise_map] at hn
  exact hn.imp (fun h e => h (by rw [e]))
theorem pair_path {x y : VEnt} (h : pairOf x = pairOf y) : x.2.path = y.2.path := by
  have := congrArg Prod.fst h
  simpa [pairOf] using this
theorem vis_perm {S : Nat → Prop} {w : World} {mb : Nat} {xs vis : List VEnt} (hm : MapE S w mb xs) (hv : (vis.map pairOf).Perm (xs.map pairOf)) (hs : ∀ x ∈ vis, x ∈ xs) (hn : (vis.map (fun x => x.2.path)).Nodup) : vis.Perm xs := by
  refine (List.perm_ext_iff_of_nodup (vent_nodup hn) (vent_nodup hm.nodup)).2 (fun x => ⟨hs x, fun hx => ?_⟩)
  obtain ⟨y, hy, hyx⟩ := List.mem_map.1 (hv.symm.subset (List.mem_map.2 ⟨x, hx, rfl⟩))
  have := ent_of_path hm.nodup (hs y hy) hx (pair_path hyx)
  rw [← this]; exact hy
section
variable {P : Program} {k : TypeId} {w w' : World} {b r base sz n : Nat} {m vis : List (Value × Value)} {e : TypeId} {v : Value} {xs : List Value}
theorem rng_row (h : RngS P k w b r m vis) (ho : w.ownsRow base e sz v n xs) : some r ≠ v.ownBlock ∧ some b ≠ v.ownBlock := by
  obtain ⟨es, clock, since, seen, c0, hb, _, _, _, hr, _⟩ := h
  rcases ho.2 with ⟨rfl, _⟩ | ⟨g, cap, cur, rfl, _, hh, _⟩
  · exact ⟨by simp [Value.ownBlock], by simp [Value.ownBlock]⟩
  · constructor
    · intro e1
      simp only [Value.ownBlock, Option.some.injEq] at e1
      subst e1
      rw [hr] at hh; cases hh
    · intro e1
      simp only [Value.ownBlock, Option.some.injEq] at e1
      subst e1
      rw [hb] at hh; cases hh
theorem RngS.grown (h : RngS P k w b r m vis) (ho : w.ownsRow base e sz v n xs) (hg : w.grownBy w' v.ownBlock) : RngS P k w' b r m vis :=
  h.same (hg.block b h.map.lt (rng_row h ho).2) (hg.block r h.ltr (rng_row h ho).1)
end
theorem nodup_vsnoc {vis : List VEnt} (h : (vis.map (fun x => x.2.path)).Nodup) {x : VEnt} (hne : ∀ y ∈ vis, y.2.path ≠ x.2.path) : ((vis ++ [x]).map (fun x => x.2.path)).Nodup := by
  rw [List.map_append, List.nodup_append]
  refine ⟨h, by simp, fun a ha b hb => ?_⟩
  obtain ⟨y, hy, rfl⟩ := List.mem_map.1 ha
  simp only [List.map_cons, List.map_nil, List.mem_singleton] at hb
  rw [hb]; exact hne y hy
theorem got_size {S : Nat → Prop} {w : World} {mb : Nat} {xs vis : List VEnt} {p : ByteArray} (hm : MapE S w mb xs) (hs : ∀ x ∈ vis, x ∈ xs) : ∀ s ∈ gotP p vis, s.size ≤ maxLen := by
  intro s h
  unfold gotP at h
  obtain ⟨x, hx, rfl⟩ := List.mem_map.1 h
  exact (hm.dat x (hs x (List.mem_filter.1 hx).1)).2.pth
theorem wpList_gen {P : Program} {ops : Array Oper} {l : List Oper} {a : Act} {Q : Exit → Act → World → Prop} {w : World} (h : ∀ W, W = w → wpList P ops Q l a W) : wpList P ops Q l a w := h w rfl
def LoopP (w : World) (p : ByteArray) (mb r : Nat) (xs : List VEnt) (v : Value) (wr : World) : Prop :=
  ∃ vis : List VEnt, RngS Tryz.prog 9 wr mb r (xs.map pairOf) (vis.map pairOf) ∧ (∀ x ∈ vis, x ∈ xs) ∧ (vis.map (fun x => x.2.path)).Nodup ∧ wr.ownsRow w.heap.size 9 1 v (gotP p vis).length ((gotP p vis).map Value.string) ∧ Below w.heap.size w wr
theorem got_len {xs vis : List VEnt} {p : ByteArray} (hs : ∀ x ∈ vis, x ∈ xs) (hn : (vis.map (fun x => x.2.path)).Nodup) (hl : xs.length ≤ 4096) : (gotP p vis).length ≤ 4096 := by
  unfold gotP
  rw [List.length_map]
  have h1 := List.length_filter_le (fun x : VEnt => matchB p x.2.path) vis
  have h2 : vis.length ≤ xs.length := by
    have : ∀ (a b : List VEnt), a.Nodup → (∀ x ∈ a, x ∈ b) → a.length ≤ b.length := by
      intro a
      induction a with
      | nil => intro b _ _; simp
      | cons x a ih =>
        intro b hn hs
        rw [List.nodup_cons] at hn
        have hxb : x ∈ b := hs x (by simp)
        obtain ⟨u, t, rfl⟩ := List.append_of_mem hxb
        have := ih (u ++ t) hn.2 (fun y hy => by
          have h := hs y (by simp [hy])
          rcases List.mem_append.1 h with h | h
          · simp [h]
          · rcases List.mem_cons.1 h with rfl | h
            · exact absurd hy hn.1
            · simp [h])
        simp only [List.length_cons, List.length_append] at this ⊢
        omega
    exact this vis xs (vent_nodup hn) hs
  omega
end Go.Proofs.YtdieneaillkbgaaGreatDoor
