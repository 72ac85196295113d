/- Texts of this proof, one after the other: TdN, Bld, TdO, TdP, AwD, LwA, LwB, FrT, FtH, FtI, FtJ, FtK, AwT, Ops, Play, Large, OpT, OpD. -/
import Derived.Test.YtdieneaillkbgaaGreatDoorMG
import Derived.Shelf.Strings.BuilderK
import Derived.Lib.AppendStr
import Derived.Lib.ConvBytes
import Derived.ProofKit
import Derived.Carry
import Derived.Lay
import Derived.PinnedBridge
import Derived.Lib.LaidU8T
import Derived.SevenTiedAt
import Derived.HandedShaped
import Derived.Shelf.Vars
import Derived.Test.YtdieneaillkbgaaGreatDoorTie
import Derived.Test.YtdieneaillkbgaaGreatDoorCards
/- Contracts of package treediff: Diff, Invert, Compose. -/
namespace Go.Proofs.YtdieneaillkbgaaGreatDoor
open Go.RowKit Go.Maps

def diffQ (a b : List Ent) : List Chg × Int := if checkP a ≠ 0 then ([], checkP a) else if checkP b ≠ 0 then ([], checkP b) else (diffP a b, 0)
def invQ (a : List Ent) (cs : List Chg) : List Chg × Int := if (applyP a cs).2 ≠ 0 then ([], (applyP a cs).2) else (diffP (applyP a cs).1 a, 0)
def compQ (a : List Ent) (cs ds : List Chg) : List Chg × Int :=
  if (applyP a cs).2 ≠ 0 then ([], (applyP a cs).2) else if (applyP (applyP a cs).1 ds).2 ≠ 0 then ([], (applyP (applyP a cs).1 ds).2) else (diffP a (applyP (applyP a cs).1 ds).1, 0)
theorem app_tok {a : List Ent} {cs : List Chg} (h : (applyP a cs).2 = 0) : TOk a ∧ TOk (applyP a cs).1 := by
  unfold applyP at h ⊢
  by_cases h0 : chkC a cs ≠ 0
  · rw [if_pos h0] at h; exact absurd h h0
  · rw [if_neg h0] at h ⊢
    have h1 := (chk_ok (cs := cs) (a := a) (by omega)).1
    refine ⟨checkP_iff.1 h1, ?_⟩
    unfold applyQ at h ⊢
    split
    · rename_i hx; rw [hx] at h; simp at h
    · rename_i l hx
      rw [hx] at h
      simp only at h ⊢
      split
      · rename_i hy; rw [hy] at h; simp at h
      · rename_i s hy
        rw [hy] at h
        simp only at h ⊢
        split
        · rename_i hc; exact checkP_iff.1 hc
        · rename_i hc; rw [if_neg hc] at h; simp at h
theorem puts_inv {L : List Ent} : ∀ {cs : List Chg} {s t : PSt} {n : Nat}, (∀ c ∈ cs, chgOk c = true) → PInv L s n → putsP L s cs = some t → PInv L t (n + cs.length)
  | [], s, t, n, _, h, hp => by simp only [putsP, Option.some.injEq] at hp; subst hp; exact h
  | c :: cs, s, t, n, hc, h, hp => by
    simp only [putsP] at hp
    cases hs : stepP L s c with
    | none => rw [hs] at hp; cases hp
    | some u =>
      rw [hs] at hp
      have := puts_inv (fun x hx => hc x (List.mem_cons_of_mem _ hx)) (h.step (hc c (List.mem_cons_self ..)) hs) hp
      rw [List.length_cons, show n + (cs.length + 1) = n + 1 + cs.length by omega]
      exact this
theorem app_len {a : List Ent} {cs : List Chg} : (applyP a cs).1.length ≤ a.length + cs.length := by
  unfold applyP
  by_cases h0 : chkC a cs ≠ 0
  · rw [if_pos h0]; simp
  · rw [if_neg h0]
    have h1 := (chk_ok (cs := cs) (a := a) (by omega)).2
    unfold applyQ
    split
    · simp
    · rename_i l hx
      split
      · simp
      · rename_i s hy
        split
        · rw [(sortP_perm _).length_eq, resE_len]
          have h2 := (takeP_sub hx).length_le
          have h3 := (puts_inv h1 (PInv.nil l) hy).len
          simp only [Nat.zero_add] at h3
          omega
        · simp
/-- What answers a list of changes. -/
def ChgRes (r : List Chg × Int) (w : World) (e : Ending) (w' : World) : Prop :=
  ∃ v ys, e = .returned (.tuple #[v, .int .i64 r.2]) ∧ ys.map Prod.snd = r.1 ∧ GotC w.heap.size w' v ys ∧ Below w.heap.size w w'
theorem chg_err {r : List Chg × Int} {w w' : World} {n : Int} (h : r = ([], n)) (hb : Below w.heap.size w w') : ChgRes r w (.returned (.tuple #[.slice none 0 0, .int .i64 n])) w' :=
  ⟨_, [], by rw [h], by rw [h]; rfl, GotC.nil _ _, hb⟩
theorem chg_got {r : List Chg × Int} {w w' : World} {v : Value} {ys : List VChg} {l : List Chg} (h : r = (l, 0)) (hy : ys.map Prod.snd = l) (hg : GotC w.heap.size w' v ys) (hb : Below w.heap.size w w') : ChgRes r w (.returned (.tuple #[v, .int .i64 0])) w' :=
  ⟨_, ys, by rw [h], by rw [h]; exact hy, hg, hb⟩
set_option maxRecDepth 100000 in
set_option maxHeartbeats 2000000 in
theorem diff_any (S T : Nat → Prop) (a b : List Ent) (va vb : Value) (w : World) (ha : EntsAt S w va a) (hb : EntsAt T w vb b) (henv : Env w) :
    Calls Tryz.prog 15 #[va, vb] w (ChgRes (diffQ a b) w) := by
  have HA := Lib.hid ha
  have HB := Lib.hid hb
  have HE := Lib.hid henv
  obtain ⟨x, hx⟩ : ∃ x, x = checkP a := ⟨_, rfl⟩
  obtain ⟨y, hy⟩ : ∃ y, y = checkP b := ⟨_, rfl⟩
  have hca := check_any S a va w ha henv
  rw [← hx] at hca
  have hcb := fun W (hW : Below w.heap.size w W) => check_any T b vb W (hb.below hW) (henv.below hW)
  rw [← hy] at hcb
  have HCB := Lib.hid hcb
  have HX := Lib.hid hx
  have HY := Lib.hid hy
  clear ha hb henv hx hy hcb
  by_cases h0 : x = 0
  · subst h0
    go_enter Tryz.func15, Tryz.ntmps15
    go_wp2_with fail
    refine hca.mono ?_
    rintro e w1 ⟨rfl, hb1⟩
    have HB1 := Lib.hid hb1
    clear hb1 hca
    by_cases h1 : y = 0
    · subst h1
      have HR := Lib.hid (show diffQ a b = (diffP a b, 0) by unfold diffQ; rw [← HX.out, ← HY.out]; rfl)
      go_wp2_with fail
      refine (HCB.out w1 HB1.out).mono ?_
      rintro e w2 ⟨rfl, hb2⟩
      have HB2 := Lib.hid (below_next HB1.out hb2)
      clear hb2
      go_wp2_with fail
      refine (difference_any S T a b va vb w2 (HA.out.below HB2.out) (HB.out.below HB2.out) (checkP_iff.1 HX.out.symm) (checkP_iff.1 HY.out.symm)).mono ?_
      rintro e w3 ⟨v, ys, rfl, hys, hg, hb3⟩
      have HYS := Lib.hid hys
      have HG := Lib.hid (hg.le HB2.out.size)
      have HB3 := Lib.hid (below_next HB2.out hb3)
      clear hys hg hb3
      go_wp2_with fail
      go_ret2
      exact chg_got HR.out HYS.out HG.out HB3.out
    · have HR := Lib.hid (show diffQ a b = ([], y) by unfold diffQ; rw [← HX.out, ← HY.out, if_neg (by simp), if_pos h1])
      have e1 : (y != 0) = true := by simp [h1]
      clear h1
      go_wp2_with fail
      refine (HCB.out w1 HB1.out).mono ?_
      rintro e w2 ⟨rfl, hb2⟩
      have HB2 := Lib.hid (below_next HB1.out hb2)
      clear hb2
      go_wp2_with fail
      go_ret2
      exact chg_err HR.out HB2.out
  · have HR := Lib.hid (show diffQ a b = ([], x) by unfold diffQ; rw [← HX.out, if_pos h0])
    have e1 : (x != 0) = true := by simp [h0]
    clear h0
    go_enter Tryz.func15, Tryz.ntmps15
    go_wp2_with fail
    refine hca.mono ?_
    rintro e w1 ⟨rfl, hb1⟩
    have HB1 := Lib.hid hb1
    clear hb1 hca
    go_wp2_with fail
    go_ret2
    exact chg_err HR.out HB1.out
theorem apply_flat (S T : Nat → Prop) (a : List Ent) (cs : List Chg) (va vl : Value) (w : World) (m : List Ent) (x : Int) (hr : applyP a cs = (m, x)) (ha : EntsAt S w va a) (hl : ChgsAt T w vl cs) (hlen : a.length + cs.length ≤ 4096) (henv : Env w) :
    Calls Tryz.prog 30 #[va, vl] w fun e w' => ∃ v ys, e = .returned (.tuple #[v, .int .i64 x]) ∧ ys.map Prod.snd = m ∧ GotE w.heap.size w' v ys ∧ Below w.heap.size w w' := by
  have := apply_any S T a cs va vl w ha hl hlen henv
  unfold AppRes at this
  rw [hr] at this
  exact this
set_option maxRecDepth 100000 in
set_option maxHeartbeats 2000000 in
theorem invert_any (S T : Nat → Prop) (a : List Ent) (cs : List Chg) (va vl : Value) (w : World) (ha : EntsAt S w va a) (hl : ChgsAt T w vl cs) (hlen : a.length + cs.length ≤ 4096) (henv : Env w) :
    Calls Tryz.prog 33 #[va, vl] w (ChgRes (invQ a cs) w) := by
  have HA := Lib.hid ha
  obtain ⟨m, x, hr⟩ : ∃ m x, applyP a cs = (m, x) := ⟨_, _, rfl⟩
  have hap := apply_flat S T a cs va vl w m x hr ha hl hlen henv
  have HR := Lib.hid hr
  clear ha hl hlen henv hr
  by_cases h0 : x = 0
  · subst h0
    have HQ := Lib.hid (show invQ a cs = (diffP m a, 0) by unfold invQ; rw [HR.out]; rfl)
    have HT := Lib.hid (app_tok (show (applyP a cs).2 = 0 by rw [HR.out]))
    rw [HR.out] at HT
    go_enter Tryz.func33, Tryz.ntmps33
    go_wp2_with fail
    refine hap.mono ?_
    rintro e w1 ⟨v, ys, rfl, hys, hg, hb1⟩
    have HS1 := Lib.hid hg.seq
    rw [hys] at HS1
    have HB1 := Lib.hid hb1
    clear hb1 hap hys hg
    go_wp2_with fail
    refine (difference_any _ S m a v va w1 HS1.out (HA.out.below HB1.out) HT.out.2 HT.out.1).mono ?_
    rintro e w2 ⟨v2, zs, rfl, hzs, hg, hb2⟩
    have HZS := Lib.hid hzs
    have HG := Lib.hid (hg.le HB1.out.size)
    have HB2 := Lib.hid (below_next HB1.out hb2)
    clear hzs hg hb2
    go_wp2_with fail
    go_ret2
    exact chg_got HQ.out HZS.out HG.out HB2.out
  · have HQ := Lib.hid (show invQ a cs = ([], x) by unfold invQ; rw [HR.out, if_pos h0])
    have e1 : (x != 0) = true := by simp [h0]
    clear h0
    go_enter Tryz.func33, Tryz.ntmps33
    go_wp2_with fail
    refine hap.mono ?_
    rintro e w1 ⟨v, ys, rfl, hys, hg, hb1⟩
    have HB1 := Lib.hid hb1
    clear hb1 hap hys hg
    go_wp2_with fail
    go_ret2
    exact chg_err HQ.out HB1.out
set_option maxRecDepth 100000 in
set_option maxHeartbeats 2000000 in
theorem compose_any (S T U : Nat → Prop) (a : List Ent) (cs ds : List Chg) (va vl vd : Value) (w : World) (ha : EntsAt S w va a) (hl : ChgsAt T w vl cs) (hd : ChgsAt U w vd ds) (hlen : a.length + cs.length + ds.length ≤ 4096) (henv : Env w) :
    Calls Tryz.prog 34 #[va, vl, vd] w (ChgRes (compQ a cs ds) w) := by
  have HA := Lib.hid ha
  have HD := Lib.hid hd
  have HE := Lib.hid henv
  have HLEN := Lib.hid hlen
  obtain ⟨m, x, hr⟩ : ∃ m x, applyP a cs = (m, x) := ⟨_, _, rfl⟩
  have hap := apply_flat S T a cs va vl w m x hr ha hl (by omega) henv
  have HR := Lib.hid hr
  clear ha hl hd hlen henv hr
  by_cases h0 : x = 0
  · subst h0
    have HT := Lib.hid (app_tok (show (applyP a cs).2 = 0 by rw [HR.out]))
    rw [HR.out] at HT
    have HML := Lib.hid (show m.length + ds.length ≤ 4096 by
      have h1 := @app_len a cs
      rw [HR.out] at h1
      have h2 := HLEN.out
      simp only at h1
      omega)
    go_enter Tryz.func34, Tryz.ntmps34
    go_wp2_with fail
    refine hap.mono ?_
    rintro e w1 ⟨v, ys, rfl, hys, hg, hb1⟩
    have HS1 := Lib.hid hg.seq
    rw [hys] at HS1
    have HB1 := Lib.hid hb1
    clear hb1 hap hys hg
    obtain ⟨m2, x2, hr2⟩ : ∃ m2 x2, applyP m ds = (m2, x2) := ⟨_, _, rfl⟩
    have HR2 := Lib.hid hr2
    have hap2 := apply_flat _ U m ds v vd w1 m2 x2 hr2 HS1.out (HD.out.below HB1.out) HML.out (HE.out.below HB1.out)
    clear hr2
    by_cases h1 : x2 = 0
    · subst h1
      have HQ := Lib.hid (show compQ a cs ds = (diffP a m2, 0) by unfold compQ; rw [HR.out]; simp only; rw [HR2.out]; rfl)
      have HT2 := Lib.hid (app_tok (show (applyP m ds).2 = 0 by rw [HR2.out]))
      rw [HR2.out] at HT2
      go_wp2_with fail
      refine hap2.mono ?_
      rintro e w2 ⟨v2, y2, rfl, hys, hg, hb2⟩
      have HS2 := Lib.hid hg.seq
      rw [hys] at HS2
      have HB2 := Lib.hid (below_next HB1.out hb2)
      clear hb2 hap2 hys hg
      go_wp2_with fail
      refine (difference_any S _ a m2 va v2 w2 (HA.out.below HB2.out) HS2.out HT.out.1 HT2.out.2).mono ?_
      rintro e w3 ⟨v3, zs, rfl, hzs, hg, hb3⟩
      have HZS := Lib.hid hzs
      have HG := Lib.hid (hg.le HB2.out.size)
      have HB3 := Lib.hid (below_next HB2.out hb3)
      clear hzs hg hb3
      go_wp2_with fail
      go_ret2
      exact chg_got HQ.out HZS.out HG.out HB3.out
    · have HQ := Lib.hid (show compQ a cs ds = ([], x2) by unfold compQ; rw [HR.out]; simp only; rw [HR2.out]; simp [h1])
      have e1 : (x2 != 0) = true := by simp [h1]
      clear h1
      go_wp2_with fail
      refine hap2.mono ?_
      rintro e w2 ⟨v2, y2, rfl, hys, hg, hb2⟩
      have HB2 := Lib.hid (below_next HB1.out hb2)
      clear hb2 hap2 hys hg
      go_wp2_with fail
      go_ret2
      exact chg_err HQ.out HB2.out
  · have HQ := Lib.hid (show compQ a cs ds = ([], x) by unfold compQ; rw [HR.out, if_pos h0])
    have e1 : (x != 0) = true := by simp [h0]
    clear h0
    go_enter Tryz.func34, Tryz.ntmps34
    go_wp2_with fail
    refine hap.mono ?_
    rintro e w1 ⟨v, ys, rfl, hys, hg, hb1⟩
    have HB1 := Lib.hid hb1
    clear hb1 hap hys hg
    go_wp2_with fail
    go_ret2
    exact chg_err HQ.out HB1.out

end Go.Proofs.YtdieneaillkbgaaGreatDoor

/- (*strings.Builder).WriteString: its laying in this program, its contract. -/
namespace Go.Proofs.YtdieneaillkbgaaGreatDoor
open Go Go.RowKit Go.Shelf

def Tryz.bldRen : Go.Shelf.Ren := ⟨fun | 166 => 56 | 240 => 82 | 276 => 96 | n => n,
  fun | 0 => 0 | 3 => 3 | 4 => 4 | 5 => 5 | 9 => 9 | 20 => 20 | 37 => 46 | 70 => 89 | 72 => 91 | 75 => 93 | 80 => 96 | 127 => 123 | 164 => 133 | n => n, fun | n => n⟩
theorem Tryz.laysBld : Lays.n166 Tryz.prog Tryz.bldRen := {
  mixed := by kernel_rfl
  f166 := Tryz.func56.trans (congrArg some (by kernel_rfl))
  f240 := Tryz.func82.trans (congrArg some (by kernel_rfl))
  f276 := Tryz.func96.trans (congrArg some (by kernel_rfl))
  t0 := Tryz.underlying0
  a0 := Tryz.isAgg0
  z0 := Tryz.sizeOf0
  v0 := Tryz.zeroValue0
  t3 := Tryz.underlying3
  a3 := Tryz.isAgg3
  z3 := Tryz.sizeOf3
  v3 := Tryz.zeroValue3
  t4 := Tryz.underlying4
  a4 := Tryz.isAgg4
  z4 := Tryz.sizeOf4
  v4 := Tryz.zeroValue4
  t9 := Tryz.underlying9
  a9 := Tryz.isAgg9
  z9 := Tryz.sizeOf9
  v9 := Tryz.zeroValue9
  t20 := Tryz.underlying20
  a20 := Tryz.isAgg20
  z20 := Tryz.sizeOf20
  v20 := Tryz.zeroValue20
  t37 := Tryz.underlying46
  a37 := Tryz.isAgg46
  z37 := Tryz.sizeOf46
  v37 := Tryz.zeroValue46
  t70 := Tryz.underlying89
  a70 := Tryz.isAgg89
  z70 := Tryz.sizeOf89
  v70 := Tryz.zeroValue89
  t72 := Tryz.underlying91
  a72 := Tryz.isAgg91
  z72 := Tryz.sizeOf91
  v72 := Tryz.zeroValue91
  t75 := Tryz.underlying93
  a75 := Tryz.isAgg93
  z75 := Tryz.sizeOf93
  v75 := Tryz.zeroValue93
  t164 := Tryz.underlying133
  a164 := Tryz.isAgg133
  z164 := Tryz.sizeOf133
  v164 := Tryz.zeroValue133 }
theorem Tryz.bldExtra : Builder.Extra Tryz.prog Tryz.bldRen := {
  sizeBuilder := by kernel_rfl
  liesBuilder := by kernel_rfl
  t5 := Tryz.underlying5
  a5 := Tryz.isAgg5
  z5 := Tryz.sizeOf5
  v5 := Tryz.zeroValue5
  infoByte := by kernel_rfl
  cellsByte := by kernel_rfl
  sizeByte := by kernel_rfl
  neB5 := by decide }
theorem writeS_any (B b : Nat) (bs : List Value) (s : ByteArray) (w : World) (h : Lib.IsBuilderF 91 5 B b bs w) (hlen : bs.length + s.size ≤ 140737488355328) (hBw : B ≤ w.heap.size) :
    Calls Tryz.prog 56 #[.pointer (some ⟨b, 0, none⟩), .string s] w fun e w' => e = .returned (.tuple #[.int .i64 s.size, .nilIface]) ∧ (Lib.BuilderAtF 91 5 B b (.pointer (some ⟨b, 0, none⟩)) (bs ++ Lib.strCells s) w' ∧ Below B w w' ∧ Lib.OthersKept 5 (some b) w w') :=
  Any.Builder_WriteString_k Tryz.laysBld Tryz.bldExtra B b bs s w h hlen hBw

end Go.Proofs.YtdieneaillkbgaaGreatDoor

/- Contracts of package treediff: Text. -/
namespace Go.Proofs.YtdieneaillkbgaaGreatDoor
open Go.RowKit Go.Maps

def headC (c : Chg) : List UInt8 := if c.kind = 1 then [45, 32] else if c.kind = 2 then [62, 32] ++ bl c.src ++ [9] else if c.kind = 3 then [43, 32] else if c.kind = 4 then [42, 32] else [63, 32]
def lineC (c : Chg) : List UInt8 := headC c ++ (bl c.path ++ [10])
def textP (cs : List Chg) : List UInt8 := cs.flatMap lineC
theorem text_take {cs : List Chg} {k : Nat} {c : Chg} (h : cs[k]? = some c) : textP (cs.take (k + 1)) = textP (cs.take k) ++ (headC c ++ (bl c.path ++ [10])) := by
  unfold textP
  rw [List.take_add_one, h]; simp [lineC]
def ShortC (c : Chg) : Prop := c.path.size ≤ 65536 ∧ c.src.size ≤ 65536
theorem line_len {c : Chg} (h : ShortC c) : (headC c).length ≤ 65539 ∧ (lineC c).length ≤ 131076 := by
  obtain ⟨h1, h2⟩ := h
  rw [size_bl] at h1 h2
  have : (headC c).length ≤ 65539 := by
    unfold headC
    split
    · simp
    · split
      · simp; omega
      · split
        · simp
        · split <;> simp
  refine ⟨this, ?_⟩
  unfold lineC
  simp only [List.length_append, List.length_cons, List.length_nil]
  omega
theorem text_len : ∀ {cs : List Chg}, (∀ c ∈ cs, ShortC c) → (textP cs).length ≤ 131076 * cs.length
  | [], _ => by simp [textP]
  | c :: cs, h => by
    have h1 := (line_len (h c (List.mem_cons_self ..))).2
    have h2 := text_len fun x hx => h x (List.mem_cons_of_mem _ hx)
    have e : (textP (c :: cs)).length = (lineC c).length + (textP cs).length := by simp [textP]
    rw [e, List.length_cons]; omega
theorem str_cells (s : ByteArray) : Lib.strCells s = Lib.byteCells (bl s) := Lib.strCells_eq s
theorem ws_room {l : List UInt8} {s : ByteArray} (h : l.length ≤ 10000000000) (k : s.size ≤ 1000000) : (Lib.byteCells l).length + s.size ≤ 140737488355328 := by
  rw [Lib.byteCells_length]; omega
def bT : TypeId := 91

set_option maxRecDepth 100000 in
set_option maxHeartbeats 4000000 in
theorem text_any (S : Nat → Prop) (cs : List Chg) (vl : Value) (w : World) (hl : ChgsAt S w vl cs) (hsm : ∀ c ∈ cs, ShortC c) (hcn : cs.length ≤ 65536) :
    Calls Tryz.prog 23 #[vl] w fun e w' => e = .returned (.string ⟨(textP cs).toArray⟩) ∧ Below w.heap.size w w' := by
  have HL := Lib.hid hl
  have HSM := Lib.hid hsm
  have HCN := Lib.hid hcn
  obtain ⟨al, cl, rfl, hc, hm⟩ := chgs_shape hl
  obtain ⟨n, hn⟩ : ∃ n, n = cs.length := ⟨_, rfl⟩
  rw [← hn] at hc HL hl ⊢
  have HN := Lib.hid hn
  unfold maxLen at hm
  have HFR := Lib.hid (show Lib.IsBuilderF 91 5 w.heap.size w.heap.size [] (w.alloc (.cells #[.pointer none, .slice none 0 0] 91)) from
    Lib.IsBuilderF.of (.inl ⟨Nat.le_refl _, .slice none 0 0, new20 w _, World.ownsRow_nil _ _ _ _, by simp [Value.ownBlock]⟩))
  clear hl hsm hcn hn
  go_enter Tryz.func23, Tryz.ntmps23
  go_wp2_with fail
  go_loopw [8] (fun i wr => ∃ k : Nat, k ≤ n ∧ i = .int .i64 k ∧ Below w.heap.size w wr ∧ w.heap.size < wr.heap.size ∧ Lib.IsBuilderF 91 5 w.heap.size w.heap.size (Lib.byteCells (textP (cs.take k))) wr) (fun i _ => n - (intOf i).toNat)
  case atStart => exact ⟨0, Nat.zero_le _, rfl, (Below.refl _ _).alloc (Nat.le_refl _) _, by simp, HFR.out⟩
  case round =>
    obtain ⟨k, hk, rfl, hbr, hlw, hbu⟩ := hrel
    have HBR := Lib.hid hbr
    have HBU := Lib.hid hbu
    have HLW := Lib.hid hlw
    have HTL := Lib.hid (show (textP (cs.take k)).length ≤ 10000000000 by
      have h1 := text_len (cs := cs.take k) fun x hx => HSM.out x (List.mem_of_mem_take hx)
      have h2 := HCN.out
      rw [List.length_take] at h1
      omega)
    clear hbr hbu hlw
    by_cases hlt : k < n
    · obtain ⟨c, hcc⟩ : ∃ c, cs[k]? = some c := ⟨cs[k]'(by rw [← HN.out]; exact hlt), by simp⟩
      have HSH := Lib.hid (HSM.out c (List.mem_of_getElem? hcc))
      have HTK := Lib.hid (text_take hcc)
      have hcp := HSH.out.1
      have hcs := HSH.out.2
      obtain ⟨b, o, dv, rfl, hb, hd, hok, hq⟩ := chgs_at (HL.out.below HBR.out) hcc
      have HAT := Lib.hid hcc
      have HD := Lib.hid hd
      have HOK := Lib.hid hok
      obtain ⟨a1, cap1, rfl, hd1, hd2⟩ := hd.slice
      unfold maxLen at hd2
      have c0 := (hq 0 (by omega)).trans rfl
      have c1 := (hq 1 (by omega)).trans rfl
      have c2 := (hq 2 (by omega)).trans rfl
      have c3 := (hq 3 (by omega)).trans rfl
      have c4 := (hq 4 (by omega)).trans rfl
      have c5 := (hq 5 (by omega)).trans rfl
      have c6 := (hq 6 (by omega)).trans rfl
      have c7 := (hq 7 (by omega)).trans rfl
      have c8 := (hq 8 (by omega)).trans rfl
      simp only [chgC, List.getElem?_cons_succ, List.getElem?_cons_zero, Nat.add_zero] at c0 c1 c2 c3 c4 c5 c6 c7 c8
      clear hcc hd hok hq
      go_upto_region 5 with (fail)
      obtain ⟨W, hW⟩ : ∃ W : World, W = wr.alloc (.cells #[.int .i64 c.kind, .string c.path, .string c.src, .string c.en.path, .int .i64 c.en.kind, .int .i64 c.en.mode, .int .i64 c.en.time, .slice a1 c.en.data.length cap1, .string c.en.link] 58) := ⟨_, rfl⟩
      rw [← hW]
      have HW := Lib.hid (show Below wr.heap.size wr W by rw [hW]; exact (Below.refl _ _).alloc (Nat.le_refl _) _)
      have HX := Lib.hid (show W.heap[wr.heap.size]? = some (.cells #[.int .i64 c.kind, .string c.path, .string c.src, .string c.en.path, .int .i64 c.en.kind, .int .i64 c.en.mode, .int .i64 c.en.time, .slice a1 c.en.data.length cap1, .string c.en.link] 58 (0, 0)) by rw [hW]; exact new20 wr _)
      have HEQ := Lib.hid hW.symm
      clear hW c0 c1 c2 c3 c4 c5 c6 c7 c8
      have c0 := cell20 (k := 0) HX.out
      have c1 := cell20 (k := 1) HX.out
      have c2 := cell20 (k := 2) HX.out
      have c3 := cell20 (k := 3) HX.out
      have c4 := cell20 (k := 4) HX.out
      have c5 := cell20 (k := 5) HX.out
      have c6 := cell20 (k := 6) HX.out
      have c7 := cell20 (k := 7) HX.out
      have c8 := cell20 (k := 8) HX.out
      have hltX := lt20 HX.out
      simp only [List.getElem?_toArray, List.getElem?_cons_succ, List.getElem?_cons_zero] at c0 c1 c2 c3 c4 c5 c6 c7 c8
      have HBW := Lib.hid (below_next HBR.out HW.out)
      have HBUW := Lib.hid (HEQ.out ▸ HBU.out.alloc _)
      have HSW := Lib.hid (show w.heap.size ≤ W.heap.size from HBW.out.size)
      by_cases h1 : c.kind = 1
      · have HH := Lib.hid (show headC c = [45, 32] by unfold headC; rw [if_pos h1])
        go_wp2_with fail
        refine (writeS_any w.heap.size w.heap.size _ _ W HBUW.out (ws_room HTL.out ?_) HSW.out).mono ?_
        · first
          | decide
          | (have h := HSH.out.2
             rw [ByteArray.size_append, ByteArray.size_append]
             show 2 + c.src.size + 1 ≤ 1000000
             omega)
        rintro e w4 ⟨rfl, hbu4, hb4, hko4⟩
        have HX4 := Lib.hid (hko4 _ _ HX.out (fun e => by have h1 := Option.some.inj e; have h2 := HLW.out; omega) (fun c' fz e => by injection e with _ e2 _; revert e2; decide))
        have HB4 := Lib.hid (HBW.out.trans hb4)
        have HBU4 := Lib.hid (show Lib.IsBuilderF 91 5 w.heap.size w.heap.size (Lib.byteCells (textP (cs.take k) ++ headC c)) w4 by
          rw [HH.out, Lib.byteCells_append]
          refine .inr ?_
          first
            | exact hbu4
            | (rw [str_cells] at hbu4; simpa [bl, Lib.byteCells_append] using hbu4))
        have HTL4 := Lib.hid (show (textP (cs.take k) ++ headC c).length ≤ 10000000000 by
          have h1 := text_len (cs := cs.take k) fun x hx => HSM.out x (List.mem_of_mem_take hx)
          have h2 := HCN.out
          have h3 := (line_len HSH.out).1
          rw [List.length_take] at h1
          rw [List.length_append]
          omega)
        have HSW4 := Lib.hid (show w.heap.size ≤ w4.heap.size from HB4.out.size)
        clear hbu4 hb4 hko4 c0 c1 c2 c3 c4 c5 c6 c7 c8 hltX
        have c0 := cell20 (k := 0) HX4.out
        have c1 := cell20 (k := 1) HX4.out
        have c2 := cell20 (k := 2) HX4.out
        have c3 := cell20 (k := 3) HX4.out
        have c4 := cell20 (k := 4) HX4.out
        have c5 := cell20 (k := 5) HX4.out
        have c6 := cell20 (k := 6) HX4.out
        have c7 := cell20 (k := 7) HX4.out
        have c8 := cell20 (k := 8) HX4.out
        have hltX := lt20 HX4.out
        simp only [List.getElem?_toArray, List.getElem?_cons_succ, List.getElem?_cons_zero] at c0 c1 c2 c3 c4 c5 c6 c7 c8
        go_wp2_with fail
        refine (writeS_any w.heap.size w.heap.size _ _ w4 HBU4.out (ws_room HTL4.out ?_) HSW4.out).mono ?_
        · have h := HSH.out.1
          rw [ByteArray.size_append]
          show c.path.size + 1 ≤ 1000000
          omega
        rintro e w5 ⟨rfl, hbu5, hb5, -⟩
        have HB5 := Lib.hid (HB4.out.trans hb5)
        have HBU5 := Lib.hid (show Lib.IsBuilderF 91 5 w.heap.size w.heap.size (Lib.byteCells (textP (cs.take (k + 1)))) w5 by
          rw [HTK.out, ← List.append_assoc, Lib.byteCells_append]
          refine .inr ?_
          rw [str_cells, bl_append] at hbu5
          exact hbu5)
        have HLW5 := Lib.hid (show w.heap.size < w5.heap.size by have h1 := HLW.out; have h2 := HW.out.size; have h3 := lt20 HX4.out; have h4 := hb5.size; have h5 := HB5.out.size; omega)
        clear hbu5 hb5 c0 c1 c2 c3 c4 c5 c6 c7 c8 hltX
        go_wp2_with fail
        go_roundw
        case rel => exact ⟨k + 1, by omega, by go_num, HB5.out, HLW5.out, HBU5.out⟩
        case measure => simp [intOf]; omega
      · by_cases h2 : c.kind = 2
        · have HH := Lib.hid (show headC c = [62, 32] ++ bl c.src ++ [9] by unfold headC; rw [if_neg h1, if_pos h2])
          go_wp2_with fail
          refine (writeS_any w.heap.size w.heap.size _ _ W HBUW.out (ws_room HTL.out ?_) HSW.out).mono ?_
          · first
            | decide
            | (have h := HSH.out.2
               rw [ByteArray.size_append, ByteArray.size_append]
               show 2 + c.src.size + 1 ≤ 1000000
               omega)
          rintro e w4 ⟨rfl, hbu4, hb4, hko4⟩
          have HX4 := Lib.hid (hko4 _ _ HX.out (fun e => by have h1 := Option.some.inj e; have h2 := HLW.out; omega) (fun c' fz e => by injection e with _ e2 _; revert e2; decide))
          have HB4 := Lib.hid (HBW.out.trans hb4)
          have HBU4 := Lib.hid (show Lib.IsBuilderF 91 5 w.heap.size w.heap.size (Lib.byteCells (textP (cs.take k) ++ headC c)) w4 by
            rw [HH.out, Lib.byteCells_append]
            refine .inr ?_
            first
              | exact hbu4
              | (rw [str_cells] at hbu4; simpa [bl, Lib.byteCells_append] using hbu4))
          have HTL4 := Lib.hid (show (textP (cs.take k) ++ headC c).length ≤ 10000000000 by
            have h1 := text_len (cs := cs.take k) fun x hx => HSM.out x (List.mem_of_mem_take hx)
            have h2 := HCN.out
            have h3 := (line_len HSH.out).1
            rw [List.length_take] at h1
            rw [List.length_append]
            omega)
          have HSW4 := Lib.hid (show w.heap.size ≤ w4.heap.size from HB4.out.size)
          clear hbu4 hb4 hko4 c0 c1 c2 c3 c4 c5 c6 c7 c8 hltX
          have c0 := cell20 (k := 0) HX4.out
          have c1 := cell20 (k := 1) HX4.out
          have c2 := cell20 (k := 2) HX4.out
          have c3 := cell20 (k := 3) HX4.out
          have c4 := cell20 (k := 4) HX4.out
          have c5 := cell20 (k := 5) HX4.out
          have c6 := cell20 (k := 6) HX4.out
          have c7 := cell20 (k := 7) HX4.out
          have c8 := cell20 (k := 8) HX4.out
          have hltX := lt20 HX4.out
          simp only [List.getElem?_toArray, List.getElem?_cons_succ, List.getElem?_cons_zero] at c0 c1 c2 c3 c4 c5 c6 c7 c8
          go_wp2_with fail
          refine (writeS_any w.heap.size w.heap.size _ _ w4 HBU4.out (ws_room HTL4.out ?_) HSW4.out).mono ?_
          · have h := HSH.out.1
            rw [ByteArray.size_append]
            show c.path.size + 1 ≤ 1000000
            omega
          rintro e w5 ⟨rfl, hbu5, hb5, -⟩
          have HB5 := Lib.hid (HB4.out.trans hb5)
          have HBU5 := Lib.hid (show Lib.IsBuilderF 91 5 w.heap.size w.heap.size (Lib.byteCells (textP (cs.take (k + 1)))) w5 by
            rw [HTK.out, ← List.append_assoc, Lib.byteCells_append]
            refine .inr ?_
            rw [str_cells, bl_append] at hbu5
            exact hbu5)
          have HLW5 := Lib.hid (show w.heap.size < w5.heap.size by have h1 := HLW.out; have h2 := HW.out.size; have h3 := lt20 HX4.out; have h4 := hb5.size; have h5 := HB5.out.size; omega)
          clear hbu5 hb5 c0 c1 c2 c3 c4 c5 c6 c7 c8 hltX
          go_wp2_with fail
          go_roundw
          case rel => exact ⟨k + 1, by omega, by go_num, HB5.out, HLW5.out, HBU5.out⟩
          case measure => simp [intOf]; omega
        · by_cases h3 : c.kind = 3
          · have HH := Lib.hid (show headC c = [43, 32] by unfold headC; rw [if_neg h1, if_neg h2, if_pos h3])
            go_wp2_with fail
            refine (writeS_any w.heap.size w.heap.size _ _ W HBUW.out (ws_room HTL.out ?_) HSW.out).mono ?_
            · first
              | decide
              | (have h := HSH.out.2
                 rw [ByteArray.size_append, ByteArray.size_append]
                 show 2 + c.src.size + 1 ≤ 1000000
                 omega)
            rintro e w4 ⟨rfl, hbu4, hb4, hko4⟩
            have HX4 := Lib.hid (hko4 _ _ HX.out (fun e => by have h1 := Option.some.inj e; have h2 := HLW.out; omega) (fun c' fz e => by injection e with _ e2 _; revert e2; decide))
            have HB4 := Lib.hid (HBW.out.trans hb4)
            have HBU4 := Lib.hid (show Lib.IsBuilderF 91 5 w.heap.size w.heap.size (Lib.byteCells (textP (cs.take k) ++ headC c)) w4 by
              rw [HH.out, Lib.byteCells_append]
              refine .inr ?_
              first
                | exact hbu4
                | (rw [str_cells] at hbu4; simpa [bl, Lib.byteCells_append] using hbu4))
            have HTL4 := Lib.hid (show (textP (cs.take k) ++ headC c).length ≤ 10000000000 by
              have h1 := text_len (cs := cs.take k) fun x hx => HSM.out x (List.mem_of_mem_take hx)
              have h2 := HCN.out
              have h3 := (line_len HSH.out).1
              rw [List.length_take] at h1
              rw [List.length_append]
              omega)
            have HSW4 := Lib.hid (show w.heap.size ≤ w4.heap.size from HB4.out.size)
            clear hbu4 hb4 hko4 c0 c1 c2 c3 c4 c5 c6 c7 c8 hltX
            have c0 := cell20 (k := 0) HX4.out
            have c1 := cell20 (k := 1) HX4.out
            have c2 := cell20 (k := 2) HX4.out
            have c3 := cell20 (k := 3) HX4.out
            have c4 := cell20 (k := 4) HX4.out
            have c5 := cell20 (k := 5) HX4.out
            have c6 := cell20 (k := 6) HX4.out
            have c7 := cell20 (k := 7) HX4.out
            have c8 := cell20 (k := 8) HX4.out
            have hltX := lt20 HX4.out
            simp only [List.getElem?_toArray, List.getElem?_cons_succ, List.getElem?_cons_zero] at c0 c1 c2 c3 c4 c5 c6 c7 c8
            go_wp2_with fail
            refine (writeS_any w.heap.size w.heap.size _ _ w4 HBU4.out (ws_room HTL4.out ?_) HSW4.out).mono ?_
            · have h := HSH.out.1
              rw [ByteArray.size_append]
              show c.path.size + 1 ≤ 1000000
              omega
            rintro e w5 ⟨rfl, hbu5, hb5, -⟩
            have HB5 := Lib.hid (HB4.out.trans hb5)
            have HBU5 := Lib.hid (show Lib.IsBuilderF 91 5 w.heap.size w.heap.size (Lib.byteCells (textP (cs.take (k + 1)))) w5 by
              rw [HTK.out, ← List.append_assoc, Lib.byteCells_append]
              refine .inr ?_
              rw [str_cells, bl_append] at hbu5
              exact hbu5)
            have HLW5 := Lib.hid (show w.heap.size < w5.heap.size by have h1 := HLW.out; have h2 := HW.out.size; have h3 := lt20 HX4.out; have h4 := hb5.size; have h5 := HB5.out.size; omega)
            clear hbu5 hb5 c0 c1 c2 c3 c4 c5 c6 c7 c8 hltX
            go_wp2_with fail
            go_roundw
            case rel => exact ⟨k + 1, by omega, by go_num, HB5.out, HLW5.out, HBU5.out⟩
            case measure => simp [intOf]; omega
          · by_cases h4 : c.kind = 4
            · have HH := Lib.hid (show headC c = [42, 32] by unfold headC; rw [if_neg h1, if_neg h2, if_neg h3, if_pos h4])
              go_wp2_with fail
              refine (writeS_any w.heap.size w.heap.size _ _ W HBUW.out (ws_room HTL.out ?_) HSW.out).mono ?_
              · first
                | decide
                | (have h := HSH.out.2
                   rw [ByteArray.size_append, ByteArray.size_append]
                   show 2 + c.src.size + 1 ≤ 1000000
                   omega)
              rintro e w4 ⟨rfl, hbu4, hb4, hko4⟩
              have HX4 := Lib.hid (hko4 _ _ HX.out (fun e => by have h1 := Option.some.inj e; have h2 := HLW.out; omega) (fun c' fz e => by injection e with _ e2 _; revert e2; decide))
              have HB4 := Lib.hid (HBW.out.trans hb4)
              have HBU4 := Lib.hid (show Lib.IsBuilderF 91 5 w.heap.size w.heap.size (Lib.byteCells (textP (cs.take k) ++ headC c)) w4 by
                rw [HH.out, Lib.byteCells_append]
                refine .inr ?_
                first
                  | exact hbu4
                  | (rw [str_cells] at hbu4; simpa [bl, Lib.byteCells_append] using hbu4))
              have HTL4 := Lib.hid (show (textP (cs.take k) ++ headC c).length ≤ 10000000000 by
                have h1 := text_len (cs := cs.take k) fun x hx => HSM.out x (List.mem_of_mem_take hx)
                have h2 := HCN.out
                have h3 := (line_len HSH.out).1
                rw [List.length_take] at h1
                rw [List.length_append]
                omega)
              have HSW4 := Lib.hid (show w.heap.size ≤ w4.heap.size from HB4.out.size)
              clear hbu4 hb4 hko4 c0 c1 c2 c3 c4 c5 c6 c7 c8 hltX
              have c0 := cell20 (k := 0) HX4.out
              have c1 := cell20 (k := 1) HX4.out
              have c2 := cell20 (k := 2) HX4.out
              have c3 := cell20 (k := 3) HX4.out
              have c4 := cell20 (k := 4) HX4.out
              have c5 := cell20 (k := 5) HX4.out
              have c6 := cell20 (k := 6) HX4.out
              have c7 := cell20 (k := 7) HX4.out
              have c8 := cell20 (k := 8) HX4.out
              have hltX := lt20 HX4.out
              simp only [List.getElem?_toArray, List.getElem?_cons_succ, List.getElem?_cons_zero] at c0 c1 c2 c3 c4 c5 c6 c7 c8
              go_wp2_with fail
              refine (writeS_any w.heap.size w.heap.size _ _ w4 HBU4.out (ws_room HTL4.out ?_) HSW4.out).mono ?_
              · have h := HSH.out.1
                rw [ByteArray.size_append]
                show c.path.size + 1 ≤ 1000000
                omega
              rintro e w5 ⟨rfl, hbu5, hb5, -⟩
              have HB5 := Lib.hid (HB4.out.trans hb5)
              have HBU5 := Lib.hid (show Lib.IsBuilderF 91 5 w.heap.size w.heap.size (Lib.byteCells (textP (cs.take (k + 1)))) w5 by
                rw [HTK.out, ← List.append_assoc, Lib.byteCells_append]
                refine .inr ?_
                rw [str_cells, bl_append] at hbu5
                exact hbu5)
              have HLW5 := Lib.hid (show w.heap.size < w5.heap.size by have h1 := HLW.out; have h2 := HW.out.size; have h3 := lt20 HX4.out; have h4 := hb5.size; have h5 := HB5.out.size; omega)
              clear hbu5 hb5 c0 c1 c2 c3 c4 c5 c6 c7 c8 hltX
              go_wp2_with fail
              go_roundw
              case rel => exact ⟨k + 1, by omega, by go_num, HB5.out, HLW5.out, HBU5.out⟩
              case measure => simp [intOf]; omega
            · have HH := Lib.hid (show headC c = [63, 32] by unfold headC; rw [if_neg h1, if_neg h2, if_neg h3, if_neg h4])
              go_wp2_with fail
              refine (writeS_any w.heap.size w.heap.size _ _ W HBUW.out (ws_room HTL.out ?_) HSW.out).mono ?_
              · first
                | decide
                | (have h := HSH.out.2
                   rw [ByteArray.size_append, ByteArray.size_append]
                   show 2 + c.src.size + 1 ≤ 1000000
                   omega)
              rintro e w4 ⟨rfl, hbu4, hb4, hko4⟩
              have HX4 := Lib.hid (hko4 _ _ HX.out (fun e => by have h1 := Option.some.inj e; have h2 := HLW.out; omega) (fun c' fz e => by injection e with _ e2 _; revert e2; decide))
              have HB4 := Lib.hid (HBW.out.trans hb4)
              have HBU4 := Lib.hid (show Lib.IsBuilderF 91 5 w.heap.size w.heap.size (Lib.byteCells (textP (cs.take k) ++ headC c)) w4 by
                rw [HH.out, Lib.byteCells_append]
                refine .inr ?_
                first
                  | exact hbu4
                  | (rw [str_cells] at hbu4; simpa [bl, Lib.byteCells_append] using hbu4))
              have HTL4 := Lib.hid (show (textP (cs.take k) ++ headC c).length ≤ 10000000000 by
                have h1 := text_len (cs := cs.take k) fun x hx => HSM.out x (List.mem_of_mem_take hx)
                have h2 := HCN.out
                have h3 := (line_len HSH.out).1
                rw [List.length_take] at h1
                rw [List.length_append]
                omega)
              have HSW4 := Lib.hid (show w.heap.size ≤ w4.heap.size from HB4.out.size)
              clear hbu4 hb4 hko4 c0 c1 c2 c3 c4 c5 c6 c7 c8 hltX
              have c0 := cell20 (k := 0) HX4.out
              have c1 := cell20 (k := 1) HX4.out
              have c2 := cell20 (k := 2) HX4.out
              have c3 := cell20 (k := 3) HX4.out
              have c4 := cell20 (k := 4) HX4.out
              have c5 := cell20 (k := 5) HX4.out
              have c6 := cell20 (k := 6) HX4.out
              have c7 := cell20 (k := 7) HX4.out
              have c8 := cell20 (k := 8) HX4.out
              have hltX := lt20 HX4.out
              simp only [List.getElem?_toArray, List.getElem?_cons_succ, List.getElem?_cons_zero] at c0 c1 c2 c3 c4 c5 c6 c7 c8
              go_wp2_with fail
              refine (writeS_any w.heap.size w.heap.size _ _ w4 HBU4.out (ws_room HTL4.out ?_) HSW4.out).mono ?_
              · have h := HSH.out.1
                rw [ByteArray.size_append]
                show c.path.size + 1 ≤ 1000000
                omega
              rintro e w5 ⟨rfl, hbu5, hb5, -⟩
              have HB5 := Lib.hid (HB4.out.trans hb5)
              have HBU5 := Lib.hid (show Lib.IsBuilderF 91 5 w.heap.size w.heap.size (Lib.byteCells (textP (cs.take (k + 1)))) w5 by
                rw [HTK.out, ← List.append_assoc, Lib.byteCells_append]
                refine .inr ?_
                rw [str_cells, bl_append] at hbu5
                exact hbu5)
              have HLW5 := Lib.hid (show w.heap.size < w5.heap.size by have h1 := HLW.out; have h2 := HW.out.size; have h3 := lt20 HX4.out; have h4 := hb5.size; have h5 := HB5.out.size; omega)
              clear hbu5 hb5 c0 c1 c2 c3 c4 c5 c6 c7 c8 hltX
              go_wp2_with fail
              go_roundw
              case rel => exact ⟨k + 1, by omega, by go_num, HB5.out, HLW5.out, HBU5.out⟩
              case measure => simp [intOf]; omega
    · have hk2 : n = k := by omega
      subst hk2
      have hbu := HBU.out
      rw [HN.out, List.take_length] at hbu
      have HBU9 := Lib.hid hbu
      clear hbu
      go_wp2_with fail
      refine (Tryz.Builder_String_any_k w.heap.size w.heap.size (textP cs) wr HBU9.out HBR.out.size).mono ?_
      rintro e w4 ⟨rfl, -, hb4, -⟩
      have HB4 := Lib.hid (HBR.out.trans hb4)
      clear hb4
      go_wp2_with fail
      go_ret
      exact ⟨rfl, HB4.out⟩

end Go.Proofs.YtdieneaillkbgaaGreatDoor

/- Contracts of package treediff: Counts. -/
namespace Go.Proofs.YtdieneaillkbgaaGreatDoor
open Go.RowKit Go.Maps

/-- Whether a file has this content. -/
def knowP (a : List Ent) (d : List UInt8) : Bool := a.any fun x => decide (x.kind = 1) && decide (x.data = d)
def newC (a : List Ent) (c : Chg) : Nat := if (c.kind = 3 ∨ c.kind = 4) ∧ c.en.kind = 1 ∧ knowP a c.en.data = false then c.en.data.length else 0
def cntC (k : Int) (cs : List Chg) : Nat := (ofK k cs).length
def sumC (a : List Ent) (cs : List Chg) : Nat := (cs.map (newC a)).sum
def knowK (a : List Ent) (p : ByteArray) : Bool := knowP a (bl p)
theorem know_take {a : List Ent} {k : Nat} {e : Ent} (h : a[k]? = some e) : knowK (a.take (k + 1)) = if e.kind = 1 then addK (knowK (a.take k)) ⟨e.data.toArray⟩ else knowK (a.take k) := by
  funext p
  have h1 : knowK (a.take (k + 1)) p = (knowK (a.take k) p || (decide (e.kind = 1) && decide (e.data = bl p))) := by
    unfold knowK knowP
    rw [List.take_add_one, h, List.any_append]; simp
  rw [h1]
  by_cases hk : e.kind = 1
  · rw [if_pos hk, decide_eq_true hk, Bool.true_and]
    unfold addK
    rw [Bool.or_comm]
    congr 1
    rw [Bool.eq_iff_iff, decide_eq_true_eq, decide_eq_true_eq]
    constructor
    · intro he; exact bl_inj (by rw [he]; exact (bl_of _).symm)
    · intro he; rw [he]; exact (bl_of _).symm
  · rw [if_neg hk, decide_eq_false hk]; simp
theorem cnt_take {cs : List Chg} {k : Nat} {c : Chg} (h : cs[k]? = some c) (j : Int) : cntC j (cs.take (k + 1)) = cntC j (cs.take k) + if c.kind = j then 1 else 0 := by
  unfold cntC
  rw [List.take_add_one, h]
  show (ofK j (cs.take k ++ [c])).length = _
  rw [ofK_app, List.length_append]
  congr 1
  split <;> rfl
theorem sum_take {a : List Ent} {cs : List Chg} {k : Nat} {c : Chg} (h : cs[k]? = some c) : sumC a (cs.take (k + 1)) = sumC a (cs.take k) + newC a c := by
  unfold sumC
  rw [List.take_add_one, h]; simp
theorem cnt_le (j : Int) (cs : List Chg) (k : Nat) : cntC j (cs.take k) ≤ k := by
  unfold cntC ofK
  have := List.length_filter_le (fun c : Chg => decide (c.kind = j)) (cs.take k)
  have h2 := List.length_take_le k cs
  omega
theorem new_le {a : List Ent} {c : Chg} (h : c.en.data.length ≤ 140737488355328) : newC a c ≤ 140737488355328 := by
  unfold newC
  split
  · exact h
  · omega
theorem sum_le {a : List Ent} : ∀ {cs : List Chg}, (∀ c ∈ cs, c.en.data.length ≤ 140737488355328) → sumC a cs ≤ cs.length * 140737488355328
  | [], _ => by simp [sumC]
  | c :: cs, h => by
    have h1 := new_le (a := a) (h c (List.mem_cons_self ..))
    have h2 := sum_le (a := a) fun x hx => h x (List.mem_cons_of_mem _ hx)
    have e : sumC a (c :: cs) = newC a c + sumC a cs := by simp [sumC]
    rw [e, List.length_cons]; omega
def numArr (n1 n2 n3 n4 : Int) : Value := .agg #[.int .i64 n1, .int .i64 n2, .int .i64 n3, .int .i64 n4]
/-- What Counts answers. -/
def cntQ (a : List Ent) (cs : List Chg) : Value × Int × Int :=
  if chkC a cs ≠ 0 then (numArr 0 0 0 0, 0, chkC a cs) else (numArr (cntC 1 cs) (cntC 2 cs) (cntC 3 cs) (cntC 4 cs), sumC a cs, 0)
structure LoopN (a : List Ent) (cs : List Chg) (w : World) (cb mb k : Nat) (wr : World) : Prop where
  box : wr.heap[cb]? = some (.cells #[.int .i64 (cntC 1 (cs.take k) : Nat), .int .i64 (cntC 2 (cs.take k) : Nat), .int .i64 (cntC 3 (cs.take k) : Nat), .int .i64 (cntC 4 (cs.take k) : Nat)] 43 (0, 0))
  res : wr.heap[w.heap.size]? = some (.cells #[.int .i64 0, .int .i64 0, .int .i64 0, .int .i64 0] 43 (0, 0))
  set : SetR wr mb (knowK a)
  bel : Below w.heap.size w wr
theorem counts_res {tmps : Array Value} {w : World} {b : Nat} {x0 x1 x2 x3 e5 e6 : Value} (h : w.heap[b]? = some (.cells #[x0, x1, x2, x3] 43 (0, 0)))
    (h4 : tmps[4]? = some (.pointer (some ⟨b, 0, none⟩))) (h5 : tmps[5]? = some e5) (h6 : tmps[6]? = some e6) : (results Tryz.f26 tmps).run Tryz.prog w = .ok (.tuple #[.agg #[x0, x1, x2, x3], e5, e6]) w := by
  have m0 := cell20 (k := 0) h
  have m1 := cell20 (k := 1) h
  have m2 := cell20 (k := 2) h
  have m3 := cell20 (k := 3) h
  simp only [List.getElem?_toArray, List.getElem?_cons_succ, List.getElem?_cons_zero] at m0 m1 m2 m3
  simp [results, Tryz.results26, go_sem, h4, h5, h6, m0, m1, m2, m3]
theorem four20 {w : World} {b : Nat} {a0 a1 a2 a3 x0 x1 x2 x3 : Value} {t : TypeId} (h : w.heap[b]? = some (.cells #[a0, a1, a2, a3] t (0, 0))) :
    ((((w.setCell ⟨b, 0, none⟩ x0).setCell ⟨b, 1, none⟩ x1).setCell ⟨b, 2, none⟩ x2).setCell ⟨b, 3, none⟩ x3).heap[b]? = some (.cells #[x0, x1, x2, x3] t (0, 0)) := by
  have h1 : (w.setCell ⟨b, 0, none⟩ x0).heap[b]? = some (.cells #[x0, a1, a2, a3] t (0, 0)) := set20 h x0
  have h2 : ((w.setCell ⟨b, 0, none⟩ x0).setCell ⟨b, 1, none⟩ x1).heap[b]? = some (.cells #[x0, x1, a2, a3] t (0, 0)) := set20 h1 x1
  have h3 : (((w.setCell ⟨b, 0, none⟩ x0).setCell ⟨b, 1, none⟩ x1).setCell ⟨b, 2, none⟩ x2).heap[b]? = some (.cells #[x0, x1, x2, a3] t (0, 0)) := set20 h2 x2
  exact set20 h3 x3
theorem counts_end {a : Act} {w : World} {b : Nat} {a0 a1 a2 a3 x0 x1 x2 x3 e5 e6 : Value} {Q : Ending → World → Prop} (h : w.heap[b]? = some (.cells #[a0, a1, a2, a3] 43 (0, 0)))
    (h4 : a.tmps[4]? = some (.pointer (some ⟨b, 0, none⟩))) (h5 : a.tmps[5]? = some e5) (h6 : a.tmps[6]? = some e6) (hd : a.defers = [])
    (hQ : Q (.returned (.tuple #[.agg #[x0, x1, x2, x3], e5, e6])) ((((w.setCell ⟨b, 0, none⟩ x0).setCell ⟨b, 1, none⟩ x1).setCell ⟨b, 2, none⟩ x2).setCell ⟨b, 3, none⟩ x3)) :
    bodyPost Tryz.prog Tryz.f26 Q Exit.ret a ((((w.setCell ⟨b, 0, none⟩ x0).setCell ⟨b, 1, none⟩ x1).setCell ⟨b, 2, none⟩ x2).setCell ⟨b, 3, none⟩ x3) :=
  bodyPost_ret (counts_res (four20 h) h4 h5 h6) hd hQ
def CntRes (a : List Ent) (cs : List Chg) (w : World) (e : Ending) (w' : World) : Prop := e = .returned (.tuple #[(cntQ a cs).1, .int .i64 (cntQ a cs).2.1, .int .i64 (cntQ a cs).2.2]) ∧ Below w.heap.size w w'

set_option maxRecDepth 100000 in
set_option maxHeartbeats 4000000 in
theorem counts_any (S T : Nat → Prop) (a : List Ent) (cs : List Chg) (va vl : Value) (w : World) (ha : EntsAt S w va a) (hl : ChgsAt T w vl cs) (hcn : cs.length ≤ 4096) (henv : Env w) :
    Calls Tryz.prog 26 #[va, vl] w (CntRes a cs w) := by
  have HA := Lib.hid ha
  have HL := Lib.hid (chgs_old hl)
  have HE := Lib.hid henv
  have HCN := Lib.hid hcn
  obtain ⟨aa, ca, rfl, hca, hma, -⟩ := SeqAt.shape ha EntR.len
  obtain ⟨al, cl, rfl, hc, hm⟩ := chgs_shape hl
  obtain ⟨m, hmn⟩ : ∃ m, m = a.length := ⟨_, rfl⟩
  obtain ⟨n, hn⟩ : ∃ n, n = cs.length := ⟨_, rfl⟩
  rw [← hn] at hc HL hl ⊢
  rw [← hmn] at hca HA ha ⊢
  have HN := Lib.hid hn
  have HM := Lib.hid hmn
  unfold maxLen at hm hma
  have hck := fun W (hW : Below w.heap.size w W) => checkC_any S T a cs (.slice aa m ca) (.slice al n cl) W (ha.below hW) (hl.below hW) (henv.below hW)
  obtain ⟨x, hx⟩ : ∃ x, x = chkC a cs := ⟨_, rfl⟩
  rw [← hx] at hck
  have HCK := Lib.hid hck
  have HCX := Lib.hid hx
  clear ha hl henv hn hmn hx hck hcn
  have HB0 := Lib.hid (show Below w.heap.size w (w.alloc (.cells #[.int .i64 0, .int .i64 0, .int .i64 0, .int .i64 0] 43)) from (Below.refl _ _).alloc (Nat.le_refl _) _)
  have HR0 := Lib.hid (show (w.alloc (.cells #[.int .i64 0, .int .i64 0, .int .i64 0, .int .i64 0] 43)).heap[w.heap.size]? = some (.cells #[.int .i64 0, .int .i64 0, .int .i64 0, .int .i64 0] 43 (0, 0)) from new20 w _)
  by_cases h0 : x = 0
  · subst h0
    have HOKS := Lib.hid (chk_ok HCX.out.symm)
    go_enter Tryz.func26, Tryz.ntmps26
    go_wp2_with fail
    refine (HCK.out _ HB0.out).mono ?_
    rintro e w1 ⟨rfl, hb1⟩
    have HR1 := Lib.hid ((hb1.block _ (lt20 HR0.out)).trans HR0.out)
    have HB1 := Lib.hid (below_next HB0.out hb1)
    clear hb1 HR0 HB0 HCK
    have hmk := make_set
    go_wp2_with fail
    obtain ⟨mb, hmb⟩ : ∃ mb, mb = w1.heap.size := ⟨_, rfl⟩
    obtain ⟨w2, hw2⟩ : ∃ W : World, W = w1.alloc (.map #[] 0) := ⟨_, rfl⟩
    rw [← hw2, ← hmb]
    have hb2 : Below w1.heap.size w1 w2 := by rw [hw2]; exact (Below.refl _ _).alloc (Nat.le_refl _) _
    have HS2 := Lib.hid (show SetR w2 mb (knowK (a.take 0)) by rw [hw2, hmb]; exact SetR.made w1)
    have HB2 := Lib.hid (below_next HB1.out hb2)
    have HR2 := Lib.hid ((hb2.block _ (lt20 HR1.out)).trans HR1.out)
    have HMB := Lib.hid (show w.heap.size < mb by rw [hmb]; exact lt20 HR1.out)
    clear hw2 hmb hb2 hmk HR1 HB1
    go_loopw [26] (fun i wr => ∃ k : Nat, k ≤ m ∧ i = .int .i64 k ∧ SetR wr mb (knowK (a.take k)) ∧ wr.heap[w.heap.size]? = some (.cells #[.int .i64 0, .int .i64 0, .int .i64 0, .int .i64 0] 43 (0, 0)) ∧ Below w.heap.size w wr) (fun i _ => m - (intOf i).toNat)
    case atStart => exact ⟨0, Nat.zero_le _, rfl, HS2.out, HR2.out, HB2.out⟩
    case round =>
      obtain ⟨k, hk, rfl, hset, hres, hbr⟩ := hrel
      have HSET := Lib.hid hset
      have HRES := Lib.hid hres
      have HBR := Lib.hid hbr
      clear hset hres hbr
      by_cases hlt : k < m
      · obtain ⟨e, he⟩ : ∃ e, a[k]? = some e := ⟨a[k]'(by rw [← HM.out]; exact hlt), by simp⟩
        obtain ⟨b0, o0, dv, rfl, -, hb0, hd, hok, -, q0, q1, q2, q3, q4, q5⟩ := ents_at (HA.out.below HBR.out) he
        have HAT := Lib.hid he
        have HD := Lib.hid hd
        obtain ⟨a1, cap1, rfl, hd1, hd2⟩ := hd.slice
        unfold maxLen at hd2
        have HKN := Lib.hid (know_take he)
        clear he hd hok
        go_upto_region 8 with (fail)
        obtain ⟨W, hW⟩ : ∃ W : World, W = wr.alloc (.cells #[.string e.path, .int .i64 e.kind, .int .i64 e.mode, .int .i64 e.time, .slice a1 e.data.length cap1, .string e.link] 48) := ⟨_, rfl⟩
        rw [← hW]
        have HW := Lib.hid (show Below wr.heap.size wr W by rw [hW]; exact (Below.refl _ _).alloc (Nat.le_refl _) _)
        have HX := Lib.hid (show W.heap[wr.heap.size]? = some (.cells #[.string e.path, .int .i64 e.kind, .int .i64 e.mode, .int .i64 e.time, .slice a1 e.data.length cap1, .string e.link] 48 (0, 0)) by rw [hW]; exact new20 wr _)
        clear hW q0 q1 q2 q3 q4 q5
        have c0 := cell20 (k := 0) HX.out
        have c1 := cell20 (k := 1) HX.out
        have c2 := cell20 (k := 2) HX.out
        have c3 := cell20 (k := 3) HX.out
        have c4 := cell20 (k := 4) HX.out
        have c5 := cell20 (k := 5) HX.out
        have hltX := lt20 HX.out
        simp only [List.getElem?_toArray, List.getElem?_cons_succ, List.getElem?_cons_zero] at c0 c1 c2 c3 c4 c5
        by_cases hk1 : e.kind = 1
        · have hcv := conv20 (HD.out.below HW.out)
          have HPUT := Lib.hid ((HSET.out.below HW.out).put boolTy (p := ⟨e.data.toArray⟩) (by show (e.data.toArray).size ≤ maxLen; rw [List.size_toArray]; unfold maxLen; omega))
          go_wp2_with (at_mapUpdate; go_must (refine wpList_updRun rfl _ _ _ _ rfl _ _ _ rfl rfl rfl HPUT.out ?_); rintro w3 ⟨hs3, hg3⟩; have HS3 := Lib.hid hs3; have HG3 := Lib.hid hg3; clear hs3 hg3 hcv c0 c1 c2 c3 c4 c5 hltX)
          go_roundw
          case rel =>
            have hbw := below_next HBR.out HW.out
            have hm := HMB.out
            refine ⟨k + 1, by omega, by go_num, by rw [HKN.out, if_pos hk1]; exact HS3.out, ?_, hbw.grown HG3.out hbw.size (fun k e => by cases e; omega)⟩
            have h1 := (HW.out.block _ (lt20 HRES.out)).trans HRES.out
            exact (HG3.out.block _ (lt20 h1) (fun e => by have := Option.some.inj e; omega)).trans h1
          case measure => simp [intOf]; omega
        · go_wp2_with fail
          go_roundw
          case rel => exact ⟨k + 1, by omega, by go_num, by rw [HKN.out, if_neg hk1]; exact HSET.out.below HW.out, (HW.out.block _ (lt20 HRES.out)).trans HRES.out, below_next HBR.out HW.out⟩
          case measure => simp [intOf]; omega
      · have hk2 : m = k := by omega
        subst hk2
        have HSE := Lib.hid (show SetR wr mb (knowK a) by have := HSET.out; rw [HM.out, List.take_length] at this; exact this)
        clear hk hlt
        go_wp2_with fail
        obtain ⟨cb, hcb⟩ : ∃ cb, cb = wr.heap.size := ⟨_, rfl⟩
        obtain ⟨w3, hw3⟩ : ∃ W : World, W = wr.alloc (.cells #[.int .i64 0, .int .i64 0, .int .i64 0, .int .i64 0] 43) := ⟨_, rfl⟩
        rw [← hw3, ← hcb]
        have hb3 : Below wr.heap.size wr w3 := by rw [hw3]; exact (Below.refl _ _).alloc (Nat.le_refl _) _
        have HL3 := Lib.hid (show LoopN a cs w cb mb 0 w3 from ⟨by rw [hw3, hcb]; exact new20 wr _, (hb3.block _ (lt20 HRES.out)).trans HRES.out, HSE.out.below hb3, below_next HBR.out hb3⟩)
        have HCB := Lib.hid (show w.heap.size < cb ∧ mb < cb by have h1 := lt20 HRES.out; have h2 := HSE.out.lt; omega)
        clear hw3 hcb hb3
        go_loopw [12, 40] (fun s i wr => ∃ k : Nat, k ≤ n ∧ i = .int .i64 k ∧ s = .int .i64 (sumC a (cs.take k) : Nat) ∧ LoopN a cs w cb mb k wr) (fun _ i _ => n - (intOf i).toNat)
        case atStart => exact ⟨0, Nat.zero_le _, rfl, rfl, HL3.out⟩
        case round =>
          obtain ⟨k, hk, rfl, rfl, hlp⟩ := hrel
          have HLP := Lib.hid hlp
          clear hlp
          obtain ⟨x1, hx1⟩ : ∃ x, x = cntC 1 (cs.take k) := ⟨_, rfl⟩
          obtain ⟨x2, hx2⟩ : ∃ x, x = cntC 2 (cs.take k) := ⟨_, rfl⟩
          obtain ⟨x3, hx3⟩ : ∃ x, x = cntC 3 (cs.take k) := ⟨_, rfl⟩
          obtain ⟨x4, hx4⟩ : ∃ x, x = cntC 4 (cs.take k) := ⟨_, rfl⟩
          obtain ⟨s0, hs0⟩ : ∃ x, x = sumC a (cs.take k) := ⟨_, rfl⟩
          have hbx := HLP.out.box
          rw [← hx1, ← hx2, ← hx3, ← hx4] at hbx
          rw [← hs0]
          have hcn := HCN.out
          have hl1 := cnt_le 1 cs k
          have hl2 := cnt_le 2 cs k
          have hl3 := cnt_le 3 cs k
          have hl4 := cnt_le 4 cs k
          rw [← hx1] at hl1
          rw [← hx2] at hl2
          rw [← hx3] at hl3
          rw [← hx4] at hl4
          have hdl : ∀ c ∈ cs, c.en.data.length ≤ 140737488355328 := fun c hc => by
            have hv := HOKS.out.2 c hc
            by_cases hk1 : c.kind = 1
            · unfold chgOk at hv
              rw [if_pos hk1] at hv
              simp only [Bool.and_eq_true, decide_eq_true_eq] at hv
              rw [hv.2.2]; simp [noEnt]
            · exact vEnt_data (chg_ent hv hk1).1
          have hsl := sum_le (a := a) (cs := cs.take k) fun c hc => hdl c (List.mem_of_mem_take hc)
          rw [← hs0, List.length_take] at hsl
          have hs1 : s0 ≤ 576460752303423488 := by omega
          have HDL := Lib.hid hdl
          have HX1 := Lib.hid hx1
          have HX2 := Lib.hid hx2
          have HX3 := Lib.hid hx3
          have HX4 := Lib.hid hx4
          have HS0 := Lib.hid hs0
          have HBXR := Lib.hid hbx
          clear hx1 hx2 hx3 hx4 hs0 hbx hcn hsl hdl
          by_cases hlt : k < n
          · obtain ⟨c, hcc⟩ : ∃ c, cs[k]? = some c := ⟨cs[k]'(by rw [← HN.out]; exact hlt), by simp⟩
            have hcv := HOKS.out.2 c (List.mem_of_getElem? hcc)
            have hks := chg_kinds hcv
            have hdc := HDL.out c (List.mem_of_getElem? hcc)
            have HTS := Lib.hid (sum_take (a := a) hcc)
            have HT1 := Lib.hid (cnt_take hcc 1)
            have HT2 := Lib.hid (cnt_take hcc 2)
            have HT3 := Lib.hid (cnt_take hcc 3)
            have HT4 := Lib.hid (cnt_take hcc 4)
            clear hcv
            obtain ⟨b, o, dv, rfl, hb, hd, hok, hq⟩ := chgs_at (HL.out.below HLP.out.bel) hcc
            have HAT := Lib.hid hcc
            have HD := Lib.hid hd
            have HOK := Lib.hid hok
            obtain ⟨a1, cap1, rfl, hd1, hd2⟩ := hd.slice
            unfold maxLen at hd2
            have c0 := (hq 0 (by omega)).trans rfl
            have c1 := (hq 1 (by omega)).trans rfl
            have c2 := (hq 2 (by omega)).trans rfl
            have c3 := (hq 3 (by omega)).trans rfl
            have c4 := (hq 4 (by omega)).trans rfl
            have c5 := (hq 5 (by omega)).trans rfl
            have c6 := (hq 6 (by omega)).trans rfl
            have c7 := (hq 7 (by omega)).trans rfl
            have c8 := (hq 8 (by omega)).trans rfl
            simp only [chgC, List.getElem?_cons_succ, List.getElem?_cons_zero, Nat.add_zero] at c0 c1 c2 c3 c4 c5 c6 c7 c8
            clear hcc hd hok hq
            go_upto_region 16 with (fail)
            obtain ⟨W, hW⟩ : ∃ W : World, W = wr.alloc (.cells #[.int .i64 c.kind, .string c.path, .string c.src, .string c.en.path, .int .i64 c.en.kind, .int .i64 c.en.mode, .int .i64 c.en.time, .slice a1 c.en.data.length cap1, .string c.en.link] 58) := ⟨_, rfl⟩
            rw [← hW]
            have HW := Lib.hid (show Below wr.heap.size wr W by rw [hW]; exact (Below.refl _ _).alloc (Nat.le_refl _) _)
            have HX := Lib.hid (show W.heap[wr.heap.size]? = some (.cells #[.int .i64 c.kind, .string c.path, .string c.src, .string c.en.path, .int .i64 c.en.kind, .int .i64 c.en.mode, .int .i64 c.en.time, .slice a1 c.en.data.length cap1, .string c.en.link] 58 (0, 0)) by rw [hW]; exact new20 wr _)
            have HEQ := Lib.hid hW.symm
            clear hW c0 c1 c2 c3 c4 c5 c6 c7 c8
            have c0 := cell20 (k := 0) HX.out
            have c1 := cell20 (k := 1) HX.out
            have c2 := cell20 (k := 2) HX.out
            have c3 := cell20 (k := 3) HX.out
            have c4 := cell20 (k := 4) HX.out
            have c5 := cell20 (k := 5) HX.out
            have c6 := cell20 (k := 6) HX.out
            have c7 := cell20 (k := 7) HX.out
            have c8 := cell20 (k := 8) HX.out
            have hltX := lt20 HX.out
            simp only [List.getElem?_toArray, List.getElem?_cons_succ, List.getElem?_cons_zero] at c0 c1 c2 c3 c4 c5 c6 c7 c8
            have HBW := Lib.hid ((HW.out.block _ (lt20 HBXR.out)).trans HBXR.out)
            have HRW := Lib.hid ((HW.out.block _ (lt20 HLP.out.res)).trans HLP.out.res)
            have HSW := Lib.hid (HLP.out.set.below HW.out)
            have HBLW := Lib.hid (below_next HLP.out.bel HW.out)
            rcases hks with h1 | h1 | h1 | h1
            · have HNW := Lib.hid (show newC a c = 0 by unfold newC; rw [if_neg (by omega)])
              have hK : c.kind = 1 := by assumption
              have f0 := frozen20 (k := 0) HBW.out
              have f1 := frozen20 (k := 1) HBW.out
              have f2 := frozen20 (k := 2) HBW.out
              have f3 := frozen20 (k := 3) HBW.out
              have d0 := cell20 (k := 0) HBW.out
              have d1 := cell20 (k := 1) HBW.out
              have d2 := cell20 (k := 2) HBW.out
              have d3 := cell20 (k := 3) HBW.out
              have hltR := lt20 HBW.out
              simp only [List.getElem?_toArray, List.getElem?_cons_succ, List.getElem?_cons_zero] at d0 d1 d2 d3
              go_upto_region 17 with (fail)
              obtain ⟨V, hV⟩ : ∃ V : World, V = W.setCell ⟨cb, 0, none⟩ (.int .i64 ((x1 : Int) + 1)) := ⟨_, rfl⟩
              rw [← hV]
              have hcb := HCB.out
              have hg : W.grownBy V (some cb) := by rw [hV]; exact grown_set cb 0 _
              have HG := Lib.hid hg
              have HBXV := Lib.hid (show V.heap[cb]? = some _ by rw [hV]; exact set20 HBW.out _)
              have HXV := Lib.hid ((hg.block _ (lt20 HX.out) (fun e => by have h1 := Option.some.inj e; have h2 := lt20 HBXR.out; omega)).trans HX.out)
              have HRV := Lib.hid ((hg.block _ (lt20 HRW.out) (fun e => by have h1 := Option.some.inj e; omega)).trans HRW.out)
              have HSV := Lib.hid (HSW.out.other hg (by omega))
              have HBV := Lib.hid (HBLW.out.grown hg HBLW.out.size (fun k e => by cases e; omega))
              clear hV hg hcb c0 c1 c2 c3 c4 c5 c6 c7 c8 hltX d0 d1 d2 d3 f0 f1 f2 f3 hltR
              have c0 := cell20 (k := 0) HXV.out
              have c1 := cell20 (k := 1) HXV.out
              have c2 := cell20 (k := 2) HXV.out
              have c3 := cell20 (k := 3) HXV.out
              have c4 := cell20 (k := 4) HXV.out
              have c5 := cell20 (k := 5) HXV.out
              have c6 := cell20 (k := 6) HXV.out
              have c7 := cell20 (k := 7) HXV.out
              have c8 := cell20 (k := 8) HXV.out
              have hltX := lt20 HXV.out
              simp only [List.getElem?_toArray, List.getElem?_cons_succ, List.getElem?_cons_zero] at c0 c1 c2 c3 c4 c5 c6 c7 c8
              go_wp2_with fail
              go_roundw
              case rel =>
                refine ⟨k + 1, by omega, by go_num, ?_, ⟨?_, HRV.out, HSV.out, HBV.out⟩⟩
                · rw [HTS.out, HNW.out, ← HS0.out]; first | rfl | (rw [Nat.add_zero])
                · rw [HT1.out, HT2.out, HT3.out, HT4.out, ← HX1.out, ← HX2.out, ← HX3.out, ← HX4.out, hK]
                  exact HBXV.out
              case measure => simp [intOf]; omega
            · have HNW := Lib.hid (show newC a c = 0 by unfold newC; rw [if_neg (by omega)])
              have hK : c.kind = 2 := by assumption
              have f0 := frozen20 (k := 0) HBW.out
              have f1 := frozen20 (k := 1) HBW.out
              have f2 := frozen20 (k := 2) HBW.out
              have f3 := frozen20 (k := 3) HBW.out
              have d0 := cell20 (k := 0) HBW.out
              have d1 := cell20 (k := 1) HBW.out
              have d2 := cell20 (k := 2) HBW.out
              have d3 := cell20 (k := 3) HBW.out
              have hltR := lt20 HBW.out
              simp only [List.getElem?_toArray, List.getElem?_cons_succ, List.getElem?_cons_zero] at d0 d1 d2 d3
              go_upto_region 17 with (fail)
              obtain ⟨V, hV⟩ : ∃ V : World, V = W.setCell ⟨cb, 1, none⟩ (.int .i64 ((x2 : Int) + 1)) := ⟨_, rfl⟩
              rw [← hV]
              have hcb := HCB.out
              have hg : W.grownBy V (some cb) := by rw [hV]; exact grown_set cb 1 _
              have HG := Lib.hid hg
              have HBXV := Lib.hid (show V.heap[cb]? = some _ by rw [hV]; exact set20 HBW.out _)
              have HXV := Lib.hid ((hg.block _ (lt20 HX.out) (fun e => by have h1 := Option.some.inj e; have h2 := lt20 HBXR.out; omega)).trans HX.out)
              have HRV := Lib.hid ((hg.block _ (lt20 HRW.out) (fun e => by have h1 := Option.some.inj e; omega)).trans HRW.out)
              have HSV := Lib.hid (HSW.out.other hg (by omega))
              have HBV := Lib.hid (HBLW.out.grown hg HBLW.out.size (fun k e => by cases e; omega))
              clear hV hg hcb c0 c1 c2 c3 c4 c5 c6 c7 c8 hltX d0 d1 d2 d3 f0 f1 f2 f3 hltR
              have c0 := cell20 (k := 0) HXV.out
              have c1 := cell20 (k := 1) HXV.out
              have c2 := cell20 (k := 2) HXV.out
              have c3 := cell20 (k := 3) HXV.out
              have c4 := cell20 (k := 4) HXV.out
              have c5 := cell20 (k := 5) HXV.out
              have c6 := cell20 (k := 6) HXV.out
              have c7 := cell20 (k := 7) HXV.out
              have c8 := cell20 (k := 8) HXV.out
              have hltX := lt20 HXV.out
              simp only [List.getElem?_toArray, List.getElem?_cons_succ, List.getElem?_cons_zero] at c0 c1 c2 c3 c4 c5 c6 c7 c8
              go_wp2_with fail
              go_roundw
              case rel =>
                refine ⟨k + 1, by omega, by go_num, ?_, ⟨?_, HRV.out, HSV.out, HBV.out⟩⟩
                · rw [HTS.out, HNW.out, ← HS0.out]; first | rfl | (rw [Nat.add_zero])
                · rw [HT1.out, HT2.out, HT3.out, HT4.out, ← HX1.out, ← HX2.out, ← HX3.out, ← HX4.out, hK]
                  exact HBXV.out
              case measure => simp [intOf]; omega
            · skip
              have hK : c.kind = 3 := by assumption
              have f0 := frozen20 (k := 0) HBW.out
              have f1 := frozen20 (k := 1) HBW.out
              have f2 := frozen20 (k := 2) HBW.out
              have f3 := frozen20 (k := 3) HBW.out
              have d0 := cell20 (k := 0) HBW.out
              have d1 := cell20 (k := 1) HBW.out
              have d2 := cell20 (k := 2) HBW.out
              have d3 := cell20 (k := 3) HBW.out
              have hltR := lt20 HBW.out
              simp only [List.getElem?_toArray, List.getElem?_cons_succ, List.getElem?_cons_zero] at d0 d1 d2 d3
              go_upto_region 17 with (fail)
              obtain ⟨V, hV⟩ : ∃ V : World, V = W.setCell ⟨cb, 2, none⟩ (.int .i64 ((x3 : Int) + 1)) := ⟨_, rfl⟩
              rw [← hV]
              have hcb := HCB.out
              have hg : W.grownBy V (some cb) := by rw [hV]; exact grown_set cb 2 _
              have HG := Lib.hid hg
              have HBXV := Lib.hid (show V.heap[cb]? = some _ by rw [hV]; exact set20 HBW.out _)
              have HXV := Lib.hid ((hg.block _ (lt20 HX.out) (fun e => by have h1 := Option.some.inj e; have h2 := lt20 HBXR.out; omega)).trans HX.out)
              have HRV := Lib.hid ((hg.block _ (lt20 HRW.out) (fun e => by have h1 := Option.some.inj e; omega)).trans HRW.out)
              have HSV := Lib.hid (HSW.out.other hg (by omega))
              have HBV := Lib.hid (HBLW.out.grown hg HBLW.out.size (fun k e => by cases e; omega))
              clear hV hg hcb c0 c1 c2 c3 c4 c5 c6 c7 c8 hltX d0 d1 d2 d3 f0 f1 f2 f3 hltR
              have c0 := cell20 (k := 0) HXV.out
              have c1 := cell20 (k := 1) HXV.out
              have c2 := cell20 (k := 2) HXV.out
              have c3 := cell20 (k := 3) HXV.out
              have c4 := cell20 (k := 4) HXV.out
              have c5 := cell20 (k := 5) HXV.out
              have c6 := cell20 (k := 6) HXV.out
              have c7 := cell20 (k := 7) HXV.out
              have c8 := cell20 (k := 8) HXV.out
              have hltX := lt20 HXV.out
              simp only [List.getElem?_toArray, List.getElem?_cons_succ, List.getElem?_cons_zero] at c0 c1 c2 c3 c4 c5 c6 c7 c8
              by_cases hf : c.en.kind = 1
              · have hcv := conv20 (data_grown (HD.out.below HW.out) (old_new (by have := HCB.out; omega)) HG.out)
                have hget := HSV.out.get boolTy (boolZ V) (p := ⟨c.en.data.toArray⟩) (by show (c.en.data.toArray).size ≤ maxLen; rw [List.size_toArray]; unfold maxLen; omega)
                rw [show knowK a ⟨c.en.data.toArray⟩ = knowP a c.en.data by unfold knowK; rw [bl_of]] at hget
                obtain ⟨t, ht⟩ : ∃ t, t = knowP a c.en.data := ⟨_, rfl⟩
                rw [← ht] at hget
                cases t with
                | true =>
                  have HNW := Lib.hid (show newC a c = 0 by unfold newC; rw [if_neg (fun h => by rw [← ht] at h; exact absurd h.2.2 (by simp))])
                  clear ht
                  go_wp2_with fail
                  go_roundw
                  case rel =>
                    refine ⟨k + 1, by omega, by go_num, ?_, ⟨?_, HRV.out, HSV.out, HBV.out⟩⟩
                    · rw [HTS.out, HNW.out, ← HS0.out]; first | rfl | (rw [Nat.add_zero])
                    · rw [HT1.out, HT2.out, HT3.out, HT4.out, ← HX1.out, ← HX2.out, ← HX3.out, ← HX4.out, hK]
                      exact HBXV.out
                  case measure => simp [intOf]; omega
                | false =>
                  have HNW := Lib.hid (show newC a c = c.en.data.length by unfold newC; rw [if_pos ⟨by omega, hf, ht.symm⟩])
                  clear ht
                  go_wp2_with fail
                  go_roundw
                  case rel =>
                    refine ⟨k + 1, by omega, by go_num, ?_, ⟨?_, HRV.out, HSV.out, HBV.out⟩⟩
                    · rw [HTS.out, HNW.out, ← HS0.out]; first | rfl | (rw [Nat.add_zero])
                    · rw [HT1.out, HT2.out, HT3.out, HT4.out, ← HX1.out, ← HX2.out, ← HX3.out, ← HX4.out, hK]
                      exact HBXV.out
                  case measure => simp [intOf]; omega
              · have HNW := Lib.hid (show newC a c = 0 by unfold newC; rw [if_neg (fun h => hf h.2.1)])
                go_wp2_with fail
                go_roundw
                case rel =>
                  refine ⟨k + 1, by omega, by go_num, ?_, ⟨?_, HRV.out, HSV.out, HBV.out⟩⟩
                  · rw [HTS.out, HNW.out, ← HS0.out]; first | rfl | (rw [Nat.add_zero])
                  · rw [HT1.out, HT2.out, HT3.out, HT4.out, ← HX1.out, ← HX2.out, ← HX3.out, ← HX4.out, hK]
                    exact HBXV.out
                case measure => simp [intOf]; omega
            · skip
              have hK : c.kind = 4 := by assumption
              have f0 := frozen20 (k := 0) HBW.out
              have f1 := frozen20 (k := 1) HBW.out
              have f2 := frozen20 (k := 2) HBW.out
              have f3 := frozen20 (k := 3) HBW.out
              have d0 := cell20 (k := 0) HBW.out
              have d1 := cell20 (k := 1) HBW.out
              have d2 := cell20 (k := 2) HBW.out
              have d3 := cell20 (k := 3) HBW.out
              have hltR := lt20 HBW.out
              simp only [List.getElem?_toArray, List.getElem?_cons_succ, List.getElem?_cons_zero] at d0 d1 d2 d3
              go_upto_region 17 with (fail)
              obtain ⟨V, hV⟩ : ∃ V : World, V = W.setCell ⟨cb, 3, none⟩ (.int .i64 ((x4 : Int) + 1)) := ⟨_, rfl⟩
              rw [← hV]
              have hcb := HCB.out
              have hg : W.grownBy V (some cb) := by rw [hV]; exact grown_set cb 3 _
              have HG := Lib.hid hg
              have HBXV := Lib.hid (show V.heap[cb]? = some _ by rw [hV]; exact set20 HBW.out _)
              have HXV := Lib.hid ((hg.block _ (lt20 HX.out) (fun e => by have h1 := Option.some.inj e; have h2 := lt20 HBXR.out; omega)).trans HX.out)
              have HRV := Lib.hid ((hg.block _ (lt20 HRW.out) (fun e => by have h1 := Option.some.inj e; omega)).trans HRW.out)
              have HSV := Lib.hid (HSW.out.other hg (by omega))
              have HBV := Lib.hid (HBLW.out.grown hg HBLW.out.size (fun k e => by cases e; omega))
              clear hV hg hcb c0 c1 c2 c3 c4 c5 c6 c7 c8 hltX d0 d1 d2 d3 f0 f1 f2 f3 hltR
              have c0 := cell20 (k := 0) HXV.out
              have c1 := cell20 (k := 1) HXV.out
              have c2 := cell20 (k := 2) HXV.out
              have c3 := cell20 (k := 3) HXV.out
              have c4 := cell20 (k := 4) HXV.out
              have c5 := cell20 (k := 5) HXV.out
              have c6 := cell20 (k := 6) HXV.out
              have c7 := cell20 (k := 7) HXV.out
              have c8 := cell20 (k := 8) HXV.out
              have hltX := lt20 HXV.out
              simp only [List.getElem?_toArray, List.getElem?_cons_succ, List.getElem?_cons_zero] at c0 c1 c2 c3 c4 c5 c6 c7 c8
              by_cases hf : c.en.kind = 1
              · have hcv := conv20 (data_grown (HD.out.below HW.out) (old_new (by have := HCB.out; omega)) HG.out)
                have hget := HSV.out.get boolTy (boolZ V) (p := ⟨c.en.data.toArray⟩) (by show (c.en.data.toArray).size ≤ maxLen; rw [List.size_toArray]; unfold maxLen; omega)
                rw [show knowK a ⟨c.en.data.toArray⟩ = knowP a c.en.data by unfold knowK; rw [bl_of]] at hget
                obtain ⟨t, ht⟩ : ∃ t, t = knowP a c.en.data := ⟨_, rfl⟩
                rw [← ht] at hget
                cases t with
                | true =>
                  have HNW := Lib.hid (show newC a c = 0 by unfold newC; rw [if_neg (fun h => by rw [← ht] at h; exact absurd h.2.2 (by simp))])
                  clear ht
                  go_wp2_with fail
                  go_roundw
                  case rel =>
                    refine ⟨k + 1, by omega, by go_num, ?_, ⟨?_, HRV.out, HSV.out, HBV.out⟩⟩
                    · rw [HTS.out, HNW.out, ← HS0.out]; first | rfl | (rw [Nat.add_zero])
                    · rw [HT1.out, HT2.out, HT3.out, HT4.out, ← HX1.out, ← HX2.out, ← HX3.out, ← HX4.out, hK]
                      exact HBXV.out
                  case measure => simp [intOf]; omega
                | false =>
                  have HNW := Lib.hid (show newC a c = c.en.data.length by unfold newC; rw [if_pos ⟨by omega, hf, ht.symm⟩])
                  clear ht
                  go_wp2_with fail
                  go_roundw
                  case rel =>
                    refine ⟨k + 1, by omega, by go_num, ?_, ⟨?_, HRV.out, HSV.out, HBV.out⟩⟩
                    · rw [HTS.out, HNW.out, ← HS0.out]; first | rfl | (rw [Nat.add_zero])
                    · rw [HT1.out, HT2.out, HT3.out, HT4.out, ← HX1.out, ← HX2.out, ← HX3.out, ← HX4.out, hK]
                      exact HBXV.out
                  case measure => simp [intOf]; omega
              · have HNW := Lib.hid (show newC a c = 0 by unfold newC; rw [if_neg (fun h => hf h.2.1)])
                go_wp2_with fail
                go_roundw
                case rel =>
                  refine ⟨k + 1, by omega, by go_num, ?_, ⟨?_, HRV.out, HSV.out, HBV.out⟩⟩
                  · rw [HTS.out, HNW.out, ← HS0.out]; first | rfl | (rw [Nat.add_zero])
                  · rw [HT1.out, HT2.out, HT3.out, HT4.out, ← HX1.out, ← HX2.out, ← HX3.out, ← HX4.out, hK]
                    exact HBXV.out
                case measure => simp [intOf]; omega
          · have hk2 : n = k := by omega
            subst hk2
            have HQ := Lib.hid (show cntQ a cs = (numArr x1 x2 x3 x4, (s0 : Int), 0) by
              unfold cntQ
              rw [← HCX.out, if_neg (by simp), HX1.out, HX2.out, HX3.out, HX4.out, HS0.out, HN.out, List.take_length])
            have hcb := HCB.out
            have e0 := cell20 (k := 0) HBXR.out
            have e1 := cell20 (k := 1) HBXR.out
            have e2 := cell20 (k := 2) HBXR.out
            have e3 := cell20 (k := 3) HBXR.out
            have hltE := lt20 HBXR.out
            simp only [List.getElem?_toArray, List.getElem?_cons_succ, List.getElem?_cons_zero] at e0 e1 e2 e3
            have HRS := Lib.hid HLP.out.res
            have f0 := frozen20 (k := 0) HRS.out
            have f1 := frozen20 (k := 1) HRS.out
            have f2 := frozen20 (k := 2) HRS.out
            have f3 := frozen20 (k := 3) HRS.out
            have d0 := cell20 (k := 0) HRS.out
            have d1 := cell20 (k := 1) HRS.out
            have d2 := cell20 (k := 2) HRS.out
            have d3 := cell20 (k := 3) HRS.out
            have hltR := lt20 HRS.out
            simp only [List.getElem?_toArray, List.getElem?_cons_succ, List.getElem?_cons_zero] at d0 d1 d2 d3
            go_wp2_with fail
            refine counts_end (e5 := .int .i64 s0) (e6 := .int .i64 0) HRS.out (by kernel_rfl) (by kernel_rfl) (by kernel_rfl) (by kernel_rfl) ⟨?_, ?_⟩
            · rw [HQ.out]; rfl
            · repeat refine below_set20 ?_ (by omega)
              exact HLP.out.bel
  · have HQ := Lib.hid (show cntQ a cs = (numArr 0 0 0 0, 0, x) by unfold cntQ; rw [← HCX.out, if_pos h0])
    have e1 : (x != 0) = true := by simp [h0]
    clear h0
    go_enter Tryz.func26, Tryz.ntmps26
    go_wp2_with fail
    refine (HCK.out _ HB0.out).mono ?_
    rintro e w1 ⟨rfl, hb1⟩
    have HR1 := Lib.hid ((hb1.block _ (lt20 HR0.out)).trans HR0.out)
    have HB1 := Lib.hid (below_next HB0.out hb1)
    clear hb1 HR0 HB0 HCK
    have f0 := frozen20 (k := 0) HR1.out
    have f1 := frozen20 (k := 1) HR1.out
    have f2 := frozen20 (k := 2) HR1.out
    have f3 := frozen20 (k := 3) HR1.out
    have d0 := cell20 (k := 0) HR1.out
    have d1 := cell20 (k := 1) HR1.out
    have d2 := cell20 (k := 2) HR1.out
    have d3 := cell20 (k := 3) HR1.out
    have hltR := lt20 HR1.out
    simp only [List.getElem?_toArray, List.getElem?_cons_succ, List.getElem?_cons_zero] at d0 d1 d2 d3
    go_wp2_with fail
    refine counts_end (e5 := .int .i64 0) (e6 := .int .i64 x) HR1.out (by kernel_rfl) (by kernel_rfl) (by kernel_rfl) (by kernel_rfl) ⟨?_, ?_⟩
    · rw [HQ.out]; rfl
    · repeat refine below_set20 ?_ (by omega)
      exact HB1.out

end Go.Proofs.YtdieneaillkbgaaGreatDoor

/- The example of chapter 23: file. -/
namespace Go.Proofs.YtdieneaillkbgaaGreatDoor
open Go Go.RowKit Go.Maps

theorem fileD_res {tmps : Array Value} {w : World} {b : Nat} {x0 x1 x2 x3 x4 x5 : Value} (h : w.heap[b]? = some (.cells #[x0, x1, x2, x3, x4, x5] 48 (0, 0)))
    (h4 : tmps[4]? = some (.pointer (some ⟨b, 0, none⟩))) : (results Tryz.f36 tmps).run Tryz.prog w = .ok (.agg #[x0, x1, x2, x3, x4, x5]) w := by
  have m0 := cell20 (k := 0) h
  have m1 := cell20 (k := 1) h
  have m2 := cell20 (k := 2) h
  have m3 := cell20 (k := 3) h
  have m4 := cell20 (k := 4) h
  have m5 := cell20 (k := 5) h
  simp only [List.getElem?_toArray, List.getElem?_cons_succ, List.getElem?_cons_zero] at m0 m1 m2 m3 m4 m5
  simp [results, Tryz.results36, go_sem, h4, m0, m1, m2, m3, m4, m5]
theorem fileD_end {a : Act} {w : World} {b : Nat} {a0 a1 a2 a3 a4 a5 x0 x1 x2 x3 x4 x5 : Value} {Q : Ending → World → Prop} (h : w.heap[b]? = some (.cells #[a0, a1, a2, a3, a4, a5] 48 (0, 0)))
    (h2 : a.tmps[4]? = some (.pointer (some ⟨b, 0, none⟩))) (hd : a.defers = [])
    (hQ : Q (.returned (.agg #[x0, x1, x2, x3, x4, x5])) ((((((w.setCell ⟨b, 0, none⟩ x0).setCell ⟨b, 1, none⟩ x1).setCell ⟨b, 2, none⟩ x2).setCell ⟨b, 3, none⟩ x3).setCell ⟨b, 4, none⟩ x4).setCell ⟨b, 5, none⟩ x5)) :
    bodyPost Tryz.prog Tryz.f36 Q Exit.ret a ((((((w.setCell ⟨b, 0, none⟩ x0).setCell ⟨b, 1, none⟩ x1).setCell ⟨b, 2, none⟩ x2).setCell ⟨b, 3, none⟩ x3).setCell ⟨b, 4, none⟩ x4).setCell ⟨b, 5, none⟩ x5) :=
  bodyPost_ret (fileD_res (six20 h) h2) hd hQ
def fileE (p : ByteArray) (d : List UInt8) : Ent := ⟨p, 1, 0, 0, d, ⟨#[]⟩⟩
theorem bytes_bel (w : World) (e : TypeId) (s : ByteArray) : Below w.heap.size w (Lib.bytesWorld w e s) :=
  ⟨rfl, rfl, rfl, by rw [Lib.bytesWorld_size]; omega, fun k hk => Lib.bytesWorld_at_old w e s k hk⟩
theorem bytes_data (w : World) (s : ByteArray) (hs : s.size ≤ maxLen) : DataAt (fun k => k = w.heap.size) (Lib.bytesWorld w 5 s) (.slice (some ⟨w.heap.size, 0, none⟩) s.size (grownCap w s.size 0 5)) (bl s) := by
  have e : s.size = (bl s).length := size_bl s
  unfold DataAt RowAt
  rw [← e]
  refine ⟨by rw [List.length_map, e, Nat.mul_one], _, _, rfl, grownCap_ge _ _ _ _, grownCap_le_maxLen _ _ _ _ hs, .inr ⟨w.heap.size, 0, rfl, rfl, fun j u hj => ?_⟩⟩
  have hlt := (List.getElem?_eq_some_iff.1 hj).1
  rw [List.length_map, ← e] at hlt
  rw [Nat.zero_add, Lib.bytesWorld_cell w _ s j hlt, ← hj, List.getElem?_map]
  have hl2 : j < s.data.toList.length := by simpa using hlt
  show _ = Option.map u8V (s.data.toList[j]?)
  rw [List.getElem?_eq_getElem hl2, List.getD_eq_getElem?_getD, List.getElem?_eq_getElem hl2]
  rfl
set_option maxRecDepth 100000 in
set_option maxHeartbeats 2000000 in
theorem fileD_any (p d : ByteArray) (w : World) (hd : d.size ≤ 65536) :
    Calls Tryz.prog 36 #[.string p, .string d] w fun e w' => ∃ a c, e = .returned (.agg #[.string p, .int .i64 1, .int .i64 0, .int .i64 0, .slice a d.size c, .string ⟨#[]⟩]) ∧ DataAt (fun k => w.heap.size ≤ k ∧ k < w'.heap.size) w' (.slice a d.size c) (bl d) ∧ Below w.heap.size w w' := by
  obtain ⟨W2, cp, hcv, hbz, hxz, hdz⟩ : ∃ (W2 : World) (cp : Nat), (convert 9 46 (.string d)).run Tryz.prog (w.alloc (.cells #[.string ⟨#[]⟩, .int .i64 0, .int .i64 0, .int .i64 0, .slice none 0 0, .string ⟨#[]⟩] 48)) = .ok (.slice (some ⟨w.heap.size + 1, 0, none⟩) d.size cp) W2 ∧
      Below w.heap.size w W2 ∧ W2.heap[w.heap.size]? = some (.cells #[.string ⟨#[]⟩, .int .i64 0, .int .i64 0, .int .i64 0, .slice none 0 0, .string ⟨#[]⟩] 48 (0, 0)) ∧ DataAt (fun k => w.heap.size < k ∧ k < W2.heap.size) W2 (.slice (some ⟨w.heap.size + 1, 0, none⟩) d.size cp) (bl d) := by
    obtain ⟨W1, hW1⟩ : ∃ W : World, W = w.alloc (.cells #[.string ⟨#[]⟩, .int .i64 0, .int .i64 0, .int .i64 0, .slice none 0 0, .string ⟨#[]⟩] 48) := ⟨_, rfl⟩
    have hb1 : Below w.heap.size w W1 := by rw [hW1]; exact (Below.refl _ _).alloc (Nat.le_refl _) _
    have hx1 : W1.heap[w.heap.size]? = some (.cells #[.string ⟨#[]⟩, .int .i64 0, .int .i64 0, .int .i64 0, .slice none 0 0, .string ⟨#[]⟩] 48 (0, 0)) := by rw [hW1]; exact new20 w _
    have hs1 : W1.heap.size = w.heap.size + 1 := by rw [hW1]; simp
    rw [← hW1]
    have hb2 := bytes_bel W1 5 d
    have hd2 := bytes_data W1 d (by unfold maxLen; omega)
    have hr := Lib.run_convert_string_bytes (P := Tryz.prog) W1 9 46 5 d Tryz.underlying9 Tryz.underlying46 Tryz.underlying5
    rw [hs1] at hr hd2
    exact ⟨_, _, hr, below_next hb1 hb2, (hb2.block _ (lt20 hx1)).trans hx1, RowAt.mono hd2 (fun k hk hS => ⟨by omega, hk⟩) (by omega)⟩
  have HB := Lib.hid hbz
  have HX := Lib.hid hxz
  have HD := Lib.hid hdz
  have f0 := frozen20 (k := 0) hxz
  have f1 := frozen20 (k := 1) hxz
  have f2 := frozen20 (k := 2) hxz
  have f3 := frozen20 (k := 3) hxz
  have f4 := frozen20 (k := 4) hxz
  have f5 := frozen20 (k := 5) hxz
  have c0 := cell20 (k := 0) hxz
  have c1 := cell20 (k := 1) hxz
  have c2 := cell20 (k := 2) hxz
  have c3 := cell20 (k := 3) hxz
  have c4 := cell20 (k := 4) hxz
  have c5 := cell20 (k := 5) hxz
  have hlt := lt20 hxz
  simp only [List.getElem?_toArray, List.getElem?_cons_succ, List.getElem?_cons_zero] at c0 c1 c2 c3 c4 c5
  clear hbz hxz hdz
  go_enter Tryz.func36, Tryz.ntmps36
  go_wp2_with fail
  refine fileD_end (b := w.heap.size) HX.out (by kernel_rfl) (by kernel_rfl) ⟨_, _, rfl, ?_, ?_⟩
  · have h1 : ∀ {V : World} {x : Value} {k : Nat}, DataAt (fun k => w.heap.size < k ∧ k < W2.heap.size) V (.slice (some ⟨w.heap.size + 1, 0, none⟩) d.size cp) (bl d) → DataAt (fun k => w.heap.size < k ∧ k < W2.heap.size) (V.setCell ⟨w.heap.size, k, none⟩ x) (.slice (some ⟨w.heap.size + 1, 0, none⟩) d.size cp) (bl d) := fun h => data_grown h (by omega) (grown_set _ _ _)
    refine RowAt.mono (h1 (h1 (h1 (h1 (h1 (h1 HD.out)))))) (fun k hk hS => ⟨by omega, hk⟩) (by omega)
  · repeat refine below_set20 ?_ (by omega)
    exact HB.out

def exDA : List Ent := [⟨⟨#[100]⟩, 2, 0, 0, [], ⟨#[]⟩⟩, fileE ⟨#[100, 47, 120]⟩ [49, 50], fileE ⟨#[121]⟩ [51]]
def exDB : List Ent := [fileE ⟨#[100]⟩ [49, 50], fileE ⟨#[121]⟩ [52]]
def exDR : List Ent := [⟨⟨#[100]⟩, 2, 0, 0, [], ⟨#[]⟩⟩, fileE ⟨#[100, 47, 120]⟩ [49, 50], fileE ⟨#[100, 47, 122]⟩ [53], fileE ⟨#[121]⟩ [51]]
def exDL : List Chg := [⟨1, ⟨#[100]⟩, noPath, noEnt⟩, ⟨2, ⟨#[100]⟩, ⟨#[100, 47, 120]⟩, fileE ⟨#[100]⟩ [49, 50]⟩, ⟨4, ⟨#[121]⟩, noPath, fileE ⟨#[121]⟩ [52]⟩]
theorem exD_diff : diffQ exDA exDB = (exDL, 0) := by kernel_rfl
theorem exD_app : applyP exDA exDL = (exDB, 0) := by kernel_rfl
theorem exD_cnt : cntQ exDA exDL = (numArr 1 1 0 1, 1, 0) := by kernel_rfl
theorem exD_text : textP exDL = [45, 32, 100, 10, 62, 32, 100, 47, 120, 9, 100, 10, 42, 32, 121, 10] := by kernel_rfl
theorem exD_chk : mrgChk exDA exDB exDR = 0 := by kernel_rfl
theorem exD_tok : TOk exDB := checkP_iff.1 (by kernel_rfl)
theorem exD_merge : IsMerge exDA exDB exDR exDB [⟨#[100, 47, 122]⟩] := by
  have hin : ∀ p : ByteArray, p ∈ (exDB ++ exDR).map Ent.path ∨ (findE exDB p = none ∧ findE exDR p = none) := fun p => by
    by_cases h : p ∈ (exDB ++ exDR).map Ent.path
    · exact Or.inl h
    · rw [List.map_append, List.mem_append] at h
      refine Or.inr ⟨?_, ?_⟩
      · cases hf : findE exDB p with
        | none => rfl
        | some f => exact absurd (Or.inl (some_in (by rw [hf]; simp))) h
      · cases hf : findE exDR p with
        | none => rfl
        | some f => exact absurd (Or.inr (some_in (by rw [hf]; simp))) h
  have hps : (exDB ++ exDR).map Ent.path = [⟨#[100]⟩, ⟨#[121]⟩, ⟨#[100]⟩, ⟨#[100, 47, 120]⟩, ⟨#[100, 47, 122]⟩, ⟨#[121]⟩] := by kernel_rfl
  refine ⟨exD_tok.ord, fun p => ?_, by simp, fun p => ?_⟩
  · rcases hin p with h | ⟨h1, h2⟩
    · rw [hps] at h
      simp only [List.mem_cons, List.not_mem_nil, or_false] at h
      rcases h with rfl | rfl | rfl | rfl | rfl | rfl <;> kernel_rfl
    · rw [h1]
      symm
      cases hr : resM exDA exDB exDR p with
      | none => rfl
      | some e =>
        have := (res_mid hr).1
        rcases mid_from (x := exDA) (l := exDB) (r := exDR) (p := p) with h | h
        · rw [h, h1] at this; cases this
        · rw [h, h2] at this; cases this
  · constructor
    · intro h
      rw [List.mem_singleton.1 h]; kernel_rfl
    · intro h
      have h2 := isK_in exD_tok h
      rw [hps] at h2
      simp only [List.mem_cons, List.not_mem_nil, or_false] at h2
      rcases h2 with rfl | rfl | rfl | rfl | rfl | rfl
      all_goals first
        | (exact List.mem_singleton.2 rfl)
        | (exfalso; revert h; rw [show isK exDA exDB exDR _ = false by kernel_rfl]; simp)
theorem exD_one {m : List Ent} {k : List ByteArray} (h : IsMerge exDA exDB exDR m k) : m = exDB ∧ k = [⟨#[100, 47, 122]⟩] := merge_one h exD_merge
theorem fileE_ok (p : ByteArray) (d : List UInt8) (hp : p.size ≤ maxLen) : EntOk (fileE p d) := ⟨hp, by show (⟨#[]⟩ : ByteArray).size ≤ maxLen; decide, rfl, rfl, rfl⟩
theorem data_row {S : Nat → Prop} {w w' : World} {v : Value} {bs : List UInt8} {row : Option Nat} (h : DataAt S w v bs) (hg : w.grownBy w' row) (hr : ∀ k, row = some k → ¬ S k) : DataAt S w' v bs := by
  cases row with
  | none => exact h.below ⟨hg.os, hg.tape, hg.output, hg.size, fun k hk => hg.block k hk (by simp)⟩
  | some k => exact data_grown h (hr k rfl) hg
/-- A list of entries in a new row. -/
theorem ents_row {S : Nat → Prop} {w : World} {ys : List VEnt} (hn : ys.length ≤ 4096) (h : ∀ y ∈ ys, DataAt S w y.1 y.2.data ∧ EntOk y.2) : EntsAt (fun _ => True) (w.alloc (.cells (entsC ys).toArray 48)) (.slice (some ⟨w.heap.size, 0, none⟩) ys.length ys.length) (ys.map Prod.snd) := by
  refine ⟨entsC ys, RowAt.weak (by rw [List.length_map]; exact row_new (cells := entsC ys) (new20 w _) (entsC_len ys) (by unfold maxLen; omega)) (fun _ _ => trivial), entsC_in fun y hy => ⟨data_mono ((h y hy).1.below ((Below.refl _ _).alloc (Nat.le_refl _) _)) (fun _ _ => trivial), (h y hy).2⟩⟩

set_option maxRecDepth 100000 in
set_option maxHeartbeats 4000000 in
theorem awD_any (w : World) (he : Env w) : Calls Tryz.prog 13 #[] w fun e w' => e = .returned (.bool true) ∧ Below w.heap.size w w' := by
  have HE := Lib.hid he
  clear he
  go_enter Tryz.func13, Tryz.ntmps13
  go_wp2_with fail
  refine (fileD_any ⟨#[100, 47, 120]⟩ ⟨#[49, 50]⟩ w (by decide)).mono ?_
  rintro e w1 ⟨a1, c1, rfl, hd1, hb1⟩
  have HD1 := Lib.hid hd1
  have HB1 := Lib.hid hb1
  clear hd1 hb1
  go_wp2_with fail
  refine (fileD_any ⟨#[121]⟩ ⟨#[51]⟩ w1 (by decide)).mono ?_
  rintro e w2 ⟨a2, c2, rfl, hd2, hb2⟩
  have HD2 := Lib.hid hd2
  have HD1b := Lib.hid (HD1.out.below hb2)
  have HB2 := Lib.hid (below_next HB1.out hb2)
  clear hd2 hb2 HD1
  go_upto_region 2 with (fail)
  obtain ⟨ysA, hysA⟩ : ∃ ys : List VEnt, ys = [(.slice none 0 0, ⟨⟨#[100]⟩, 2, 0, 0, [], ⟨#[]⟩⟩), (.slice a1 2 c1, fileE ⟨#[100, 47, 120]⟩ [49, 50]), (.slice a2 1 c2, fileE ⟨#[121]⟩ [51])] := ⟨_, rfl⟩
  have HYA := Lib.hid hysA
  have hda : ∀ y ∈ ysA, DataAt (fun _ => True) w2 y.1 y.2.data ∧ EntOk y.2 := fun y hy => by
    rw [hysA] at hy
    simp only [List.mem_cons, List.not_mem_nil, or_false] at hy
    rcases hy with rfl | rfl | rfl
    · exact ⟨DataAt.nil _ _, exOk _ (.inl rfl) |> fun _ => ⟨by decide, by decide, by decide, by decide, by decide⟩⟩
    · exact ⟨data_mono HD1b.out (fun _ _ => trivial), fileE_ok _ _ (by decide)⟩
    · exact ⟨data_mono HD2.out (fun _ _ => trivial), fileE_ok _ _ (by decide)⟩
  obtain ⟨w3, hw3⟩ : ∃ Z : World, Z = w2.alloc (.cells #[.string ⟨#[100]⟩, .int .i64 2, .int .i64 0, .int .i64 0, .slice none 0 0, .string ⟨#[]⟩, .string ⟨#[100, 47, 120]⟩, .int .i64 1, .int .i64 0, .int .i64 0, .slice a1 2 c1, .string ⟨#[]⟩, .string ⟨#[121]⟩, .int .i64 1, .int .i64 0, .int .i64 0, .slice a2 1 c2, .string ⟨#[]⟩] 48) := ⟨_, rfl⟩
  rw [← hw3]
  have hb3 : Below w2.heap.size w2 w3 := by rw [hw3]; exact (Below.refl _ _).alloc (Nat.le_refl _) _
  have HDA := Lib.hid (show ∀ y ∈ ysA, DataAt (fun _ => True) w3 y.1 y.2.data ∧ EntOk y.2 from fun y hy => ⟨(hda y hy).1.below hb3, (hda y hy).2⟩)
  obtain ⟨bA, hbA⟩ : ∃ b, b = w2.heap.size := ⟨_, rfl⟩
  have HRA := Lib.hid (show RowAt (fun k => k = bA) w3 6 (.slice (some ⟨bA, 0, none⟩) 3 3) 3 (entsC ysA) by
    rw [hysA, hw3, hbA]; exact row_new (cells := entsC [(.slice none 0 0, ⟨⟨#[100]⟩, 2, 0, 0, [], ⟨#[]⟩⟩), (.slice a1 2 c1, fileE ⟨#[100, 47, 120]⟩ [49, 50]), (.slice a2 1 c2, fileE ⟨#[121]⟩ [51])]) (new20 w2 _) rfl (by decide))
  have HX3 := Lib.hid (show w3.heap[bA]? = some (.cells #[.string ⟨#[100]⟩, .int .i64 2, .int .i64 0, .int .i64 0, .slice none 0 0, .string ⟨#[]⟩, .string ⟨#[100, 47, 120]⟩, .int .i64 1, .int .i64 0, .int .i64 0, .slice a1 2 c1, .string ⟨#[]⟩, .string ⟨#[121]⟩, .int .i64 1, .int .i64 0, .int .i64 0, .slice a2 1 c2, .string ⟨#[]⟩] 48 (0, 0)) by rw [hw3, hbA]; exact new20 w2 _)
  have HB3 := Lib.hid (below_next HB2.out hb3)
  have HA3 := Lib.hid (show EntsAt (fun _ => True) w3 (.slice (some ⟨bA, 0, none⟩) 3 3) exDA by
    have hm : ysA.map Prod.snd = exDA := by rw [hysA]; rfl
    have hl : ysA.length = 3 := by rw [hysA]; rfl
    rw [← hm]
    have hr : RowAt (fun _ => True) w3 6 (.slice (some ⟨bA, 0, none⟩) 3 3) 3 (entsC ysA) := RowAt.weak HRA.out (fun _ _ => trivial)
    exact ⟨entsC ysA, by rw [List.length_map, hl]; exact hr, entsC_in HDA.out⟩)
  rw [← hbA]
  clear hysA hda hw3 hb3 hbA HD1b HD2 HB1 HB2
  go_wp2_with fail
  refine (fileD_any ⟨#[100]⟩ ⟨#[49, 50]⟩ w3 (by decide)).mono ?_
  rintro e w4 ⟨a4, c4, rfl, hd4, hb4⟩
  have HD4 := Lib.hid hd4
  have HB4 := Lib.hid hb4
  clear hd4 hb4
  go_wp2_with fail
  refine (fileD_any ⟨#[121]⟩ ⟨#[52]⟩ w4 (by decide)).mono ?_
  rintro e w5 ⟨a5, c5, rfl, hd5, hb5⟩
  have HD5 := Lib.hid hd5
  have HD4b := Lib.hid (HD4.out.below hb5)
  have HB5 := Lib.hid (below_next HB4.out hb5)
  clear hd5 hb5 HD4 HB4
  go_upto_region 3 with (fail)
  obtain ⟨w6, hw6⟩ : ∃ Z : World, Z = w5.alloc (.cells #[.string ⟨#[100]⟩, .int .i64 1, .int .i64 0, .int .i64 0, .slice a4 2 c4, .string ⟨#[]⟩, .string ⟨#[121]⟩, .int .i64 1, .int .i64 0, .int .i64 0, .slice a5 1 c5, .string ⟨#[]⟩] 48) := ⟨_, rfl⟩
  rw [← hw6]
  have hb6 : Below w5.heap.size w5 w6 := by rw [hw6]; exact (Below.refl _ _).alloc (Nat.le_refl _) _
  have HB6 := Lib.hid (below_next HB5.out hb6)
  have HBB6 := Lib.hid (show EntsAt (fun _ => True) w6 (.slice (some ⟨w5.heap.size, 0, none⟩) 2 2) exDB by
    rw [hw6]
    exact ents_row (S := fun _ => True) (w := w5) (ys := [(.slice a4 2 c4, fileE ⟨#[100]⟩ [49, 50]), (.slice a5 1 c5, fileE ⟨#[121]⟩ [52])]) (by simp) (fun y hy => by
      simp only [List.mem_cons, List.not_mem_nil, or_false] at hy
      rcases hy with rfl | rfl
      · exact ⟨data_mono HD4b.out (fun _ _ => trivial), fileE_ok _ _ (by decide)⟩
      · exact ⟨data_mono HD5.out (fun _ _ => trivial), fileE_ok _ _ (by decide)⟩))
  obtain ⟨bB, hbB⟩ : ∃ b, b = w5.heap.size := ⟨_, rfl⟩
  rw [← hbB] at HBB6 ⊢
  clear hw6 hb6 hbB HD4b HD5 HB5
  go_wp2_with fail
  refine (diff_any _ _ exDA exDB _ _ w6 (HA3.out.below HB6.out) HBB6.out (HE.out.below (below_next HB3.out HB6.out))).mono ?_
  rintro e w7 hr7
  unfold ChgRes at hr7
  rw [exD_diff] at hr7
  obtain ⟨v7, ys7, rfl, hy7, hg7, hb7⟩ := hr7
  have HL7 := Lib.hid hg7.seq
  rw [hy7] at HL7
  obtain ⟨a7, c7, rfl, -, -⟩ := owns_shape hg7.row
  rw [show ys7.length = 3 by rw [← List.length_map (f := Prod.snd), hy7]; rfl] at HL7 ⊢
  have HB7 := Lib.hid (below_next HB6.out hb7)
  have HBB7 := Lib.hid (HBB6.out.below hb7)
  clear hy7 hg7 hb7
  go_wp2_with fail
  refine (apply_flat _ _ exDA exDL _ _ w7 exDB 0 exD_app (HA3.out.below HB7.out) HL7.out (by decide) (HE.out.below (below_next HB3.out HB7.out))).mono ?_
  rintro e w8 ⟨v8, ys8, rfl, hy8, hg8, hb8⟩
  have HC8 := Lib.hid hg8.seq
  rw [hy8] at HC8
  obtain ⟨a8, c8, rfl, -, -⟩ := owns_shape hg8.row
  rw [show ys8.length = 2 by rw [← List.length_map (f := Prod.snd), hy8]; rfl] at HC8 ⊢
  have HB8 := Lib.hid (below_next HB7.out hb8)
  have HBB8 := Lib.hid (HBB7.out.below hb8)
  have HL8 := Lib.hid (HL7.out.below hb8)
  clear hy8 hg8 hb8
  go_wp2_with fail
  refine (counts_any _ _ exDA exDL _ _ w8 (HA3.out.below HB8.out) HL8.out (by decide) (HE.out.below (below_next HB3.out HB8.out))).mono ?_
  rintro e w9 hr9
  unfold CntRes at hr9
  rw [exD_cnt] at hr9
  obtain ⟨rfl, hb9⟩ := hr9
  have HB9 := Lib.hid (below_next HB8.out hb9)
  have HBB9 := Lib.hid (HBB8.out.below hb9)
  have HL9 := Lib.hid (HL8.out.below hb9)
  have HC9 := Lib.hid (HC8.out.below hb9)
  clear hb9
  unfold numArr
  simp only
  go_upto_region 6 with (fail)
  obtain ⟨w10, hw10⟩ : ∃ Z : World, Z = w9.alloc (.cells #[.int .i64 1, .int .i64 1, .int .i64 0, .int .i64 1] 43) := ⟨_, rfl⟩
  rw [← hw10]
  have hb10 : Below w9.heap.size w9 w10 := by rw [hw10]; exact (Below.refl _ _).alloc (Nat.le_refl _) _
  obtain ⟨bN, hbN⟩ : ∃ b, b = w9.heap.size := ⟨_, rfl⟩
  have HN10 := Lib.hid (show w10.heap[bN]? = some (.cells #[.int .i64 1, .int .i64 1, .int .i64 0, .int .i64 1] 43 (0, 0)) by rw [hw10, hbN]; exact new20 w9 _)
  have HB10 := Lib.hid (below_next HB9.out hb10)
  have HBB10 := Lib.hid (HBB9.out.below hb10)
  have HL10 := Lib.hid (HL9.out.below hb10)
  have HC10 := Lib.hid (HC9.out.below hb10)
  rw [← hbN]
  clear hw10 hb10 hbN HB9 HBB9 HL9 HC9 HB8 HBB8 HL8 HC8 HB7 HBB7 HL7 HB6 HBB6
  refine hld_start (fun w' => w'.cell? ⟨bA, 12, none⟩ = some (.string ⟨#[121]⟩) ∧ w'.cell? ⟨bA, 13, none⟩ = some (.int .i64 1) ∧ w'.cell? ⟨bA, 14, none⟩ = some (.int .i64 0) ∧ w'.cell? ⟨bA, 15, none⟩ = some (.int .i64 0) ∧ w'.cell? ⟨bA, 16, none⟩ = some (.slice a2 1 c2) ∧ w'.cell? ⟨bA, 17, none⟩ = some (.string ⟨#[]⟩)) (by kernel_rfl) ?_
  obtain ⟨V, hV⟩ : ∃ V : World, V = w10.drew := ⟨_, rfl⟩
  rw [← hV]
  have HV := Lib.hid (show Below w10.heap.size w10 V by rw [hV]; exact bel_drew)
  clear hV
  have HXV := Lib.hid (((below_next HB10.out HV.out).block _ (lt20 HX3.out)).trans HX3.out)
  have r0 := cell20 (k := 12) HXV.out
  have r1 := cell20 (k := 13) HXV.out
  have r2 := cell20 (k := 14) HXV.out
  have r3 := cell20 (k := 15) HXV.out
  have r4 := cell20 (k := 16) HXV.out
  have r5 := cell20 (k := 17) HXV.out
  have hltR := lt20 HXV.out
  simp only [List.getElem?_toArray, List.getElem?_cons_succ, List.getElem?_cons_zero] at r0 r1 r2 r3 r4 r5
  refine hld_take 1 rfl (by kernel_rfl) (by kernel_rfl) (by kernel_rfl) (fun _ _ _ h => h) rfl ⟨r0, r1, r2, r3, r4, r5⟩ (by rintro w' ⟨hw1, hw2, hw3, hw4, hw5, hw6⟩; go_simp; try rfl) ?_
  simp only [Act.put, List.setIfInBounds_toArray, List.set_cons_succ, List.set_cons_zero]
  refine hld_take 2 rfl (by kernel_rfl) (by kernel_rfl) (by kernel_rfl) (fun _ _ _ h => h) rfl ⟨r0, r1, r2, r3, r4, r5⟩ (by rintro w' ⟨hw1, hw2, hw3, hw4, hw5, hw6⟩; go_simp; try rfl) ?_
  simp only [Act.put, List.setIfInBounds_toArray, List.set_cons_succ, List.set_cons_zero]
  refine hld_take 5 rfl (by kernel_rfl) (by kernel_rfl) (by kernel_rfl) (fun _ _ _ h => h) rfl ⟨r0, r1, r2, r3, r4, r5⟩ (by rintro w' ⟨hw1, hw2, hw3, hw4, hw5, hw6⟩; go_simp; try rfl) ?_
  simp only [Act.put, List.setIfInBounds_toArray, List.set_cons_succ, List.set_cons_zero]
  refine hld_take 6 rfl (by kernel_rfl) (by kernel_rfl) (by kernel_rfl) (fun _ _ _ h => h) rfl ⟨r0, r1, r2, r3, r4, r5⟩ (by rintro w' ⟨hw1, hw2, hw3, hw4, hw5, hw6⟩; go_simp; try rfl) ?_
  simp only [Act.put, List.setIfInBounds_toArray, List.set_cons_succ, List.set_cons_zero]
  refine hld_take 7 rfl (by kernel_rfl) (by kernel_rfl) (by kernel_rfl) (fun _ _ _ h => h) rfl ⟨r0, r1, r2, r3, r4, r5⟩ (by rintro w' ⟨hw1, hw2, hw3, hw4, hw5, hw6⟩; go_simp; try rfl) ?_
  simp only [Act.put, List.setIfInBounds_toArray, List.set_cons_succ, List.set_cons_zero]
  refine hld_bar 0 rfl (by kernel_rfl) rfl (fun K hK => ?_)
  go_wp2_with fail
  obtain ⟨U1, hU⟩ : ∃ u : World, u = V.alloc (.cells #[] 48) := ⟨_, rfl⟩
  rw [← hU]
  have hbu : Below V.heap.size V U1 := by rw [hU]; exact (Below.refl _ _).alloc (Nat.le_refl _) _
  have HO1 := Lib.hid (show U1.ownsRow V.heap.size 48 6 (.slice (some ⟨V.heap.size, 0, none⟩) 0 0) 0 [] by rw [hU]; exact World.ownsRow_lit (base := V.heap.size) V #[] 0 (Nat.le_refl _) (Nat.zero_le _) (by simp))
  have HBU1 := Lib.hid hbu
  clear hU hbu
  clear r0 r1 r2 r3 r4 r5 hltR
  have HXU1 := Lib.hid ((HBU1.out.block _ (lt20 HXV.out)).trans HXV.out)
  have r0 := cell20 (k := 12) HXU1.out
  have r1 := cell20 (k := 13) HXU1.out
  have r2 := cell20 (k := 14) HXU1.out
  have r3 := cell20 (k := 15) HXU1.out
  have r4 := cell20 (k := 16) HXU1.out
  have r5 := cell20 (k := 17) HXU1.out
  have hltR := lt20 HXU1.out
  simp only [List.getElem?_toArray, List.getElem?_cons_succ, List.getElem?_cons_zero] at r0 r1 r2 r3 r4 r5
  refine ⟨⟨r0, r1, r2, r3, r4, r5⟩, ?_⟩
  have HRT := Lib.hid (show RowAt (fun _ => True) U1 6 (.slice (some ⟨bA, 0, none⟩) 2 3) 2 ((entsC ysA).take (2 * 6)) from
    (RowAt.weak (row_take (((HRA.out.below (by omega) (below_next HB10.out HV.out))).below (by omega) HBU1.out) (by omega)) (fun _ _ => trivial)))
  have hone : ∀ u ∈ (entsC ysA).take (2 * 6), u.oneCell' = true := fun u hu => entsC_oneC HDA.out u (List.mem_of_mem_take hu)
  refine hld_bar 3 rfl (by kernel_rfl) rfl (fun K hK => ?_)
  go_wp2_with (at_builtin; go_must (refine wpList_appn Tryz.appEnts rfl _ _ rfl V.heap.size _ 0 [] rfl HO1.out _ 2 ((entsC ysA).take (2 * 6)) rfl HRT.out hone (by omega) HBU1.out.size ?_); intro v1 U2 hown1 hg1)
  have HBU2 := Lib.hid (below_grown HBU1.out HO1.out hg1 (Nat.le_refl _) HBU1.out.size)
  have HO2 := Lib.hid (show U2.ownsRow V.heap.size 48 6 v1 2 ((entsC ysA).take (2 * 6)) by simpa using hown1)
  obtain ⟨g1, k1, rfl, -, -⟩ := owns_shape HO2.out
  clear hown1 hg1 hone
  clear r0 r1 r2 r3 r4 r5 hltR
  have HXU2 := Lib.hid ((HBU2.out.block _ (lt20 HXV.out)).trans HXV.out)
  have r0 := cell20 (k := 12) HXU2.out
  have r1 := cell20 (k := 13) HXU2.out
  have r2 := cell20 (k := 14) HXU2.out
  have r3 := cell20 (k := 15) HXU2.out
  have r4 := cell20 (k := 16) HXU2.out
  have r5 := cell20 (k := 17) HXU2.out
  have hltR := lt20 HXU2.out
  simp only [List.getElem?_toArray, List.getElem?_cons_succ, List.getElem?_cons_zero] at r0 r1 r2 r3 r4 r5
  refine ⟨⟨r0, r1, r2, r3, r4, r5⟩, ?_⟩
  refine hld_bar 4 rfl (by kernel_rfl) rfl (fun K hK => ?_)
  go_wp2_with (go_at_call 36; refine (fileD_any ⟨#[100, 47, 122]⟩ ⟨#[53]⟩ _ (by decide)).mono ?_; rintro e9' U3 ⟨a6, c6, rfl, hd6, hb6⟩; have HD6 := Lib.hid hd6; have HBU3 := Lib.hid (HBU2.out.trans (hb6.mono HBU2.out.size)); have HO3 := Lib.hid (own_below HO2.out hb6); clear hd6 hb6 r0 r1 r2 r3 r4 r5 hltR)
  have HXU3 := Lib.hid ((HBU3.out.block _ (lt20 HXV.out)).trans HXV.out)
  have r0 := cell20 (k := 12) HXU3.out
  have r1 := cell20 (k := 13) HXU3.out
  have r2 := cell20 (k := 14) HXU3.out
  have r3 := cell20 (k := 15) HXU3.out
  have r4 := cell20 (k := 16) HXU3.out
  have r5 := cell20 (k := 17) HXU3.out
  have hltR := lt20 HXU3.out
  simp only [List.getElem?_toArray, List.getElem?_cons_succ, List.getElem?_cons_zero] at r0 r1 r2 r3 r4 r5
  refine ⟨⟨r0, r1, r2, r3, r4, r5⟩, ?_⟩
  refine hld_bar 8 rfl (by kernel_rfl) rfl (fun K hK => ?_)
  go_wp2_with fail
  obtain ⟨U4, hU⟩ : ∃ u : World, u = U3.alloc (.cells #[.string ⟨#[100, 47, 122]⟩, .int .i64 1, .int .i64 0, .int .i64 0, .slice a6 1 c6, .string ⟨#[]⟩, .string ⟨#[121]⟩, .int .i64 1, .int .i64 0, .int .i64 0, .slice a2 1 c2, .string ⟨#[]⟩] 48) := ⟨_, rfl⟩
  rw [← hU]
  have hbu : Below U3.heap.size U3 U4 := by rw [hU]; exact (Below.refl _ _).alloc (Nat.le_refl _) _
  obtain ⟨ysB, hysB⟩ : ∃ ys : List VEnt, ys = [(.slice a6 1 c6, fileE ⟨#[100, 47, 122]⟩ [53]), (.slice a2 1 c2, fileE ⟨#[121]⟩ [51])] := ⟨_, rfl⟩
  have HRB := Lib.hid (show RowAt (fun _ => True) U4 6 (.slice (some ⟨U3.heap.size, 0, none⟩) 2 2) 2 (entsC ysB) by
    rw [hysB, hU]; exact RowAt.weak (row_new (cells := entsC [(.slice a6 1 c6, fileE ⟨#[100, 47, 122]⟩ [53]), (.slice a2 1 c2, fileE ⟨#[121]⟩ [51])]) (new20 U3 _) rfl (by decide)) (fun _ _ => trivial))
  have HBU4 := Lib.hid (HBU3.out.trans (hbu.mono HBU3.out.size))
  have HO4 := Lib.hid (own_below HO3.out hbu)
  have HBV4 := Lib.hid (below_next (below_next HB10.out HV.out) HBU4.out)
  have HDB := Lib.hid (show ∀ y ∈ ysB, DataAt (fun _ => True) U4 y.1 y.2.data ∧ EntOk y.2 from fun y hy => by
    rw [hysB] at hy
    simp only [List.mem_cons, List.not_mem_nil, or_false] at hy
    rcases hy with rfl | rfl
    · exact ⟨data_mono (HD6.out.below hbu) (fun _ _ => trivial), fileE_ok _ _ (by decide)⟩
    · exact ⟨(HDA.out (.slice a2 1 c2, fileE ⟨#[121]⟩ [51]) (by rw [HYA.out]; simp)).1.below HBV4.out, fileE_ok _ _ (by decide)⟩)
  have HYB := Lib.hid hysB
  have HD64 := Lib.hid (HD6.out.below hbu)
  clear hU hbu hysB
  clear r0 r1 r2 r3 r4 r5 hltR
  have HXU4 := Lib.hid ((HBU4.out.block _ (lt20 HXV.out)).trans HXV.out)
  have r0 := cell20 (k := 12) HXU4.out
  have r1 := cell20 (k := 13) HXU4.out
  have r2 := cell20 (k := 14) HXU4.out
  have r3 := cell20 (k := 15) HXU4.out
  have r4 := cell20 (k := 16) HXU4.out
  have r5 := cell20 (k := 17) HXU4.out
  have hltR := lt20 HXU4.out
  simp only [List.getElem?_toArray, List.getElem?_cons_succ, List.getElem?_cons_zero] at r0 r1 r2 r3 r4 r5
  refine ⟨⟨r0, r1, r2, r3, r4, r5⟩, ?_⟩
  have hone : ∀ u ∈ entsC ysB, u.oneCell' = true := entsC_oneC HDB.out
  refine hld_bar 9 rfl (by kernel_rfl) rfl (fun K hK => ?_)
  go_wp2_with (at_builtin; go_must (refine wpList_appn Tryz.appEnts rfl _ _ rfl V.heap.size _ 2 ((entsC ysA).take (2 * 6)) rfl HO4.out _ 2 (entsC ysB) rfl HRB.out hone (by omega) HBU4.out.size ?_); intro v5 U5 hown5 hg5)
  have HBU5 := Lib.hid (below_grown HBU4.out HO4.out hg5 (Nat.le_refl _) HBU4.out.size)
  have HO5 := Lib.hid (show U5.ownsRow V.heap.size 48 6 v5 4 ((entsC ysA).take (2 * 6) ++ entsC ysB) from hown5)
  obtain ⟨g5, k5, rfl, -, -⟩ := owns_shape HO5.out
  have HG5 := Lib.hid hg5
  clear hown5 hg5 hone
  clear r0 r1 r2 r3 r4 r5 hltR
  have HXU5 := Lib.hid ((HBU5.out.block _ (lt20 HXV.out)).trans HXV.out)
  have r0 := cell20 (k := 12) HXU5.out
  have r1 := cell20 (k := 13) HXU5.out
  have r2 := cell20 (k := 14) HXU5.out
  have r3 := cell20 (k := 15) HXU5.out
  have r4 := cell20 (k := 16) HXU5.out
  have r5 := cell20 (k := 17) HXU5.out
  have hltR := lt20 HXU5.out
  simp only [List.getElem?_toArray, List.getElem?_cons_succ, List.getElem?_cons_zero] at r0 r1 r2 r3 r4 r5
  refine ⟨⟨r0, r1, r2, r3, r4, r5⟩, ?_⟩
  refine hld_take 10 rfl (by kernel_rfl) (by kernel_rfl) (by kernel_rfl) (fun _ _ _ h => h) rfl ⟨r0, r1, r2, r3, r4, r5⟩ (by rintro w' ⟨hw1, hw2, hw3, hw4, hw5, hw6⟩; go_simp; try rfl) ?_
  simp only [Act.put, List.setIfInBounds_toArray, List.set_cons_succ, List.set_cons_zero]
  refine hld_done (by kernel_rfl) ?_
  clear r0 r1 r2 r3 r4 r5 hltR
  have HBV5 := Lib.hid (show Below w10.heap.size w10 U5 from HV.out.trans (HBU5.out.mono HV.out.size))
  have HB35 := Lib.hid (below_next HB10.out HBV5.out)
  have HR5 := Lib.hid (show EntsAt (fun _ => True) U5 (.slice g5 4 k5) exDR by
    have hm : (ysA.take 2 ++ ysB).map Prod.snd = exDR := by rw [HYA.out, HYB.out]; rfl
    have hl : ((ysA.take 2 ++ ysB).map Prod.snd).length = 4 := by rw [HYA.out, HYB.out]; rfl
    have hc : entsC (ysA.take 2 ++ ysB) = (entsC ysA).take (2 * 6) ++ entsC ysB := by rw [entsC_app, entsC_take]
    rw [← hm]
    refine ⟨entsC (ysA.take 2 ++ ysB), ?_, entsC_in fun y hy => ?_⟩
    · rw [hl, hc]
      exact RowAt.weak (row_of_owns HO5.out) (fun _ _ => trivial)
    · rcases List.mem_append.1 hy with hy | hy
      · have := HDA.out y (List.mem_of_mem_take hy)
        exact ⟨this.1.below HB35.out, this.2⟩
      · have hy' := hy
        rw [HYB.out] at hy'
        simp only [List.mem_cons, List.not_mem_nil, or_false] at hy'
        rcases hy' with rfl | rfl
        · refine ⟨?_, fileE_ok _ _ (by decide)⟩
          exact data_mono (data_row HD64.out HG5.out (fun k hk => by have := (own_lt HO2.out hk).2; exact fun h => by have := h.1; omega)) (fun _ _ => trivial)
        · exact ⟨(HDA.out (.slice a2 1 c2, fileE ⟨#[121]⟩ [51]) (by rw [HYA.out]; simp)).1.below HB35.out, fileE_ok _ _ (by decide)⟩)
  have HBB5 := Lib.hid (HBB10.out.below HBV5.out)
  have HL5 := Lib.hid (HL10.out.below HBV5.out)
  have HC5 := Lib.hid (HC10.out.below HBV5.out)
  have HN5 := Lib.hid ((HBV5.out.block _ (lt20 HN10.out)).trans HN10.out)
  have HBW5 := Lib.hid (below_next HB3.out HB35.out)
  clear HBB10 HL10 HC10 HN10 HBU1 HBU2 HBU3 HBU4 HBU5 HO1 HO2 HO3 HO4 HO5 HXU1 HXU2 HXU3 HXU4 HXU5 HXV HV HRT HRB HDB HG5 HD6 HD64 HBV4 HBV5
  go_wp2_with fail
  refine (merge_any _ _ _ exDA exDB exDR _ _ _ U5 (HA3.out.below HB35.out) HBB5.out HR5.out (by decide) (HE.out.below HBW5.out)).mono ?_
  rintro e w11 hr
  rcases hr with ⟨h0, _⟩ | ⟨-, v11, vk, ys11, k11, rfl, him, hg11, hk11, hb11⟩
  · exact absurd exD_chk h0
  obtain ⟨hm11, rfl⟩ := exD_one him
  have HM11 := Lib.hid hg11.seq
  rw [hm11] at HM11
  obtain ⟨a11, c11, rfl, -, -⟩ := owns_shape hg11.row
  rw [show ys11.length = 2 by rw [← List.length_map (f := Prod.snd), hm11]; rfl] at HM11 ⊢
  have hrk := row_of_owns hk11
  obtain ⟨_, ak, ck, hvk, hck1, hck2, h0k⟩ := hrk
  simp only [List.length_cons, List.length_nil, Nat.zero_add] at hvk hck1 h0k
  subst hvk
  rcases h0k with h0k | ⟨bk, ok, rfl, -, hcc⟩
  · omega
  have HCK := Lib.hid (hcc 0 (.string ⟨#[100, 47, 122]⟩) rfl)
  unfold maxLen at hck2
  have HB11 := Lib.hid hb11
  have HBB11 := Lib.hid (HBB5.out.below hb11)
  have HL11 := Lib.hid (HL5.out.below hb11)
  have HC11 := Lib.hid (HC5.out.below hb11)
  have HN11 := Lib.hid ((hb11.block _ (lt20 HN5.out)).trans HN5.out)
  clear him hg11 hk11 hb11 hm11 hcc HBB5 HL5 HC5 HN5
  go_wp2_with fail
  refine (text_any _ exDL _ w11 HL11.out (by intro c hc; simp only [exDL, List.mem_cons, List.not_mem_nil, or_false] at hc; rcases hc with rfl | rfl | rfl <;> exact ⟨by decide, by decide⟩) (by decide)).mono ?_
  rw [exD_text]
  rintro e w12 ⟨rfl, hb12⟩
  have HB12 := Lib.hid hb12
  clear hb12
  go_wp2_with fail
  refine (r_sameall_any _ _ exDB exDB _ _ w12 (HBB11.out.below HB12.out) (HC11.out.below HB12.out)).mono ?_
  rw [decide_eq_true rfl]
  rintro e w13 ⟨rfl, hb13⟩
  have HB13 := Lib.hid (below_next HB12.out hb13)
  clear hb13
  have HN13 := Lib.hid ((HB13.out.block _ (lt20 HN11.out)).trans HN11.out)
  have heq : (Op.equalIn 10000 43 (.agg #[.int .i64 1, .int .i64 1, .int .i64 0, .int .i64 1]) (.agg #[.int .i64 1, .int .i64 1, .int .i64 0, .int .i64 1])).run Tryz.prog w13 = .ok true w13 := by kernel_rfl
  have n0 := cell20 (k := 0) HN13.out
  have n1 := cell20 (k := 1) HN13.out
  have n2 := cell20 (k := 2) HN13.out
  have n3 := cell20 (k := 3) HN13.out
  have hltN := lt20 HN13.out
  simp only [List.getElem?_toArray, List.getElem?_cons_succ, List.getElem?_cons_zero] at n0 n1 n2 n3
  go_wp2_with fail
  refine (r_sameall_any _ _ exDB exDB _ _ w13 (HM11.out.below HB13.out) (HBB11.out.below HB13.out)).mono ?_
  rw [decide_eq_true rfl]
  rintro e w14 ⟨rfl, hb14⟩
  have HB14 := Lib.hid (below_next HB13.out hb14)
  have hck0 := (HB14.out.cell (block_lt HCK.out)).trans HCK.out
  have hltK := block_lt hck0
  simp only [Nat.add_zero] at hck0
  clear hb14 n0 n1 n2 n3 hltN
  go_wp2_with fail
  go_ret
  exact ⟨rfl, below_next (below_next HBW5.out HB11.out) HB14.out⟩

end Go.Proofs.YtdieneaillkbgaaGreatDoor

/- The statements' helpers: large, trees. -/
namespace Go.Proofs.YtdieneaillkbgaaGreatDoor
open Go Go.RowKit Go.Maps

def SmE (e : Ent) : Prop := e.path.size ≤ 600 ∧ e.data.length ≤ 100 ∧ e.link.size ≤ 600
def SmL (l : List Ent) : Prop := l.length ≤ 40 ∧ ∀ e ∈ l, SmE e
/-- A row of lists of entries. -/
abbrev VL := Value × List Ent
structure ListsAt (S : Nat → Prop) (w : World) (v : Value) (ls : List VL) : Prop where
  row : RowAt S w 1 v ls.length (ls.map Prod.fst)
  ent : ∀ x ∈ ls, EntsAt (fun _ => True) w x.1 x.2
theorem ListsAt.below {S : Nat → Prop} {w w' : World} {v : Value} {ls : List VL} (h : ListsAt S w v ls) (hb : Below w.heap.size w w') : ListsAt S w' v ls :=
  ⟨RowAt.below h.row (by omega) hb, fun x hx => (h.ent x hx).below hb⟩
theorem lists_at {S : Nat → Prop} {w : World} {a : Option Addr} {n c : Nat} {ls : List VL} (h : ListsAt S w (.slice a n c) ls) {k : Nat} {x : VL} (hx : ls[k]? = some x) : ∃ b o, a = some ⟨b, o, none⟩ ∧ w.cell? ⟨b, o + k, none⟩ = some x.1 ∧ EntsAt (fun _ => True) w x.1 x.2 := by
  obtain ⟨_, a', c', he, hn, _, h0⟩ := h.row
  simp only [Value.slice.injEq] at he
  obtain ⟨rfl, -, rfl⟩ := he
  have hlt := (List.getElem?_eq_some_iff.1 hx).1
  rcases h0 with h0 | ⟨b, o, rfl, -, hc⟩
  · omega
  · exact ⟨b, o, rfl, hc k x.1 (by rw [List.getElem?_map, hx]; rfl), h.ent x (List.mem_of_getElem? hx)⟩
theorem lists_shape {S : Nat → Prop} {w : World} {v : Value} {ls : List VL} (h : ListsAt S w v ls) : ∃ a c, v = .slice a ls.length c ∧ ls.length ≤ c ∧ c ≤ maxLen := by
  obtain ⟨_, a', c', he, hn, hm, _⟩ := h.row
  exact ⟨a', c', he, hn, hm⟩
def LgRes23 (ls : List VL) (w : World) (e : Ending) (w' : World) : Prop := ∃ b, e = .returned (.bool b) ∧ (b = false → ∀ x ∈ ls, SmL x.2) ∧ Below w.heap.size w w'
set_option maxRecDepth 100000 in
set_option maxHeartbeats 2000000 in
theorem large23_any (S : Nat → Prop) (ls : List VL) (v : Value) (w : World) (hv : ListsAt S w v ls) : Calls Tryz.prog 14 #[v] w (LgRes23 ls w) := by
  have HV := Lib.hid hv
  obtain ⟨a, cap, rfl, hc, hm⟩ := lists_shape hv
  unfold maxLen at hm
  obtain ⟨n, hn⟩ : ∃ n, n = ls.length := ⟨_, rfl⟩
  have HN := Lib.hid hn
  rw [← hn] at hc HV ⊢
  clear hv hn
  go_enter Tryz.func14, Tryz.ntmps14
  go_wp2_with fail
  go_loopw [9] (fun i wr => ∃ k : Nat, k ≤ n ∧ i = .int .i64 k ∧ (∀ x ∈ ls.take k, SmL x.2) ∧ Below w.heap.size w wr) (fun i _ => n - (intOf i).toNat)
  case atStart => exact ⟨0, Nat.zero_le _, rfl, by simp, Below.refl _ _⟩
  case round =>
    obtain ⟨k, hk, rfl, hsm, hbr⟩ := hrel
    have HSM := Lib.hid hsm
    have HBR0 := Lib.hid hbr
    clear hsm hbr
    by_cases hlt : k < n
    · obtain ⟨x, hx⟩ : ∃ x, ls[k]? = some x := ⟨ls[k]'(by rw [← HN.out]; exact hlt), by simp⟩
      obtain ⟨b, o, rfl, hcx, hex⟩ := lists_at (HV.out.below HBR0.out) hx
      have HXL := Lib.hid hx
      have HEX := Lib.hid hex
      obtain ⟨xv, L⟩ := x
      simp only at hcx hex HEX
      obtain ⟨ax, cx, rfl, hcx1, hcx2, -⟩ := SeqAt.shape hex EntR.len
      unfold maxLen at hcx2
      obtain ⟨m, hm2⟩ : ∃ m, m = L.length := ⟨_, rfl⟩
      have HM := Lib.hid hm2
      rw [← hm2] at hcx hcx1 HEX
      clear hx hex hm2
      go_wp2_with fail
      clear hcx
      obtain ⟨wo, rfl⟩ : ∃ wo : World, wo = wr := ⟨_, rfl⟩
      go_loopw [15] (fun i wr => ∃ j : Nat, j ≤ m ∧ i = .int .i64 j ∧ (∀ e ∈ L.take j, SmE e) ∧ Below wo.heap.size wo wr) (fun i _ => m - (intOf i).toNat)
      case atStart => exact ⟨0, Nat.zero_le _, rfl, by simp, Below.refl _ _⟩
      case round =>
        obtain ⟨j, hj, rfl, hse, hbj⟩ := hrel
        have HSE := Lib.hid hse
        have HBJ := Lib.hid hbj
        have HBR := Lib.hid (below_next HBR0.out hbj)
        clear hse hbj
        by_cases hjl : j < m
        · obtain ⟨e, he⟩ : ∃ e, L[j]? = some e := ⟨L[j]'(by rw [← HM.out]; exact hjl), by simp⟩
          obtain ⟨b1, o1, dv, rfl, -, hb, hd, hok, -, q0, q1, q2, q3, q4, q5⟩ := ents_at (HEX.out.below HBJ.out) he
          obtain ⟨a1, cap1, rfl, hd1, hd2⟩ := hd.slice
          unfold maxLen at hd2
          have hp1 := hok.pth
          have hl1 := hok.lnk
          unfold maxLen at hp1 hl1
          have HX := Lib.hid he
          clear he hd hok
          have HBA := Lib.hid ((Below.refl wr.heap.size wr).alloc (Nat.le_refl _) (.cells #[.string e.path, .int .i64 e.kind, .int .i64 e.mode, .int .i64 e.time, .slice a1 e.data.length cap1, .string e.link] 48))
          by_cases h1 : 600 < e.path.size
          · have h1' : decide (600 < e.path.size) = true := by simp [h1]
            go_wp2_with fail
            go_ret
            exact ⟨true, rfl, (fun h => by cases h), below_next HBR.out HBA.out⟩
          · have h1' : decide (600 < e.path.size) = false := by simp; omega
            by_cases h2 : 100 < e.data.length
            · have h2' : decide (100 < e.data.length) = true := by simp [h2]
              go_wp2_with fail
              go_ret
              exact ⟨true, rfl, (fun h => by cases h), below_next HBR.out HBA.out⟩
            · have h2' : decide (100 < e.data.length) = false := by simp; omega
              by_cases h3 : 600 < e.link.size
              · have h3' : decide (600 < e.link.size) = true := by simp [h3]
                go_wp2_with fail
                go_ret
                exact ⟨true, rfl, (fun h => by cases h), below_next HBR.out HBA.out⟩
              · have h3' : decide (600 < e.link.size) = false := by simp; omega
                have HSM1 := Lib.hid (show SmE e from ⟨by omega, by omega, by omega⟩)
                go_wp2_with fail
                go_roundw
                case rel =>
                  refine ⟨j + 1, by omega, by go_num, fun x hx => ?_, below_next HBJ.out HBA.out⟩
                  rw [List.take_add_one, HX.out] at hx
                  rcases List.mem_append.1 hx with hx | hx
                  · exact HSE.out x hx
                  · simp only [Option.toList_some, List.mem_singleton] at hx
                    rw [hx]; exact HSM1.out
                case measure => simp [intOf]; omega
        · have hj2 : m = j := by omega
          subst hj2
          by_cases h40 : 40 < m
          · go_wp2_with fail
            go_ret
            exact ⟨true, rfl, (fun h => by cases h), HBR.out⟩
          · have HSL := Lib.hid (show SmL L from ⟨by rw [← HM.out]; omega, fun e he => HSE.out e (by rw [HM.out, List.take_length]; exact he)⟩)
            go_wp2_with fail
            go_roundw
            case rel =>
              refine ⟨k + 1, by omega, by go_num, fun x hx => ?_, HBR.out⟩
              rw [List.take_add_one, HXL.out] at hx
              rcases List.mem_append.1 hx with hx | hx
              · exact HSM.out x hx
              · simp only [Option.toList_some, List.mem_singleton] at hx
                rw [hx]; exact HSL.out
            case measure => simp [intOf]; omega
    · have hk2 : n = k := by omega
      subst hk2
      go_wp2_with fail
      go_ret
      exact ⟨false, rfl, fun _ x hx => HSM.out x (by rw [HN.out, List.take_length]; exact hx), HBR0.out⟩
def TreesRes (ls : List VL) (w : World) (e : Ending) (w' : World) : Prop := ∃ b, e = .returned (.bool b) ∧ (b = true → ∀ x ∈ ls, SmL x.2 ∧ TOk x.2) ∧ Below w.heap.size w w'
set_option maxRecDepth 100000 in
set_option maxHeartbeats 2000000 in
theorem trees_any (S : Nat → Prop) (ls : List VL) (v : Value) (w : World) (hv : ListsAt S w v ls) (henv : Env w) : Calls Tryz.prog 29 #[v] w (TreesRes ls w) := by
  have HV := Lib.hid hv
  have HE := Lib.hid henv
  obtain ⟨a, cap, rfl, hc, hm⟩ := lists_shape hv
  unfold maxLen at hm
  obtain ⟨n, hn⟩ : ∃ n, n = ls.length := ⟨_, rfl⟩
  have HN := Lib.hid hn
  rw [← hn] at hc HV ⊢
  clear hv hn henv
  go_enter Tryz.func29, Tryz.ntmps29
  go_wp2_with fail
  go_loopw [7] (fun i wr => ∃ k : Nat, k ≤ n ∧ i = .int .i64 k ∧ (∀ x ∈ ls.take k, TOk x.2) ∧ Below w.heap.size w wr) (fun i _ => n - (intOf i).toNat)
  case atStart => exact ⟨0, Nat.zero_le _, rfl, by simp, Below.refl _ _⟩
  case round =>
    obtain ⟨k, hk, rfl, hsm, hbr⟩ := hrel
    have HSM := Lib.hid hsm
    have HBR := Lib.hid hbr
    clear hsm hbr
    by_cases hlt : k < n
    · obtain ⟨x, hx⟩ : ∃ x, ls[k]? = some x := ⟨ls[k]'(by rw [← HN.out]; exact hlt), by simp⟩
      obtain ⟨b, o, rfl, hcx, hex⟩ := lists_at (HV.out.below HBR.out) hx
      have HXL := Lib.hid hx
      have hck := check_any _ x.2 x.1 wr hex (HE.out.below HBR.out)
      obtain ⟨xv, L⟩ := x
      simp only at hcx hck
      obtain ⟨z, hz⟩ : ∃ z, z = checkP L := ⟨_, rfl⟩
      rw [← hz] at hck
      have HZ := Lib.hid hz
      clear hx hex hz
      by_cases hz0 : z = 0
      · subst hz0
        have HTL := Lib.hid (checkP_iff.1 HZ.out.symm)
        go_wp2_with fail
        refine hck.mono ?_
        rintro e w2 ⟨rfl, hb2⟩
        have HB2 := Lib.hid (below_next HBR.out hb2)
        clear hb2 hck hcx
        go_wp2_with fail
        go_roundw
        case rel =>
          refine ⟨k + 1, by omega, by go_num, fun x hx => ?_, HB2.out⟩
          rw [List.take_add_one, HXL.out] at hx
          rcases List.mem_append.1 hx with hx | hx
          · exact HSM.out x hx
          · simp only [Option.toList_some, List.mem_singleton] at hx
            rw [hx]; exact HTL.out
        case measure => simp [intOf]; omega
      · have e1 : (z != 0) = true := by simp [hz0]
        clear hz0
        go_wp2_with fail
        refine hck.mono ?_
        rintro e w2 ⟨rfl, hb2⟩
        have HB2 := Lib.hid (below_next HBR.out hb2)
        clear hb2 hck hcx
        go_wp2_with fail
        go_ret
        exact ⟨false, rfl, (fun h => by cases h), HB2.out⟩
    · have hk2 : n = k := by omega
      subst hk2
      go_wp2_with fail
      refine (large23_any S ls _ wr (HV.out.below HBR.out)).mono ?_
      rintro e w2 ⟨lb, rfl, hlg, hb2⟩
      have HLG := Lib.hid hlg
      have HB2 := Lib.hid (below_next HBR.out hb2)
      clear hlg hb2
      cases lb
      · go_wp2_with fail
        go_ret
        exact ⟨true, rfl, fun _ x hx => ⟨HLG.out (by simp) x hx, HSM.out x (by rw [HN.out, List.take_length]; exact hx)⟩, HB2.out⟩
      · go_wp2_with fail
        go_ret
        exact ⟨false, rfl, (fun h => by cases h), HB2.out⟩

end Go.Proofs.YtdieneaillkbgaaGreatDoor

/- The law TreediffRestores: its walk. -/
namespace Go.Proofs.YtdieneaillkbgaaGreatDoor
open Go Go.RowKit Go.Maps


theorem lists_new {w : World} {ls : List VL} {t : TypeId} (hn : ls.length ≤ 4096) (h : ∀ x ∈ ls, EntsAt (fun _ => True) w x.1 x.2) : ListsAt (fun _ => True) (w.alloc (.cells (ls.map Prod.fst).toArray t)) (.slice (some ⟨w.heap.size, 0, none⟩) ls.length ls.length) ls :=
  ⟨RowAt.weak (row_new (cells := ls.map Prod.fst) (new20 w _) (by simp) (by unfold maxLen; omega)) (fun _ _ => trivial), fun x hx => (h x hx).below ((Below.refl _ _).alloc (Nat.le_refl _) _)⟩
theorem diff_len {a b : List Ent} (ha : TOk a) : (diffP a b).length ≤ a.length + b.length := by
  rw [← (diff_perm ha).length_eq, List.length_append, List.length_map]
  have hd := dinv ha b
  have h1 := congrArg List.length hd.ens
  rw [List.length_map] at h1
  have h2 := List.length_filter_le (fun y : Ent => decide (findE a y.path ≠ some y)) b
  have h3 := hd.sub.length_le
  have h4 := List.length_filter_le (fun x : Ent => !keptE b x) a
  unfold goneE at h3
  omega
theorem diffQ_tok {a b : List Ent} (ha : TOk a) (hb : TOk b) : diffQ a b = (diffP a b, 0) := by
  unfold diffQ; rw [checkP_zero ha, checkP_zero hb]; rfl
theorem diff_flat (S T : Nat → Prop) (a b : List Ent) (va vb : Value) (w : World) (m : List Chg) (x : Int) (hr : diffQ a b = (m, x)) (ha : EntsAt S w va a) (hb : EntsAt T w vb b) (henv : Env w) :
    Calls Tryz.prog 15 #[va, vb] w fun e w' => ∃ a' c', e = .returned (.tuple #[.slice a' m.length c', .int .i64 x]) ∧ ChgsAt (fun _ => True) w' (.slice a' m.length c') m ∧ c' ≤ 9223372036854775807 ∧ Below w.heap.size w w' := by
  have := diff_any S T a b va vb w ha hb henv
  unfold ChgRes at this
  rw [hr] at this
  refine this.mono ?_
  rintro e w' ⟨v, ys, rfl, hy, hg, hb⟩
  simp only at hy ⊢
  obtain ⟨a', c', rfl, -, hm⟩ := owns_shape hg.row
  have hl : ys.length = m.length := by rw [← hy, List.length_map]
  have hs := hg.seq
  rw [hy, hl] at hs
  rw [hl]
  exact ⟨a', c', rfl, SeqAt.mono hs (by omega) (fun _ _ _ => trivial) (fun c x _ hr => by obtain ⟨v, r1, r2, r3⟩ := hr; exact ⟨v, r1, data_mono r2 (fun _ _ => trivial), r3⟩), by unfold maxLen at hm; omega, hb⟩
theorem apply_flat2 (S T : Nat → Prop) (a : List Ent) (cs : List Chg) (va vl : Value) (w : World) (m : List Ent) (x : Int) (hr : applyP a cs = (m, x)) (ha : EntsAt S w va a) (hl : ChgsAt T w vl cs) (hlen : a.length + cs.length ≤ 4096) (henv : Env w) :
    Calls Tryz.prog 30 #[va, vl] w fun e w' => ∃ a' c', e = .returned (.tuple #[.slice a' m.length c', .int .i64 x]) ∧ EntsAt (fun _ => True) w' (.slice a' m.length c') m ∧ c' ≤ 9223372036854775807 ∧ Below w.heap.size w w' := by
  refine (apply_flat S T a cs va vl w m x hr ha hl hlen henv).mono ?_
  rintro e w' ⟨v, ys, rfl, hy, hg, hb⟩
  obtain ⟨a', c', rfl, -, hm⟩ := owns_shape hg.row
  have hl : ys.length = m.length := by rw [← hy, List.length_map]
  have hs := hg.seq
  rw [hy, hl] at hs
  rw [hl]
  exact ⟨a', c', rfl, SeqAt.mono hs (by omega) (fun _ _ _ => trivial) (fun c x _ hr => by obtain ⟨v, r1, r2, r3⟩ := hr; exact ⟨v, r1, data_mono r2 (fun _ _ => trivial), r3⟩), by unfold maxLen at hm; omega, hb⟩
set_option maxRecDepth 100000 in
set_option maxHeartbeats 2000000 in
theorem restores_walk (a b : List Ent) (va vb : Value) (w : World) (ha : EntsAt (fun _ => True) w va a) (hb : EntsAt (fun _ => True) w vb b) (henv : Env w) :
    Calls Tryz.prog 6 #[va, vb] w fun e w' => e = .returned (.bool true) ∧ Below w.heap.size w w' := by
  obtain ⟨aa, ca, rfl, hca, hma, -⟩ := SeqAt.shape ha EntR.len
  obtain ⟨ab, cb, rfl, hcb, hmb, -⟩ := SeqAt.shape hb EntR.len
  unfold maxLen at hma hmb
  have HA := Lib.hid ha
  have HB := Lib.hid hb
  have HE := Lib.hid henv
  obtain ⟨na, hna⟩ : ∃ n, n = a.length := ⟨_, rfl⟩
  obtain ⟨nb, hnb⟩ : ∃ n, n = b.length := ⟨_, rfl⟩
  rw [← hna] at hca HA ⊢
  rw [← hnb] at hcb HB ⊢
  clear ha hb henv hna hnb
  go_enter Tryz.func6, Tryz.ntmps6
  go_wp2_with fail
  refine (awD_any w HE.out).mono ?_
  rintro e w1 ⟨rfl, hb1⟩
  have HB1 := Lib.hid hb1
  clear hb1
  go_wp2_with fail
  obtain ⟨w2, hw2⟩ : ∃ Z : World, Z = w1.alloc (.cells #[.slice aa na ca, .slice ab nb cb] 22) := ⟨_, rfl⟩
  have hb2 : Below w1.heap.size w1 w2 := by rw [hw2]; exact (Below.refl _ _).alloc (Nat.le_refl _) _
  have HLS := Lib.hid (show ListsAt (fun _ => True) w2 (.slice (some ⟨w1.heap.size, 0, none⟩) 2 2) [(.slice aa na ca, a), (.slice ab nb cb, b)] by
    rw [hw2]
    exact lists_new (ls := [(.slice aa na ca, a), (.slice ab nb cb, b)]) (by simp) (fun x hx => by
      simp only [List.mem_cons, List.not_mem_nil, or_false] at hx
      rcases hx with rfl | rfl
      · exact HA.out.below HB1.out
      · exact HB.out.below HB1.out))
  have HB2 := Lib.hid (below_next HB1.out hb2)
  rw [← hw2]
  clear hw2 hb2
  refine (trees_any _ _ _ w2 HLS.out (HE.out.below HB2.out)).mono ?_
  rintro e w3 ⟨tb, rfl, htr, hb3⟩
  have HTR := Lib.hid htr
  have HB3 := Lib.hid (below_next HB2.out hb3)
  clear htr hb3
  cases tb
  case false =>
    go_wp2_with fail
    go_ret
    exact ⟨rfl, HB3.out⟩
  have HTA := Lib.hid (HTR.out rfl _ (List.mem_cons_self ..)).2
  have HTB := Lib.hid (HTR.out rfl _ (List.mem_cons_of_mem _ (List.mem_cons_self ..))).2
  have HLA := Lib.hid (HTR.out rfl _ (List.mem_cons_self ..)).1
  have HLB := Lib.hid (HTR.out rfl _ (List.mem_cons_of_mem _ (List.mem_cons_self ..))).1
  clear HTR HLS
  obtain ⟨L, hL⟩ : ∃ L, L = diffP a b := ⟨_, rfl⟩
  have HL := Lib.hid hL
  have HDQ := Lib.hid (show diffQ a b = (L, 0) by rw [hL]; exact diffQ_tok HTA.out HTB.out)
  have HLN := Lib.hid (show a.length + L.length ≤ 4096 by
    have h1 := @diff_len a b HTA.out
    have h2 := HLA.out.1
    have h3 := HLB.out.1
    simp only at h2 h3
    rw [hL]; omega)
  have HAP := Lib.hid (show applyP a L = (b, 0) by rw [hL]; exact apply_diff HTA.out HTB.out (List.Perm.refl _))
  have HDA := Lib.hid (show diffQ a a = ([], 0) by rw [diffQ_tok HTA.out HTA.out, diff_self HTA.out])
  have HEM := Lib.hid (show L = [] ↔ a = b by rw [hL]; exact diff_empty HTA.out HTB.out)
  clear hL
  go_wp2_with fail
  refine (diff_flat _ _ a b _ _ w3 L 0 HDQ.out (HA.out.below HB3.out) (HB.out.below HB3.out) (HE.out.below HB3.out)).mono ?_
  rintro e w4 ⟨al, cl, rfl, hls, hcl, hb4⟩
  have HLS := Lib.hid hls
  have HB4 := Lib.hid (below_next HB3.out hb4)
  obtain ⟨nl, hnl⟩ : ∃ n, n = L.length := ⟨_, rfl⟩
  rw [← hnl] at HLS ⊢
  have HNL := Lib.hid hnl
  clear hls hb4 hnl
  go_wp2_with fail
  refine (apply_flat2 _ _ a L _ _ w4 b 0 HAP.out (HA.out.below HB4.out) HLS.out HLN.out (HE.out.below HB4.out)).mono ?_
  rintro e w5 ⟨ac, cc, rfl, hcs, hcc, hb5⟩
  have HCS := Lib.hid hcs
  have HB5 := Lib.hid (below_next HB4.out hb5)
  clear hcs hb5
  go_wp2_with fail
  refine (diff_flat _ _ a a _ _ w5 [] 0 HDA.out (HA.out.below HB5.out) (HA.out.below HB5.out) (HE.out.below HB5.out)).mono ?_
  rintro e w6 ⟨ad, cd, rfl, -, hcd, hb6⟩
  have HB6 := Lib.hid (below_next HB5.out hb6)
  have HCS6 := Lib.hid (HCS.out.below hb6)
  clear hb6
  simp only [List.length_nil]
  go_wp2_with fail
  refine (r_sameall_any _ _ b b _ _ w6 (HB.out.below HB6.out) HCS6.out).mono ?_
  rw [decide_eq_true rfl]
  rintro e w7 ⟨rfl, hb7⟩
  have HB7 := Lib.hid (below_next HB6.out hb7)
  clear hb7
  have hSA := r_sameall_any _ _ a b (.slice aa na ca) (.slice ab nb cb) w7 (HA.out.below HB7.out) (HB.out.below HB7.out)
  by_cases hab : a = b
  · rw [decide_eq_true hab] at hSA
    have hn0 : nl = 0 := by rw [HNL.out, HEM.out.2 hab]; rfl
    subst hn0
    clear hab
    go_wp2_with fail
    refine hSA.mono ?_
    rintro e w8 ⟨rfl, hb8⟩
    have HB8 := Lib.hid (below_next HB7.out hb8)
    clear hb8 hSA
    go_wp2_with fail
    go_ret
    exact ⟨rfl, HB8.out⟩
  · rw [decide_eq_false hab] at hSA
    have hn0 : nl ≠ 0 := fun h => hab (HEM.out.1 (List.eq_nil_of_length_eq_zero (by rw [← HNL.out, h])))
    have e1 : ((nl : Int) == 0) = false := by simp [hn0]
    clear hab hn0
    go_wp2_with fail
    refine hSA.mono ?_
    rintro e w8 ⟨rfl, hb8⟩
    have HB8 := Lib.hid (below_next HB7.out hb8)
    clear hb8 hSA
    go_wp2_with fail
    go_ret
    exact ⟨rfl, HB8.out⟩

end Go.Proofs.YtdieneaillkbgaaGreatDoor

/- What the laws share: from the form's words (shaped, laid) to the walks' premises, and back. -/
namespace Go.Proofs.YtdieneaillkbgaaGreatDoor
open Go.ChangeShapes Go.WideShapes Go.ChangeAt Go.RowKit Go.Lib Go.Shelf
open Go.ChangeMaps (open_string shut_string)

section
variable {H : Type} {enc : TypeId × Value → H}
/-- The wrap that hands on both the shape of the world and a further condition. -/
theorem handed {a : Assume} {C : Checked} {os : Os} {f : FuncId} {fn : Func} {s : ChangeSpec} {conds : List PathCond} {apart fresh handsOn again : Bool} {X : World → Array Value → Prop}
    (hX : ∀ (w w' : World) (args : Array Value), w.heap = w'.heap → X w args → X w' args)
    (own : ownKnob C.prog.godebug = none) (started : os.Started) (noInit : C.prog.inits.idxOf? f = none) (hfn : C.prog.funcs[f]? = some fn)
    (witness : ∃ (w : World) (tape : Tape) (i : Input), w.os = os ∧ (w.forCall tape i).Shaped C.prog ∧ i.vars = [] ∧ Input.okWide C.prog (w.forCall tape i) .any w.heap.size f i ∧
      ((s.pre enc C.prog fn conds apart (w.forCall tape i).memory i.args ∧ X (w.forCall tape i).memory i.args) ∧ sizedMet enc C.prog fn (OpenSpec.ofChange s) apart (w.forCall tape i).memory i.args) ∧ a.holds C.prog (lone (Frame.enter C.prog f i.args .normal) [] (w.forCall tape i)))
    (contract : ∀ (W : World) (base : Nat) (args : Array Value) (ds gs : List (DataW H)) (before : List MemPlace),
      (∀ (j : Nat) t v, fn.params[j]? = some t → args[j]? = some v → Value.okWide C.prog W .any base t v) →
      DataW.Whole enc C.prog fn.params.toList s.vars apart W args.toList ds gs before →
      (DataW.weightsEach C.prog (fn.params.toList ++ s.plain.varTypes C.prog) (ds ++ gs)).all (· ≤ reachBytes) = true → X W args → W.ShapedOpen C.prog →
      Calls C.prog f args W fun e W' => ∃ v, e = .returned v ∧ s.post enc C.prog fn apart fresh handsOn again W args v W') :
    ReturnsInHanded a C os f .any (fun w args => (s.pre enc C.prog fn conds apart w args ∧ X w args) ∧ sizedMet enc C.prog fn (OpenSpec.ofChange s) apart w args) (s.post enc C.prog fn apart fresh handsOn again) := by
  refine returnsInHanded_of_calls own started noInit witness ?_
  intro w tape i _ hsh _ hok hpre hholds
  obtain ⟨_, _, _, fn', hfn', _, _, _, _, hval⟩ := hok
  have e : fn' = fn := Option.some.inj (hfn'.symm.trans hfn)
  subst e
  obtain ⟨⟨⟨ds, gs, before, hw, hc⟩, hx⟩, hz⟩ := hpre
  have hw' := DataW.Whole.of_heap (w' := w.forCall tape i) (by rfl) hw
  refine (contract (w.forCall tape i) w.heap.size i.args ds gs before hval hw' (hz.weights hw) (hX _ _ _ (by rfl) hx) hsh).mono fun e W' ⟨v, he, hp⟩ => ?_
  subst he
  exact ChangeSpec.post_blind hp
end

def laidL : List (String × DataW Unit) := [("unicode/utf8.acceptRanges", Rows.laid_unicode_utf8_acceptRanges), ("unicode/utf8.first", Rows.laid_unicode_utf8_first)]
theorem own : ownKnob Tryz.prog.godebug = none := by kernel_rfl
theorem laidOut : laidOutB Tryz.prog = true := by kernel_rfl
theorem accept_eq : (Rows.laid_unicode_utf8_acceptRanges : DataW Unit) = acceptData := by kernel_rfl
theorem env_of {W : World} (hL : laidMetH Tryz.prog laidL W) (hsh : W.ShapedOpen Tryz.prog) : Env W := by
  rw [MakeChecks.laidMetH_plain _ _ _ (by kernel_rfl)] at hL
  refine ⟨?_, ?_⟩
  · exact cell_of_shapedOpen_int (zero := #[.int .i64 0]) (t := 3) hsh (of_decide_eq_true (by kernel_rfl)) (by kernel_rfl) rfl (by kernel_rfl) (by kernel_rfl) Tryz.underlying3
  · have h1 := Lib.laidMet.reads hL (.head _)
    have h2 := Lib.laidMet.reads hL (.tail _ (.head _))
    rw [accept_eq] at h1
    exact utf8Tabs_of_readsT (U8Types.of196 Tryz.laysValid) ⟨by kernel_rfl, by kernel_rfl, by kernel_rfl, by kernel_rfl, by kernel_rfl, by kernel_rfl, by kernel_rfl⟩ (Pinned.utf8First_eq ▸ h2) h1

end Go.Proofs.YtdieneaillkbgaaGreatDoor

/- Contracts of package filetree: Get. -/
namespace Go.Proofs.YtdieneaillkbgaaGreatDoor
open Go.RowKit Go.Maps

def GetRes (L : List Ent) (p : ByteArray) (w : World) (e : Ending) (w' : World) : Prop := Below w.heap.size w w' ∧ match findE L p with
  | none => e = .returned (.tuple #[.agg #[.string ⟨#[]⟩, .int .i64 0, .int .i64 0, .int .i64 0, .slice none 0 0, .string ⟨#[]⟩], .bool false])
  | some f => ∃ v, e = .returned (.tuple #[entV v f, .bool true]) ∧ w'.ownsRow w.heap.size 5 1 v f.data.length (f.data.map u8V)
end Go.Proofs.YtdieneaillkbgaaGreatDoor

/- Contracts of package filetree: Size. -/
namespace Go.Proofs.YtdieneaillkbgaaGreatDoor
open Go.RowKit Go.Maps

def cK (L : List Ent) (p : ByteArray) (k : Nat) : Cnt := cntL ((atP L p).take k)
theorem cK_step {L : List Ent} {p : ByteArray} {k : Nat} {e : Ent} (h : (atP L p)[k]? = some e) : cK L p (k + 1) = cntE (cK L p k) e := by
  unfold cK
  rw [List.take_add_one, h, ← cntL_snoc]; rfl
theorem cK_le {L : List Ent} (h : TOk L) (p : ByteArray) : ∀ k, k ≤ (atP L p).length → (cK L p k).files ≤ k ∧ (cK L p k).dirs ≤ k ∧ (cK L p k).links ≤ k ∧ (cK L p k).bytes ≤ k * 1048576
  | 0, _ => by simp [cK, cntL]
  | k + 1, hk => by
    obtain ⟨h1, h2, h3, h4⟩ := cK_le h p k (by omega)
    have he : (atP L p)[k]? = some (atP L p)[k] := by simp
    rw [cK_step he]
    have hv := h.val _ (atP_sub _ (List.getElem_mem (by omega : k < (atP L p).length)))
    have hd : (atP L p)[k].data.length ≤ 1048576 := by
      by_cases hk1 : (atP L p)[k].kind = 1
      · unfold vEnt vKind at hv
        simp only [Bool.and_eq_true] at hv
        have := hv.2
        rw [if_pos hk1] at this
        simp only [Bool.and_eq_true, decide_eq_true_eq] at this
        exact this.1
      · rw [data_file hv hk1]; omega
    unfold cntE
    refine ⟨?_, ?_, ?_, ?_⟩
    · show _ + _ ≤ _; split <;> omega
    · show _ + _ ≤ _; split <;> omega
    · show _ + _ ≤ _; split <;> omega
    · show _ + _ ≤ _; omega
end Go.Proofs.YtdieneaillkbgaaGreatDoor

/- Contracts of package filetree: Equal. -/
namespace Go.Proofs.YtdieneaillkbgaaGreatDoor
open Go.RowKit Go.Maps

theorem same_lists {L M : List Ent} (hL : TOk L) (hM : TOk M) (hl : L.length = M.length) (h : ∀ e ∈ L, findE M e.path = some e) : L = M := by
  refine sorted_perm_eq hL.ord hM.ord ?_
  have hs : ∀ e ∈ L, e ∈ M := fun e he => (findE_some (h e he)).1
  have key : ∀ (a b : List Ent), a.Nodup → (∀ x ∈ a, x ∈ b) → a.length = b.length → a.Perm b := by
    intro a
    induction a with
    | nil => intro b _ _ hl; rw [List.eq_nil_of_length_eq_zero hl.symm]
    | cons x a ih =>
      intro b hn hs hl
      rw [List.nodup_cons] at hn
      obtain ⟨u, t, rfl⟩ := List.append_of_mem (hs x (by simp))
      refine List.Perm.trans ?_ List.perm_middle.symm
      refine (ih (u ++ t) hn.2 (fun y hy => ?_) (by simp at hl ⊢; omega)).cons x
      rcases List.mem_append.1 (hs y (by simp [hy])) with h | h
      · simp [h]
      · rcases List.mem_cons.1 h with rfl | h
        · exact absurd hy hn.1
        · simp [h]
  exact key L M (nodup_ent hL.nodup) hs hl
def LoopQ (w : World) (M : List Ent) (mb r : Nat) (xs : List VEnt) (wr : World) : Prop :=
  ∃ vis : List VEnt, RngS Tryz.prog 9 wr mb r (xs.map pairOf) (vis.map pairOf) ∧ (∀ x ∈ vis, x ∈ xs) ∧ (vis.map (fun x => x.2.path)).Nodup ∧ (∀ x ∈ vis, findE M x.2.path = some x.2) ∧ Below w.heap.size w wr
theorem drewN_below (w : World) (n : Nat) : Below w.heap.size w (w.drewN n) := ⟨rfl, rfl, rfl, Nat.le_refl _, fun _ _ => rfl⟩
end Go.Proofs.YtdieneaillkbgaaGreatDoor

/- Contracts of package filetree: Clone. -/
namespace Go.Proofs.YtdieneaillkbgaaGreatDoor
open Go.RowKit Go.Maps


def newS (B r : Nat) (w : World) (k : Nat) : Prop := B ≤ k ∧ k < w.heap.size ∧ k ≠ r
theorem MapE.next {S : Nat → Prop} {w w' : World} {mb r : Nat} {xs : List VEnt} (h : MapE S w mb xs) (hr : ¬ S r) (hne : mb ≠ r) (hg : w.grownBy w' (some r)) : MapE S w' mb xs :=
  ⟨h.map.same (hg.block mb h.map.lt (fun e => hne (Option.some.inj e))), fun x hx => ⟨data_grown (h.dat x hx).1 hr hg, (h.dat x hx).2⟩, h.far⟩
def LoopC (w : World) (mb r : Nat) (xs : List VEnt) (wr : World) : Prop :=
  ∃ vis ys : List VEnt, RngS Tryz.prog 9 wr mb r (xs.map pairOf) (vis.map pairOf) ∧ (∀ x ∈ vis, x ∈ xs) ∧ (vis.map (fun x => x.2.path)).Nodup ∧ ys.map Prod.snd = vis.map Prod.snd ∧ MapE (newS (w.heap.size + 2) r wr) wr w.heap.size ys ∧
    wr.cell? ⟨w.heap.size + 1, 0, none⟩ = some (.map (some w.heap.size)) ∧ Below w.heap.size w wr ∧ w.heap.size + 2 ≤ wr.heap.size
end Go.Proofs.YtdieneaillkbgaaGreatDoor

/- The example of chapter 20: awake returns true. -/
namespace Go.Proofs.YtdieneaillkbgaaGreatDoor
open Go Go.RowKit Go.Maps

theorem len_gather {B : Nat} {w : World} {v : Value} {M : List Ent} (h : Gathered B w v M) : ∃ a c, v = .slice a M.length c ∧ M.length ≤ c ∧ c ≤ maxLen := by
  obtain ⟨ys, rfl, h2, _⟩ := h
  obtain ⟨a, c, rfl, h3, h4⟩ := owns_shape h2
  exact ⟨a, c, by rw [List.length_map], by rw [List.length_map]; exact h3, h4⟩
end Go.Proofs.YtdieneaillkbgaaGreatDoor

/- Operations: plain, in memory; do and play. -/
namespace Go.Proofs.YtdieneaillkbgaaGreatDoor
open Go Go.RowKit Go.Maps

structure POp where
  kind : Int
  en : Ent
  src : ByteArray
  dst : ByteArray
  below : Bool
def doP (L : List Ent) (x : POp) : List Ent × Int :=
  if x.kind = 1 then putP L x.en
  else if x.kind = 2 then removeP L x.src x.below
  else if x.kind = 3 then moveP L x.src x.dst
  else (L, 0)
def playP (L : List Ent) (l : List POp) : List Ent := l.foldl (fun L x => (doP L x).1) L
theorem playP_snoc (L : List Ent) (l : List POp) (x : POp) : playP L (l ++ [x]) = (doP (playP L l) x).1 := by simp [playP]
structure OpOk (x : POp) : Prop where
  en : EntOk x.en
  src : x.src.size ≤ maxLen
  dst : x.dst.size ≤ maxLen
  knd : (Lit.int .i64 x.kind).wf = true
def opC (v : Value) (x : POp) : List Value := [.int .i64 x.kind, .string x.en.path, .int .i64 x.en.kind, .int .i64 x.en.mode, .int .i64 x.en.time, v, .string x.en.link, .string x.src, .string x.dst, .bool x.below]
def opV (v : Value) (x : POp) : Value := .agg #[.int .i64 x.kind, .string x.en.path, .int .i64 x.en.kind, .int .i64 x.en.mode, .int .i64 x.en.time, v, .string x.en.link, .string x.src, .string x.dst, .bool x.below]
def OpR (S : Nat → Prop) (w : World) (c : List Value) (x : POp) : Prop := ∃ v, c = opC v x ∧ DataAt S w v x.en.data ∧ OpOk x
theorem OpR.len {S : Nat → Prop} {w : World} (c : List Value) (x : POp) (h : OpR S w c x) : c.length = 10 := by obtain ⟨v, rfl, _⟩ := h; rfl
theorem OpR.below {S : Nat → Prop} {w w' : World} {c : List Value} {x : POp} (h : OpR S w c x) (hb : Below w.heap.size w w') : OpR S w' c x := by
  obtain ⟨v, h1, h2, h3⟩ := h
  exact ⟨v, h1, h2.below hb, h3⟩
def OpsAt (S : Nat → Prop) (w : World) (v : Value) (l : List POp) : Prop := SeqAt S w 10 (OpR S w) v l
theorem OpsAt.below {S : Nat → Prop} {w w' : World} {v : Value} {l : List POp} (h : OpsAt S w v l) (hb : Below w.heap.size w w') : OpsAt S w' v l :=
  SeqAt.below h (by omega) hb (fun _ _ _ hr => hr.below hb)
/-- The ten cells of an operation in a row. -/
theorem ops_at {S : Nat → Prop} {w : World} {a : Option Addr} {n cap : Nat} {l : List POp} (hv : OpsAt S w (.slice a n cap) l) {k : Nat} {x : POp} (hr : l[k]? = some x) :
    ∃ b o v, a = some ⟨b, o, none⟩ ∧ b < w.heap.size ∧ DataAt S w v x.en.data ∧ OpOk x ∧ ∀ j, j < 10 → w.cell? ⟨b, o + k * 10 + j, none⟩ = (opC v x)[j]? := by
  obtain ⟨a', cap', he, hn, hm, hat⟩ := SeqAt.shape hv OpR.len
  simp only [Value.slice.injEq] at he
  obtain ⟨rfl, rfl, rfl⟩ := he
  obtain ⟨b, o, c, ha, hb, ⟨v, hc, hd, hok⟩, hl, hj⟩ := hat k x hr
  subst hc
  have hc0 := hj 0 (by omega)
  exact ⟨b, o, v, ha, block_lt (hc0.trans rfl), hd, hok, fun j hjl => by have h := hj j hjl; rwa [← Nat.add_assoc] at h⟩
end Go.Proofs.YtdieneaillkbgaaGreatDoor

/- The statements' helpers: play, large, wide. -/
namespace Go.Proofs.YtdieneaillkbgaaGreatDoor
open Go Go.RowKit Go.Maps

/-- A tree of new memory alone, made from block B on. -/
def TreeB (B : Nat) (w : World) (L : List Ent) : Prop := TreeAt (newF (B + 2) w) w (B + 1) B L
theorem TreeB.below {B : Nat} {w w' : World} {L : List Ent} (h : TreeB B w L) (hb : Below w.heap.size w w') : TreeB B w' L := by
  have h1 := block_lt h.cell
  simp only at h1
  exact TreeAt.mono (TreeAt.below h hb) (fun k hk => ⟨hk.1, Nat.lt_of_lt_of_le hk.2 hb.size⟩) (fun hc => by have := hc.1; omega) (fun hc => by have := hc.1; omega) (fun k hk => hk.2)
theorem TreeB.res {B : Nat} {w w' : World} {L : List Ent} {r : List Ent × Int} {e : Ending} (h : TreeB B w L) (hr : OpRes (newF (B + 2) w) (B + 1) B r w e w') : e = .returned (.int .i64 r.2) ∧ TreeB B w' r.1 ∧ w.grownBy w' (some B) := by
  have h1 := block_lt h.cell
  simp only at h1
  obtain ⟨h2, h3, h4⟩ := hr
  refine ⟨h2, h3.mono (fun k hk => ?_) (fun hc => by have := hc.1; omega) (fun hc => by have := hc.1; omega) (fun k hk => hk.2), h4⟩
  rcases hk with hk | hk
  · exact ⟨hk.1, Nat.lt_of_lt_of_le hk.2 h4.size⟩
  · exact ⟨by omega, hk.2⟩
end Go.Proofs.YtdieneaillkbgaaGreatDoor

/- The statements' helpers: large, wide. -/
namespace Go.Proofs.YtdieneaillkbgaaGreatDoor
open Go Go.RowKit Go.Maps

def SmallE (e : Ent) : Prop := e.path.size ≤ 600 ∧ e.data.length ≤ 100 ∧ e.link.size ≤ 600
def LargeRes (l : List Ent) (most : Int) (w : World) (e : Ending) (w' : World) : Prop := ∃ b, e = .returned (.bool b) ∧ (b = false → (l.length : Int) ≤ most ∧ ∀ x ∈ l, SmallE x) ∧ Below w.heap.size w w'
def SmallOp (x : POp) : Prop := x.src.size ≤ 600 ∧ x.dst.size ≤ 600 ∧ SmallE x.en
def WideRes (l : List POp) (w : World) (e : Ending) (w' : World) : Prop := ∃ b, e = .returned (.bool b) ∧ (b = false → l.length ≤ 30 ∧ ∀ x ∈ l, SmallOp x) ∧ Below w.heap.size w w'
theorem ent_row {S : Nat → Prop} {w : World} {a : Option Addr} {c : Nat} {e : Ent} (hd : DataAt S w (.slice a e.data.length c) e.data) (hok : EntOk e) : EntsAt (fun _ => True) (w.alloc (.cells #[.string e.path, .int .i64 e.kind, .int .i64 e.mode, .int .i64 e.time, .slice a e.data.length c, .string e.link] 48)) (.slice (some ⟨w.heap.size, 0, none⟩) 1 1) [e] := by
  refine ⟨entC (.slice a e.data.length c) e, RowAt.weak (row_new (cells := entC (.slice a e.data.length c) e) (new20 w _) rfl (by decide)) (fun _ _ => trivial), ⟨entC (.slice a e.data.length c) e, [], by simp, ⟨.slice a e.data.length c, rfl, ?_, hok⟩, rfl⟩⟩
  exact data_mono (hd.below ((Below.refl _ _).alloc (Nat.le_refl _) _)) (fun _ _ => trivial)
end Go.Proofs.YtdieneaillkbgaaGreatDoor

/- From the form's reading of slices and structs to the rows of the walks. -/
namespace Go.Proofs.YtdieneaillkbgaaGreatDoor
open Go.ChangeShapes Go.WideShapes Go.ChangeAt Go.RowKit Go.Lib Go.Shelf

section
variable {H : Type} {enc : TypeId × Value → H} {P : Program} {W : World} {base : Nat}
theorem add_add (a : Addr) (i j : Nat) : (a.add i).add j = a.add (i + j) := by
  unfold Addr.add
  by_cases hi : i = 0
  · simp [hi]
  · by_cases hj : j = 0
    · simp [hi, hj]
    · simp [hi, hj]; omega
/-- A slice as it is read, its elements' cells read by R. -/
theorem seq_read {α : Type} {R : List Value → α → Prop} {t e : TypeId} {sz : Nat} {spare : Nat → Bool} {held : Bool} {fuel : Nat} {cs0 : List Value} {y0 : DataW H × List MemPlace} (ht : P.underlying t = some (.slice e)) (hc : P.cellsOf e = sz) (hpos : 0 < sz)
    (hR : ∀ n cs y, DataW.trod enc P W base spare held n e cs = some y → ∃ x, R cs x) (hs : ∀ c x, R c x → c.length = sz)
    (hf : DataW.trod enc P W base spare held fuel t cs0 = some y0) : ∃ v, cs0 = [v] ∧ ∃ xs : List α, SeqAt (fun _ => True) W sz R v xs := by
  rcases DataW.trod_slice ht hf with ⟨hcs, _⟩ | ⟨a, len0, cap0, elems, rest, n, _, hcs, _, hb, hl, hm, hlen, hel, _, _⟩
  · exact ⟨_, hcs, [], SeqAt.nil⟩
  · refine ⟨_, hcs, ?_⟩
    rw [hc] at hel
    have each : ∀ i, i < len0 → ∃ cs x, R cs x ∧ cs.length = sz ∧ ∀ j, j < sz → W.cell? (a.add (i * sz + j)) = cs[j]? := by
      intro i hi
      have h1 := hel i hi
      rw [List.getElem?_eq_getElem (by omega), Option.bind_eq_some_iff] at h1
      obtain ⟨cs, hcs, hy⟩ := h1
      obtain ⟨x, hx⟩ := hR n cs _ hy
      refine ⟨cs, x, hx, hs cs x hx, fun j hj => ?_⟩
      have h3 := World.cells?_some hcs
      rw [← add_add]
      exact h3.2.2 j hj
    have main : ∀ m, m ≤ len0 → ∃ (cells : List Value) (xs : List α), xs.length = m ∧ cells.length = m * sz ∧ RowsIn R cells xs ∧ ∀ (j : Nat) u, cells[j]? = some u → W.cell? (a.add j) = some u := by
      intro m
      induction m with
      | zero => intro _; exact ⟨[], [], rfl, by simp, rfl, fun j u hj => by simp at hj⟩
      | succ m ih =>
        intro hm
        obtain ⟨cells, xs, h1, h2, h3, h4⟩ := ih (by omega)
        obtain ⟨cs, x, hx, hcl, hcc⟩ := each m (by omega)
        refine ⟨cells ++ cs, xs ++ [x], by simp [h1], by rw [List.length_append, h2, hcl, Nat.add_mul]; omega, RowsIn.snoc h3 hx, fun j u hj => ?_⟩
        rcases Nat.lt_or_ge j cells.length with hj2 | hj2
        · rw [List.getElem?_append_left hj2] at hj; exact h4 j u hj
        · rw [List.getElem?_append_right hj2] at hj
          have hlt := (List.getElem?_eq_some_iff.1 hj).1
          have := hcc (j - cells.length) (by omega)
          rw [h2, show m * sz + (j - m * sz) = j by omega] at this
          rw [this, ← h2]; exact hj
    obtain ⟨cells, xs, h1, h2, h3, h4⟩ := main len0 (Nat.le_refl _)
    subst h1
    refine ⟨xs, cells, ⟨h2, some a, cap0, rfl, hl, hm, ?_⟩, h3⟩
    rcases Nat.eq_zero_or_pos xs.length with h0 | h0
    · exact .inl h0
    · right
      have hpl : 0 < cells.length := by rw [h2]; exact Nat.mul_pos h0 hpos
      have hc0 := h4 0 cells[0] (by simp [hpl])
      have hsp : a.spot = none := by simpa [Addr.add] using World.cell?_spot hc0
      obtain ⟨b, o, sp⟩ := a
      simp only at hsp
      subst hsp
      refine ⟨b, o, rfl, trivial, fun j u hj => ?_⟩
      have := h4 j u hj
      rw [add_lit] at this; exact this
/-- A slice that came in: its elements' cells, read by R. -/
theorem open_seq {α : Type} {R : List Value → α → Prop} {t e : TypeId} {sz b0 : Nat} {spare : Nat → Bool} {held : Bool} {v : Value} {d : DataW H} {ps : List MemPlace} (ht : P.underlying t = some (.slice e)) (hc : P.cellsOf e = sz) (hpos : 0 < sz)
    (hR : ∀ n cs y, DataW.trod enc P W base spare held n e cs = some y → ∃ x, R cs x) (hs : ∀ c x, R c x → c.length = sz)
    (hval : Value.okWide P W .any b0 t v) (h : DataW.Trod enc P W base spare held t v d ps) : ∃ xs : List α, SeqAt (fun _ => True) W sz R v xs := by
  obtain ⟨a0, len0, cap0, rfl⟩ := okWide_slice ht hval
  obtain ⟨fuel, hf⟩ := h
  obtain ⟨v, h1, h2⟩ := seq_read ht hc hpos hR hs hf
  simp [Value.cells] at h1
  subst h1
  exact h2
end

section
variable {H : Type} {enc : TypeId × Value → H} {W : World} {base b0 : Nat} {spare : Nat → Bool} {held : Bool} {v : Value} {d : DataW H} {ps : List MemPlace}
theorem field_read {P : Program} {t : TypeId} {fs : Array Field} {fuel : Nat} {cs : List Value} {x : DataW H × List MemPlace} (ht : P.underlying t = some (.struct fs)) (h : DataW.trod enc P W base spare held fuel t cs = some x) (i : Nat) {f : Field} (hf : fs[i]? = some f) :
    ∃ n y, DataW.trod enc P W base spare held n f.type ((cs.drop f.offset).take (P.cellsOf f.type)) = some y := by
  obtain ⟨xs, n, _, _, _, hlen, hF⟩ := DataW.trod_struct ht h
  have hi : i < xs.length := by rw [hlen]; exact (Array.getElem?_eq_some_iff.1 hf).1
  exact ⟨n, xs[i], by rw [hF i f hf]; simp [hi]⟩
theorem struct_len {P : Program} {t : TypeId} {fs : Array Field} {fuel : Nat} {cs : List Value} {x : DataW H × List MemPlace} (ht : P.underlying t = some (.struct fs)) (h : DataW.trod enc P W base spare held fuel t cs = some x) : cs.length = P.cellsOf t := by
  obtain ⟨xs, n, _, _, hl, _, _⟩ := DataW.trod_struct ht h
  exact hl
theorem cellsStr : Tryz.prog.cellsOf 9 = 1 := by kernel_rfl
theorem cellsInt : Tryz.prog.cellsOf 3 = 1 := by kernel_rfl
theorem cellsBool : Tryz.prog.cellsOf 4 = 1 := by kernel_rfl
theorem cellsU8 : Tryz.prog.cellsOf 5 = 1 := by kernel_rfl
theorem cellsData : Tryz.prog.cellsOf 46 = 1 := by kernel_rfl
theorem cellsEnt : Tryz.prog.cellsOf 48 = 6 := by kernel_rfl
theorem list6 {α : Type} {cs : List α} (h : cs.length = 6) : ∃ c0 c1 c2 c3 c4 c5, cs = [c0, c1, c2, c3, c4, c5] := by
  match cs, h with
  | [c0, c1, c2, c3, c4, c5], _ => exact ⟨c0, c1, c2, c3, c4, c5, rfl⟩
theorem list10 {α : Type} {cs : List α} (h : cs.length = 10) : ∃ c0 c1 c2 c3 c4 c5 c6 c7 c8 c9, cs = [c0, c1, c2, c3, c4, c5, c6, c7, c8, c9] := by
  match cs, h with
  | [c0, c1, c2, c3, c4, c5, c6, c7, c8, c9], _ => exact ⟨c0, c1, c2, c3, c4, c5, c6, c7, c8, c9, rfl⟩
def ByteR (c : List Value) (b : UInt8) : Prop := c = [u8V b]
theorem read_byte {n : Nat} {cs : List Value} {y : DataW H × List MemPlace} (h : DataW.trod enc Tryz.prog W base spare held n 5 cs = some y) : ∃ b, ByteR cs b := by
  obtain ⟨a, e, _, hw⟩ := DataW.trod_int Tryz.underlying5 h
  have h1 : 0 ≤ a ∧ a ≤ 255 := by
    simp only [Lit.wf, Bool.and_eq_true, decide_eq_true_eq] at hw
    exact ⟨hw.1, hw.2⟩
  refine ⟨UInt8.ofNat a.toNat, ?_⟩
  unfold ByteR u8V
  rw [e, UInt8.toNat_ofNat_of_lt' (by show a.toNat < 256; omega), Int.toNat_of_nonneg h1.1]
theorem bytes_of_seq {S : Nat → Prop} {w : World} {v : Value} {bs : List UInt8} (h : SeqAt S w 1 ByteR v bs) : DataAt S w v bs := by
  obtain ⟨cells, h1, h2⟩ := h
  have : ∀ (bs : List UInt8) (cells : List Value), RowsIn ByteR cells bs → cells = bs.map u8V := by
    intro bs
    induction bs with
    | nil => intro cells h; exact h
    | cons x bs ih =>
      rintro cells ⟨c, rest, rfl, hc, hr⟩
      rw [ih rest hr, show c = [u8V x] from hc]; rfl
  rw [this bs cells h2] at h1
  exact h1
set_option maxRecDepth 100000 in
theorem read_data {n : Nat} {cs : List Value} {y : DataW H × List MemPlace} (h : DataW.trod enc Tryz.prog W base spare held n 46 cs = some y) : ∃ v, cs = [v] ∧ ∃ bs, DataAt (fun _ => True) W v bs := by
  obtain ⟨v, h1, bs, h2⟩ := seq_read (R := ByteR) Tryz.underlying46 cellsU8 (by omega) (fun n cs y hy => read_byte hy) (fun c x hc => by rw [show c = [u8V x] from hc]; rfl) h
  exact ⟨v, h1, bs, bytes_of_seq h2⟩
set_option maxRecDepth 100000 in
theorem read_ent {n : Nat} {cs : List Value} {y : DataW H × List MemPlace} (h : DataW.trod enc Tryz.prog W base spare held n 48 cs = some y) : ∃ e, EntR (fun _ => True) W cs e := by
  have hl := struct_len Tryz.underlying48 h
  rw [cellsEnt] at hl
  obtain ⟨c0, c1, c2, c3, c4, c5, rfl⟩ := list6 hl
  obtain ⟨n0, y0, h0⟩ := field_read Tryz.underlying48 h 0 rfl
  obtain ⟨n1, y1, h1⟩ := field_read Tryz.underlying48 h 1 rfl
  obtain ⟨n2, y2, h2⟩ := field_read Tryz.underlying48 h 2 rfl
  obtain ⟨n3, y3, h3⟩ := field_read Tryz.underlying48 h 3 rfl
  obtain ⟨n4, y4, h4⟩ := field_read Tryz.underlying48 h 4 rfl
  obtain ⟨n5, y5, h5⟩ := field_read Tryz.underlying48 h 5 rfl
  simp only [List.getElem_toArray, List.getElem_cons_zero, List.getElem_cons_succ, cellsStr, cellsInt, cellsData] at h0 h1 h2 h3 h4 h5
  obtain ⟨a0, e0, _, g0⟩ := DataW.trod_string Tryz.underlying9 h0
  obtain ⟨a1, e1, _, g1⟩ := DataW.trod_int Tryz.underlying3 h1
  obtain ⟨a2, e2, _, g2⟩ := DataW.trod_int Tryz.underlying3 h2
  obtain ⟨a3, e3, _, g3⟩ := DataW.trod_int Tryz.underlying3 h3
  obtain ⟨a4, e4, bs, g4⟩ := read_data h4
  obtain ⟨a5, e5, _, g5⟩ := DataW.trod_string Tryz.underlying9 h5
  simp at e0 e1 e2 e3 e4 e5
  subst e0 e1 e2 e3 e4 e5
  exact ⟨⟨a0, a1, a2, a3, bs, a5⟩, _, rfl, g4, ⟨g0, g5, g1, g2, g3⟩⟩
set_option maxRecDepth 100000 in
theorem open_ents (hval : Value.okWide Tryz.prog W .any b0 22 v) (h : DataW.Trod enc Tryz.prog W base spare held 22 v d ps) : ∃ xs, EntsAt (fun _ => True) W v xs :=
  @open_seq H enc Tryz.prog W base Ent (EntR (fun _ => True) W) 22 48 6 b0 spare held v d ps Tryz.underlying22 cellsEnt (by omega) (fun n cs y hy => read_ent hy) EntR.len hval h
theorem agg_of {v : Value} {l : List Value} (h : v.cells.toList = l) (hl : 1 < l.length) : v = .agg l.toArray := by
  cases v
  case agg cs => simp only [Value.cells] at h; rw [← h]
  all_goals (exfalso; simp only [Value.cells] at h; rw [← h] at hl; simp at hl)
theorem open_ent (h : DataW.Trod enc Tryz.prog W base spare held 48 v d ps) : ∃ dv e, v = entV dv e ∧ DataAt (fun _ => True) W dv e.data ∧ EntOk e := by
  obtain ⟨fuel, hf⟩ := h
  obtain ⟨e, dv, h1, h2, h3⟩ := read_ent hf
  exact ⟨dv, e, agg_of h1 (by simp), h2, h3⟩
end

end Go.Proofs.YtdieneaillkbgaaGreatDoor

/- From the form's reading of changes to the rows of the walks. -/
namespace Go.Proofs.YtdieneaillkbgaaGreatDoor
open Go.ChangeShapes Go.WideShapes Go.ChangeAt Go.RowKit Go.Lib Go.Shelf

section
variable {H : Type} {enc : TypeId × Value → H} {W : World} {base b0 : Nat} {spare : Nat → Bool} {held : Bool} {v : Value} {d : DataW H} {ps : List MemPlace}
theorem cellsChg : Tryz.prog.cellsOf 50 = 9 := by kernel_rfl
theorem list9 {α : Type} {cs : List α} (h : cs.length = 9) : ∃ c0 c1 c2 c3 c4 c5 c6 c7 c8, cs = [c0, c1, c2, c3, c4, c5, c6, c7, c8] := by
  match cs, h with
  | [c0, c1, c2, c3, c4, c5, c6, c7, c8], _ => exact ⟨c0, c1, c2, c3, c4, c5, c6, c7, c8, rfl⟩
set_option maxRecDepth 100000 in
theorem read_chg {n : Nat} {cs : List Value} {y : DataW H × List MemPlace} (h : DataW.trod enc Tryz.prog W base spare held n 50 cs = some y) : ∃ x, ChgR (fun _ => True) W cs x := by
  have hl := struct_len Tryz.underlying50 h
  rw [cellsChg] at hl
  obtain ⟨c0, c1, c2, c3, c4, c5, c6, c7, c8, rfl⟩ := list9 hl
  obtain ⟨n0, y0, h0⟩ := field_read Tryz.underlying50 h 0 rfl
  obtain ⟨n1, y1, h1⟩ := field_read Tryz.underlying50 h 1 rfl
  obtain ⟨n2, y2, h2⟩ := field_read Tryz.underlying50 h 2 rfl
  obtain ⟨n3, y3, h3⟩ := field_read Tryz.underlying50 h 3 rfl
  simp only [List.getElem_toArray, List.getElem_cons_zero, List.getElem_cons_succ, cellsStr, cellsInt, cellsEnt] at h0 h1 h2 h3
  obtain ⟨a0, e0, _, g0⟩ := DataW.trod_int Tryz.underlying3 h0
  obtain ⟨a1, e1, _, g1⟩ := DataW.trod_string Tryz.underlying9 h1
  obtain ⟨a2, e2, _, g2⟩ := DataW.trod_string Tryz.underlying9 h2
  obtain ⟨x3, v3, e3, g3, g3'⟩ := read_ent h3
  simp [entC] at e0 e1 e2 e3
  obtain ⟨b0, b1, b2, b3, b4, b5⟩ := e3
  subst e0 e1 e2 b0 b1 b2 b3 b4 b5
  exact ⟨⟨a0, a1, a2, x3⟩, _, rfl, g3, ⟨g0, g1, g2, g3'⟩⟩
set_option maxRecDepth 100000 in
theorem open_chgs (hval : Value.okWide Tryz.prog W .any b0 31 v) (h : DataW.Trod enc Tryz.prog W base spare held 31 v d ps) : ∃ xs, ChgsAt (fun _ => True) W v xs :=
  @open_seq H enc Tryz.prog W base Chg (ChgR (fun _ => True) W) 31 50 9 b0 spare held v d ps Tryz.underlying31 cellsChg (by omega) (fun n cs y hy => read_chg hy) ChgR.len hval h
end

end Go.Proofs.YtdieneaillkbgaaGreatDoor
