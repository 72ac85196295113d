/- Texts of this proof, one after the other: RNum, EncB, EncC, Read, ReadB, Rdr, RdrB, RdrC, RItemP, RItems, RNode. -/
import Derived.Test.YtndgmcggckpgfaaGreatDoorMC
import Derived.Lib.AppendStr
/- Contract of the reference's number (reading). -/
namespace Go.Proofs.YtndgmcggckpgfaaGreatDoor
open Go.RowKit


theorem bytes_at {S : Nat → Prop} {w w' : World} {a : Option Addr} {n cap : Nat} {l : List UInt8} (hv : BytesAt S w (.slice a n cap) l) (hb : Below w.heap.size w w') {k : Nat} {x : UInt8} (hx : l[k]? = some x) : ∃ b o, a = some ⟨b, o, none⟩ ∧ w'.cell? ⟨b, o + k, none⟩ = some (.int .u8 (x.toNat : Int)) := by
  obtain ⟨hl, a', cap', hv', _, _, h0⟩ := hv
  cases hv'
  rcases h0 with h0 | ⟨b, o, rfl, _, hc⟩
  · simp [List.eq_nil_of_length_eq_zero h0] at hx
  · have h1 := hc k (byteV x) (by simp [hx])
    exact ⟨b, o, rfl, (hb.cell (block_lt h1)).trans h1⟩
theorem valR_lt (l : List UInt8) : valR l < 18446744073709551616 := Nat.mod_lt _ (by decide)
def NumRes (r : Except Int (Nat × Nat)) : Value := match r with
  | .ok (n, o) => .tuple #[.int .u64 (n : Int), .int .i64 (o : Int), .bool true]
  | .error _ => .tuple #[.int .u64 0, .int .i64 0, .bool false]
theorem numR_bad {data : List UInt8} {off f k : Nat} {b : UInt8} (h : data[off + k]? = some b) (h1 : ¬ 128 ≤ b.toNat) (h2 : encNum (valR ((data.drop off).take (k + 1))) ≠ (data.drop off).take (k + 1)) : numR data off (f + 1) k = .error 3 := by
  rw [numR, h]; simp only [if_neg h1, if_neg h2]
theorem numR_ok {data : List UInt8} {off f k : Nat} {b : UInt8} (h : data[off + k]? = some b) (h1 : ¬ 128 ≤ b.toNat) (h2 : encNum (valR ((data.drop off).take (k + 1))) = (data.drop off).take (k + 1)) : numR data off (f + 1) k = .ok (valR ((data.drop off).take (k + 1)), off + (k + 1)) := by
  rw [numR, h]; simp only [if_neg h1, if_pos h2]; rfl
theorem numR_more {data : List UInt8} {off f k : Nat} {b : UInt8} (h : data[off + k]? = some b) (h1 : 128 ≤ b.toNat) : numR data off (f + 1) k = numR data off f (k + 1) := by
  rw [numR, h]; simp only [if_pos h1]
theorem numR_end {data : List UInt8} {off f k : Nat} (h : data.length ≤ off + k) : numR data off f k = .error 3 := by
  cases f with
  | zero => rfl
  | succ f => rw [numR, List.getElem?_eq_none h]
theorem drop_cons' {α : Type} {l : List α} {j : Nat} {b : α} (h : l[j]? = some b) : l.drop j = b :: l.drop (j + 1) := by
  obtain ⟨h1, h2⟩ := List.getElem?_eq_some_iff.1 h
  rw [List.drop_eq_getElem_cons h1, h2]
set_option maxRecDepth 100000 in
set_option maxHeartbeats 4000000 in
theorem number01_any (S : Nat → Prop) (v : Value) (data : List UInt8) (off : Nat) (w : World) (hv : BytesAt S w v data) (hoff : off ≤ data.length) (hsm : data.length ≤ 32768) :
    Calls Tryz.prog 92 #[v, .int .i64 (off : Int)] w fun e w' => e = .returned (NumRes (numR data off 10 0)) ∧ Below w.heap.size w w' := by
  have HV := Lib.hid hv
  obtain ⟨_, a, cap, rfl, hc, hm, -⟩ := hv
  unfold maxLen at hm
  go_enter Tryz.func92, Tryz.ntmps92
  go_wp2_with fail
  go_loopw [7] (fun x wr => ∃ n : Nat, 1 ≤ n ∧ n ≤ 11 ∧ x = .int .i64 (n : Int) ∧ numR data off 10 0 = numR data off (11 - n) (n - 1) ∧ Below w.heap.size w wr) (fun x _ => 11 - (intOf x).toNat)
  case atStart => exact ⟨1, by omega, by omega, rfl, rfl, Below.refl _ _⟩
  case round =>
    obtain ⟨n, hn1, hn2, rfl, hn, hb⟩ := hrel
    have HN := Lib.hid hn
    have HB := Lib.hid hb
    clear hn hb
    by_cases h10 : n ≤ 10
    · by_cases hl : off + n ≤ data.length
      · obtain ⟨x, hx⟩ : ∃ x, data[off + n - 1]? = some x := ⟨data[off + n - 1]'(by omega), by simp⟩
        have hx8 := x.toNat_lt
        have HX := Lib.hid (show data[off + (n - 1)]? = some x by rw [← hx]; congr 1; omega)
        obtain ⟨b, o, rfl, q0⟩ := bytes_at HV.out HB.out hx
        clear hx
        by_cases h128 : 128 ≤ x.toNat
        · have HT := Lib.hid (show numR data off 10 0 = numR data off (11 - (n + 1)) (n + 1 - 1) by
            rw [HN.out, show 11 - n = (10 - n) + 1 by omega, numR_more HX.out h128]; congr 1 <;> omega)
          go_wp2_with fail
          go_roundw
          case rel => exact ⟨n + 1, by omega, by omega, by go_num, HT.out, HB.out⟩
          case measure => simp [intOf]; omega
        · obtain ⟨bs, hbs⟩ : ∃ bs, bs = (data.drop off).take n := ⟨_, rfl⟩
          have hbl : bs.length = n := by rw [hbs]; simp; omega
          have HBL := Lib.hid hbl
          have HBI := Lib.hid (show ∀ j, j < n → bs[j]? = data[off + j]? by intro j hj; rw [hbs, List.getElem?_take, if_pos hj, List.getElem?_drop])
          have HBAD := Lib.hid (show encNum (valR bs) ≠ bs → numR data off 10 0 = .error 3 by
            intro hne
            rw [HN.out, show 11 - n = (10 - n) + 1 by omega]
            refine numR_bad HX.out h128 ?_
            rw [show n - 1 + 1 = n by omega, ← hbs]; exact hne)
          have HGOOD := Lib.hid (show encNum (valR bs) = bs → numR data off 10 0 = .ok (valR bs, off + n) by
            intro he
            rw [HN.out, show 11 - n = (10 - n) + 1 by omega, numR_ok HX.out h128 (by rw [show n - 1 + 1 = n by omega, ← hbs]; exact he), show n - 1 + 1 = n by omega, ← hbs])
          clear hbs hbl
          go_wp2_with fail
          clear q0
          go_loopw [8, 9] (fun y z wr' => ∃ (j : Nat) (i : Int), j ≤ n ∧ z = .int .i64 i ∧ i = (j : Int) - 1 ∧ y = .int .u64 (valR (bs.drop j) : Int) ∧ Below w.heap.size w wr') (fun _ z _ => (intOf z + 1).toNat)
          case atStart => exact ⟨n, (n : Int) - 1, Nat.le_refl _, rfl, rfl, by rw [List.drop_of_length_le (by rw [HBL.out]; exact Nat.le_refl _)]; rfl, HB.out⟩
          case round =>
            obtain ⟨j, i, hj, rfl, hi, rfl, hb2⟩ := hrel
            have HB2 := Lib.hid hb2
            clear hb2
            by_cases hj0 : j = 0
            · obtain rfl : i = -1 := by omega
              have hdr : bs.drop j = bs := by rw [hj0]; rfl
              rw [hdr]
              obtain ⟨V, hV⟩ : ∃ V, V = valR bs := ⟨_, rfl⟩
              rw [← hV]
              have hVl : V < 18446744073709551616 := by rw [hV]; exact valR_lt _
              have HVV := Lib.hid hV
              clear hV hdr hi hj0
              go_wp2_with (go_at_call 51; refine (encNumber_any V _ hVl).mono ?_; rintro e w1 ⟨nv, rfl, hnv, hb3⟩)
              have HB3 := Lib.hid (below_next HB2.out hb3)
              have HVV2 := HVV.out
              rw [← HVV2] at HBAD HGOOD
              clear HVV2 hb3
              have HNV := Lib.hid hnv
              have hel := encNum_len V
              obtain ⟨en, hen⟩ : ∃ en, en = encNum V := ⟨_, rfl⟩
              rw [← hen] at HNV hel HBAD HGOOD hnv
              obtain ⟨_, na, nc, rfl, hnn1, hnn2, -⟩ := hnv
              unfold maxLen at hnn2
              clear hen
              by_cases hl2 : en.length = n
              · have HL2 := Lib.hid hl2
                rw [hl2] at HNV hnn1 ⊢
                clear hl2 hel
                go_wp2_with fail
                go_simp
                go_wp2_with fail
                go_loopw [11] (fun z wr' => ∃ j : Nat, j ≤ n ∧ z = .int .i64 (j : Int) ∧ en.take j = bs.take j ∧ Below w1.heap.size w1 wr') (fun z _ => n - (intOf z).toNat)
                case atStart => exact ⟨0, by omega, rfl, by simp, Below.refl _ _⟩
                case round =>
                  obtain ⟨j, hj2, rfl, hjt, hb4⟩ := hrel
                  have HJT := Lib.hid hjt
                  have HB4 := Lib.hid hb4
                  clear hjt hb4
                  by_cases hjn : j < n
                  · obtain ⟨c, hc1⟩ : ∃ c, en[j]? = some c := ⟨en[j]'(by rw [HL2.out]; omega), by simp⟩
                    obtain ⟨y, hy⟩ : ∃ y, data[off + j]? = some y := ⟨data[off + j]'(by omega), by simp⟩
                    have HY := Lib.hid (show bs[j]? = some y by rw [HBI.out j hjn]; exact hy)
                    have HC := Lib.hid hc1
                    have hy8 := y.toNat_lt
                    have hc8 := c.toNat_lt
                    obtain ⟨W, hW⟩ : ∃ W : World, W = wr.drew := ⟨_, rfl⟩
                    have HBW := Lib.hid (show Below w1.heap.size w1 W by rw [hW]; exact HB4.out.drew)
                    have HBX := Lib.hid (below_next HB3.out HBW.out)
                    obtain ⟨b5, o5, hbo5, q0⟩ := bytes_at HV.out HBX.out hy
                    cases hbo5
                    obtain ⟨b6, o6, rfl, q1⟩ := bytes_at HNV.out HBW.out hc1
                    obtain ⟨oj, hoj⟩ : ∃ oj : Nat, oj = off + j := ⟨_, rfl⟩
                    have hoj2 : oj < data.length := by omega
                    have hwr : IntKind.i64.wrap (oj : Int) = (oj : Int) := IntWalk.i64_in _ (by omega)
                    have hwr2 : (off : Int) + (j : Int) = (oj : Int) := by omega
                    rw [← hoj] at q0
                    clear hoj
                    clear hc1 hy
                    by_cases hm2 : c = y
                    · have e1 : ((c.toNat : Int) != (y.toNat : Int)) = false := by simp [hm2]
                      have HT := Lib.hid (show en.take (j + 1) = bs.take (j + 1) by rw [take_snoc' HC.out, take_snoc' HY.out, HJT.out, hm2])
                      clear hm2
                      go_wp2_with fail
                      refine wp_region_segs [some 11] (by kernel_rfl) (by kernel_rfl) (by kernel_rfl) ?_
                      simp only [wpSegs, List.take_succ_cons, List.take_zero]
                      rw [← hW]
                      clear hW
                      repeat (first | (refine seg_skip rfl ?_; simp only [Act.put, List.setIfInBounds_toArray, List.set_cons_succ, List.set_cons_zero]) | (refine seg_run rfl (fun K hK => ?_); go_simp; refine hK _ ?_; clear hK K))
                      refine seg_nil ?_
                      go_wp2_with fail
                      go_roundw
                      case rel => exact ⟨j + 1, by omega, by go_num, HT.out, HBW.out⟩
                      case measure => simp [intOf]; omega
                    · have e1 : ((c.toNat : Int) != (y.toNat : Int)) = true := by
                        simp only [bne_iff_ne, ne_eq]; intro e; exact hm2 (UInt8.toNat_inj.1 (by omega))
                      have HT := Lib.hid (HBAD.out (by
                        intro e
                        have h1 := HC.out
                        rw [e, HY.out] at h1
                        exact hm2 (Option.some.inj h1).symm))
                      clear hm2
                      go_wp2_with fail
                      refine wp_region_segs [some 11] (by kernel_rfl) (by kernel_rfl) (by kernel_rfl) ?_
                      simp only [wpSegs, List.take_succ_cons, List.take_zero]
                      rw [← hW]
                      clear hW
                      repeat (first | (refine seg_skip rfl ?_; simp only [Act.put, List.setIfInBounds_toArray, List.set_cons_succ, List.set_cons_zero]) | (refine seg_run rfl (fun K hK => ?_); go_simp; refine hK _ ?_; clear hK K))
                      refine seg_nil ?_
                      go_wp2_with fail
                      (go_ret3; exact ⟨by rw [HT.out]; rfl, HBX.out⟩)
                  · obtain rfl : j = n := by omega
                    have HT := Lib.hid (HGOOD.out (by
                      have := HJT.out
                      rwa [List.take_of_length_le (by rw [HL2.out]; exact Nat.le_refl _), List.take_of_length_le (by rw [HBL.out]; exact Nat.le_refl _)] at this))
                    go_wp2_with fail
                    (go_ret3; exact ⟨by rw [HT.out]; rfl, below_next HB3.out HB4.out⟩)
              · have HT := Lib.hid (HBAD.out (by intro e; exact hl2 (by rw [e]; exact HBL.out)))
                have e1 : ((en.length : Int) != (n : Int)) = true := by simp; omega
                clear hl2
                go_wp2_with fail
                go_simp
                go_wp2_with fail
                (go_ret3; exact ⟨by rw [HT.out]; rfl, HB3.out⟩)
            · obtain ⟨j, rfl⟩ : ∃ j', j = j' + 1 := ⟨j - 1, by omega⟩
              obtain rfl : i = (j : Int) := by omega
              obtain ⟨y, hy⟩ : ∃ y, data[off + j]? = some y := ⟨data[off + j]'(by omega), by simp⟩
              have hy8 := y.toNat_lt
              have HT := Lib.hid (show valR (bs.drop j) = (valR (bs.drop (j + 1)) * 128 % 18446744073709551616 + y.toNat % 128) % 18446744073709551616 by
                rw [drop_cons' (l := bs) (b := y) (by rw [HBI.out j (by omega)]; exact hy), valR_cons])
              obtain ⟨b3, o3, hbo, q0⟩ := bytes_at HV.out HB2.out hy
              cases hbo
              obtain ⟨V, hV⟩ : ∃ V, V = valR (bs.drop (j + 1)) := ⟨_, rfl⟩
              have hVl : V < 18446744073709551616 := by rw [hV]; exact valR_lt _
              rw [← hV] at HT ⊢
              clear hy hi hV
              go_wp2_with fail
              go_roundw
              case rel => exact ⟨j, (j : Int) - 1, by omega, by rfl, by omega, by rw [HT.out]; simp only [IntKind.wrap_u64]; congr 1, HB2.out⟩
              case measure => simp [intOf]
      · have HT := Lib.hid (show numR data off 10 0 = .error 3 by rw [HN.out]; exact numR_end (by omega))
        go_wp2_with fail
        (go_ret3; exact ⟨by rw [HT.out]; rfl, HB.out⟩)
    · have HT := Lib.hid (show numR data off 10 0 = .error 3 by rw [HN.out, show 11 - n = 0 by omega]; rfl)
      go_wp2_with fail
      (go_ret3; exact ⟨by rw [HT.out]; rfl, HB.out⟩)

end Go.Proofs.YtndgmcggckpgfaaGreatDoor

/- Contracts of the reference of package wire: Encode. -/
namespace Go.Proofs.YtndgmcggckpgfaaGreatDoor
open Go.RowKit


/-- A value of the reference's encoder. -/
structure RVal where
  kind : Int
  u : Nat
  n : Int
  b : Bool
  s : ByteArray
  most : Int
def rvC (x : RVal) : List Value := [.int .i64 x.kind, .int .u64 (x.u : Int), .int .i64 x.n, .bool x.b, .string x.s, .int .i64 x.most]
structure RvOk (x : RVal) : Prop where
  u : x.u < 18446744073709551616
  n : -9223372036854775808 ≤ x.n ∧ x.n ≤ 9223372036854775807
  s : x.s.size ≤ 65536
  k : x.kind ≠ 2
def RvR (c : List Value) (x : RVal) : Prop := c = rvC x ∧ RvOk x
theorem RvR.len (c : List Value) (x : RVal) (h : RvR c x) : c.length = 6 := by rw [h.1]; rfl
def RvsAt (S : Nat → Prop) (w : World) (v : Value) (l : List RVal) : Prop := SeqAt S w 6 RvR v l
theorem rvs_at {S : Nat → Prop} {w w' : World} {a : Option Addr} {n cap : Nat} {l : List RVal} (hv : RvsAt S w (.slice a n cap) l) (hb : Below w.heap.size w w') {k : Nat} {x : RVal} (hr : l[k]? = some x) :
    ∃ b o, a = some ⟨b, o, none⟩ ∧ RvOk x ∧ ∀ j, j < 6 → w'.cell? ⟨b, o + k * 6 + j, none⟩ = (rvC x)[j]? := by
  obtain ⟨a', cap', hv', _, _, hx⟩ := SeqAt.shape hv RvR.len
  cases hv'
  obtain ⟨b, o, c, rfl, hS, ⟨rfl, hok⟩, _, hcl⟩ := hx k x hr
  have q0 := hcl 0 (by omega)
  have hlt : b < w.heap.size := block_lt (a := ⟨b, o + (k * 6 + 0), none⟩) (v := .int .i64 x.kind) q0
  refine ⟨b, o, rfl, hok, fun j hj => ?_⟩
  rw [Nat.add_assoc]
  exact (hb.cell (p := ⟨b, o + (k * 6 + j), none⟩) hlt).trans (hcl j hj)
def enc1 (x : RVal) : Except Int (List UInt8) :=
  if x.kind = 1 then .ok (encNum x.u)
  else if x.kind = 3 then .ok [if x.b then 1 else 0]
  else if x.kind = 4 ∨ x.kind = 5 then .ok (encNum x.s.size ++ bl x.s)
  else if x.kind = 6 then (if x.s.size = 32 then .ok (bl x.s) else .error 1)
  else if x.kind = 7 then (if x.n < 0 then .error 1 else .ok (encNum x.n.toNat))
  else .ok []
def encAll : List RVal → Except Int (List UInt8)
  | [] => .ok []
  | x :: l => match enc1 x with
    | .error e => .error e
    | .ok a => match encAll l with
      | .error e => .error e
      | .ok b => .ok (a ++ b)
theorem encAll_bad {x : RVal} {e : Int} : ∀ {l : List RVal} {k : Nat} {a : List UInt8}, encAll (l.take k) = .ok a → l[k]? = some x → enc1 x = .error e → encAll l = .error e
  | [], k, a, _, h2, _ => by simp at h2
  | y :: l, 0, a, _, h2, h3 => by
    simp at h2; subst h2
    simp only [encAll, h3]
  | y :: l, k + 1, a, h1, h2, h3 => by
    rw [List.take_succ_cons, encAll] at h1
    cases hy : enc1 y with
    | error e => rw [hy] at h1; simp at h1
    | ok b =>
      rw [hy] at h1
      simp only at h1
      cases hk : encAll (l.take k) with
      | error e => rw [hk] at h1; simp at h1
      | ok c =>
        have := encAll_bad hk (by simpa using h2) h3
        simp only [encAll, hy, this]
theorem encAll_snoc {x : RVal} {b : List UInt8} : ∀ {l : List RVal} {a : List UInt8}, encAll l = .ok a → enc1 x = .ok b → encAll (l ++ [x]) = .ok (a ++ b)
  | [], a, h1, h2 => by
    simp only [encAll, Except.ok.injEq] at h1
    subst h1
    simp [encAll, h2]
  | y :: l, a, h1, h2 => by
    rw [encAll] at h1
    cases hy : enc1 y with
    | error e => rw [hy] at h1; simp at h1
    | ok c =>
      rw [hy] at h1
      simp only at h1
      cases hk : encAll l with
      | error e => rw [hk] at h1; simp at h1
      | ok d =>
        rw [hk] at h1
        simp only [Except.ok.injEq] at h1
        subst h1
        simp only [List.cons_append, encAll, hy, encAll_snoc hk h2, List.append_assoc]
def encP (l : List RVal) : Except Int (List UInt8) := match encAll l with
  | .error e => .error e
  | .ok out => if 1048576 < out.length then .error 2 else .ok out
def EncRes (res : Except Int (List UInt8)) (w : World) (e : Ending) (w' : World) : Prop := Below w.heap.size w w' ∧ match res with
  | .error x => e = .returned (.tuple #[.slice none 0 0, .int .i64 x]) ∧ x ≠ 0
  | .ok bs => ∃ v, e = .returned (.tuple #[v, .int .i64 0]) ∧ BytesAt (w.heap.size ≤ ·) w' v bs
theorem strCells_bl (s : ByteArray) : Lib.strCells s = (bl s).map byteV := rfl
/-- append(b, s...) onto owned bytes. -/
theorem wpList_appstr {ops : Array Oper} {rest : List Oper} {o : Oper} {a : Act} {Q : Exit → Act → World → Prop} {w : World} (hgd : o.guard = none) (sl x : Operand)
    (ho : o.op = .call { callee := .builtin .append, args := #[sl, x], argTypes := #[58, 9] }) (base : Nat) (v : Value) (acc : List UInt8) (hs : a.eval sl = v) (hown : w.ownsRow base 5 1 v acc.length (acc.map byteV)) (s : ByteArray) (hx : a.eval x = .string s)
    (hn : acc.length + s.size < 1099511627775) (hbase : base ≤ w.heap.size)
    (h : ∀ v' w', w'.ownsRow base 5 1 v' (acc.length + s.size) (acc.map byteV ++ (bl s).map byteV) → w.grownBy w' v.ownBlock → wpList Tryz.prog ops Q rest (a.put o.dst v') w') : wpList Tryz.prog ops Q (o :: rest) a w := by
  obtain ⟨ht, ⟨i, z, h11, h12, h13, h14, h15⟩, hpos, hsm⟩ := Tryz.appBytes
  have hz : i.zero = some (.int .u8 0) := by
    have : (Tryz.prog.info? 5).map (fun i => i.zero) = some (some (.int .u8 0)) := by kernel_rfl
    rw [h11] at this
    exact Option.some.inj this
  refine Lib.wpList_append_own_string w hgd sl x 58 9 ho base 5 i ht Tryz.underlying9 h11 hz h13 h14 v acc.length _ hs hown s hx (by unfold maxLen; omega) (by omega) hbase fun v' w' h1 h2 _ => h v' w' ?_ h2
  rw [← strCells_bl]
  exact h1

theorem owns_cells {w : World} {base : Nat} {e : TypeId} {sz : Nat} {v : Value} {n : Nat} {xs : List Value} {k : Nat} (h : w.ownsRow base e sz v n xs) (hk : v.ownBlock = some k) : ∃ cs, w.heap[k]? = some (.cells cs e (0, 0)) := by
  obtain ⟨_, h2⟩ := h
  rcases h2 with ⟨rfl, rfl⟩ | ⟨g, cap, cur, rfl, _, hh, _⟩
  · cases hk
  · have : g = k := by simpa [Value.ownBlock] using hk
    subst this
    exact ⟨cur, hh⟩
set_option maxRecDepth 100000 in
set_option maxHeartbeats 4000000 in
theorem encode_any (S : Nat → Prop) (v : Value) (l : List RVal) (w : World) (hv : RvsAt S w v l) (hlen : l.length ≤ 1000000) : Calls Tryz.prog 45 #[v] w (EncRes (encP l) w) := by
  obtain ⟨a, cap, rfl, hc, hm, -⟩ := SeqAt.shape hv RvR.len
  unfold maxLen at hm
  have HV := Lib.hid hv
  have HO0 := Lib.hid (World.ownsRow_lit (e := 5) (size := 1) (base := w.heap.size) w #[] 0 (Nat.le_refl _) (Nat.zero_le _) (by simp))
  have HB0 := Lib.hid ((Below.refl w.heap.size w).alloc (Nat.le_refl _) (.cells #[] 5))
  clear hv
  go_enter Tryz.func45, Tryz.ntmps45
  go_wp2_with fail
  go_loopw [4, 5] (fun o i wr => ∃ (k : Nat) (acc : List UInt8), k ≤ l.length ∧ i = .int .i64 k ∧ encAll (l.take k) = .ok acc ∧ wr.ownsRow w.heap.size 5 1 o acc.length (acc.map byteV) ∧ acc.length ≤ k * 65556 ∧ Below w.heap.size w wr) (fun _ i _ => l.length - (intOf i).toNat)
  case atStart => exact ⟨0, [], Nat.zero_le _, rfl, rfl, HO0.out, by simp, HB0.out⟩
  case round =>
    obtain ⟨k, acc, hk, rfl, henc, hown, hal, hb⟩ := hrel
    have HE := Lib.hid henc
    have HO := Lib.hid hown
    have HB := Lib.hid hb
    obtain ⟨ao, co, rfl, hn1, hn2⟩ := owns_shape hown
    clear henc hown hb HO0 HB0
    by_cases hlt : k < l.length
    · obtain ⟨x, hx⟩ : ∃ x, l[k]? = some x := ⟨l[k], by simp [hlt]⟩
      obtain ⟨b0, o, rfl, hok, hcl⟩ := rvs_at HV.out HB.out hx
      have HG := Lib.hid hx
      have HSN := Lib.hid (take_snoc' hx)
      have hus := hok.u
      have hss := hok.s
      have hk2 := hok.k
      obtain ⟨hnw1, hnw2⟩ := hok.n
      have q0 := hcl 0 (by omega)
      have q1 := hcl 1 (by omega)
      have q2 := hcl 2 (by omega)
      have q3 := hcl 3 (by omega)
      have q4 := hcl 4 (by omega)
      have q5 := hcl 5 (by omega)
      simp only [rvC, List.getElem?_cons_zero, List.getElem?_cons_succ, Nat.add_zero] at q0 q1 q2 q3 q4 q5
      obtain ⟨kd, u, n, b, s, mo⟩ := x
      simp only at hus hss hk2 hnw1 hnw2 q0 q1 q2 q3 q4 q5
      clear hx hcl hok
      have HAL := Lib.hid ((Below.refl wr.heap.size wr).alloc (Nat.le_refl _) (.cells #[.int .i64 kd, .int .u64 (u : Int), .int .i64 n, .bool b, .string s, .int .i64 mo] 91))
      have HO1 := Lib.hid (owns_below HO.out HAL.out)
      have HB1 := Lib.hid (below_next HB.out HAL.out)
      by_cases h1 : kd = 1
      · subst h1
        have HX := Lib.hid (show enc1 ⟨1, u, n, b, s, mo⟩ = .ok (encNum u) from rfl)
        have HBD := Lib.hid (show acc.length + (encNum u).length ≤ (k + 1) * 65556 by have := encNum_len u; omega)
        have hnl := encNum_len u
        go_wp2_with fail
        refine (encNumber_any u _ (by omega)).mono ?_
        rintro e w1 ⟨nv, rfl, hnv, hb1⟩
        have HNV := Lib.hid hnv
        have HBL := Lib.hid (below_next HB1.out hb1)
        have HOL := Lib.hid (owns_below HO1.out hb1)
        have hbz := HBL.out.size
        obtain ⟨_, na, nc, rfl, hnn1, hnn2, -⟩ := hnv
        clear hb1 q0 q1 q2 q3 q4 q5
        go_wp2_with (at_builtin; go_must (refine wpList_appn Tryz.appBytes rfl _ _ rfl w.heap.size (.slice ao acc.length co) acc.length (acc.map byteV) rfl HOL.out _ (encNum u).length ((encNum u).map byteV) rfl HNV.out (bytes_one _) (by omega) hbz ?_); intro v' wc hown' hgrow'; have HO3 := Lib.hid hown'; have HB3 := Lib.hid (below_grown HBL.out HOL.out hgrow' (Nat.le_refl _) hbz); obtain ⟨ae, ce, rfl, -, -⟩ := owns_shape hown'; clear hown' hgrow')
        go_roundw
        case rel => exact ⟨k + 1, acc ++ (encNum u), by omega, by go_num, by rw [HSN.out]; exact encAll_snoc HE.out HX.out, by rw [List.length_append, List.map_append]; exact HO3.out, by rw [List.length_append]; exact HBD.out, HB3.out⟩
        case measure => simp [intOf]; omega
      · by_cases h3 : kd = 3
        · subst h3
          have hbz := HB1.out.size
          cases b
          · have HX := Lib.hid (show enc1 ⟨3, u, n, false, s, mo⟩ = .ok [0] from rfl)
            have HBD := Lib.hid (show acc.length + ([0] : List UInt8).length ≤ (k + 1) * 65556 by simp; omega)
            obtain ⟨W, hW⟩ : ∃ W : World, W = wr.alloc (.cells #[.int .i64 3, .int .u64 (u : Int), .int .i64 n, .bool false, .string s, .int .i64 mo] 91) := ⟨_, rfl⟩
            rw [← hW] at HO1 HB1 hbz
            clear HAL
            go_upto_region 14 with (fail)
            rw [← hW]
            clear hW q0 q1 q2 q3 q4 q5
            go_wp2_with (at_builtin; go_must (refine wpList_app1 Tryz.appBytes rfl _ _ rfl w.heap.size (.slice ao acc.length co) acc.length (acc.map byteV) rfl W [.int .u8 0] _ rfl rfl (cons_one 0) HO1.out (by omega) hbz ?_); intro v' wc hown' hgrow' _; have HO3 := Lib.hid (show wc.ownsRow w.heap.size 5 1 v' (acc.length + ([0] : List UInt8).length) (acc.map byteV ++ ([0] : List UInt8).map byteV) from hown'); have HB3 := Lib.hid (below_grown HB1.out HO1.out hgrow' (Nat.le_refl _) hbz); obtain ⟨ae, ce, rfl, -, -⟩ := owns_shape hown'; clear hown' hgrow')
            go_roundw
            case rel => exact ⟨k + 1, acc ++ ([0] : List UInt8), by omega, by go_num, by rw [HSN.out]; exact encAll_snoc HE.out HX.out, by rw [List.length_append, List.map_append]; exact HO3.out, by rw [List.length_append]; exact HBD.out, HB3.out⟩
            case measure => simp [intOf]; omega
          · have HX := Lib.hid (show enc1 ⟨3, u, n, true, s, mo⟩ = .ok [1] from rfl)
            have HBD := Lib.hid (show acc.length + ([1] : List UInt8).length ≤ (k + 1) * 65556 by simp; omega)
            obtain ⟨W, hW⟩ : ∃ W : World, W = wr.alloc (.cells #[.int .i64 3, .int .u64 (u : Int), .int .i64 n, .bool true, .string s, .int .i64 mo] 91) := ⟨_, rfl⟩
            rw [← hW] at HO1 HB1 hbz
            clear HAL
            go_upto_region 13 with (fail)
            rw [← hW]
            clear hW q0 q1 q2 q3 q4 q5
            go_wp2_with (at_builtin; go_must (refine wpList_app1 Tryz.appBytes rfl _ _ rfl w.heap.size (.slice ao acc.length co) acc.length (acc.map byteV) rfl W [.int .u8 1] _ rfl rfl (cons_one 1) HO1.out (by omega) hbz ?_); intro v' wc hown' hgrow' _; have HO3 := Lib.hid (show wc.ownsRow w.heap.size 5 1 v' (acc.length + ([1] : List UInt8).length) (acc.map byteV ++ ([1] : List UInt8).map byteV) from hown'); have HB3 := Lib.hid (below_grown HB1.out HO1.out hgrow' (Nat.le_refl _) hbz); obtain ⟨ae, ce, rfl, -, -⟩ := owns_shape hown'; clear hown' hgrow')
            go_roundw
            case rel => exact ⟨k + 1, acc ++ ([1] : List UInt8), by omega, by go_num, by rw [HSN.out]; exact encAll_snoc HE.out HX.out, by rw [List.length_append, List.map_append]; exact HO3.out, by rw [List.length_append]; exact HBD.out, HB3.out⟩
            case measure => simp [intOf]; omega
        · by_cases h4 : kd = 4 ∨ kd = 5
          · have HX := Lib.hid (show enc1 ⟨kd, u, n, b, s, mo⟩ = .ok (encNum s.size ++ bl s) by simp only [enc1, if_neg h1, if_neg h3, if_pos h4])
            have HBD := Lib.hid (show acc.length + (encNum s.size ++ bl s).length ≤ (k + 1) * 65556 by have := encNum_len s.size; rw [List.length_append, ← size_bl]; omega)
            have HBX := Lib.hid (heap_alloc_new wr (.cells #[.int .i64 kd, .int .u64 (u : Int), .int .i64 n, .bool b, .string s, .int .i64 mo] 91))
            have hnl := encNum_len s.size
            obtain ⟨W, hW⟩ : ∃ W : World, W = wr.alloc (.cells #[.int .i64 kd, .int .u64 (u : Int), .int .i64 n, .bool b, .string s, .int .i64 mo] 91) := ⟨_, rfl⟩
            rw [← hW] at HO1 HB1 HBX
            clear h1 h3 hk2 HAL
            rcases h4 with rfl | rfl
            · go_upto_region 17 with (fail)
              rw [← hW]
              clear hW q0 q1 q2 q3 q4 q5
              refine hld_start (fun w' => w'.cell? ⟨wr.heap.size, 4, none⟩ = some (.string s)) (by kernel_rfl) ?_
              obtain ⟨W2, hW2⟩ : ∃ W2 : World, W2 = W.drew := ⟨_, rfl⟩
              rw [← hW2]
              have hbw : Below W.heap.size W W2 := by rw [hW2]; exact (Below.refl _ _).drew
              have HB2 := Lib.hid (below_next HB1.out hbw)
              have HO2 := Lib.hid (owns_below HO1.out hbw)
              have HBX2 := Lib.hid ((hbw.block wr.heap.size (lt_of_block HBX.out)).trans HBX.out)
              clear hW2 hbw HBX
              have c0 := cellH (k := 4) HBX2.out
              simp only [List.getElem?_toArray, List.getElem?_cons_succ, List.getElem?_cons_zero] at c0
              refine hld_take 0 rfl (by kernel_rfl) (by kernel_rfl) (by kernel_rfl) (fun _ _ _ h => h) rfl (by go_simp) (by intro w' hw'; go_simp; rfl) ?_
              simp only [Act.put, List.setIfInBounds_toArray, List.set_cons_succ, List.set_cons_zero]
              refine hld_take 1 rfl (by kernel_rfl) (by kernel_rfl) (by kernel_rfl) (fun _ _ _ h => h) rfl (by go_simp) (by intro w' hw'; go_simp; rfl) ?_
              simp only [Act.put, List.setIfInBounds_toArray, List.set_cons_succ, List.set_cons_zero]
              refine hld_take 2 rfl (by kernel_rfl) (by kernel_rfl) (by kernel_rfl) (fun _ _ _ h => h) rfl (by go_simp) (by intro w' hw'; go_simp; rfl) ?_
              simp only [Act.put, List.setIfInBounds_toArray, List.set_cons_succ, List.set_cons_zero]
              refine hld_take 3 rfl (by kernel_rfl) (by kernel_rfl) (by kernel_rfl) (fun _ _ _ h => h) rfl (by go_simp) (by intro w' hw'; go_simp; rfl) ?_
              simp only [Act.put, List.setIfInBounds_toArray, List.set_cons_succ, List.set_cons_zero]
              refine hld_take 4 rfl (by kernel_rfl) (by kernel_rfl) (by kernel_rfl) (fun _ _ _ h => h) rfl (by go_simp) (by intro w' hw'; go_simp; rfl) ?_
              simp only [Act.put, List.setIfInBounds_toArray, List.set_cons_succ, List.set_cons_zero]
              refine hld_take 7 rfl (by kernel_rfl) (by kernel_rfl) (by kernel_rfl) (fun _ _ _ h => h) rfl (by go_simp) (by intro w' hw'; go_simp; rfl) ?_
              simp only [Act.put, List.setIfInBounds_toArray, List.set_cons_succ, List.set_cons_zero]
              refine hld_take 8 rfl (by kernel_rfl) (by kernel_rfl) (by kernel_rfl) (fun _ _ _ h => h) rfl (by go_simp) (by intro w' hw'; go_simp; rfl) ?_
              simp only [Act.put, List.setIfInBounds_toArray, List.set_cons_succ, List.set_cons_zero]
              refine hld_bar 5 rfl (by kernel_rfl) rfl (fun K hK => ?_)
              go_wp2_with (go_at_call 51; refine (encNumber_any s.size _ (by omega)).mono ?_; rintro e w1 ⟨nv, rfl, hnv, hb1⟩)
              have HNV := Lib.hid hnv
              have HBL := Lib.hid (below_next HB2.out hb1)
              have HOL := Lib.hid (owns_below HO2.out hb1)
              have HBX3 := Lib.hid ((hb1.block wr.heap.size (lt_of_block HBX2.out)).trans HBX2.out)
              have hbz := HBL.out.size
              obtain ⟨_, na, nc, rfl, hnn1, hnn2, -⟩ := hnv
              have c1 := cellH (k := 4) HBX3.out
              simp only [List.getElem?_toArray, List.getElem?_cons_succ, List.getElem?_cons_zero] at c1
              clear hb1 c0
              refine ⟨c1, ?_⟩
              refine hld_bar 6 rfl (by kernel_rfl) rfl (fun K hK => ?_)
              go_wp2_with (at_builtin; go_must (refine wpList_appn Tryz.appBytes rfl _ _ rfl w.heap.size (.slice ao acc.length co) acc.length (acc.map byteV) rfl HOL.out _ (encNum s.size).length ((encNum s.size).map byteV) rfl HNV.out (bytes_one _) (by omega) hbz ?_); intro v' wc hown' hgrow')
              have HBX4 := Lib.hid ((hgrow'.block wr.heap.size (lt_of_block HBX3.out) (fun e => by have := (HO.out.lt _ e.symm).2; omega)).trans HBX3.out)
              have HBL2 := Lib.hid (below_grown HBL.out HOL.out hgrow' (Nat.le_refl _) hbz)
              have HOL2 := Lib.hid (show wc.ownsRow w.heap.size 5 1 v' (acc ++ encNum s.size).length ((acc ++ encNum s.size).map byteV) by rw [List.length_append, List.map_append]; exact hown')
              have hbz2 := HBL2.out.size
              obtain ⟨ae, ce, rfl, -, -⟩ := owns_shape hown'
              have c2 := cellH (k := 4) HBX4.out
              simp only [List.getElem?_toArray, List.getElem?_cons_succ, List.getElem?_cons_zero] at c2
              have hlen2 : (acc ++ encNum s.size).length = acc.length + (encNum s.size).length := List.length_append
              clear hown' hgrow' c1
              refine ⟨c2, ?_⟩
              refine hld_bar 9 rfl (by kernel_rfl) rfl (fun K hK => ?_)
              have hlt5 : (acc ++ encNum s.size).length + s.size < 1099511627775 := by omega
              have hvv : Value.slice ae (acc.length + (encNum s.size).length) ce = .slice ae (acc ++ encNum s.size).length ce := by rw [hlen2]
              have HVV := Lib.hid hvv
              have HLT5 := Lib.hid hlt5
              clear hlen2 hlt5 hvv
              go_wp2_with (at_builtin; go_must (refine wpList_appstr rfl _ _ rfl w.heap.size (.slice ae (acc.length + (encNum s.size).length) ce) (acc ++ encNum s.size) rfl HOL2.out s rfl HLT5.out hbz2 ?_); intro v' wd hown' hgrow')
              have HBX5 := Lib.hid ((hgrow'.block wr.heap.size (lt_of_block HBX4.out) (fun e => by
                have h1 := HOL2.out
                have h2 := (owns_cells h1 e.symm)
                obtain ⟨cs, h2⟩ := h2
                have := HBX4.out.symm.trans h2
                simp at this)).trans HBX4.out)
              have HB3 := Lib.hid (below_grown HBL2.out HOL2.out hgrow' (Nat.le_refl _) hbz2)
              have HO3 := Lib.hid (show wd.ownsRow w.heap.size 5 1 v' (acc.length + (encNum s.size ++ bl s).length) (acc.map byteV ++ (encNum s.size ++ bl s).map byteV) by
                have h1 := hown'
                rw [List.length_append, size_bl, Nat.add_assoc, ← List.length_append, List.map_append, List.append_assoc, ← List.map_append] at h1
                exact h1)
              obtain ⟨nb, hnb⟩ : ∃ nb, nb = encNum s.size ++ bl s := ⟨_, rfl⟩
              rw [← hnb] at HO3 HX HBD
              clear hnb
              obtain ⟨af, cf, rfl, -, -⟩ := owns_shape HO3.out
              have c3 := cellH (k := 4) HBX5.out
              simp only [List.getElem?_toArray, List.getElem?_cons_succ, List.getElem?_cons_zero] at c3
              clear hown' hgrow' c2
              refine ⟨c3, ?_⟩
              refine hld_take 10 rfl (by kernel_rfl) (by kernel_rfl) (by kernel_rfl) (fun _ _ _ h => h) rfl (by go_simp) (by intro w' hw'; go_simp; rfl) ?_
              simp only [Act.put, List.setIfInBounds_toArray, List.set_cons_succ, List.set_cons_zero]
              refine hld_done (by kernel_rfl) ?_
              go_wp2_with fail
              go_roundw
              case rel => exact ⟨k + 1, acc ++ nb, by omega, by go_num, by rw [HSN.out]; exact encAll_snoc HE.out HX.out, by rw [List.length_append, List.map_append]; exact HO3.out, by rw [List.length_append]; exact HBD.out, HB3.out⟩
              case measure => simp [intOf]; omega
            · go_upto_region 17 with (fail)
              rw [← hW]
              clear hW q0 q1 q2 q3 q4 q5
              refine hld_start (fun w' => w'.cell? ⟨wr.heap.size, 4, none⟩ = some (.string s)) (by kernel_rfl) ?_
              obtain ⟨W2, hW2⟩ : ∃ W2 : World, W2 = W.drew := ⟨_, rfl⟩
              rw [← hW2]
              have hbw : Below W.heap.size W W2 := by rw [hW2]; exact (Below.refl _ _).drew
              have HB2 := Lib.hid (below_next HB1.out hbw)
              have HO2 := Lib.hid (owns_below HO1.out hbw)
              have HBX2 := Lib.hid ((hbw.block wr.heap.size (lt_of_block HBX.out)).trans HBX.out)
              clear hW2 hbw HBX
              have c0 := cellH (k := 4) HBX2.out
              simp only [List.getElem?_toArray, List.getElem?_cons_succ, List.getElem?_cons_zero] at c0
              refine hld_take 0 rfl (by kernel_rfl) (by kernel_rfl) (by kernel_rfl) (fun _ _ _ h => h) rfl (by go_simp) (by intro w' hw'; go_simp; rfl) ?_
              simp only [Act.put, List.setIfInBounds_toArray, List.set_cons_succ, List.set_cons_zero]
              refine hld_take 1 rfl (by kernel_rfl) (by kernel_rfl) (by kernel_rfl) (fun _ _ _ h => h) rfl (by go_simp) (by intro w' hw'; go_simp; rfl) ?_
              simp only [Act.put, List.setIfInBounds_toArray, List.set_cons_succ, List.set_cons_zero]
              refine hld_take 2 rfl (by kernel_rfl) (by kernel_rfl) (by kernel_rfl) (fun _ _ _ h => h) rfl (by go_simp) (by intro w' hw'; go_simp; rfl) ?_
              simp only [Act.put, List.setIfInBounds_toArray, List.set_cons_succ, List.set_cons_zero]
              refine hld_take 3 rfl (by kernel_rfl) (by kernel_rfl) (by kernel_rfl) (fun _ _ _ h => h) rfl (by go_simp) (by intro w' hw'; go_simp; rfl) ?_
              simp only [Act.put, List.setIfInBounds_toArray, List.set_cons_succ, List.set_cons_zero]
              refine hld_take 4 rfl (by kernel_rfl) (by kernel_rfl) (by kernel_rfl) (fun _ _ _ h => h) rfl (by go_simp) (by intro w' hw'; go_simp; rfl) ?_
              simp only [Act.put, List.setIfInBounds_toArray, List.set_cons_succ, List.set_cons_zero]
              refine hld_take 7 rfl (by kernel_rfl) (by kernel_rfl) (by kernel_rfl) (fun _ _ _ h => h) rfl (by go_simp) (by intro w' hw'; go_simp; rfl) ?_
              simp only [Act.put, List.setIfInBounds_toArray, List.set_cons_succ, List.set_cons_zero]
              refine hld_take 8 rfl (by kernel_rfl) (by kernel_rfl) (by kernel_rfl) (fun _ _ _ h => h) rfl (by go_simp) (by intro w' hw'; go_simp; rfl) ?_
              simp only [Act.put, List.setIfInBounds_toArray, List.set_cons_succ, List.set_cons_zero]
              refine hld_bar 5 rfl (by kernel_rfl) rfl (fun K hK => ?_)
              go_wp2_with (go_at_call 51; refine (encNumber_any s.size _ (by omega)).mono ?_; rintro e w1 ⟨nv, rfl, hnv, hb1⟩)
              have HNV := Lib.hid hnv
              have HBL := Lib.hid (below_next HB2.out hb1)
              have HOL := Lib.hid (owns_below HO2.out hb1)
              have HBX3 := Lib.hid ((hb1.block wr.heap.size (lt_of_block HBX2.out)).trans HBX2.out)
              have hbz := HBL.out.size
              obtain ⟨_, na, nc, rfl, hnn1, hnn2, -⟩ := hnv
              have c1 := cellH (k := 4) HBX3.out
              simp only [List.getElem?_toArray, List.getElem?_cons_succ, List.getElem?_cons_zero] at c1
              clear hb1 c0
              refine ⟨c1, ?_⟩
              refine hld_bar 6 rfl (by kernel_rfl) rfl (fun K hK => ?_)
              go_wp2_with (at_builtin; go_must (refine wpList_appn Tryz.appBytes rfl _ _ rfl w.heap.size (.slice ao acc.length co) acc.length (acc.map byteV) rfl HOL.out _ (encNum s.size).length ((encNum s.size).map byteV) rfl HNV.out (bytes_one _) (by omega) hbz ?_); intro v' wc hown' hgrow')
              have HBX4 := Lib.hid ((hgrow'.block wr.heap.size (lt_of_block HBX3.out) (fun e => by have := (HO.out.lt _ e.symm).2; omega)).trans HBX3.out)
              have HBL2 := Lib.hid (below_grown HBL.out HOL.out hgrow' (Nat.le_refl _) hbz)
              have HOL2 := Lib.hid (show wc.ownsRow w.heap.size 5 1 v' (acc ++ encNum s.size).length ((acc ++ encNum s.size).map byteV) by rw [List.length_append, List.map_append]; exact hown')
              have hbz2 := HBL2.out.size
              obtain ⟨ae, ce, rfl, -, -⟩ := owns_shape hown'
              have c2 := cellH (k := 4) HBX4.out
              simp only [List.getElem?_toArray, List.getElem?_cons_succ, List.getElem?_cons_zero] at c2
              have hlen2 : (acc ++ encNum s.size).length = acc.length + (encNum s.size).length := List.length_append
              clear hown' hgrow' c1
              refine ⟨c2, ?_⟩
              refine hld_bar 9 rfl (by kernel_rfl) rfl (fun K hK => ?_)
              have hlt5 : (acc ++ encNum s.size).length + s.size < 1099511627775 := by omega
              have hvv : Value.slice ae (acc.length + (encNum s.size).length) ce = .slice ae (acc ++ encNum s.size).length ce := by rw [hlen2]
              have HVV := Lib.hid hvv
              have HLT5 := Lib.hid hlt5
              clear hlen2 hlt5 hvv
              go_wp2_with (at_builtin; go_must (refine wpList_appstr rfl _ _ rfl w.heap.size (.slice ae (acc.length + (encNum s.size).length) ce) (acc ++ encNum s.size) rfl HOL2.out s rfl HLT5.out hbz2 ?_); intro v' wd hown' hgrow')
              have HBX5 := Lib.hid ((hgrow'.block wr.heap.size (lt_of_block HBX4.out) (fun e => by
                have h1 := HOL2.out
                have h2 := (owns_cells h1 e.symm)
                obtain ⟨cs, h2⟩ := h2
                have := HBX4.out.symm.trans h2
                simp at this)).trans HBX4.out)
              have HB3 := Lib.hid (below_grown HBL2.out HOL2.out hgrow' (Nat.le_refl _) hbz2)
              have HO3 := Lib.hid (show wd.ownsRow w.heap.size 5 1 v' (acc.length + (encNum s.size ++ bl s).length) (acc.map byteV ++ (encNum s.size ++ bl s).map byteV) by
                have h1 := hown'
                rw [List.length_append, size_bl, Nat.add_assoc, ← List.length_append, List.map_append, List.append_assoc, ← List.map_append] at h1
                exact h1)
              obtain ⟨nb, hnb⟩ : ∃ nb, nb = encNum s.size ++ bl s := ⟨_, rfl⟩
              rw [← hnb] at HO3 HX HBD
              clear hnb
              obtain ⟨af, cf, rfl, -, -⟩ := owns_shape HO3.out
              have c3 := cellH (k := 4) HBX5.out
              simp only [List.getElem?_toArray, List.getElem?_cons_succ, List.getElem?_cons_zero] at c3
              clear hown' hgrow' c2
              refine ⟨c3, ?_⟩
              refine hld_take 10 rfl (by kernel_rfl) (by kernel_rfl) (by kernel_rfl) (fun _ _ _ h => h) rfl (by go_simp) (by intro w' hw'; go_simp; rfl) ?_
              simp only [Act.put, List.setIfInBounds_toArray, List.set_cons_succ, List.set_cons_zero]
              refine hld_done (by kernel_rfl) ?_
              go_wp2_with fail
              go_roundw
              case rel => exact ⟨k + 1, acc ++ nb, by omega, by go_num, by rw [HSN.out]; exact encAll_snoc HE.out HX.out, by rw [List.length_append, List.map_append]; exact HO3.out, by rw [List.length_append]; exact HBD.out, HB3.out⟩
              case measure => simp [intOf]; omega
          · by_cases h6 : kd = 6
            · subst h6
              by_cases hs32 : s.size = 32
              · have HX := Lib.hid (show enc1 ⟨6, u, n, b, s, mo⟩ = .ok (bl s) by simp [enc1, hs32])
                have HBD := Lib.hid (show acc.length + (bl s).length ≤ (k + 1) * 65556 by rw [← size_bl]; omega)
                have e1 : ((s.size : Int) != 32) = false := by simp; omega
                have hbz := HB1.out.size
                clear hs32
                go_wp2_with (at_builtin; go_must (refine wpList_appstr rfl _ _ rfl w.heap.size (.slice ao acc.length co) acc rfl HO1.out s rfl (by omega) hbz ?_); intro v' wc hown' hgrow'; have HO3 := Lib.hid (show wc.ownsRow w.heap.size 5 1 v' (acc.length + (bl s).length) (acc.map byteV ++ (bl s).map byteV) by rw [← size_bl]; exact hown'); have HB3 := Lib.hid (below_grown HB1.out HO1.out hgrow' (Nat.le_refl _) hbz); obtain ⟨ae, ce, rfl, -, -⟩ := owns_shape hown'; clear hown' hgrow')
                go_roundw
                case rel => exact ⟨k + 1, acc ++ (bl s), by omega, by go_num, by rw [HSN.out]; exact encAll_snoc HE.out HX.out, by rw [List.length_append, List.map_append]; exact HO3.out, by rw [List.length_append]; exact HBD.out, HB3.out⟩
                case measure => simp [intOf]; omega
              · have HX := Lib.hid (encAll_bad HE.out HG.out (show enc1 ⟨6, u, n, b, s, mo⟩ = .error 1 by simp [enc1, hs32]))
                have e1 : ((s.size : Int) != 32) = true := by simp; omega
                clear hs32
                go_wp2_with fail
                go_ret2
                exact ⟨HB1.out, by unfold encP; rw [HX.out]; exact ⟨rfl, by decide⟩⟩
            · by_cases h7 : kd = 7
              · subst h7
                by_cases hn0 : n < 0
                · have HX := Lib.hid (encAll_bad HE.out HG.out (show enc1 ⟨7, u, n, b, s, mo⟩ = .error 1 by simp [enc1, hn0]))
                  go_wp2_with fail
                  go_ret2
                  exact ⟨HB1.out, by unfold encP; rw [HX.out]; exact ⟨rfl, by decide⟩⟩
                · obtain ⟨m, rfl⟩ : ∃ m : Nat, n = (m : Int) := ⟨n.toNat, by omega⟩
                  have HX := Lib.hid (show enc1 ⟨7, u, (m : Int), b, s, mo⟩ = .ok (encNum m) by simp [enc1])
                  have HBD := Lib.hid (show acc.length + (encNum m).length ≤ (k + 1) * 65556 by have := encNum_len m; omega)
                  have hnl := encNum_len m
                  go_wp2_with fail
                  refine (encNumber_any m _ (by omega)).mono ?_
                  rintro e w1 ⟨nv, rfl, hnv, hb1⟩
                  have HNV := Lib.hid hnv
                  have HBL := Lib.hid (below_next HB1.out hb1)
                  have HOL := Lib.hid (owns_below HO1.out hb1)
                  have hbz := HBL.out.size
                  obtain ⟨_, na, nc, rfl, hnn1, hnn2, -⟩ := hnv
                  clear hb1 q0 q1 q2 q3 q4 q5
                  go_wp2_with (at_builtin; go_must (refine wpList_appn Tryz.appBytes rfl _ _ rfl w.heap.size (.slice ao acc.length co) acc.length (acc.map byteV) rfl HOL.out _ (encNum m).length ((encNum m).map byteV) rfl HNV.out (bytes_one _) (by omega) hbz ?_); intro v' wc hown' hgrow'; have HO3 := Lib.hid hown'; have HB3 := Lib.hid (below_grown HBL.out HOL.out hgrow' (Nat.le_refl _) hbz); obtain ⟨ae, ce, rfl, -, -⟩ := owns_shape hown'; clear hown' hgrow')
                  go_roundw
                  case rel => exact ⟨k + 1, acc ++ (encNum m), by omega, by go_num, by rw [HSN.out]; exact encAll_snoc HE.out HX.out, by rw [List.length_append, List.map_append]; exact HO3.out, by rw [List.length_append]; exact HBD.out, HB3.out⟩
                  case measure => simp [intOf]; omega
              · have HX := Lib.hid (show enc1 ⟨kd, u, n, b, s, mo⟩ = .ok [] by simp only [enc1, if_neg h1, if_neg h3, if_neg h4, if_neg h6, if_neg h7])
                have HBD := Lib.hid (show acc.length + ([] : List UInt8).length ≤ (k + 1) * 65556 from Nat.le_trans hal (Nat.mul_le_mul_right _ (Nat.le_succ k)))
                have h4a : ¬ kd = 4 := fun e => h4 (.inl e)
                have h5a : ¬ kd = 5 := fun e => h4 (.inr e)
                have e1 : (kd == 1) = false := by simpa using h1
                have e2 : (kd == 2) = false := by simpa using hk2
                have e3 : (kd == 3) = false := by simpa using h3
                have e4 : (kd == 4) = false := by simpa using h4a
                have e5 : (kd == 5) = false := by simpa using h5a
                have e6 : (kd == 6) = false := by simpa using h6
                have e7 : (kd == 7) = false := by simpa using h7
                have HO3 := Lib.hid (show World.ownsRow (wr.alloc (.cells #[.int .i64 kd, .int .u64 (u : Int), .int .i64 n, .bool b, .string s, .int .i64 mo] 91)) w.heap.size 5 1 (.slice ao acc.length co) (acc.length + ([] : List UInt8).length) (acc.map byteV ++ ([] : List UInt8).map byteV) by simpa using HO1.out)
                have HB3 := HB1
                clear h1 h3 h4 h6 h7 hk2 h4a h5a
                go_wp2_with fail
                go_roundw
                case rel => exact ⟨k + 1, acc ++ ([] : List UInt8), by omega, by go_num, by rw [HSN.out]; exact encAll_snoc HE.out HX.out, by rw [List.length_append, List.map_append]; exact HO3.out, by rw [List.length_append]; exact HBD.out, HB3.out⟩
                case measure => simp [intOf]; omega
    · obtain rfl : k = l.length := by omega
      have HEL := Lib.hid (show encAll l = .ok acc by have := HE.out; rwa [List.take_of_length_le (Nat.le_refl _)] at this)
      by_cases hbig : 1048576 < acc.length
      · have HX := Lib.hid (show encP l = .error 2 by unfold encP; rw [HEL.out]; simp only [if_pos hbig])
        go_wp2_with fail
        go_ret2
        exact ⟨HB.out, by rw [HX.out]; exact ⟨rfl, by decide⟩⟩
      · have HX := Lib.hid (show encP l = .ok acc by unfold encP; rw [HEL.out]; simp only [if_neg hbig])
        go_wp2_with fail
        go_ret2
        exact ⟨HB.out, by rw [HX.out]; exact ⟨_, rfl, (row_of_owns HO.out).weak (fun k hk => hk.1)⟩⟩

end Go.Proofs.YtndgmcggckpgfaaGreatDoor

/- Contracts of the reference of package manifest: number, reference, Node. -/
namespace Go.Proofs.YtndgmcggckpgfaaGreatDoor
open Go.RowKit


def rvV (x : RVal) : Value := .agg #[.int .i64 x.kind, .int .u64 (x.u : Int), .int .i64 x.n, .bool x.b, .string x.s, .int .i64 x.most]
def numV (n : Int) : RVal := ⟨1, (n % 18446744073709551616).toNat, 0, false, ⟨#[]⟩, 0⟩
def sumV (s : ByteArray) : RVal := ⟨6, 0, 0, false, s, 0⟩
def textV (s : ByteArray) : RVal := ⟨5, 0, 0, false, s, 0⟩
def countV (n : Nat) : RVal := ⟨7, 0, (n : Int), false, ⟨#[]⟩, 0⟩
def refVals (r : Ref) : List RVal := [sumV r.name, numV r.gen, numV r.size]
theorem numV_ok (n : Int) : RvOk (numV n) := ⟨by simp only [numV]; omega, by simp [numV], by simp only [numV]; decide, by simp [numV]⟩
theorem sumV_ok {s : ByteArray} (h : s.size ≤ 65536) : RvOk (sumV s) := ⟨by simp [sumV], by simp [sumV], h, by simp [sumV]⟩
theorem textV_ok {s : ByteArray} (h : s.size ≤ 65536) : RvOk (textV s) := ⟨by simp [textV], by simp [textV], h, by simp [textV]⟩
theorem countV_ok {n : Nat} (h : n ≤ 1000000) : RvOk (countV n) := ⟨by simp [countV], by simp only [countV]; omega, by simp only [countV]; decide, by simp [countV]⟩
theorem refVals_ok {r : Ref} (h : r.name.size ≤ 65536) : ∀ x ∈ refVals r, RvOk x := by
  intro x hx
  simp only [refVals, List.mem_cons, List.not_mem_nil, or_false] at hx
  rcases hx with rfl | rfl | rfl
  · exact sumV_ok h
  · exact numV_ok _
  · exact numV_ok _
theorem rv_rows : ∀ {l : List RVal}, (∀ x ∈ l, RvOk x) → RowsIn RvR (l.flatMap rvC) l
  | [], _ => rfl
  | x :: l, h => ⟨rvC x, l.flatMap rvC, rfl, ⟨rfl, h x (by simp)⟩, rv_rows (fun y hy => h y (by simp [hy]))⟩
theorem wrap_u64 (n : Int) : IntKind.u64.wrap n = ((n % 18446744073709551616).toNat : Int) := by rw [IntKind.wrap_u64]; omega
set_option maxRecDepth 100000 in
set_option maxHeartbeats 1000000 in
theorem number24_any (n : Int) (w : World) : Calls Tryz.prog 43 #[.int .i64 n] w fun e w' => e = .returned (rvV (numV n)) ∧ Below w.heap.size w w' := by
  have hw := wrap_u64 n
  obtain ⟨m, hm⟩ : ∃ m : Nat, m = (n % 18446744073709551616).toNat := ⟨_, rfl⟩
  have hnv : numV n = ⟨1, m, 0, false, ⟨#[]⟩, 0⟩ := by rw [hm]; rfl
  rw [← hm] at hw
  have HN := Lib.hid hnv
  clear hm hnv
  go_enter Tryz.func43, Tryz.ntmps43
  go_wp2_with fail
  exact bodyPost_ret (v := .agg #[.int .i64 1, .int .u64 (m : Int), .int .i64 0, .bool false, .string ⟨#[]⟩, .int .i64 0]) (by simp [results, Tryz.results43, go_sem]) rfl ⟨by rw [HN.out]; rfl, (Below.refl _ _).alloc (Nat.le_refl _) _⟩
def RvsNew (l : List RVal) (w : World) (e : Ending) (w' : World) : Prop := ∃ v, e = .returned v ∧ RvsAt (w.heap.size ≤ ·) w' v l ∧ Below w.heap.size w w'
set_option maxRecDepth 100000 in
set_option maxHeartbeats 2000000 in
theorem reference24_any (r : Ref) (w : World) (hs : r.name.size ≤ 65536) : Calls Tryz.prog 44 #[refV r] w (RvsNew (refVals r) w) := by
  have HB := Lib.hid ((Below.refl w.heap.size w).alloc (Nat.le_refl _) (.cells #[.string r.name, .int .i64 r.gen, .int .i64 r.size] 43))
  have HBX := Lib.hid (heap_alloc_new w (.cells #[.string r.name, .int .i64 r.gen, .int .i64 r.size] 43))
  have HOK := Lib.hid (refVals_ok hs)
  unfold refV
  clear hs
  go_enter Tryz.func44, Tryz.ntmps44
  go_wp2_with fail
  refine hld_start (fun w' => w'.cell? ⟨w.heap.size, 0, none⟩ = some (.string r.name) ∧ w'.cell? ⟨w.heap.size, 1, none⟩ = some (.int .i64 r.gen) ∧ w'.cell? ⟨w.heap.size, 2, none⟩ = some (.int .i64 r.size)) (by kernel_rfl) ?_
  obtain ⟨W, hW⟩ : ∃ W : World, W = (w.alloc (.cells #[.string r.name, .int .i64 r.gen, .int .i64 r.size] 43)).drew := ⟨_, rfl⟩
  rw [← hW]
  have HB1 := Lib.hid (show Below w.heap.size w W by rw [hW]; exact HB.out.drew)
  have HBX1 := Lib.hid (show W.heap[w.heap.size]? = some (.cells #[.string r.name, .int .i64 r.gen, .int .i64 r.size] 43 (0, 0)) by rw [hW]; exact HBX.out)
  clear hW HB HBX
  have c0 := cellH (k := 0) HBX1.out
  have c1 := cellH (k := 1) HBX1.out
  have c2 := cellH (k := 2) HBX1.out
  simp only [List.getElem?_toArray, List.getElem?_cons_succ, List.getElem?_cons_zero] at c0 c1 c2
  refine hld_take 0 rfl (by kernel_rfl) (by kernel_rfl) (by kernel_rfl) (fun _ _ _ h => h) rfl (by go_simp) (by rintro w' ⟨hw1, hw2, hw3⟩; go_simp; rfl) ?_
  simp only [Act.put, List.setIfInBounds_toArray, List.set_cons_succ, List.set_cons_zero]
  refine hld_take 1 rfl (by kernel_rfl) (by kernel_rfl) (by kernel_rfl) (fun _ _ _ h => h) rfl (by go_simp) (by rintro w' ⟨hw1, hw2, hw3⟩; go_simp; rfl) ?_
  simp only [Act.put, List.setIfInBounds_toArray, List.set_cons_succ, List.set_cons_zero]
  refine hld_take 2 rfl (by kernel_rfl) (by kernel_rfl) (by kernel_rfl) (fun _ _ _ h => h) rfl (by go_simp) (by rintro w' ⟨hw1, hw2, hw3⟩; go_simp; rfl) ?_
  simp only [Act.put, List.setIfInBounds_toArray, List.set_cons_succ, List.set_cons_zero]
  refine hld_take 3 rfl (by kernel_rfl) (by kernel_rfl) (by kernel_rfl) (fun _ _ _ h => h) rfl (by go_simp) (by rintro w' ⟨hw1, hw2, hw3⟩; go_simp; rfl) ?_
  simp only [Act.put, List.setIfInBounds_toArray, List.set_cons_succ, List.set_cons_zero]
  refine hld_take 4 rfl (by kernel_rfl) (by kernel_rfl) (by kernel_rfl) (fun _ _ _ h => h) rfl (by go_simp) (by rintro w' ⟨hw1, hw2, hw3⟩; go_simp; rfl) ?_
  simp only [Act.put, List.setIfInBounds_toArray, List.set_cons_succ, List.set_cons_zero]
  refine hld_take 6 rfl (by kernel_rfl) (by kernel_rfl) (by kernel_rfl) (fun _ _ _ h => h) rfl (by go_simp) (by rintro w' ⟨hw1, hw2, hw3⟩; go_simp; rfl) ?_
  simp only [Act.put, List.setIfInBounds_toArray, List.set_cons_succ, List.set_cons_zero]
  refine hld_take 7 rfl (by kernel_rfl) (by kernel_rfl) (by kernel_rfl) (fun _ _ _ h => h) rfl (by go_simp) (by rintro w' ⟨hw1, hw2, hw3⟩; go_simp; rfl) ?_
  simp only [Act.put, List.setIfInBounds_toArray, List.set_cons_succ, List.set_cons_zero]
  refine hld_bar 5 rfl (by kernel_rfl) rfl (fun K hK => ?_)
  go_wp2_with (go_at_call 43; refine (number24_any r.gen _).mono ?_; rintro e w1 ⟨rfl, hb1⟩)
  have HB2 := Lib.hid (below_next HB1.out hb1)
  have HBX2 := Lib.hid ((hb1.block w.heap.size (lt_of_block HBX1.out)).trans HBX1.out)
  clear hb1 c0 c1 c2
  have c0 := cellH (k := 0) HBX2.out
  have c1 := cellH (k := 1) HBX2.out
  have c2 := cellH (k := 2) HBX2.out
  simp only [List.getElem?_toArray, List.getElem?_cons_succ, List.getElem?_cons_zero] at c0 c1 c2
  refine ⟨⟨c0, c1, c2⟩, ?_⟩
  refine hld_bar 8 rfl (by kernel_rfl) rfl (fun K hK => ?_)
  go_wp2_with (go_at_call 43; refine (number24_any r.size _).mono ?_; rintro e w2 ⟨rfl, hb2⟩)
  have HB3 := Lib.hid (below_next HB2.out hb2)
  have HBX3 := Lib.hid ((hb2.block w.heap.size (lt_of_block HBX2.out)).trans HBX2.out)
  clear hb2 c0 c1 c2
  have c0 := cellH (k := 0) HBX3.out
  have c1 := cellH (k := 1) HBX3.out
  have c2 := cellH (k := 2) HBX3.out
  simp only [List.getElem?_toArray, List.getElem?_cons_succ, List.getElem?_cons_zero] at c0 c1 c2
  refine ⟨⟨c0, c1, c2⟩, ?_⟩
  refine hld_bar 9 rfl (by kernel_rfl) rfl (fun K hK => ?_)
  unfold rvV
  go_wp2_with fail
  have hlt := lt_of_block HBX3.out
  have hcells : (#[Value.int .i64 6, .int .u64 0, .int .i64 0, .bool false, .string r.name, .int .i64 0, .int .i64 (numV r.gen).kind, .int .u64 (numV r.gen).u, .int .i64 (numV r.gen).n, .bool (numV r.gen).b, .string (numV r.gen).s, .int .i64 (numV r.gen).most, .int .i64 (numV r.size).kind, .int .u64 (numV r.size).u, .int .i64 (numV r.size).n, .bool (numV r.size).b, .string (numV r.size).s, .int .i64 (numV r.size).most] : Array Value) = ((refVals r).flatMap rvC).toArray := rfl
  rw [hcells]
  obtain ⟨w3, hw3⟩ : ∃ w3 : World, w3 = w2.alloc (.cells ((refVals r).flatMap rvC).toArray 91) := ⟨_, rfl⟩
  have HAL := Lib.hid (show Below w2.heap.size w2 w3 by rw [hw3]; exact (Below.refl _ _).alloc (Nat.le_refl _) _)
  have HR := Lib.hid (show RvsAt (w.heap.size ≤ ·) w3 (.slice (some ⟨w2.heap.size, 0, none⟩) 3 3) (refVals r) by
    have h1 := row_of_owns (World.ownsRow_lit (base := w2.heap.size) (e := 91) (size := 6) w2 ((refVals r).flatMap rvC).toArray 3 (Nat.le_refl _) (by unfold maxLen; omega) rfl)
    rw [hw3]
    exact ⟨_, h1.weak (fun k hk => Nat.le_trans HB3.out.size hk.1), rv_rows HOK.out⟩)
  rw [← hw3]
  clear hw3 hcells
  refine ⟨⟨(HAL.out.cell hlt).trans c0, (HAL.out.cell hlt).trans c1, (HAL.out.cell hlt).trans c2⟩, ?_⟩
  refine hld_take 10 rfl (by kernel_rfl) (by kernel_rfl) (by kernel_rfl) (fun _ _ _ h => h) rfl ⟨(HAL.out.cell hlt).trans c0, (HAL.out.cell hlt).trans c1, (HAL.out.cell hlt).trans c2⟩ (by rintro w' ⟨hw1, hw2, hw3⟩; go_simp; rfl) ?_
  simp only [Act.put, List.setIfInBounds_toArray, List.set_cons_succ, List.set_cons_zero]
  refine hld_done (by kernel_rfl) ?_
  go_wp2_with fail
  go_ret
  exact ⟨_, rfl, HR.out, below_next HB3.out HAL.out⟩

end Go.Proofs.YtndgmcggckpgfaaGreatDoor

/- Contracts of the reference's read. -/
namespace Go.Proofs.YtndgmcggckpgfaaGreatDoor
open Go.RowKit



/-- What read gives back. -/
def ReadRes {α : Type} (z : RVal) (val : α → RVal) (off : Nat) (r : Except Int (α × Nat)) (w : World) (e : Ending) (w' : World) : Prop :=
  (match r with
    | .ok (x, o) => e = .returned (.tuple #[rvV (val x), .int .i64 (o : Int), .int .i64 0])
    | .error y => e = .returned (.tuple #[rvV z, .int .i64 (off : Int), .int .i64 y])) ∧ Below w.heap.size w w'
theorem number01_is (S : Nat → Prop) (v : Value) (data : List UInt8) (off : Nat) (w : World) (hv : BytesAt S w v data) (hoff : off ≤ data.length) (hsm : data.length ≤ 32768) (r : Except Int (Nat × Nat)) (hr : numE data off = r) :
    Calls Tryz.prog 92 #[v, .int .i64 (off : Int)] w fun e w' => e = .returned (NumRes r) ∧ Below w.heap.size w w' := by
  rw [← hr, numE_ref data off hoff]; exact number01_any S v data off w hv hoff hsm
theorem alloc_new (w : World) (x : Obj) : (w.alloc x).heap[w.heap.size]? = some x := by show (w.heap.push x)[w.heap.size]? = some x; simp
theorem alloc_new2 (w : World) (x y : Obj) : ((w.alloc x).alloc y).heap[w.heap.size + 1]? = some y := by
  have := alloc_new (w.alloc x) y
  rwa [show (w.alloc x).heap.size = w.heap.size + 1 by show (w.heap.push x).size = _; simp] at this
theorem set6 {w : World} {b : Nat} {a0 a1 a2 a3 a4 a5 x0 x1 x2 x3 x4 x5 : Value} {t : TypeId} (h : w.heap[b]? = some (.cells #[a0, a1, a2, a3, a4, a5] t (0, 0))) :
    ((((((w.setCell ⟨b, 0, none⟩ x0).setCell ⟨b, 1, none⟩ x1).setCell ⟨b, 2, none⟩ x2).setCell ⟨b, 3, none⟩ x3).setCell ⟨b, 4, none⟩ x4).setCell ⟨b, 5, none⟩ x5).heap[b]? = some (.cells #[x0, x1, x2, x3, x4, x5] t (0, 0)) :=
  setH (setH (setH (setH (setH (setH h x0) x1) x2) x3) x4) x5
set_option maxHeartbeats 1000000 in
theorem read_res {a : Act} {w : World} {b : Nat} {x0 x1 x2 x3 x4 x5 e9 e10 : Value} (h : w.heap[b]? = some (.cells #[x0, x1, x2, x3, x4, x5] 91 (0, 0)))
    (h8 : a.tmps[8]? = some (.pointer (some ⟨b, 0, none⟩))) (h9 : a.tmps[9]? = some e9) (h10 : a.tmps[10]? = some e10) : (results Tryz.f81 a.tmps).run Tryz.prog w = .ok (.tuple #[.agg #[x0, x1, x2, x3, x4, x5], e9, e10]) w := by
  have m0 := cellH (k := 0) h
  have m1 := cellH (k := 1) h
  have m2 := cellH (k := 2) h
  have m3 := cellH (k := 3) h
  have m4 := cellH (k := 4) h
  have m5 := cellH (k := 5) h
  simp only [List.getElem?_toArray, List.getElem?_cons_succ, List.getElem?_cons_zero] at m0 m1 m2 m3 m4 m5
  simp [results, Tryz.results81, go_sem, h8, h9, h10, m0, m1, m2, m3, m4, m5]
theorem read_end {a : Act} {w : World} {b : Nat} {a0 a1 a2 a3 a4 a5 x0 x1 x2 x3 x4 x5 e9 e10 : Value} {Q : Ending → World → Prop} (h : w.heap[b]? = some (.cells #[a0, a1, a2, a3, a4, a5] 91 (0, 0)))
    (h8 : a.tmps[8]? = some (.pointer (some ⟨b, 0, none⟩))) (h9 : a.tmps[9]? = some e9) (h10 : a.tmps[10]? = some e10) (hd : a.defers = [])
    (hQ : Q (.returned (.tuple #[.agg #[x0, x1, x2, x3, x4, x5], e9, e10])) ((((((w.setCell ⟨b, 0, none⟩ x0).setCell ⟨b, 1, none⟩ x1).setCell ⟨b, 2, none⟩ x2).setCell ⟨b, 3, none⟩ x3).setCell ⟨b, 4, none⟩ x4).setCell ⟨b, 5, none⟩ x5)) :
    bodyPost Tryz.prog Tryz.f81 Q Exit.ret a ((((((w.setCell ⟨b, 0, none⟩ x0).setCell ⟨b, 1, none⟩ x1).setCell ⟨b, 2, none⟩ x2).setCell ⟨b, 3, none⟩ x3).setCell ⟨b, 4, none⟩ x4).setCell ⟨b, 5, none⟩ x5) :=
  bodyPost_ret (read_res (set6 h) h8 h9 h10) hd hQ
theorem below_set' {B : Nat} {a w : World} {b k : Nat} {x : Value} (h : Below B a w) (hb : B ≤ b) : Below B a (w.setCell ⟨b, k, none⟩ x) := Below.setCell h hb x
set_option maxRecDepth 100000 in
set_option maxHeartbeats 600000 in
theorem read1_any (S : Nat → Prop) (v : Value) (data : List UInt8) (off : Nat) (w : World) (hv : BytesAt S w v data) (hoff : off ≤ data.length) (hsm : data.length ≤ 32768) :
    Calls Tryz.prog 81 #[v, .int .i64 (off : Int), .int .i64 1, .int .i64 0] w (ReadRes ⟨1, 0, 0, false, ⟨#[]⟩, 0⟩ (fun n => ⟨1, n, 0, false, ⟨#[]⟩, 0⟩) off (numE data off) w) := by
  cases hnum : numE data off with
  | error y =>
    obtain rfl := numE_err hnum
    have HV := Lib.hid hv
    obtain ⟨_, a, cap, rfl, hc, hm, -⟩ := hv
    unfold maxLen at hm
    go_enter Tryz.func81, Tryz.ntmps81
    go_wp2_with fail
    obtain ⟨W, hW⟩ : ∃ W : World, W = (w.alloc (.cells #[.int .i64 0, .int .u64 0, .int .i64 0, .bool false, .string ⟨#[]⟩, .int .i64 0] 91)).alloc (.cells #[.int .i64 1, .int .u64 0, .int .i64 0, .bool false, .string ⟨#[]⟩, .int .i64 0] 91) := ⟨_, rfl⟩
    rw [← hW]
    have HB0 := Lib.hid (show Below w.heap.size w W by rw [hW]; exact ((Below.refl _ _).alloc (Nat.le_refl _) _).alloc (by simp) _)
    have hz8 : W.heap[w.heap.size]? = some (.cells #[.int .i64 0, .int .u64 0, .int .i64 0, .bool false, .string ⟨#[]⟩, .int .i64 0] 91 (0, 0)) := by rw [hW]; exact allocH (alloc_new _ _) _
    have hz11 : W.heap[w.heap.size + 1]? = some (.cells #[.int .i64 1, .int .u64 0, .int .i64 0, .bool false, .string ⟨#[]⟩, .int .i64 0] 91 (0, 0)) := by rw [hW]; exact alloc_new2 _ _ _
    refine (number01_is S _ data off W (HV.out.below (Nat.le_refl _) HB0.out) hoff hsm _ hnum).mono ?_
    rintro e w1 ⟨he, hb1⟩
    simp only [NumRes] at he
    subst he
    have HB1 := Lib.hid (below_next HB0.out hb1)
    have HX8 := Lib.hid ((hb1.block w.heap.size (lt_of_block hz8)).trans hz8)
    have HX11 := Lib.hid ((hb1.block (w.heap.size + 1) (lt_of_block hz11)).trans hz11)
    have HZ1 := Lib.hid (lt_of_block hz11)
    clear hz8 hz11 hW HB0 hb1
    have q0 := cellH (k := 0) HX11.out
    have q1 := cellH (k := 1) HX11.out
    have q2 := cellH (k := 2) HX11.out
    have q3 := cellH (k := 3) HX11.out
    have q4 := cellH (k := 4) HX11.out
    have q5 := cellH (k := 5) HX11.out
    simp only [List.getElem?_toArray, List.getElem?_cons_succ, List.getElem?_cons_zero] at q0 q1 q2 q3 q4 q5
    have m0 := cellH (k := 0) HX8.out
    have m1 := cellH (k := 1) HX8.out
    have m2 := cellH (k := 2) HX8.out
    have m3 := cellH (k := 3) HX8.out
    have m4 := cellH (k := 4) HX8.out
    have m5 := cellH (k := 5) HX8.out
    simp only [List.getElem?_toArray, List.getElem?_cons_succ, List.getElem?_cons_zero] at m0 m1 m2 m3 m4 m5
    have g1 := frozenH (k := 1) HX11.out
    have g2 := frozenH (k := 2) HX11.out
    have g4 := frozenH (k := 4) HX11.out
    have p0 := frozenH (k := 0) HX8.out
    have p1 := frozenH (k := 1) HX8.out
    have p2 := frozenH (k := 2) HX8.out
    have p3 := frozenH (k := 3) HX8.out
    have p4 := frozenH (k := 4) HX8.out
    have p5 := frozenH (k := 5) HX8.out
    go_wp2_with fail
    refine read_end (b := w.heap.size) (e9 := .int .i64 (off : Int)) (e10 := .int .i64 3) (HX8.out) (by kernel_rfl) (by kernel_rfl) (by kernel_rfl) (by kernel_rfl) (And.intro (by exact rfl) ?_)
    repeat refine below_set' ?_ (by omega)
    exact HB1.out
  | ok p =>
    obtain ⟨n, o⟩ := p
    have hsp := numE_spec hnum
    have HV := Lib.hid hv
    obtain ⟨_, a, cap, rfl, hc, hm, -⟩ := hv
    unfold maxLen at hm
    go_enter Tryz.func81, Tryz.ntmps81
    go_wp2_with fail
    obtain ⟨W, hW⟩ : ∃ W : World, W = (w.alloc (.cells #[.int .i64 0, .int .u64 0, .int .i64 0, .bool false, .string ⟨#[]⟩, .int .i64 0] 91)).alloc (.cells #[.int .i64 1, .int .u64 0, .int .i64 0, .bool false, .string ⟨#[]⟩, .int .i64 0] 91) := ⟨_, rfl⟩
    rw [← hW]
    have HB0 := Lib.hid (show Below w.heap.size w W by rw [hW]; exact ((Below.refl _ _).alloc (Nat.le_refl _) _).alloc (by simp) _)
    have hz8 : W.heap[w.heap.size]? = some (.cells #[.int .i64 0, .int .u64 0, .int .i64 0, .bool false, .string ⟨#[]⟩, .int .i64 0] 91 (0, 0)) := by rw [hW]; exact allocH (alloc_new _ _) _
    have hz11 : W.heap[w.heap.size + 1]? = some (.cells #[.int .i64 1, .int .u64 0, .int .i64 0, .bool false, .string ⟨#[]⟩, .int .i64 0] 91 (0, 0)) := by rw [hW]; exact alloc_new2 _ _ _
    refine (number01_is S _ data off W (HV.out.below (Nat.le_refl _) HB0.out) hoff hsm _ hnum).mono ?_
    rintro e w1 ⟨he, hb1⟩
    simp only [NumRes] at he
    subst he
    have HB1 := Lib.hid (below_next HB0.out hb1)
    have HX8 := Lib.hid ((hb1.block w.heap.size (lt_of_block hz8)).trans hz8)
    have HX11 := Lib.hid ((hb1.block (w.heap.size + 1) (lt_of_block hz11)).trans hz11)
    have HZ1 := Lib.hid (lt_of_block hz11)
    clear hz8 hz11 hW HB0 hb1
    have q0 := cellH (k := 0) HX11.out
    have q1 := cellH (k := 1) HX11.out
    have q2 := cellH (k := 2) HX11.out
    have q3 := cellH (k := 3) HX11.out
    have q4 := cellH (k := 4) HX11.out
    have q5 := cellH (k := 5) HX11.out
    simp only [List.getElem?_toArray, List.getElem?_cons_succ, List.getElem?_cons_zero] at q0 q1 q2 q3 q4 q5
    have m0 := cellH (k := 0) HX8.out
    have m1 := cellH (k := 1) HX8.out
    have m2 := cellH (k := 2) HX8.out
    have m3 := cellH (k := 3) HX8.out
    have m4 := cellH (k := 4) HX8.out
    have m5 := cellH (k := 5) HX8.out
    simp only [List.getElem?_toArray, List.getElem?_cons_succ, List.getElem?_cons_zero] at m0 m1 m2 m3 m4 m5
    have g1 := frozenH (k := 1) HX11.out
    have g2 := frozenH (k := 2) HX11.out
    have g4 := frozenH (k := 4) HX11.out
    have p0 := frozenH (k := 0) HX8.out
    have p1 := frozenH (k := 1) HX8.out
    have p2 := frozenH (k := 2) HX8.out
    have p3 := frozenH (k := 3) HX8.out
    have p4 := frozenH (k := 4) HX8.out
    have p5 := frozenH (k := 5) HX8.out
    go_wp2_with fail
    refine read_end (b := w.heap.size) (e9 := .int .i64 (o : Int)) (e10 := .int .i64 0) (setOtherH HX8.out (by omega) _) (by kernel_rfl) (by kernel_rfl) (by kernel_rfl) (by kernel_rfl) (And.intro (by exact rfl) ?_)
    repeat refine below_set' ?_ (by omega)
    exact HB1.out

theorem limE_bad {data : List UInt8} {off most : Nat} {y : Int} (h : numE data off = .error y) : limE data off most = .error y := by unfold limE; rw [h]
theorem limE_over {data : List UInt8} {off most n o : Nat} (h : numE data off = .ok (n, o)) (hn : most < n) : limE data off most = .error 2 := by unfold limE; rw [h]; simp only [if_pos hn]
theorem limE_in {data : List UInt8} {off most n o : Nat} (h : numE data off = .ok (n, o)) (hn : ¬ most < n) : limE data off most = .ok (n, o) := by unfold limE; rw [h]; simp only [if_neg hn]
set_option maxRecDepth 100000 in
set_option maxHeartbeats 1000000 in
theorem read7_any (S : Nat → Prop) (v : Value) (data : List UInt8) (off most : Nat) (w : World) (hv : BytesAt S w v data) (hoff : off ≤ data.length) (hsm : data.length ≤ 32768) (hmost : most ≤ 32768) :
    Calls Tryz.prog 81 #[v, .int .i64 (off : Int), .int .i64 7, .int .i64 (most : Int)] w (ReadRes ⟨7, 0, 0, false, ⟨#[]⟩, most⟩ (fun n : Nat => ⟨7, 0, (n : Int), false, ⟨#[]⟩, most⟩) off (limE data off most) w) := by
  cases hnum : numE data off with
  | error y =>
    obtain rfl := numE_err hnum
    rw [limE_bad hnum]
    have HV := Lib.hid hv
    obtain ⟨_, a, cap, rfl, hc, hm, -⟩ := hv
    unfold maxLen at hm
    go_enter Tryz.func81, Tryz.ntmps81
    go_wp2_with fail
    obtain ⟨W, hW⟩ : ∃ W : World, W = (w.alloc (.cells #[.int .i64 0, .int .u64 0, .int .i64 0, .bool false, .string ⟨#[]⟩, .int .i64 0] 91)).alloc (.cells #[.int .i64 7, .int .u64 0, .int .i64 0, .bool false, .string ⟨#[]⟩, .int .i64 (most : Int)] 91) := ⟨_, rfl⟩
    rw [← hW]
    have HB0 := Lib.hid (show Below w.heap.size w W by rw [hW]; exact ((Below.refl _ _).alloc (Nat.le_refl _) _).alloc (by simp) _)
    have hz8 : W.heap[w.heap.size]? = some (.cells #[.int .i64 0, .int .u64 0, .int .i64 0, .bool false, .string ⟨#[]⟩, .int .i64 0] 91 (0, 0)) := by rw [hW]; exact allocH (alloc_new _ _) _
    have hz11 : W.heap[w.heap.size + 1]? = some (.cells #[.int .i64 7, .int .u64 0, .int .i64 0, .bool false, .string ⟨#[]⟩, .int .i64 (most : Int)] 91 (0, 0)) := by rw [hW]; exact alloc_new2 _ _ _
    refine (number01_is S _ data off W (HV.out.below (Nat.le_refl _) HB0.out) hoff hsm _ hnum).mono ?_
    rintro e w1 ⟨he, hb1⟩
    simp only [NumRes] at he
    subst he
    have HB1 := Lib.hid (below_next HB0.out hb1)
    have HX8 := Lib.hid ((hb1.block w.heap.size (lt_of_block hz8)).trans hz8)
    have HX11 := Lib.hid ((hb1.block (w.heap.size + 1) (lt_of_block hz11)).trans hz11)
    have HZ1 := Lib.hid (lt_of_block hz11)
    clear hz8 hz11 hW HB0 hb1
    have q0 := cellH (k := 0) HX11.out
    have q1 := cellH (k := 1) HX11.out
    have q2 := cellH (k := 2) HX11.out
    have q3 := cellH (k := 3) HX11.out
    have q4 := cellH (k := 4) HX11.out
    have q5 := cellH (k := 5) HX11.out
    simp only [List.getElem?_toArray, List.getElem?_cons_succ, List.getElem?_cons_zero] at q0 q1 q2 q3 q4 q5
    have m0 := cellH (k := 0) HX8.out
    have m1 := cellH (k := 1) HX8.out
    have m2 := cellH (k := 2) HX8.out
    have m3 := cellH (k := 3) HX8.out
    have m4 := cellH (k := 4) HX8.out
    have m5 := cellH (k := 5) HX8.out
    simp only [List.getElem?_toArray, List.getElem?_cons_succ, List.getElem?_cons_zero] at m0 m1 m2 m3 m4 m5
    have g1 := frozenH (k := 1) HX11.out
    have g2 := frozenH (k := 2) HX11.out
    have g4 := frozenH (k := 4) HX11.out
    have p0 := frozenH (k := 0) HX8.out
    have p1 := frozenH (k := 1) HX8.out
    have p2 := frozenH (k := 2) HX8.out
    have p3 := frozenH (k := 3) HX8.out
    have p4 := frozenH (k := 4) HX8.out
    have p5 := frozenH (k := 5) HX8.out
    go_wp2_with fail
    refine read_end (b := w.heap.size) (e9 := .int .i64 (off : Int)) (e10 := .int .i64 3) (HX8.out) (by kernel_rfl) (by kernel_rfl) (by kernel_rfl) (by kernel_rfl) (And.intro (by exact rfl) ?_)
    repeat refine below_set' ?_ (by omega)
    exact HB1.out
  | ok p =>
    obtain ⟨n, o⟩ := p
    have hsp := numE_spec hnum
    by_cases hn : most < n
    · rw [limE_over hnum hn]
      have HV := Lib.hid hv
      obtain ⟨_, a, cap, rfl, hc, hm, -⟩ := hv
      unfold maxLen at hm
      go_enter Tryz.func81, Tryz.ntmps81
      go_wp2_with fail
      obtain ⟨W, hW⟩ : ∃ W : World, W = (w.alloc (.cells #[.int .i64 0, .int .u64 0, .int .i64 0, .bool false, .string ⟨#[]⟩, .int .i64 0] 91)).alloc (.cells #[.int .i64 7, .int .u64 0, .int .i64 0, .bool false, .string ⟨#[]⟩, .int .i64 (most : Int)] 91) := ⟨_, rfl⟩
      rw [← hW]
      have HB0 := Lib.hid (show Below w.heap.size w W by rw [hW]; exact ((Below.refl _ _).alloc (Nat.le_refl _) _).alloc (by simp) _)
      have hz8 : W.heap[w.heap.size]? = some (.cells #[.int .i64 0, .int .u64 0, .int .i64 0, .bool false, .string ⟨#[]⟩, .int .i64 0] 91 (0, 0)) := by rw [hW]; exact allocH (alloc_new _ _) _
      have hz11 : W.heap[w.heap.size + 1]? = some (.cells #[.int .i64 7, .int .u64 0, .int .i64 0, .bool false, .string ⟨#[]⟩, .int .i64 (most : Int)] 91 (0, 0)) := by rw [hW]; exact alloc_new2 _ _ _
      refine (number01_is S _ data off W (HV.out.below (Nat.le_refl _) HB0.out) hoff hsm _ hnum).mono ?_
      rintro e w1 ⟨he, hb1⟩
      simp only [NumRes] at he
      subst he
      have HB1 := Lib.hid (below_next HB0.out hb1)
      have HX8 := Lib.hid ((hb1.block w.heap.size (lt_of_block hz8)).trans hz8)
      have HX11 := Lib.hid ((hb1.block (w.heap.size + 1) (lt_of_block hz11)).trans hz11)
      have HZ1 := Lib.hid (lt_of_block hz11)
      clear hz8 hz11 hW HB0 hb1
      have q0 := cellH (k := 0) HX11.out
      have q1 := cellH (k := 1) HX11.out
      have q2 := cellH (k := 2) HX11.out
      have q3 := cellH (k := 3) HX11.out
      have q4 := cellH (k := 4) HX11.out
      have q5 := cellH (k := 5) HX11.out
      simp only [List.getElem?_toArray, List.getElem?_cons_succ, List.getElem?_cons_zero] at q0 q1 q2 q3 q4 q5
      have m0 := cellH (k := 0) HX8.out
      have m1 := cellH (k := 1) HX8.out
      have m2 := cellH (k := 2) HX8.out
      have m3 := cellH (k := 3) HX8.out
      have m4 := cellH (k := 4) HX8.out
      have m5 := cellH (k := 5) HX8.out
      simp only [List.getElem?_toArray, List.getElem?_cons_succ, List.getElem?_cons_zero] at m0 m1 m2 m3 m4 m5
      have g1 := frozenH (k := 1) HX11.out
      have g2 := frozenH (k := 2) HX11.out
      have g4 := frozenH (k := 4) HX11.out
      have p0 := frozenH (k := 0) HX8.out
      have p1 := frozenH (k := 1) HX8.out
      have p2 := frozenH (k := 2) HX8.out
      have p3 := frozenH (k := 3) HX8.out
      have p4 := frozenH (k := 4) HX8.out
      have p5 := frozenH (k := 5) HX8.out
      go_wp2_with fail
      refine read_end (b := w.heap.size) (e9 := .int .i64 (off : Int)) (e10 := .int .i64 2) (HX8.out) (by kernel_rfl) (by kernel_rfl) (by kernel_rfl) (by kernel_rfl) (And.intro (by exact rfl) ?_)
      repeat refine below_set' ?_ (by omega)
      exact HB1.out
    · rw [limE_in hnum hn]
      have HV := Lib.hid hv
      obtain ⟨_, a, cap, rfl, hc, hm, -⟩ := hv
      unfold maxLen at hm
      go_enter Tryz.func81, Tryz.ntmps81
      go_wp2_with fail
      obtain ⟨W, hW⟩ : ∃ W : World, W = (w.alloc (.cells #[.int .i64 0, .int .u64 0, .int .i64 0, .bool false, .string ⟨#[]⟩, .int .i64 0] 91)).alloc (.cells #[.int .i64 7, .int .u64 0, .int .i64 0, .bool false, .string ⟨#[]⟩, .int .i64 (most : Int)] 91) := ⟨_, rfl⟩
      rw [← hW]
      have HB0 := Lib.hid (show Below w.heap.size w W by rw [hW]; exact ((Below.refl _ _).alloc (Nat.le_refl _) _).alloc (by simp) _)
      have hz8 : W.heap[w.heap.size]? = some (.cells #[.int .i64 0, .int .u64 0, .int .i64 0, .bool false, .string ⟨#[]⟩, .int .i64 0] 91 (0, 0)) := by rw [hW]; exact allocH (alloc_new _ _) _
      have hz11 : W.heap[w.heap.size + 1]? = some (.cells #[.int .i64 7, .int .u64 0, .int .i64 0, .bool false, .string ⟨#[]⟩, .int .i64 (most : Int)] 91 (0, 0)) := by rw [hW]; exact alloc_new2 _ _ _
      refine (number01_is S _ data off W (HV.out.below (Nat.le_refl _) HB0.out) hoff hsm _ hnum).mono ?_
      rintro e w1 ⟨he, hb1⟩
      simp only [NumRes] at he
      subst he
      have HB1 := Lib.hid (below_next HB0.out hb1)
      have HX8 := Lib.hid ((hb1.block w.heap.size (lt_of_block hz8)).trans hz8)
      have HX11 := Lib.hid ((hb1.block (w.heap.size + 1) (lt_of_block hz11)).trans hz11)
      have HZ1 := Lib.hid (lt_of_block hz11)
      clear hz8 hz11 hW HB0 hb1
      have q0 := cellH (k := 0) HX11.out
      have q1 := cellH (k := 1) HX11.out
      have q2 := cellH (k := 2) HX11.out
      have q3 := cellH (k := 3) HX11.out
      have q4 := cellH (k := 4) HX11.out
      have q5 := cellH (k := 5) HX11.out
      simp only [List.getElem?_toArray, List.getElem?_cons_succ, List.getElem?_cons_zero] at q0 q1 q2 q3 q4 q5
      have m0 := cellH (k := 0) HX8.out
      have m1 := cellH (k := 1) HX8.out
      have m2 := cellH (k := 2) HX8.out
      have m3 := cellH (k := 3) HX8.out
      have m4 := cellH (k := 4) HX8.out
      have m5 := cellH (k := 5) HX8.out
      simp only [List.getElem?_toArray, List.getElem?_cons_succ, List.getElem?_cons_zero] at m0 m1 m2 m3 m4 m5
      have g1 := frozenH (k := 1) HX11.out
      have g2 := frozenH (k := 2) HX11.out
      have g4 := frozenH (k := 4) HX11.out
      have p0 := frozenH (k := 0) HX8.out
      have p1 := frozenH (k := 1) HX8.out
      have p2 := frozenH (k := 2) HX8.out
      have p3 := frozenH (k := 3) HX8.out
      have p4 := frozenH (k := 4) HX8.out
      have p5 := frozenH (k := 5) HX8.out
      go_wp2_with fail
      refine read_end (b := w.heap.size) (e9 := .int .i64 (o : Int)) (e10 := .int .i64 0) (setOtherH HX8.out (by omega) _) (by kernel_rfl) (by kernel_rfl) (by kernel_rfl) (by kernel_rfl) (And.intro (by exact rfl) ?_)
      repeat refine below_set' ?_ (by omega)
      exact HB1.out

end Go.Proofs.YtndgmcggckpgfaaGreatDoor

/- Contracts of the reference's read: sums and texts. -/
namespace Go.Proofs.YtndgmcggckpgfaaGreatDoor
open Go.RowKit



theorem takeE_bad {data : List UInt8} {off n : Nat} (h : data.length - off < n) : takeE data off n = .error 3 := by unfold takeE; rw [if_pos h]
theorem takeE_in {data : List UInt8} {off n : Nat} (h : ¬ data.length - off < n) : takeE data off n = .ok ((data.drop off).take n, off + n) := by unfold takeE; rw [if_neg h]
/-- The text of a piece of bytes. -/
theorem conv_piece {S : Nat → Prop} {w w' : World} {a : Addr} {len cap : Nat} {data : List UInt8} (hv : BytesAt S w (.slice (some a) len cap) data) (hb : Below w.heap.size w w') {off n c : Nat} (hn : off + n ≤ data.length) (hc : n ≤ c) :
    (convert 58 9 (.slice (some ⟨a.block, a.off + off, none⟩) n c)).run Tryz.prog w' = .ok (.string ⟨((data.drop off).take n).toArray⟩) w' := by
  have hl : ((data.drop off).take n).length = n := by simp; omega
  have h := conv_in (w := w') (rb := a.block + 1) (pv := .slice (some ⟨a.block, a.off + off, none⟩) n c) (bs := (data.drop off).take n) ⟨a.block, a.off + off, c, by rw [hl], by omega, by omega, fun j b hj => by
    rw [List.getElem?_take] at hj
    split at hj
    · rw [List.getElem?_drop] at hj
      obtain ⟨b', o', he, hq⟩ := bytes_at hv hb hj
      cases he
      rw [Nat.add_assoc]
      exact hq
    · cases hj⟩
  exact h
set_option maxRecDepth 100000 in
set_option maxHeartbeats 1000000 in
theorem read6_any (S : Nat → Prop) (v : Value) (data : List UInt8) (off : Nat) (w : World) (hv : BytesAt S w v data) (hoff : off ≤ data.length) (hsm : data.length ≤ 32768) :
    Calls Tryz.prog 81 #[v, .int .i64 (off : Int), .int .i64 6, .int .i64 0] w (ReadRes ⟨6, 0, 0, false, ⟨#[]⟩, 0⟩ (fun bs : List UInt8 => ⟨6, 0, 0, false, ⟨bs.toArray⟩, 0⟩) off (takeE data off 32) w) := by
  have HB1 := Lib.hid (((Below.refl w.heap.size w).alloc (Nat.le_refl _) (.cells #[.int .i64 0, .int .u64 0, .int .i64 0, .bool false, .string ⟨#[]⟩, .int .i64 0] 91)).alloc (by simp) (.cells #[.int .i64 6, .int .u64 0, .int .i64 0, .bool false, .string ⟨#[]⟩, .int .i64 0] 91))
  have HX8 := Lib.hid (allocH (alloc_new w (.cells #[.int .i64 0, .int .u64 0, .int .i64 0, .bool false, .string ⟨#[]⟩, .int .i64 0] 91)) (.cells #[.int .i64 6, .int .u64 0, .int .i64 0, .bool false, .string ⟨#[]⟩, .int .i64 0] 91))
  have HV := Lib.hid hv
  obtain ⟨_, a, cap, rfl, hc, hm, -⟩ := hv
  unfold maxLen at hm
  by_cases h32 : data.length - off < 32
  · rw [takeE_bad h32]
    go_enter Tryz.func81, Tryz.ntmps81
    go_wp2_with fail
    refine bodyPost_ret (read_res (b := w.heap.size) (e9 := .int .i64 ((off : Int))) (e10 := .int .i64 3) (allocH (alloc_new _ _) _) (by kernel_rfl) (by kernel_rfl) (by kernel_rfl)) (by kernel_rfl) (And.intro (by exact rfl) ?_)
    exact ((Below.refl w.heap.size w).alloc (Nat.le_refl _) _).alloc (by simp) _
  · rw [takeE_in h32]
    obtain ⟨x, hx⟩ : ∃ x, data[off]? = some x := ⟨data[off]'(by omega), by simp⟩
    obtain ⟨b, o, rfl, -⟩ := bytes_at HV.out HB1.out hx
    have hcv := conv_piece HV.out HB1.out (off := off) (n := 32) (c := cap - off) (by omega) (by omega)
    go_enter Tryz.func81, Tryz.ntmps81
    go_wp2_with fail
    refine bodyPost_ret (read_res (b := w.heap.size) (e9 := .int .i64 ((off : Int) + 32)) (e10 := .int .i64 0) (allocH (alloc_new _ _) _) (by kernel_rfl) (by kernel_rfl) (by kernel_rfl)) (by kernel_rfl) (And.intro (by exact rfl) ?_)
    exact ((Below.refl w.heap.size w).alloc (Nat.le_refl _) _).alloc (by simp) _

theorem blockE_bad {data : List UInt8} {off most : Nat} {y : Int} (h : limE data off most = .error y) : blockE data off most = .error y := by unfold blockE; rw [h]
theorem blockE_in {data : List UInt8} {off most n o : Nat} (h : limE data off most = .ok (n, o)) : blockE data off most = takeE data o n := by unfold blockE; rw [h]
set_option maxRecDepth 100000 in
set_option maxHeartbeats 1000000 in
theorem read5_any (S : Nat → Prop) (v : Value) (data : List UInt8) (off most : Nat) (w : World) (hv : BytesAt S w v data) (hoff : off ≤ data.length) (hsm : data.length ≤ 32768) (hmost : most ≤ 32768) :
    Calls Tryz.prog 81 #[v, .int .i64 (off : Int), .int .i64 5, .int .i64 (most : Int)] w (ReadRes ⟨5, 0, 0, false, ⟨#[]⟩, most⟩ (fun bs : List UInt8 => ⟨5, 0, 0, false, ⟨bs.toArray⟩, most⟩) off (blockE data off most) w) := by
  cases hnum : numE data off with
  | error y =>
    obtain rfl := numE_err hnum
    rw [blockE_bad (limE_bad hnum)]
    have HV := Lib.hid hv
    obtain ⟨_, a, cap, rfl, hc, hm, -⟩ := hv
    unfold maxLen at hm
    go_enter Tryz.func81, Tryz.ntmps81
    go_wp2_with fail
    obtain ⟨W, hW⟩ : ∃ W : World, W = (w.alloc (.cells #[.int .i64 0, .int .u64 0, .int .i64 0, .bool false, .string ⟨#[]⟩, .int .i64 0] 91)).alloc (.cells #[.int .i64 5, .int .u64 0, .int .i64 0, .bool false, .string ⟨#[]⟩, .int .i64 (most : Int)] 91) := ⟨_, rfl⟩
    rw [← hW]
    have HB0 := Lib.hid (show Below w.heap.size w W by rw [hW]; exact ((Below.refl _ _).alloc (Nat.le_refl _) _).alloc (by simp) _)
    have hz8 : W.heap[w.heap.size]? = some (.cells #[.int .i64 0, .int .u64 0, .int .i64 0, .bool false, .string ⟨#[]⟩, .int .i64 0] 91 (0, 0)) := by rw [hW]; exact allocH (alloc_new _ _) _
    have hz11 : W.heap[w.heap.size + 1]? = some (.cells #[.int .i64 5, .int .u64 0, .int .i64 0, .bool false, .string ⟨#[]⟩, .int .i64 (most : Int)] 91 (0, 0)) := by rw [hW]; exact alloc_new2 _ _ _
    refine (number01_is S _ data off W (HV.out.below (Nat.le_refl _) HB0.out) hoff hsm _ hnum).mono ?_
    rintro e w1 ⟨he, hb1⟩
    simp only [NumRes] at he
    subst he
    have HB1 := Lib.hid (below_next HB0.out hb1)
    have HX8 := Lib.hid ((hb1.block w.heap.size (lt_of_block hz8)).trans hz8)
    have HX11 := Lib.hid ((hb1.block (w.heap.size + 1) (lt_of_block hz11)).trans hz11)
    have HZ1 := Lib.hid (lt_of_block hz11)
    clear hz8 hz11 hW HB0 hb1
    have q0 := cellH (k := 0) HX11.out
    have q1 := cellH (k := 1) HX11.out
    have q2 := cellH (k := 2) HX11.out
    have q3 := cellH (k := 3) HX11.out
    have q4 := cellH (k := 4) HX11.out
    have q5 := cellH (k := 5) HX11.out
    simp only [List.getElem?_toArray, List.getElem?_cons_succ, List.getElem?_cons_zero] at q0 q1 q2 q3 q4 q5
    have m0 := cellH (k := 0) HX8.out
    have m1 := cellH (k := 1) HX8.out
    have m2 := cellH (k := 2) HX8.out
    have m3 := cellH (k := 3) HX8.out
    have m4 := cellH (k := 4) HX8.out
    have m5 := cellH (k := 5) HX8.out
    simp only [List.getElem?_toArray, List.getElem?_cons_succ, List.getElem?_cons_zero] at m0 m1 m2 m3 m4 m5
    have g1 := frozenH (k := 1) HX11.out
    have g2 := frozenH (k := 2) HX11.out
    have g4 := frozenH (k := 4) HX11.out
    have p0 := frozenH (k := 0) HX8.out
    have p1 := frozenH (k := 1) HX8.out
    have p2 := frozenH (k := 2) HX8.out
    have p3 := frozenH (k := 3) HX8.out
    have p4 := frozenH (k := 4) HX8.out
    have p5 := frozenH (k := 5) HX8.out
    go_wp2_with fail
    refine read_end (b := w.heap.size) (e9 := .int .i64 (off : Int)) (e10 := .int .i64 3) (HX8.out) (by kernel_rfl) (by kernel_rfl) (by kernel_rfl) (by kernel_rfl) (And.intro (by exact rfl) ?_)
    repeat refine below_set' ?_ (by omega)
    exact HB1.out
  | ok p =>
    obtain ⟨n, o⟩ := p
    have hsp := numE_spec hnum
    by_cases hn : most < n
    · rw [blockE_bad (limE_over hnum hn)]
      have HV := Lib.hid hv
      obtain ⟨_, a, cap, rfl, hc, hm, -⟩ := hv
      unfold maxLen at hm
      go_enter Tryz.func81, Tryz.ntmps81
      go_wp2_with fail
      obtain ⟨W, hW⟩ : ∃ W : World, W = (w.alloc (.cells #[.int .i64 0, .int .u64 0, .int .i64 0, .bool false, .string ⟨#[]⟩, .int .i64 0] 91)).alloc (.cells #[.int .i64 5, .int .u64 0, .int .i64 0, .bool false, .string ⟨#[]⟩, .int .i64 (most : Int)] 91) := ⟨_, rfl⟩
      rw [← hW]
      have HB0 := Lib.hid (show Below w.heap.size w W by rw [hW]; exact ((Below.refl _ _).alloc (Nat.le_refl _) _).alloc (by simp) _)
      have hz8 : W.heap[w.heap.size]? = some (.cells #[.int .i64 0, .int .u64 0, .int .i64 0, .bool false, .string ⟨#[]⟩, .int .i64 0] 91 (0, 0)) := by rw [hW]; exact allocH (alloc_new _ _) _
      have hz11 : W.heap[w.heap.size + 1]? = some (.cells #[.int .i64 5, .int .u64 0, .int .i64 0, .bool false, .string ⟨#[]⟩, .int .i64 (most : Int)] 91 (0, 0)) := by rw [hW]; exact alloc_new2 _ _ _
      refine (number01_is S _ data off W (HV.out.below (Nat.le_refl _) HB0.out) hoff hsm _ hnum).mono ?_
      rintro e w1 ⟨he, hb1⟩
      simp only [NumRes] at he
      subst he
      have HB1 := Lib.hid (below_next HB0.out hb1)
      have HX8 := Lib.hid ((hb1.block w.heap.size (lt_of_block hz8)).trans hz8)
      have HX11 := Lib.hid ((hb1.block (w.heap.size + 1) (lt_of_block hz11)).trans hz11)
      have HZ1 := Lib.hid (lt_of_block hz11)
      clear hz8 hz11 hW HB0 hb1
      have q0 := cellH (k := 0) HX11.out
      have q1 := cellH (k := 1) HX11.out
      have q2 := cellH (k := 2) HX11.out
      have q3 := cellH (k := 3) HX11.out
      have q4 := cellH (k := 4) HX11.out
      have q5 := cellH (k := 5) HX11.out
      simp only [List.getElem?_toArray, List.getElem?_cons_succ, List.getElem?_cons_zero] at q0 q1 q2 q3 q4 q5
      have m0 := cellH (k := 0) HX8.out
      have m1 := cellH (k := 1) HX8.out
      have m2 := cellH (k := 2) HX8.out
      have m3 := cellH (k := 3) HX8.out
      have m4 := cellH (k := 4) HX8.out
      have m5 := cellH (k := 5) HX8.out
      simp only [List.getElem?_toArray, List.getElem?_cons_succ, List.getElem?_cons_zero] at m0 m1 m2 m3 m4 m5
      have g1 := frozenH (k := 1) HX11.out
      have g2 := frozenH (k := 2) HX11.out
      have g4 := frozenH (k := 4) HX11.out
      have p0 := frozenH (k := 0) HX8.out
      have p1 := frozenH (k := 1) HX8.out
      have p2 := frozenH (k := 2) HX8.out
      have p3 := frozenH (k := 3) HX8.out
      have p4 := frozenH (k := 4) HX8.out
      have p5 := frozenH (k := 5) HX8.out
      go_wp2_with fail
      refine read_end (b := w.heap.size) (e9 := .int .i64 (off : Int)) (e10 := .int .i64 2) (HX8.out) (by kernel_rfl) (by kernel_rfl) (by kernel_rfl) (by kernel_rfl) (And.intro (by exact rfl) ?_)
      repeat refine below_set' ?_ (by omega)
      exact HB1.out
    · rw [blockE_in (limE_in hnum hn)]
      have hcw : IntKind.u64.wrap ((data.length : Int) - (o : Int)) = (data.length : Int) - (o : Int) := by rw [IntKind.wrap_u64]; omega
      by_cases hle : data.length - o < n
      · rw [takeE_bad hle]
        have HV := Lib.hid hv
        obtain ⟨_, a, cap, rfl, hc, hm, -⟩ := hv
        unfold maxLen at hm
        go_enter Tryz.func81, Tryz.ntmps81
        go_wp2_with fail
        obtain ⟨W, hW⟩ : ∃ W : World, W = (w.alloc (.cells #[.int .i64 0, .int .u64 0, .int .i64 0, .bool false, .string ⟨#[]⟩, .int .i64 0] 91)).alloc (.cells #[.int .i64 5, .int .u64 0, .int .i64 0, .bool false, .string ⟨#[]⟩, .int .i64 (most : Int)] 91) := ⟨_, rfl⟩
        rw [← hW]
        have HB0 := Lib.hid (show Below w.heap.size w W by rw [hW]; exact ((Below.refl _ _).alloc (Nat.le_refl _) _).alloc (by simp) _)
        have hz8 : W.heap[w.heap.size]? = some (.cells #[.int .i64 0, .int .u64 0, .int .i64 0, .bool false, .string ⟨#[]⟩, .int .i64 0] 91 (0, 0)) := by rw [hW]; exact allocH (alloc_new _ _) _
        have hz11 : W.heap[w.heap.size + 1]? = some (.cells #[.int .i64 5, .int .u64 0, .int .i64 0, .bool false, .string ⟨#[]⟩, .int .i64 (most : Int)] 91 (0, 0)) := by rw [hW]; exact alloc_new2 _ _ _
        refine (number01_is S _ data off W (HV.out.below (Nat.le_refl _) HB0.out) hoff hsm _ hnum).mono ?_
        rintro e w1 ⟨he, hb1⟩
        simp only [NumRes] at he
        subst he
        have HB1 := Lib.hid (below_next HB0.out hb1)
        have HX8 := Lib.hid ((hb1.block w.heap.size (lt_of_block hz8)).trans hz8)
        have HX11 := Lib.hid ((hb1.block (w.heap.size + 1) (lt_of_block hz11)).trans hz11)
        have HZ1 := Lib.hid (lt_of_block hz11)
        clear hz8 hz11 hW HB0 hb1
        have q0 := cellH (k := 0) HX11.out
        have q1 := cellH (k := 1) HX11.out
        have q2 := cellH (k := 2) HX11.out
        have q3 := cellH (k := 3) HX11.out
        have q4 := cellH (k := 4) HX11.out
        have q5 := cellH (k := 5) HX11.out
        simp only [List.getElem?_toArray, List.getElem?_cons_succ, List.getElem?_cons_zero] at q0 q1 q2 q3 q4 q5
        have m0 := cellH (k := 0) HX8.out
        have m1 := cellH (k := 1) HX8.out
        have m2 := cellH (k := 2) HX8.out
        have m3 := cellH (k := 3) HX8.out
        have m4 := cellH (k := 4) HX8.out
        have m5 := cellH (k := 5) HX8.out
        simp only [List.getElem?_toArray, List.getElem?_cons_succ, List.getElem?_cons_zero] at m0 m1 m2 m3 m4 m5
        have g1 := frozenH (k := 1) HX11.out
        have g2 := frozenH (k := 2) HX11.out
        have g4 := frozenH (k := 4) HX11.out
        have p0 := frozenH (k := 0) HX8.out
        have p1 := frozenH (k := 1) HX8.out
        have p2 := frozenH (k := 2) HX8.out
        have p3 := frozenH (k := 3) HX8.out
        have p4 := frozenH (k := 4) HX8.out
        have p5 := frozenH (k := 5) HX8.out
        go_wp2_with fail
        refine read_end (b := w.heap.size) (e9 := .int .i64 (off : Int)) (e10 := .int .i64 3) (HX8.out) (by kernel_rfl) (by kernel_rfl) (by kernel_rfl) (by kernel_rfl) (And.intro (by exact rfl) ?_)
        repeat refine below_set' ?_ (by omega)
        exact HB1.out
      · rw [takeE_in hle]
        obtain ⟨x, hx⟩ : ∃ x, data[off]? = some x := ⟨data[off]'(by omega), by simp⟩
        have HXX := Lib.hid hx
        clear hx
        have HV := Lib.hid hv
        obtain ⟨_, a, cap, rfl, hc, hm, -⟩ := hv
        unfold maxLen at hm
        go_enter Tryz.func81, Tryz.ntmps81
        go_wp2_with fail
        obtain ⟨W, hW⟩ : ∃ W : World, W = (w.alloc (.cells #[.int .i64 0, .int .u64 0, .int .i64 0, .bool false, .string ⟨#[]⟩, .int .i64 0] 91)).alloc (.cells #[.int .i64 5, .int .u64 0, .int .i64 0, .bool false, .string ⟨#[]⟩, .int .i64 (most : Int)] 91) := ⟨_, rfl⟩
        rw [← hW]
        have HB0 := Lib.hid (show Below w.heap.size w W by rw [hW]; exact ((Below.refl _ _).alloc (Nat.le_refl _) _).alloc (by simp) _)
        have hz8 : W.heap[w.heap.size]? = some (.cells #[.int .i64 0, .int .u64 0, .int .i64 0, .bool false, .string ⟨#[]⟩, .int .i64 0] 91 (0, 0)) := by rw [hW]; exact allocH (alloc_new _ _) _
        have hz11 : W.heap[w.heap.size + 1]? = some (.cells #[.int .i64 5, .int .u64 0, .int .i64 0, .bool false, .string ⟨#[]⟩, .int .i64 (most : Int)] 91 (0, 0)) := by rw [hW]; exact alloc_new2 _ _ _
        refine (number01_is S _ data off W (HV.out.below (Nat.le_refl _) HB0.out) hoff hsm _ hnum).mono ?_
        rintro e w1 ⟨he, hb1⟩
        simp only [NumRes] at he
        subst he
        have HB1 := Lib.hid (below_next HB0.out hb1)
        have HX8 := Lib.hid ((hb1.block w.heap.size (lt_of_block hz8)).trans hz8)
        have HX11 := Lib.hid ((hb1.block (w.heap.size + 1) (lt_of_block hz11)).trans hz11)
        have HZ1 := Lib.hid (lt_of_block hz11)
        clear hz8 hz11 hW HB0 hb1
        have q0 := cellH (k := 0) HX11.out
        have q1 := cellH (k := 1) HX11.out
        have q2 := cellH (k := 2) HX11.out
        have q3 := cellH (k := 3) HX11.out
        have q4 := cellH (k := 4) HX11.out
        have q5 := cellH (k := 5) HX11.out
        simp only [List.getElem?_toArray, List.getElem?_cons_succ, List.getElem?_cons_zero] at q0 q1 q2 q3 q4 q5
        have m0 := cellH (k := 0) HX8.out
        have m1 := cellH (k := 1) HX8.out
        have m2 := cellH (k := 2) HX8.out
        have m3 := cellH (k := 3) HX8.out
        have m4 := cellH (k := 4) HX8.out
        have m5 := cellH (k := 5) HX8.out
        simp only [List.getElem?_toArray, List.getElem?_cons_succ, List.getElem?_cons_zero] at m0 m1 m2 m3 m4 m5
        have g1 := frozenH (k := 1) HX11.out
        have g2 := frozenH (k := 2) HX11.out
        have g4 := frozenH (k := 4) HX11.out
        have p0 := frozenH (k := 0) HX8.out
        have p1 := frozenH (k := 1) HX8.out
        have p2 := frozenH (k := 2) HX8.out
        have p3 := frozenH (k := 3) HX8.out
        have p4 := frozenH (k := 4) HX8.out
        have p5 := frozenH (k := 5) HX8.out
        obtain ⟨b, ao, rfl, -⟩ := bytes_at HV.out HB1.out HXX.out
        by_cases hco : cap = o
        · obtain rfl : n = 0 := by omega
          have hcv := conv_piece HV.out HB1.out (off := 0) (n := 0) (c := 0) (by omega) (by omega)
          simp only [Nat.add_zero] at hcv
          subst hco
          go_wp2_with fail
          refine read_end (b := w.heap.size) (e9 := .int .i64 (cap : Int)) (e10 := .int .i64 0) (setOtherH HX8.out (by omega) _) (by kernel_rfl) (by kernel_rfl) (by kernel_rfl) (by kernel_rfl) (And.intro (by exact rfl) ?_)
          repeat refine below_set' ?_ (by omega)
          exact HB1.out
        · have hcv := conv_piece HV.out HB1.out (off := o) (n := n) (c := cap - o) (by omega) (by omega)
          have hco2 : ¬ o = cap := fun h => hco h.symm
          have hco3 : ¬ cap - o = 0 := by omega
          go_wp2_with fail
          refine read_end (b := w.heap.size) (e9 := .int .i64 ((o : Int) + (n : Int) : Int)) (e10 := .int .i64 0) (setOtherH HX8.out (by omega) _) (by kernel_rfl) (by kernel_rfl) (by kernel_rfl) (by kernel_rfl) (And.intro (by exact rfl) ?_)
          repeat refine below_set' ?_ (by omega)
          exact HB1.out

end Go.Proofs.YtndgmcggckpgfaaGreatDoor

/- Contracts of the reference's reader. -/
namespace Go.Proofs.YtndgmcggckpgfaaGreatDoor
open Go.RowKit



/-- A reference's reader at block rb. -/
structure RrAt (w : World) (rb : Nat) (v : Value) (data : List UInt8) (s : RS) : Prop where
  box : w.heap[rb]? = some (.cells #[v, .int .i64 (s.off : Int), .int .i64 (s.last : Int), .int .i64 s.err] 123 (0, 0))
  row : RowAt (· ≠ rb) w 1 v data.length (data.map byteV)
  le : s.off ≤ data.length
  small : data.length ≤ 32768
theorem RrAt.lt {w : World} {rb : Nat} {v : Value} {data : List UInt8} {s : RS} (h : RrAt w rb v data s) : rb < w.heap.size := lt_of_block h.box
theorem RrAt.below {w w' : World} {rb : Nat} {v : Value} {data : List UInt8} {s : RS} (h : RrAt w rb v data s) (hb : Below w.heap.size w w') : RrAt w' rb v data s :=
  ⟨by rw [hb.block _ h.lt]; exact h.box, h.row.below (by omega) hb, h.le, h.small⟩
theorem RrAt.grown {w w' : World} {rb : Nat} {v : Value} {data : List UInt8} {s s' : RS} (h : RrAt w rb v data s) (hg : w.grownBy w' (some rb)) (hbox : w'.heap[rb]? = some (.cells #[v, .int .i64 (s'.off : Int), .int .i64 (s'.last : Int), .int .i64 s'.err] 123 (0, 0))) (hle : s'.off ≤ data.length) : RrAt w' rb v data s' :=
  ⟨hbox, ((h.row.mono (T := fun k => k ≠ rb ∧ k < w.heap.size) (fun k hk hS => ⟨hS, hk⟩) (by omega)).same (fun k hk => hg.block k hk.2 (fun e => hk.1 (by simpa using e)))).weak (fun k hk => hk.1), hle, h.small⟩
theorem RrAt.fin {w wf : World} {rb : Nat} {v : Value} {data : List UInt8} {s s' : RS} (h : RrAt w rb v data s) (hg : w.grownBy wf (some rb)) (hbox : wf.heap[rb]? = some (.cells #[v, .int .i64 (s'.off : Int), .int .i64 (s'.last : Int), .int .i64 s'.err] 123 (0, 0))) (hle : s'.off ≤ data.length) {b : Nat} (hb : w.heap.size ≤ b) {x0 x1 x2 x3 x4 x5 : Value} :
    RrAt ((((((wf.setCell ⟨b, 0, none⟩ x0).setCell ⟨b, 1, none⟩ x1).setCell ⟨b, 2, none⟩ x2).setCell ⟨b, 3, none⟩ x3).setCell ⟨b, 4, none⟩ x4).setCell ⟨b, 5, none⟩ x5) rb v data s' ∧
    w.grownBy ((((((wf.setCell ⟨b, 0, none⟩ x0).setCell ⟨b, 1, none⟩ x1).setCell ⟨b, 2, none⟩ x2).setCell ⟨b, 3, none⟩ x3).setCell ⟨b, 4, none⟩ x4).setCell ⟨b, 5, none⟩ x5) (some rb) := by
  have hlt := h.lt
  have hne : rb ≠ b := by omega
  have h6 := grown_new (grown_new (grown_new (grown_new (grown_new (grown_new hg hb (k := 0) x0) hb (k := 1) x1) hb (k := 2) x2) hb (k := 3) x3) hb (k := 4) x4) hb (k := 5) x5
  exact ⟨h.grown h6 (setOtherH (setOtherH (setOtherH (setOtherH (setOtherH (setOtherH hbox hne _) hne _) hne _) hne _) hne _) hne _) hle, h6⟩
def rr {α : Type} (z : RVal) (val : α → RVal) (r : Except Int (α × Nat)) (s : RS) : RVal × RS := if s.err = 0 then match r with
  | .ok (x, o) => (val x, ⟨o, s.off, 0⟩)
  | .error y => (z, ⟨s.off, s.last, y⟩) else (z, s)
def RdrRes (p : RVal × RS) (rb : Nat) (v : Value) (data : List UInt8) (w : World) (e : Ending) (w' : World) : Prop := e = .returned (rvV p.1) ∧ RrAt w' rb v data p.2 ∧ w.grownBy w' (some rb)
theorem rdr_res {a : Act} {w : World} {b : Nat} {x0 x1 x2 x3 x4 x5 : Value} (h : w.heap[b]? = some (.cells #[x0, x1, x2, x3, x4, x5] 91 (0, 0)))
    (h6 : a.tmps[6]? = some (.pointer (some ⟨b, 0, none⟩))) : (results Tryz.f66 a.tmps).run Tryz.prog w = .ok (.agg #[x0, x1, x2, x3, x4, x5]) w := by
  have m0 := cellH (k := 0) h
  have m1 := cellH (k := 1) h
  have m2 := cellH (k := 2) h
  have m3 := cellH (k := 3) h
  have m4 := cellH (k := 4) h
  have m5 := cellH (k := 5) h
  simp only [List.getElem?_toArray, List.getElem?_cons_succ, List.getElem?_cons_zero] at m0 m1 m2 m3 m4 m5
  simp [results, Tryz.results66, go_sem, h6, m0, m1, m2, m3, m4, m5]
theorem rdr_end {a : Act} {w : World} {b : Nat} {a0 a1 a2 a3 a4 a5 x0 x1 x2 x3 x4 x5 : Value} {Q : Ending → World → Prop} (h : w.heap[b]? = some (.cells #[a0, a1, a2, a3, a4, a5] 91 (0, 0)))
    (h6 : a.tmps[6]? = some (.pointer (some ⟨b, 0, none⟩))) (hd : a.defers = [])
    (hQ : Q (.returned (.agg #[x0, x1, x2, x3, x4, x5])) ((((((w.setCell ⟨b, 0, none⟩ x0).setCell ⟨b, 1, none⟩ x1).setCell ⟨b, 2, none⟩ x2).setCell ⟨b, 3, none⟩ x3).setCell ⟨b, 4, none⟩ x4).setCell ⟨b, 5, none⟩ x5)) :
    bodyPost Tryz.prog Tryz.f66 Q Exit.ret a ((((((w.setCell ⟨b, 0, none⟩ x0).setCell ⟨b, 1, none⟩ x1).setCell ⟨b, 2, none⟩ x2).setCell ⟨b, 3, none⟩ x3).setCell ⟨b, 4, none⟩ x4).setCell ⟨b, 5, none⟩ x5) :=
  bodyPost_ret (rdr_res (set6 h) h6) hd hQ
theorem hld_op' {P : Program} {ops : Array Oper} {Q : Exit → Act → World → Prop} {S : World → Prop} {dst : Option Tmp} {op : Op} {ty : TypeId} {pos : String} {aft : Array Edge} {g : Option (Nat × Bool)} {fuel : Nat} {listed : Array Bool} {a : Act} {w : World} (i : Nat) (hi : ops[i]? = some ⟨dst, op, ty, pos, aft, g⟩)
    (hw : Region.wanted ⟨dst, op, ty, pos, aft, g⟩ (yielded ops a.tmps) = true)
    (h : ∀ K : Act → World → Prop, (∀ a w, S w ∧ Hld P ops Q S fuel (listed.setIfInBounds i true) a w → K a w) → wpList P #[] (Exit.then K Q) [⟨dst, op, ty, pos, #[], none⟩] a w) :
    wpOp P ops Q i (fun a' w' => S w' ∧ wpAnyH P .any ops Q S fuel (listed.setIfInBounds i true) a' w') a w := by
  have hb : Bar P ops (fun a' w' => S w' ∧ wpAnyH P .any ops Q S fuel (listed.setIfInBounds i true) a' w') Q [⟨dst, op, ty, pos, aft, g⟩] a w :=
    bar_run hw (fun K hK => h K (fun a w hh => hK a w ⟨hh.1, hh.2.out⟩))
  unfold wpOp
  simp only [hi]
  exact Bar.out hb
theorem below6 {B : Nat} {a w : World} {b : Nat} {x0 x1 x2 x3 x4 x5 : Value} (h : Below B a w) (hb : B ≤ b) : Below B a ((((((w.setCell ⟨b, 0, none⟩ x0).setCell ⟨b, 1, none⟩ x1).setCell ⟨b, 2, none⟩ x2).setCell ⟨b, 3, none⟩ x3).setCell ⟨b, 4, none⟩ x4).setCell ⟨b, 5, none⟩ x5) :=
  below_set' (below_set' (below_set' (below_set' (below_set' (below_set' h hb) hb) hb) hb) hb) hb
theorem other6 {w : World} {b c : Nat} {o : Obj} {x0 x1 x2 x3 x4 x5 : Value} (h : w.heap[c]? = some o) (hne : c ≠ b) : ((((((w.setCell ⟨b, 0, none⟩ x0).setCell ⟨b, 1, none⟩ x1).setCell ⟨b, 2, none⟩ x2).setCell ⟨b, 3, none⟩ x3).setCell ⟨b, 4, none⟩ x4).setCell ⟨b, 5, none⟩ x5).heap[c]? = some o :=
  setOtherH (setOtherH (setOtherH (setOtherH (setOtherH (setOtherH h hne _) hne _) hne _) hne _) hne _) hne _
/-- What Read leaves where no error stood. -/
def coreP (q : RVal) (o' : Nat) (er : Int) (K most : Int) (s : RS) : RVal × RS := if er = 0 then (q, ⟨o', s.off, 0⟩) else (⟨K, 0, 0, false, ⟨#[]⟩, most⟩, ⟨s.off, s.last, er⟩)
set_option maxRecDepth 100000 in
set_option maxHeartbeats 2000000 in
theorem Read_core (rb : Nat) (v : Value) (data : List UInt8) (s : RS) (K most : Int) (q : RVal) (o' : Nat) (er : Int) (w : World) (hr : RrAt w rb v data s) (hK : (K == 0) = false) (he : s.err = 0) (ho : o' ≤ data.length)
    (hrd : ∀ W, BytesAt (· ≠ rb) W v data → Calls Tryz.prog 81 #[v, .int .i64 (s.off : Int), .int .i64 K, .int .i64 most] W fun e w' => e = .returned (.tuple #[rvV q, .int .i64 (o' : Int), .int .i64 er]) ∧ Below W.heap.size W w') :
    Calls Tryz.prog 66 #[.pointer (some ⟨rb, 0, none⟩), .int .i64 K, .int .i64 most] w (RdrRes (coreP q o' er K most s) rb v data w) := by
  obtain ⟨qk, qu, qn, qb, qs, qm⟩ := q
  have HR := Lib.hid hr
  have hlt := hr.lt
  have HE := Lib.hid he
  have HRD := Lib.hid hrd
  have c3 := cellH (k := 3) hr.box
  simp only [List.getElem?_toArray, List.getElem?_cons_succ, List.getElem?_cons_zero] at c3
  rw [he] at c3
  clear hr hrd he
  go_enter Tryz.func66, Tryz.ntmps66
  go_wp2_with fail
  obtain ⟨W, hW⟩ : ∃ W : World, W = (w.alloc (.cells #[.int .i64 0, .int .u64 0, .int .i64 0, .bool false, .string ⟨#[]⟩, .int .i64 0] 91)).alloc (.cells #[.int .i64 K, .int .u64 0, .int .i64 0, .bool false, .string ⟨#[]⟩, .int .i64 most] 91) := ⟨_, rfl⟩
  rw [← hW]
  have HB0 := Lib.hid (show Below w.heap.size w W by rw [hW]; exact ((Below.refl _ _).alloc (Nat.le_refl _) _).alloc (by simp) _)
  have HZ8 := Lib.hid (show W.heap[w.heap.size]? = some (.cells #[.int .i64 0, .int .u64 0, .int .i64 0, .bool false, .string ⟨#[]⟩, .int .i64 0] 91 (0, 0)) by rw [hW]; exact allocH (alloc_new _ _) _)
  have HZ11 := Lib.hid (show W.heap[w.heap.size + 1]? = some (.cells #[.int .i64 K, .int .u64 0, .int .i64 0, .bool false, .string ⟨#[]⟩, .int .i64 most] 91 (0, 0)) by rw [hW]; exact alloc_new2 _ _ _)
  clear hW c3
  refine hld_start (fun w' => w'.cell? ⟨rb, 0, none⟩ = some v ∧ w'.cell? ⟨rb, 1, none⟩ = some (.int .i64 (s.off : Int))) (by kernel_rfl) ?_
  obtain ⟨W2, hW2⟩ : ∃ W2 : World, W2 = W.drew := ⟨_, rfl⟩
  rw [← hW2]
  have hbw : Below W.heap.size W W2 := by rw [hW2]; exact (Below.refl _ _).drew
  have HB2 := Lib.hid (below_next HB0.out hbw)
  have HR2 := Lib.hid (HR.out.below HB2.out)
  have HY8 := Lib.hid ((hbw.block _ (lt_of_block HZ8.out)).trans HZ8.out)
  have HY11 := Lib.hid ((hbw.block _ (lt_of_block HZ11.out)).trans HZ11.out)
  clear hW2 hbw HZ8 HZ11 HB0
  have c0 := cellH (k := 0) HR2.out.box
  have c1 := cellH (k := 1) HR2.out.box
  have c2 := cellH (k := 2) HR2.out.box
  have c3 := cellH (k := 3) HR2.out.box
  simp only [List.getElem?_toArray, List.getElem?_cons_succ, List.getElem?_cons_zero] at c0 c1 c2 c3
  refine hld_take 0 rfl (by kernel_rfl) (by kernel_rfl) (by kernel_rfl) (fun _ _ _ h => h) rfl (by go_simp) (by rintro w' ⟨hw1, hw2⟩; go_simp; rfl) ?_
  simp only [Act.put, List.setIfInBounds_toArray, List.set_cons_succ, List.set_cons_zero]
  refine hld_take 1 rfl (by kernel_rfl) (by kernel_rfl) (by kernel_rfl) (fun _ _ _ h => h) rfl (by go_simp) (by rintro w' ⟨hw1, hw2⟩; go_simp; rfl) ?_
  simp only [Act.put, List.setIfInBounds_toArray, List.set_cons_succ, List.set_cons_zero]
  refine hld_take 2 rfl (by kernel_rfl) (by kernel_rfl) (by kernel_rfl) (fun _ _ _ h => h) rfl (by go_simp) (by rintro w' ⟨hw1, hw2⟩; go_simp; rfl) ?_
  simp only [Act.put, List.setIfInBounds_toArray, List.set_cons_succ, List.set_cons_zero]
  refine hld_take 3 rfl (by kernel_rfl) (by kernel_rfl) (by kernel_rfl) (fun _ _ _ h => h) rfl (by go_simp) (by rintro w' ⟨hw1, hw2⟩; go_simp; rfl) ?_
  simp only [Act.put, List.setIfInBounds_toArray, List.set_cons_succ, List.set_cons_zero]
  refine hld_take 4 rfl (by kernel_rfl) (by kernel_rfl) (by kernel_rfl) (fun _ _ _ h => h) rfl (by go_simp) (by rintro w' ⟨hw1, hw2⟩; go_simp; rfl) ?_
  simp only [Act.put, List.setIfInBounds_toArray, List.set_cons_succ, List.set_cons_zero]
  refine hld_take 5 rfl (by kernel_rfl) (by kernel_rfl) (by kernel_rfl) (fun _ _ _ h => h) rfl (by go_simp) (by rintro w' ⟨hw1, hw2⟩; go_simp; rfl) ?_
  simp only [Act.put, List.setIfInBounds_toArray, List.set_cons_succ, List.set_cons_zero]
  refine hld_take 6 rfl (by kernel_rfl) (by kernel_rfl) (by kernel_rfl) (fun _ _ _ h => h) rfl (by go_simp) (by rintro w' ⟨hw1, hw2⟩; go_simp; rfl) ?_
  simp only [Act.put, List.setIfInBounds_toArray, List.set_cons_succ, List.set_cons_zero]
  refine hld_take 7 rfl (by kernel_rfl) (by kernel_rfl) (by kernel_rfl) (fun _ _ _ h => h) rfl (by go_simp) (by rintro w' ⟨hw1, hw2⟩; go_simp; rfl) ?_
  simp only [Act.put, List.setIfInBounds_toArray, List.set_cons_succ, List.set_cons_zero]
  refine hld_take 8 rfl (by kernel_rfl) (by kernel_rfl) (by kernel_rfl) (fun _ _ _ h => h) rfl (by go_simp) (by rintro w' ⟨hw1, hw2⟩; go_simp; rfl) ?_
  simp only [Act.put, List.setIfInBounds_toArray, List.set_cons_succ, List.set_cons_zero]
  refine hld_take 9 rfl (by kernel_rfl) (by kernel_rfl) (by kernel_rfl) (fun _ _ _ h => h) rfl (by go_simp) (by rintro w' ⟨hw1, hw2⟩; go_simp; rfl) ?_
  simp only [Act.put, List.setIfInBounds_toArray, List.set_cons_succ, List.set_cons_zero]
  refine Hld.of (wpAnyH_all (rs := [10, 15]) (by kernel_rfl) (by simp) fun j hj => ?_)
  simp only [List.mem_cons, List.not_mem_nil, or_false] at hj
  rcases hj with rfl | rfl
  · refine hld_op' 10 rfl rfl (fun K hK => ?_)
    go_wp2_with (go_at_call 81; refine (HRD.out _ HR2.out.row).mono ?_; rintro e w1 ⟨rfl, hb1⟩; simp only [rvV])
    have HB3 := Lib.hid (below_next HB2.out hb1)
    have HR3 := Lib.hid (HR.out.below HB3.out)
    have HX8 := Lib.hid ((hb1.block _ (lt_of_block HY8.out)).trans HY8.out)
    have HX11 := Lib.hid ((hb1.block _ (lt_of_block HY11.out)).trans HY11.out)
    clear c0 c1 c2 c3
    have c0 := cellH (k := 0) HR3.out.box
    have c1 := cellH (k := 1) HR3.out.box
    have c2 := cellH (k := 2) HR3.out.box
    have c3 := cellH (k := 3) HR3.out.box
    simp only [List.getElem?_toArray, List.getElem?_cons_succ, List.getElem?_cons_zero] at c0 c1 c2 c3
    refine ⟨⟨c0, c1⟩, ?_⟩
    refine hld_take 11 rfl (by kernel_rfl) (by kernel_rfl) (by kernel_rfl) (fun _ _ _ h => h) rfl (by go_simp) (by rintro w' ⟨hw1, hw2⟩; go_simp; rfl) ?_
    simp only [Act.put, List.setIfInBounds_toArray, List.set_cons_succ, List.set_cons_zero]
    refine hld_take 12 rfl (by kernel_rfl) (by kernel_rfl) (by kernel_rfl) (fun _ _ _ h => h) rfl (by go_simp) (by rintro w' ⟨hw1, hw2⟩; go_simp; rfl) ?_
    simp only [Act.put, List.setIfInBounds_toArray, List.set_cons_succ, List.set_cons_zero]
    refine hld_take 13 rfl (by kernel_rfl) (by kernel_rfl) (by kernel_rfl) (fun _ _ _ h => h) rfl (by go_simp) (by rintro w' ⟨hw1, hw2⟩; go_simp; rfl) ?_
    simp only [Act.put, List.setIfInBounds_toArray, List.set_cons_succ, List.set_cons_zero]
    refine hld_take 14 rfl (by kernel_rfl) (by kernel_rfl) (by kernel_rfl) (fun _ _ _ h => h) rfl (by go_simp) (by rintro w' ⟨hw1, hw2⟩; go_simp; rfl) ?_
    simp only [Act.put, List.setIfInBounds_toArray, List.set_cons_succ, List.set_cons_zero]
    refine hld_bar 15 rfl (by kernel_rfl) rfl (fun K hK => ?_)
    go_wp2_with fail
    obtain ⟨w2, hw2⟩ : ∃ w2, w2 = w1.alloc (.cells #[.int .i64 0, .int .u64 0, .int .i64 0, .bool false, .string ⟨#[]⟩, .int .i64 0] 91) := ⟨_, rfl⟩
    rw [← hw2]
    have hb2 : Below w1.heap.size w1 w2 := by rw [hw2]; exact (Below.refl _ _).alloc (Nat.le_refl _) _
    have HN8 := Lib.hid (show w2.heap[w1.heap.size]? = some (.cells #[.int .i64 0, .int .u64 0, .int .i64 0, .bool false, .string ⟨#[]⟩, .int .i64 0] 91 (0, 0)) by rw [hw2]; exact alloc_new _ _)
    obtain ⟨b8, hb8⟩ : ∃ b8, b8 = w1.heap.size := ⟨_, rfl⟩
    have HL8 := Lib.hid (show w.heap.size + 1 < b8 by rw [hb8]; exact lt_of_block HX11.out)
    rw [← hb8] at HN8 ⊢
    clear hw2 hb8
    have HB4 := Lib.hid (below_next HB3.out hb2)
    have HR4 := Lib.hid (HR.out.below HB4.out)
    have HW8 := Lib.hid ((hb2.block _ (lt_of_block HX8.out)).trans HX8.out)
    have HW11 := Lib.hid ((hb2.block _ (lt_of_block HX11.out)).trans HX11.out)
    clear c0 c1 c2 c3
    have c0 := cellH (k := 0) HR4.out.box
    have c1 := cellH (k := 1) HR4.out.box
    have c2 := cellH (k := 2) HR4.out.box
    have c3 := cellH (k := 3) HR4.out.box
    simp only [List.getElem?_toArray, List.getElem?_cons_succ, List.getElem?_cons_zero] at c0 c1 c2 c3
    refine ⟨⟨c0, c1⟩, ?_⟩
    have m0 := cellH (k := 0) HN8.out
    have m1 := cellH (k := 1) HN8.out
    have m2 := cellH (k := 2) HN8.out
    have m3 := cellH (k := 3) HN8.out
    have m4 := cellH (k := 4) HN8.out
    have m5 := cellH (k := 5) HN8.out
    simp only [List.getElem?_toArray, List.getElem?_cons_succ, List.getElem?_cons_zero] at m0 m1 m2 m3 m4 m5
    have p0 := frozenH (k := 0) HN8.out
    have p1 := frozenH (k := 1) HN8.out
    have p2 := frozenH (k := 2) HN8.out
    have p3 := frozenH (k := 3) HN8.out
    have p4 := frozenH (k := 4) HN8.out
    have p5 := frozenH (k := 5) HN8.out
    refine hld_bar 16 rfl (by kernel_rfl) rfl (fun K hK => ?_)
    go_wp2_with fail
    obtain ⟨wf, hwf⟩ : ∃ wf, wf = ((((((w2.setCell ⟨b8, 0, none⟩ (.int .i64 qk)).setCell ⟨b8, 1, none⟩ (.int .u64 (qu : Int))).setCell ⟨b8, 2, none⟩ (.int .i64 qn)).setCell ⟨b8, 3, none⟩ (.bool qb)).setCell ⟨b8, 4, none⟩ (.string qs)).setCell ⟨b8, 5, none⟩ (.int .i64 qm)) := ⟨_, rfl⟩
    rw [← hwf]
    have HBF := Lib.hid (show Below w.heap.size w wf by rw [hwf]; exact below6 HB4.out (by have := HL8.out; omega))
    have HF8 := Lib.hid (show wf.heap[w.heap.size]? = some _ by rw [hwf]; exact other6 HW8.out (by have := HL8.out; omega))
    have HF11 := Lib.hid (show wf.heap[w.heap.size + 1]? = some _ by rw [hwf]; exact other6 HW11.out (by have := HL8.out; omega))
    have HFN := Lib.hid (show wf.heap[b8]? = some _ by rw [hwf]; exact set6 HN8.out)
    have HFR := Lib.hid (HR.out.below HBF.out)
    clear hwf m0 m1 m2 m3 m4 m5 p0 p1 p2 p3 p4 p5 c0 c1 c2 c3
    have c0 := cellH (k := 0) HFR.out.box
    have c1 := cellH (k := 1) HFR.out.box
    have c2 := cellH (k := 2) HFR.out.box
    have c3 := cellH (k := 3) HFR.out.box
    simp only [List.getElem?_toArray, List.getElem?_cons_succ, List.getElem?_cons_zero] at c0 c1 c2 c3
    refine ⟨⟨c0, c1⟩, ?_⟩
    refine hld_take 17 rfl (by kernel_rfl) (by kernel_rfl) (by kernel_rfl) (fun _ _ _ h => h) rfl (by go_simp) (by rintro w' ⟨hw1, hw2⟩; go_simp; rfl) ?_
    simp only [Act.put, List.setIfInBounds_toArray, List.set_cons_succ, List.set_cons_zero]
    refine hld_take 18 rfl (by kernel_rfl) (by kernel_rfl) (by kernel_rfl) (fun _ _ _ h => h) rfl (by go_simp) (by rintro w' ⟨hw1, hw2⟩; go_simp; rfl) ?_
    simp only [Act.put, List.setIfInBounds_toArray, List.set_cons_succ, List.set_cons_zero]
    refine hld_done (by kernel_rfl) ?_
    rw [HE.out] at c3
    have f1 := frozenH (k := 1) HFR.out.box
    have f2 := frozenH (k := 2) HFR.out.box
    have f3 := frozenH (k := 3) HFR.out.box
    have m0 := cellH (k := 0) HF8.out
    have m1 := cellH (k := 1) HF8.out
    have m2 := cellH (k := 2) HF8.out
    have m3 := cellH (k := 3) HF8.out
    have m4 := cellH (k := 4) HF8.out
    have m5 := cellH (k := 5) HF8.out
    simp only [List.getElem?_toArray, List.getElem?_cons_succ, List.getElem?_cons_zero] at m0 m1 m2 m3 m4 m5
    have p0 := frozenH (k := 0) HF8.out
    have p1 := frozenH (k := 1) HF8.out
    have p2 := frozenH (k := 2) HF8.out
    have p3 := frozenH (k := 3) HF8.out
    have p4 := frozenH (k := 4) HF8.out
    have p5 := frozenH (k := 5) HF8.out
    have k0 := cellH (k := 0) HF11.out
    have k1 := cellH (k := 1) HF11.out
    have k2 := cellH (k := 2) HF11.out
    have k3 := cellH (k := 3) HF11.out
    have k4 := cellH (k := 4) HF11.out
    have k5 := cellH (k := 5) HF11.out
    simp only [List.getElem?_toArray, List.getElem?_cons_succ, List.getElem?_cons_zero] at k0 k1 k2 k3 k4 k5
    have n0 := cellH (k := 0) HFN.out
    have n1 := cellH (k := 1) HFN.out
    have n2 := cellH (k := 2) HFN.out
    have n3 := cellH (k := 3) HFN.out
    have n4 := cellH (k := 4) HFN.out
    have n5 := cellH (k := 5) HFN.out
    simp only [List.getElem?_toArray, List.getElem?_cons_succ, List.getElem?_cons_zero] at n0 n1 n2 n3 n4 n5
    by_cases hz : er = 0
    · subst hz
      have hl1 : rb ≠ w.heap.size := by omega
      have hl2 : rb ≠ b8 := by have := HL8.out; omega
      have hl3 : b8 ≠ w.heap.size := by have := HL8.out; omega
      go_wp2_with fail
      refine rdr_end (b := w.heap.size) (setOtherH (setOtherH HF8.out hl1.symm _) hl1.symm _) (by kernel_rfl) (by kernel_rfl) ?_
      have hfin := HR.out.fin (wf := (wf.setCell ⟨rb, 2, none⟩ (.int .i64 (s.off : Int))).setCell ⟨rb, 1, none⟩ (.int .i64 (o' : Int))) (s' := ⟨o', s.off, 0⟩) (b := w.heap.size) (grown_trans (grown_trans (grown_below HBF.out _) (grown_set _ _ _ _)) (grown_set _ _ _ _)) (by
        have h1 := set_at1 (x := .int .i64 (o' : Int)) (set_at2 (x := .int .i64 (s.off : Int)) HFR.out.box)
        rw [HE.out] at h1
        exact h1) ho (Nat.le_refl _) (x0 := .int .i64 qk) (x1 := .int .u64 (qu : Int)) (x2 := .int .i64 qn) (x3 := .bool qb) (x4 := .string qs) (x5 := .int .i64 qm)
      exact ⟨by exact rfl, hfin.1, hfin.2⟩
    · have e1 : (er != 0) = true := by simp [hz]
      have HZ := Lib.hid hz
      have hl1 : rb ≠ w.heap.size := by omega
      clear hz
      go_wp2_with fail
      refine rdr_end (b := w.heap.size) (setOtherH HF8.out hl1.symm _) (by kernel_rfl) (by kernel_rfl) ?_
      have hfin := HR.out.fin (wf := wf.setCell ⟨rb, 3, none⟩ (.int .i64 er)) (s' := ⟨s.off, s.last, er⟩) (b := w.heap.size) (grown_trans (grown_below HBF.out _) (grown_set _ _ _ _)) (set_at3 HFR.out.box) HR.out.le (Nat.le_refl _) (x0 := .int .i64 K) (x1 := .int .u64 0) (x2 := .int .i64 0) (x3 := .bool false) (x4 := .string ⟨#[]⟩) (x5 := .int .i64 most)
      have hcp : coreP ⟨qk, qu, qn, qb, qs, qm⟩ o' er K most s = (⟨K, 0, 0, false, ⟨#[]⟩, most⟩, ⟨s.off, s.last, er⟩) := by unfold coreP; rw [if_neg HZ.out]
      rw [hcp]
      exact ⟨by exact rfl, hfin.1, hfin.2⟩
  · refine hld_op' 15 rfl rfl (fun K hK => ?_)
    go_wp2_with fail
    obtain ⟨w2, hw2⟩ : ∃ w2, w2 = W2.alloc (.cells #[.int .i64 0, .int .u64 0, .int .i64 0, .bool false, .string ⟨#[]⟩, .int .i64 0] 91) := ⟨_, rfl⟩
    rw [← hw2]
    have hb2 : Below W2.heap.size W2 w2 := by rw [hw2]; exact (Below.refl _ _).alloc (Nat.le_refl _) _
    have HN7 := Lib.hid (show w2.heap[W2.heap.size]? = some (.cells #[.int .i64 0, .int .u64 0, .int .i64 0, .bool false, .string ⟨#[]⟩, .int .i64 0] 91 (0, 0)) by rw [hw2]; exact alloc_new _ _)
    obtain ⟨b8, hb8⟩ : ∃ b8, b8 = W2.heap.size := ⟨_, rfl⟩
    have HL8 := Lib.hid (show w.heap.size + 1 < b8 by rw [hb8]; exact lt_of_block HY11.out)
    rw [← hb8] at HN7 ⊢
    clear hw2 hb8
    have HB3 := Lib.hid (below_next HB2.out hb2)
    have HR3 := Lib.hid (HR.out.below HB3.out)
    have HX8 := Lib.hid ((hb2.block _ (lt_of_block HY8.out)).trans HY8.out)
    have HX11 := Lib.hid ((hb2.block _ (lt_of_block HY11.out)).trans HY11.out)
    clear c0 c1 c2 c3
    have c0 := cellH (k := 0) HR3.out.box
    have c1 := cellH (k := 1) HR3.out.box
    have c2 := cellH (k := 2) HR3.out.box
    have c3 := cellH (k := 3) HR3.out.box
    simp only [List.getElem?_toArray, List.getElem?_cons_succ, List.getElem?_cons_zero] at c0 c1 c2 c3
    refine ⟨⟨c0, c1⟩, ?_⟩
    refine hld_bar 10 rfl (by kernel_rfl) rfl (fun K hK => ?_)
    go_wp2_with (go_at_call 81; refine (HRD.out _ HR3.out.row).mono ?_; rintro e w1 ⟨rfl, hb1⟩; simp only [rvV])
    have HN8 := Lib.hid ((hb1.block _ (lt_of_block HN7.out)).trans HN7.out)
    have HB4 := Lib.hid (below_next HB3.out hb1)
    have HR4 := Lib.hid (HR.out.below HB4.out)
    have HW8 := Lib.hid ((hb1.block _ (lt_of_block HX8.out)).trans HX8.out)
    have HW11 := Lib.hid ((hb1.block _ (lt_of_block HX11.out)).trans HX11.out)
    clear c0 c1 c2 c3
    have c0 := cellH (k := 0) HR4.out.box
    have c1 := cellH (k := 1) HR4.out.box
    have c2 := cellH (k := 2) HR4.out.box
    have c3 := cellH (k := 3) HR4.out.box
    simp only [List.getElem?_toArray, List.getElem?_cons_succ, List.getElem?_cons_zero] at c0 c1 c2 c3
    refine ⟨⟨c0, c1⟩, ?_⟩
    refine hld_take 11 rfl (by kernel_rfl) (by kernel_rfl) (by kernel_rfl) (fun _ _ _ h => h) rfl (by go_simp) (by rintro w' ⟨hw1, hw2⟩; go_simp; rfl) ?_
    simp only [Act.put, List.setIfInBounds_toArray, List.set_cons_succ, List.set_cons_zero]
    refine hld_take 12 rfl (by kernel_rfl) (by kernel_rfl) (by kernel_rfl) (fun _ _ _ h => h) rfl (by go_simp) (by rintro w' ⟨hw1, hw2⟩; go_simp; rfl) ?_
    simp only [Act.put, List.setIfInBounds_toArray, List.set_cons_succ, List.set_cons_zero]
    refine hld_take 13 rfl (by kernel_rfl) (by kernel_rfl) (by kernel_rfl) (fun _ _ _ h => h) rfl (by go_simp) (by rintro w' ⟨hw1, hw2⟩; go_simp; rfl) ?_
    simp only [Act.put, List.setIfInBounds_toArray, List.set_cons_succ, List.set_cons_zero]
    refine hld_take 14 rfl (by kernel_rfl) (by kernel_rfl) (by kernel_rfl) (fun _ _ _ h => h) rfl (by go_simp) (by rintro w' ⟨hw1, hw2⟩; go_simp; rfl) ?_
    simp only [Act.put, List.setIfInBounds_toArray, List.set_cons_succ, List.set_cons_zero]
    have m0 := cellH (k := 0) HN8.out
    have m1 := cellH (k := 1) HN8.out
    have m2 := cellH (k := 2) HN8.out
    have m3 := cellH (k := 3) HN8.out
    have m4 := cellH (k := 4) HN8.out
    have m5 := cellH (k := 5) HN8.out
    simp only [List.getElem?_toArray, List.getElem?_cons_succ, List.getElem?_cons_zero] at m0 m1 m2 m3 m4 m5
    have p0 := frozenH (k := 0) HN8.out
    have p1 := frozenH (k := 1) HN8.out
    have p2 := frozenH (k := 2) HN8.out
    have p3 := frozenH (k := 3) HN8.out
    have p4 := frozenH (k := 4) HN8.out
    have p5 := frozenH (k := 5) HN8.out
    refine hld_bar 16 rfl (by kernel_rfl) rfl (fun K hK => ?_)
    go_wp2_with fail
    obtain ⟨wf, hwf⟩ : ∃ wf, wf = ((((((w1.setCell ⟨b8, 0, none⟩ (.int .i64 qk)).setCell ⟨b8, 1, none⟩ (.int .u64 (qu : Int))).setCell ⟨b8, 2, none⟩ (.int .i64 qn)).setCell ⟨b8, 3, none⟩ (.bool qb)).setCell ⟨b8, 4, none⟩ (.string qs)).setCell ⟨b8, 5, none⟩ (.int .i64 qm)) := ⟨_, rfl⟩
    rw [← hwf]
    have HBF := Lib.hid (show Below w.heap.size w wf by rw [hwf]; exact below6 HB4.out (by have := HL8.out; omega))
    have HF8 := Lib.hid (show wf.heap[w.heap.size]? = some _ by rw [hwf]; exact other6 HW8.out (by have := HL8.out; omega))
    have HF11 := Lib.hid (show wf.heap[w.heap.size + 1]? = some _ by rw [hwf]; exact other6 HW11.out (by have := HL8.out; omega))
    have HFN := Lib.hid (show wf.heap[b8]? = some _ by rw [hwf]; exact set6 HN8.out)
    have HFR := Lib.hid (HR.out.below HBF.out)
    clear hwf m0 m1 m2 m3 m4 m5 p0 p1 p2 p3 p4 p5 c0 c1 c2 c3
    have c0 := cellH (k := 0) HFR.out.box
    have c1 := cellH (k := 1) HFR.out.box
    have c2 := cellH (k := 2) HFR.out.box
    have c3 := cellH (k := 3) HFR.out.box
    simp only [List.getElem?_toArray, List.getElem?_cons_succ, List.getElem?_cons_zero] at c0 c1 c2 c3
    refine ⟨⟨c0, c1⟩, ?_⟩
    refine hld_take 17 rfl (by kernel_rfl) (by kernel_rfl) (by kernel_rfl) (fun _ _ _ h => h) rfl (by go_simp) (by rintro w' ⟨hw1, hw2⟩; go_simp; rfl) ?_
    simp only [Act.put, List.setIfInBounds_toArray, List.set_cons_succ, List.set_cons_zero]
    refine hld_take 18 rfl (by kernel_rfl) (by kernel_rfl) (by kernel_rfl) (fun _ _ _ h => h) rfl (by go_simp) (by rintro w' ⟨hw1, hw2⟩; go_simp; rfl) ?_
    simp only [Act.put, List.setIfInBounds_toArray, List.set_cons_succ, List.set_cons_zero]
    refine hld_done (by kernel_rfl) ?_
    rw [HE.out] at c3
    have f1 := frozenH (k := 1) HFR.out.box
    have f2 := frozenH (k := 2) HFR.out.box
    have f3 := frozenH (k := 3) HFR.out.box
    have m0 := cellH (k := 0) HF8.out
    have m1 := cellH (k := 1) HF8.out
    have m2 := cellH (k := 2) HF8.out
    have m3 := cellH (k := 3) HF8.out
    have m4 := cellH (k := 4) HF8.out
    have m5 := cellH (k := 5) HF8.out
    simp only [List.getElem?_toArray, List.getElem?_cons_succ, List.getElem?_cons_zero] at m0 m1 m2 m3 m4 m5
    have p0 := frozenH (k := 0) HF8.out
    have p1 := frozenH (k := 1) HF8.out
    have p2 := frozenH (k := 2) HF8.out
    have p3 := frozenH (k := 3) HF8.out
    have p4 := frozenH (k := 4) HF8.out
    have p5 := frozenH (k := 5) HF8.out
    have k0 := cellH (k := 0) HF11.out
    have k1 := cellH (k := 1) HF11.out
    have k2 := cellH (k := 2) HF11.out
    have k3 := cellH (k := 3) HF11.out
    have k4 := cellH (k := 4) HF11.out
    have k5 := cellH (k := 5) HF11.out
    simp only [List.getElem?_toArray, List.getElem?_cons_succ, List.getElem?_cons_zero] at k0 k1 k2 k3 k4 k5
    have n0 := cellH (k := 0) HFN.out
    have n1 := cellH (k := 1) HFN.out
    have n2 := cellH (k := 2) HFN.out
    have n3 := cellH (k := 3) HFN.out
    have n4 := cellH (k := 4) HFN.out
    have n5 := cellH (k := 5) HFN.out
    simp only [List.getElem?_toArray, List.getElem?_cons_succ, List.getElem?_cons_zero] at n0 n1 n2 n3 n4 n5
    by_cases hz : er = 0
    · subst hz
      have hl1 : rb ≠ w.heap.size := by omega
      have hl2 : rb ≠ b8 := by have := HL8.out; omega
      have hl3 : b8 ≠ w.heap.size := by have := HL8.out; omega
      go_wp2_with fail
      refine rdr_end (b := w.heap.size) (setOtherH (setOtherH HF8.out hl1.symm _) hl1.symm _) (by kernel_rfl) (by kernel_rfl) ?_
      have hfin := HR.out.fin (wf := (wf.setCell ⟨rb, 2, none⟩ (.int .i64 (s.off : Int))).setCell ⟨rb, 1, none⟩ (.int .i64 (o' : Int))) (s' := ⟨o', s.off, 0⟩) (b := w.heap.size) (grown_trans (grown_trans (grown_below HBF.out _) (grown_set _ _ _ _)) (grown_set _ _ _ _)) (by
        have h1 := set_at1 (x := .int .i64 (o' : Int)) (set_at2 (x := .int .i64 (s.off : Int)) HFR.out.box)
        rw [HE.out] at h1
        exact h1) ho (Nat.le_refl _) (x0 := .int .i64 qk) (x1 := .int .u64 (qu : Int)) (x2 := .int .i64 qn) (x3 := .bool qb) (x4 := .string qs) (x5 := .int .i64 qm)
      exact ⟨by exact rfl, hfin.1, hfin.2⟩
    · have e1 : (er != 0) = true := by simp [hz]
      have HZ := Lib.hid hz
      have hl1 : rb ≠ w.heap.size := by omega
      clear hz
      go_wp2_with fail
      refine rdr_end (b := w.heap.size) (setOtherH HF8.out hl1.symm _) (by kernel_rfl) (by kernel_rfl) ?_
      have hfin := HR.out.fin (wf := wf.setCell ⟨rb, 3, none⟩ (.int .i64 er)) (s' := ⟨s.off, s.last, er⟩) (b := w.heap.size) (grown_trans (grown_below HBF.out _) (grown_set _ _ _ _)) (set_at3 HFR.out.box) HR.out.le (Nat.le_refl _) (x0 := .int .i64 K) (x1 := .int .u64 0) (x2 := .int .i64 0) (x3 := .bool false) (x4 := .string ⟨#[]⟩) (x5 := .int .i64 most)
      have hcp : coreP ⟨qk, qu, qn, qb, qs, qm⟩ o' er K most s = (⟨K, 0, 0, false, ⟨#[]⟩, most⟩, ⟨s.off, s.last, er⟩) := by unfold coreP; rw [if_neg HZ.out]
      rw [hcp]
      exact ⟨by exact rfl, hfin.1, hfin.2⟩

end Go.Proofs.YtndgmcggckpgfaaGreatDoor

/- Contracts of the reference's reader: Read, by kinds; integer. -/
namespace Go.Proofs.YtndgmcggckpgfaaGreatDoor
open Go.RowKit


set_option maxRecDepth 100000 in
set_option maxHeartbeats 1000000 in
theorem Read_bad (rb : Nat) (v : Value) (data : List UInt8) (s : RS) (K most : Int) (w : World) (hr : RrAt w rb v data s) (he : ¬ s.err = 0) :
    Calls Tryz.prog 66 #[.pointer (some ⟨rb, 0, none⟩), .int .i64 K, .int .i64 most] w (RdrRes (⟨K, 0, 0, false, ⟨#[]⟩, most⟩, s) rb v data w) := by
  have HR := Lib.hid hr
  have hlt := hr.lt
  have c3 := cellH (k := 3) hr.box
  simp only [List.getElem?_toArray, List.getElem?_cons_succ, List.getElem?_cons_zero] at c3
  have e1 : (s.err != 0) = true := by simp [he]
  clear he hr
  go_enter Tryz.func66, Tryz.ntmps66
  go_wp2_with fail
  refine bodyPost_ret (rdr_res (b := w.heap.size) (allocH (alloc_new _ _) _) (by kernel_rfl)) (by kernel_rfl) ?_
  refine ⟨by exact rfl, HR.out.below ?_, grown_below ?_ _⟩
  · exact ((Below.refl w.heap.size w).alloc (Nat.le_refl _) _).alloc (by simp) _
  · exact ((Below.refl w.heap.size w).alloc (Nat.le_refl _) _).alloc (by simp) _
theorem Read_any {α : Type} (rb : Nat) (v : Value) (data : List UInt8) (s : RS) (K most : Int) (val : α → RVal) (REX : Except Int (α × Nat)) (w : World) (hr : RrAt w rb v data s) (hK : (K == 0) = false)
    (hrd : ∀ W, BytesAt (· ≠ rb) W v data → Calls Tryz.prog 81 #[v, .int .i64 (s.off : Int), .int .i64 K, .int .i64 most] W (ReadRes ⟨K, 0, 0, false, ⟨#[]⟩, most⟩ val s.off REX W))
    (hok : ∀ x o, REX = .ok (x, o) → o ≤ data.length) (herr : ∀ y, REX = .error y → ¬ y = 0) :
    Calls Tryz.prog 66 #[.pointer (some ⟨rb, 0, none⟩), .int .i64 K, .int .i64 most] w (RdrRes (rr ⟨K, 0, 0, false, ⟨#[]⟩, most⟩ val REX s) rb v data w) := by
  by_cases he : s.err = 0
  · cases REX with
    | error y =>
      have h := Read_core rb v data s K most ⟨K, 0, 0, false, ⟨#[]⟩, most⟩ s.off y w hr hK he hr.le hrd
      have h1 : coreP ⟨K, 0, 0, false, ⟨#[]⟩, most⟩ s.off y K most s = rr ⟨K, 0, 0, false, ⟨#[]⟩, most⟩ val (.error y) s := by
        unfold coreP rr; rw [if_neg (herr y rfl), if_pos he]
      rw [h1] at h; exact h
    | ok p =>
      obtain ⟨x, o⟩ := p
      have h := Read_core rb v data s K most (val x) o 0 w hr hK he (hok x o rfl) hrd
      have h1 : coreP (val x) o 0 K most s = rr ⟨K, 0, 0, false, ⟨#[]⟩, most⟩ val (.ok (x, o)) s := by
        unfold coreP rr; rw [if_pos rfl, if_pos he]
      rw [h1] at h; exact h
  · have h1 : rr ⟨K, 0, 0, false, ⟨#[]⟩, most⟩ val REX s = (⟨K, 0, 0, false, ⟨#[]⟩, most⟩, s) := by unfold rr; rw [if_neg he]
    rw [h1]
    exact Read_bad rb v data s K most w hr he
theorem takeE_le {data : List UInt8} {off n o : Nat} {bs : List UInt8} (h0 : off ≤ data.length) (h : takeE data off n = .ok (bs, o)) : o ≤ data.length := by
  unfold takeE at h
  split at h
  · simp at h
  · simp only [Except.ok.injEq, Prod.mk.injEq] at h; omega
theorem blockE_le {data : List UInt8} {off most o : Nat} {bs : List UInt8} (h : blockE data off most = .ok (bs, o)) : o ≤ data.length := by
  unfold blockE at h
  cases hl : limE data off most with
  | error y => rw [hl] at h; simp at h
  | ok p =>
    obtain ⟨n, o1⟩ := p
    rw [hl] at h
    exact takeE_le (limE_spec hl).2.2 h
def ruP (data : List UInt8) (s : RS) : RVal × RS := rr ⟨1, 0, 0, false, ⟨#[]⟩, 0⟩ (fun n => ⟨1, n, 0, false, ⟨#[]⟩, 0⟩) (numE data s.off) s
def rtP (data : List UInt8) (most : Nat) (s : RS) : RVal × RS := rr ⟨5, 0, 0, false, ⟨#[]⟩, most⟩ (fun bs : List UInt8 => ⟨5, 0, 0, false, ⟨bs.toArray⟩, most⟩) (blockE data s.off most) s
def rsP (data : List UInt8) (s : RS) : RVal × RS := rr ⟨6, 0, 0, false, ⟨#[]⟩, 0⟩ (fun bs : List UInt8 => ⟨6, 0, 0, false, ⟨bs.toArray⟩, 0⟩) (takeE data s.off 32) s
def rcP (data : List UInt8) (most : Nat) (s : RS) : RVal × RS := rr ⟨7, 0, 0, false, ⟨#[]⟩, most⟩ (fun n : Nat => ⟨7, 0, (n : Int), false, ⟨#[]⟩, most⟩) (limE data s.off most) s
theorem ru_any (rb : Nat) (v : Value) (data : List UInt8) (s : RS) (w : World) (hr : RrAt w rb v data s) :
    Calls Tryz.prog 66 #[.pointer (some ⟨rb, 0, none⟩), .int .i64 1, .int .i64 0] w (RdrRes (ruP data s) rb v data w) :=
  Read_any rb v data s 1 0 _ _ w hr rfl (fun W h => read1_any _ v data s.off W h hr.le hr.small) (fun _ _ h => (numE_spec h).2.2) (fun _ h => numE_ne h)
theorem rt_any (rb : Nat) (v : Value) (data : List UInt8) (most : Nat) (s : RS) (w : World) (hr : RrAt w rb v data s) (hm : most ≤ 32768) :
    Calls Tryz.prog 66 #[.pointer (some ⟨rb, 0, none⟩), .int .i64 5, .int .i64 (most : Int)] w (RdrRes (rtP data most s) rb v data w) :=
  Read_any rb v data s 5 most _ _ w hr rfl (fun W h => read5_any _ v data s.off most W h hr.le hr.small hm) (fun _ _ h => blockE_le h) (fun _ h => blockE_ne h)
theorem rs_any (rb : Nat) (v : Value) (data : List UInt8) (s : RS) (w : World) (hr : RrAt w rb v data s) :
    Calls Tryz.prog 66 #[.pointer (some ⟨rb, 0, none⟩), .int .i64 6, .int .i64 0] w (RdrRes (rsP data s) rb v data w) :=
  Read_any rb v data s 6 0 _ _ w hr rfl (fun W h => read6_any _ v data s.off W h hr.le hr.small) (fun _ _ h => takeE_le hr.le h) (fun _ h => takeE_ne h)
theorem rc_any (rb : Nat) (v : Value) (data : List UInt8) (most : Nat) (s : RS) (w : World) (hr : RrAt w rb v data s) (hm : most ≤ 32768) :
    Calls Tryz.prog 66 #[.pointer (some ⟨rb, 0, none⟩), .int .i64 7, .int .i64 (most : Int)] w (RdrRes (rcP data most s) rb v data w) :=
  Read_any rb v data s 7 most _ _ w hr rfl (fun W h => read7_any _ v data s.off most W h hr.le hr.small hm) (fun _ _ h => (limE_spec h).2.2) (fun _ h => limE_ne h)
/-- integer: what the reference makes of a number. -/
def intR (n : Nat) : Int := if 1125899906842624 < n then -1 else (n : Int)
def inP (data : List UInt8) (s : RS) : Int × RS := (intR (ruP data s).1.u, (ruP data s).2)
theorem ruP_lt (data : List UInt8) (s : RS) : (ruP data s).1.u < 18446744073709551616 := by
  unfold ruP rr
  split
  · cases h : numE data s.off with
    | error y => show (0 : Nat) < _; decide
    | ok p => exact (numE_spec h).1
  · show (0 : Nat) < _; decide
set_option maxRecDepth 100000 in
set_option maxHeartbeats 1000000 in
theorem integer_any (rb : Nat) (v : Value) (data : List UInt8) (s : RS) (w : World) (hr : RrAt w rb v data s) :
    Calls Tryz.prog 67 #[.pointer (some ⟨rb, 0, none⟩)] w fun e w' => e = .returned (.int .i64 (inP data s).1) ∧ RrAt w' rb v data (inP data s).2 ∧ w.grownBy w' (some rb) := by
  have HR := Lib.hid hr
  clear hr
  go_enter Tryz.func67, Tryz.ntmps67
  go_wp2_with fail
  refine (ru_any rb v data s w HR.out).mono ?_
  rintro e w1 ⟨rfl, h1, h2⟩
  have H1 := Lib.hid h1
  have H2 := Lib.hid h2
  have hu := ruP_lt data s
  obtain ⟨p, hp⟩ : ∃ p, p = ruP data s := ⟨_, rfl⟩
  have HP := Lib.hid hp
  rw [← hp] at H1 hu ⊢
  clear hp h1 h2
  obtain ⟨⟨k, u, n, b, t, m⟩, s'⟩ := p
  simp only [rvV] at hu ⊢
  by_cases hn : 1125899906842624 < u
  · have HT := Lib.hid (show (inP data s).1 = -1 by unfold inP; rw [← HP.out]; unfold intR; rw [if_pos hn])
    have HS := Lib.hid (show (inP data s).2 = s' by unfold inP; rw [← HP.out])
    go_wp2_with fail
    go_ret
    exact ⟨by rw [HT.out]; rfl, by rw [HS.out]; exact H1.out.below ((Below.refl _ _).alloc (Nat.le_refl _) _), grown_trans H2.out (grown_below ((Below.refl _ _).alloc (Nat.le_refl _) _) _)⟩
  · have HT := Lib.hid (show (inP data s).1 = (u : Int) by unfold inP; rw [← HP.out]; unfold intR; rw [if_neg hn])
    have HS := Lib.hid (show (inP data s).2 = s' by unfold inP; rw [← HP.out])
    go_wp2_with fail
    go_ret
    exact ⟨by rw [HT.out]; rfl, by rw [HS.out]; exact H1.out.below ((Below.refl _ _).alloc (Nat.le_refl _) _), grown_trans H2.out (grown_below ((Below.refl _ _).alloc (Nat.le_refl _) _) _)⟩

end Go.Proofs.YtndgmcggckpgfaaGreatDoor

/- Contracts of the reference's reader: End; a reference. -/
namespace Go.Proofs.YtndgmcggckpgfaaGreatDoor
open Go.RowKit


set_option maxRecDepth 100000 in
set_option maxHeartbeats 400000 in
theorem end01_any (rb : Nat) (v : Value) (data : List UInt8) (s : RS) (w : World) (hr : RrAt w rb v data s) :
    Calls Tryz.prog 69 #[.pointer (some ⟨rb, 0, none⟩)] w fun e w' => (∃ p : Int, e = .returned (.tuple #[.int .i64 p, .int .i64 (endE data s)])) ∧ Below w.heap.size w w' := by
  obtain ⟨_, a, cap, rfl, hc, hcm, -⟩ := hr.row
  unfold maxLen at hcm
  have c0 := cellH (k := 0) hr.box
  have c1 := cellH (k := 1) hr.box
  have c2 := cellH (k := 2) hr.box
  have c3 := cellH (k := 3) hr.box
  simp only [List.getElem?_toArray, List.getElem?_cons_succ, List.getElem?_cons_zero] at c0 c1 c2 c3
  have hsm := hr.small
  have hle := hr.le
  clear hr
  by_cases he : s.err = 0
  · rw [he] at c3
    have HE := Lib.hid he
    clear he
    by_cases hl : s.off < data.length
    · have HR := Lib.hid (show endE data s = 3 by unfold endE; rw [if_pos HE.out, if_pos hl])
      go_enter Tryz.func69, Tryz.ntmps69
      go_wp2_with fail
      go_quiet (fail)
      go_wp2_with fail
      go_ret2
      exact ⟨⟨(s.off : Int), by rw [HR.out]; rfl⟩, by first | exact below_draws (below_draws (Below.refl _ _) _) _ | exact below_draws (Below.refl _ _) _⟩
    · have HR := Lib.hid (show endE data s = 0 by unfold endE; rw [if_pos HE.out, if_neg hl])
      go_enter Tryz.func69, Tryz.ntmps69
      go_wp2_with fail
      go_quiet (fail)
      go_wp2_with fail
      go_quiet (fail)
      go_wp2_with fail
      go_ret2
      exact ⟨⟨(s.off : Int), by rw [HR.out]; rfl⟩, by first | exact below_draws (below_draws (Below.refl _ _) _) _ | exact below_draws (Below.refl _ _) _⟩
  · have HR := Lib.hid (show endE data s = s.err by unfold endE; rw [if_neg he])
    go_enter Tryz.func69, Tryz.ntmps69
    go_wp2_with fail
    go_quiet (fail)
    go_wp2_with fail
    go_quiet (fail)
    go_wp2_with fail
    go_ret2
    exact ⟨⟨(s.off : Int), by rw [HR.out]; rfl⟩, by first | exact below_draws (below_draws (Below.refl _ _) _) _ | exact below_draws (Below.refl _ _) _⟩
/-- A reference as the reference's decoder reads it. -/
def refR (data : List UInt8) (s : RS) : Ref × RS :=
  (⟨(rsP data s).1.s, (inP data (rsP data s).2).1, (inP data (inP data (rsP data s).2).2).1⟩, (inP data (inP data (rsP data s).2).2).2)
theorem set3 {w : World} {b : Nat} {a0 a1 a2 x0 x1 x2 : Value} {t : TypeId} (h : w.heap[b]? = some (.cells #[a0, a1, a2] t (0, 0))) :
    (((w.setCell ⟨b, 0, none⟩ x0).setCell ⟨b, 1, none⟩ x1).setCell ⟨b, 2, none⟩ x2).heap[b]? = some (.cells #[x0, x1, x2] t (0, 0)) := setH (setH (setH h x0) x1) x2
theorem reads_end {a : Act} {w : World} {b : Nat} {a0 a1 a2 x0 x1 x2 : Value} {Q : Ending → World → Prop} (h : w.heap[b]? = some (.cells #[a0, a1, a2] 43 (0, 0)))
    (h2 : a.tmps[2]? = some (.pointer (some ⟨b, 0, none⟩))) (hd : a.defers = [])
    (hQ : Q (.returned (.agg #[x0, x1, x2])) (((w.setCell ⟨b, 0, none⟩ x0).setCell ⟨b, 1, none⟩ x1).setCell ⟨b, 2, none⟩ x2)) :
    bodyPost Tryz.prog Tryz.f68 Q Exit.ret a (((w.setCell ⟨b, 0, none⟩ x0).setCell ⟨b, 1, none⟩ x1).setCell ⟨b, 2, none⟩ x2) := by
  have hs := set3 (x0 := x0) (x1 := x1) (x2 := x2) h
  revert hQ
  generalize (((w.setCell ⟨b, 0, none⟩ x0).setCell ⟨b, 1, none⟩ x1).setCell ⟨b, 2, none⟩ x2) = w3 at hs
  intro hQ
  have m0 := cellH (k := 0) hs
  have m1 := cellH (k := 1) hs
  have m2 := cellH (k := 2) hs
  simp only [List.getElem?_toArray, List.getElem?_cons_succ, List.getElem?_cons_zero] at m0 m1 m2
  exact bodyPost_ret (by simp [results, Tryz.results68, go_sem, h2, m0, m1, m2]) hd hQ
set_option maxRecDepth 100000 in
set_option maxHeartbeats 1000000 in
theorem reads_any (rb : Nat) (v : Value) (data : List UInt8) (s : RS) (w : World) (hr : RrAt w rb v data s) :
    Calls Tryz.prog 68 #[.pointer (some ⟨rb, 0, none⟩)] w fun e w' => e = .returned (refV (refR data s).1) ∧ RrAt w' rb v data (refR data s).2 ∧ w.grownBy w' (some rb) := by
  have HR := Lib.hid hr
  have hlt := hr.lt
  clear hr
  go_enter Tryz.func68, Tryz.ntmps68
  go_wp2_with fail
  refine (rs_any rb v data s _ (HR.out.below ((Below.refl _ _).alloc (Nat.le_refl _) _))).mono ?_
  rintro e w1 ⟨rfl, h1, h2⟩
  have H1 := Lib.hid h1
  have hz := sizeH h2
  simp at hz
  have HB := Lib.hid (keepH h2 (alloc_new w _) (by omega))
  have HG := Lib.hid (grown_trans (grown_below ((Below.refl _ _).alloc (Nat.le_refl _) _) (some rb)) h2)
  clear h1 h2
  obtain ⟨p, hp⟩ : ∃ p, p = rsP data s := ⟨_, rfl⟩
  have HP := Lib.hid hp
  rw [← hp] at H1 ⊢
  clear hp
  obtain ⟨⟨pk, pu, pn, pb, pt, pm⟩, s1⟩ := p
  simp only [rvV]
  have hfd : ∀ w : World, (Instr.field 91 (.agg #[.int .i64 pk, .int .u64 (pu : Int), .int .i64 pn, .bool pb, .string pt, .int .i64 pm]) 4).run Tryz.prog w = .ok (.string pt) w := fun _ => by kernel_rfl
  go_wp2_with fail
  refine (integer_any rb v data s1 _ H1.out).mono ?_
  rintro e w2 ⟨rfl, h1, h2⟩
  have H2 := Lib.hid h1
  have hz2 := sizeH h2
  have HB2 := Lib.hid (keepH h2 HB.out (by omega))
  have HG2 := Lib.hid (grown_trans HG.out h2)
  clear h1 h2
  go_wp2_with fail
  refine (integer_any rb v data (inP data s1).2 _ H2.out).mono ?_
  rintro e w3 ⟨rfl, h1, h2⟩
  have H3 := Lib.hid h1
  have HB3 := Lib.hid (keepH h2 HB2.out (by omega))
  have HG3 := Lib.hid (grown_trans HG2.out h2)
  clear h1 h2
  have b0 := cellH (k := 0) HB3.out
  have b1 := cellH (k := 1) HB3.out
  have b2 := cellH (k := 2) HB3.out
  have g0 := frozenH (k := 0) HB3.out
  have g1 := frozenH (k := 1) HB3.out
  have g2 := frozenH (k := 2) HB3.out
  simp only [List.getElem?_toArray, List.getElem?_cons_succ, List.getElem?_cons_zero] at b0 b1 b2
  obtain ⟨i1, hi1⟩ : ∃ i1, i1 = (inP data s1).1 := ⟨_, rfl⟩
  obtain ⟨i2, hi2⟩ : ∃ i2, i2 = (inP data (inP data s1).2).1 := ⟨_, rfl⟩
  rw [← hi1, ← hi2]
  have HI1 := Lib.hid hi1
  have HI2 := Lib.hid hi2
  clear hi1 hi2
  go_wp2_with fail
  refine reads_end HB3.out (by kernel_rfl) (by kernel_rfl) ?_
  have e1 : (rsP data s).2 = s1 := by rw [← HP.out]
  have e2 : (rsP data s).1.s = pt := by rw [← HP.out]
  have h6 := grown_new (grown_new (grown_new HG3.out (Nat.le_refl _) (k := 0) (.string pt)) (Nat.le_refl _) (k := 1) (.int .i64 i1)) (Nat.le_refl _) (k := 2) (.int .i64 i2)
  have hne : rb ≠ w.heap.size := by omega
  refine ⟨?_, ?_, h6⟩
  · unfold refR; rw [e1, e2, ← HI1.out, ← HI2.out]; rfl
  · have e3 : (refR data s).2 = (inP data (inP data s1).2).2 := by unfold refR; rw [e1]
    rw [e3]
    exact HR.out.grown h6 (setOtherH (setOtherH (setOtherH H3.out.box hne _) hne _) hne _) H3.out.le

end Go.Proofs.YtndgmcggckpgfaaGreatDoor

/- The reference's decoder and the program's, read by read (plain). -/
namespace Go.Proofs.YtndgmcggckpgfaaGreatDoor
open Go.RowKit

/-- Both readers stand alike. -/
def Sim (s t : RS) : Prop := (s.err = 0 ↔ t.err = 0) ∧ (s.err = 0 → s.off = t.off)
theorem Sim.start : Sim ⟨0, 0, 0⟩ ⟨0, 0, 0⟩ := ⟨Iff.rfl, fun _ => rfl⟩
theorem sim_step {α : Type} {z : RVal} {val : α → RVal} {z0 : α} (f : Nat → Except Int (α × Nat)) (hz : z = val z0) (hne : ∀ o y, f o = .error y → ¬ y = 0) {s t : RS} (h : Sim s t) :
    (rr z val (f s.off) s).1 = val (rv z0 (f t.off) t).1 ∧ Sim (rr z val (f s.off) s).2 (rv z0 (f t.off) t).2 := by
  unfold rr rv
  by_cases he : s.err = 0
  · rw [if_pos he, if_pos (h.1.1 he), h.2 he]
    cases hf : f t.off with
    | error y => exact ⟨hz, ⟨fun e => absurd e (hne _ _ hf), fun e => absurd e (hne _ _ hf)⟩, fun e => absurd e (hne _ _ hf)⟩
    | ok p => exact ⟨rfl, Iff.rfl, fun _ => rfl⟩
  · rw [if_neg he, if_neg (fun e => he (h.1.2 e))]
    exact ⟨hz, h⟩
theorem sim_u {data : List UInt8} {s t : RS} (h : Sim s t) : (ruP data s).1.u = (unP data t).1 ∧ Sim (ruP data s).2 (unP data t).2 := by
  have := sim_step (z0 := (0 : Nat)) (val := fun n => ⟨1, n, 0, false, ⟨#[]⟩, 0⟩) (fun o => numE data o) rfl (fun _ _ h => numE_ne h) h
  exact ⟨by have h1 := this.1; unfold ruP unP; rw [h1], this.2⟩
theorem sim_t {data : List UInt8} {most : Nat} {s t : RS} (h : Sim s t) : (rtP data most s).1.s = ⟨(txP data most t).1.toArray⟩ ∧ Sim (rtP data most s).2 (txP data most t).2 := by
  have := sim_step (z0 := ([] : List UInt8)) (val := fun bs : List UInt8 => ⟨5, 0, 0, false, ⟨bs.toArray⟩, most⟩) (fun o => blockE data o most) rfl (fun _ _ h => blockE_ne h) h
  exact ⟨by have h1 := this.1; unfold rtP txP; rw [h1], this.2⟩
theorem sim_s {data : List UInt8} {s t : RS} (h : Sim s t) : (rsP data s).1.s = ⟨(smP data t).1.toArray⟩ ∧ Sim (rsP data s).2 (smP data t).2 := by
  have := sim_step (z0 := ([] : List UInt8)) (val := fun bs : List UInt8 => ⟨6, 0, 0, false, ⟨bs.toArray⟩, 0⟩) (fun o => takeE data o 32) rfl (fun _ _ h => takeE_ne h) h
  exact ⟨by have h1 := this.1; unfold rsP smP; rw [h1], this.2⟩
theorem sim_c {data : List UInt8} {most : Nat} {s t : RS} (h : Sim s t) : (rcP data most s).1.n = ((cnP data most t).1 : Int) ∧ Sim (rcP data most s).2 (cnP data most t).2 := by
  have := sim_step (z := ⟨7, 0, 0, false, ⟨#[]⟩, most⟩) (z0 := (0 : Nat)) (val := fun n : Nat => ⟨7, 0, (n : Int), false, ⟨#[]⟩, most⟩) (fun o => limE data o most) rfl (fun _ _ h => limE_ne h) h
  exact ⟨by have h1 := this.1; unfold rcP cnP; rw [h1], this.2⟩
/-- A number out of reach is read as -1; the program's is then out of every bound. -/
def NumSim (a b : Int) : Prop := a = b ∨ (a = -1 ∧ (b < 0 ∨ 1125899906842624 < b))
theorem unP_lt (data : List UInt8) (s : RS) : (unP data s).1 < 18446744073709551616 := by
  unfold unP rv
  split
  · cases h : numE data s.off with
    | error y => show (0 : Nat) < _; decide
    | ok p => exact (numE_spec h).1
  · show (0 : Nat) < _; decide
theorem num_sim {n : Nat} (h : n < 18446744073709551616) : NumSim (intR n) (toI n) := by
  unfold NumSim intR toI wrap64
  split <;> omega
theorem sim_i {data : List UInt8} {s t : RS} (h : Sim s t) : NumSim (inP data s).1 (toI (unP data t).1) ∧ Sim (inP data s).2 (unP data t).2 := by
  obtain ⟨h1, h2⟩ := sim_u (data := data) h
  exact ⟨by unfold inP; rw [h1]; exact num_sim (unP_lt data t), h2⟩
def RefSim (a b : Ref) : Prop := a.name = b.name ∧ NumSim a.gen b.gen ∧ NumSim a.size b.size
theorem sim_r {data : List UInt8} {s t : RS} (h : Sim s t) : RefSim (refR data s).1 (refP data t).1 ∧ Sim (refR data s).2 (refP data t).2 := by
  obtain ⟨h1, h2⟩ := sim_s (data := data) h
  obtain ⟨h3, h4⟩ := sim_i (data := data) h2
  obtain ⟨h5, h6⟩ := sim_i (data := data) h4
  exact ⟨⟨h1, h3, h5⟩, h6⟩
/-- A valid reference is the same in both; and one is valid where the other is. -/
theorem refSim_valid {a b : Ref} (h : RefSim a b) : vRef a = vRef b := by
  obtain ⟨h1, h2, h3⟩ := h
  unfold vRef
  rw [h1]
  unfold NumSim at h2 h3
  rw [Bool.eq_iff_iff]
  simp only [Bool.and_eq_true, decide_eq_true_eq]
  constructor <;> (rintro ⟨⟨⟨⟨k1, k2⟩, k3⟩, k4⟩, k5⟩; exact ⟨⟨⟨⟨k1, by omega⟩, by omega⟩, by omega⟩, by omega⟩)
theorem refSim_eq {a b : Ref} (h : RefSim a b) (hv : vRef a = true) : a = b := by
  obtain ⟨h1, h2, h3⟩ := h
  unfold NumSim at h2 h3
  simp only [vRef, Bool.and_eq_true, decide_eq_true_eq] at hv
  obtain ⟨n, g, z⟩ := a
  obtain ⟨n', g', z'⟩ := b
  simp only at *
  subst h1
  have : g = g' := by omega
  have : z = z' := by omega
  subst_vars
  rfl

end Go.Proofs.YtndgmcggckpgfaaGreatDoor

/- The reference's decoding of a node gives what the program's gives (plain). -/
namespace Go.Proofs.YtndgmcggckpgfaaGreatDoor
open Go.RowKit

/-- The references of a file as the reference reads them: the loop ends at an error. -/
def chunkR (data : List UInt8) : Nat → List Ref → RS → List Ref × RS
  | 0, l, s => (l, s)
  | k + 1, l, s => if s.err = 0 then chunkR data k (l ++ [(refR data s).1]) (refR data s).2 else (l, s)
def itemKR (data : List UInt8) (nm : ByteArray) (kd md td : Int) (s : RS) : Item × RS :=
  if kd = 1 then (⟨nm, kd, md, td, totW (chunkR data (rcP data 32768 s).1.n.toNat [] (rcP data 32768 s).2).1, ⟨#[]⟩, (chunkR data (rcP data 32768 s).1.n.toNat [] (rcP data 32768 s).2).1, noRef⟩, (chunkR data (rcP data 32768 s).1.n.toNat [] (rcP data 32768 s).2).2)
  else if kd = 2 then (⟨nm, kd, md, td, 0, ⟨#[]⟩, [], (refR data s).1⟩, (refR data s).2)
  else (⟨nm, kd, md, td, 0, (rtP data 512 s).1.s, [], noRef⟩, (rtP data 512 s).2)
def itemHR (data : List UInt8) (nm : ByteArray) (kd md : Int) (td : Nat) (s : RS) : Option (Item × RS) :=
  if 9223372036854775807 < td then none else some (itemKR data nm kd md td s)
def itemR (data : List UInt8) (s : RS) : Option (Item × RS) :=
  itemHR data (rtP data 64 s).1.s (inP data (rtP data 64 s).2).1 (inP data (inP data (rtP data 64 s).2).2).1 (ruP data (inP data (inP data (rtP data 64 s).2).2).2).1.u (ruP data (inP data (inP data (rtP data 64 s).2).2).2).2
def itemsR (data : List UInt8) : Nat → List Item → RS → Option (List Item × RS)
  | 0, l, s => some (l, s)
  | n + 1, l, s => if s.err = 0 then (itemR data s).bind fun p => itemsR data n (l ++ [p.1]) p.2 else some (l, s)
def nodeR (data : List UInt8) : Option (List Item) :=
  if 32768 < data.length then none else
  (itemsR data (rcP data 4096 ⟨0, 0, 0⟩).1.n.toNat [] (rcP data 4096 ⟨0, 0, 0⟩).2).bind fun p => if endE data p.2 = 0 ∧ vNode p.1 = true then some p.1 else none

/- An error stays. -/
theorem rr_adv {α : Type} {z : RVal} {val : α → RVal} {r : Except Int (α × Nat)} {s : RS} (hne : ∀ y, r = .error y → ¬ y = 0) (h : (rr z val r s).2.err = 0) : s.err = 0 ∧ ∃ x o, r = .ok (x, o) ∧ (rr z val r s).2.off = o ∧ (rr z val r s).1 = val x := by
  unfold rr at h ⊢
  by_cases he : s.err = 0
  · rw [if_pos he] at h ⊢
    cases r with
    | error y => exact absurd h (hne y rfl)
    | ok p => exact ⟨he, p.1, p.2, rfl, rfl, rfl⟩
  · rw [if_neg he] at h
    exact absurd h he
theorem rv_adv {α : Type} {z : α} {r : Except Int (α × Nat)} {s : RS} (hne : ∀ y, r = .error y → ¬ y = 0) (h : (rv z r s).2.err = 0) : s.err = 0 ∧ ∃ x o, r = .ok (x, o) ∧ (rv z r s).2.off = o ∧ (rv z r s).1 = x := by
  unfold rv at h ⊢
  by_cases he : s.err = 0
  · rw [if_pos he] at h ⊢
    cases r with
    | error y => exact absurd h (hne y rfl)
    | ok p => exact ⟨he, p.1, p.2, rfl, rfl, rfl⟩
  · rw [if_neg he] at h
    exact absurd h he
theorem rs_adv {data : List UInt8} {s : RS} (h : (rsP data s).2.err = 0) : s.err = 0 ∧ (s.off ≤ data.length → s.off + 32 ≤ (rsP data s).2.off ∧ (rsP data s).2.off ≤ data.length) := by
  obtain ⟨h1, x, o, h2, h3, _⟩ := rr_adv (fun _ h => takeE_ne h) h
  refine ⟨h1, fun hle => ?_⟩
  unfold rsP
  rw [h3]
  unfold takeE at h2
  split at h2
  · simp at h2
  · simp only [Except.ok.injEq, Prod.mk.injEq] at h2; omega
theorem ru_adv {data : List UInt8} {s : RS} (h : (ruP data s).2.err = 0) : s.err = 0 ∧ s.off + 1 ≤ (ruP data s).2.off ∧ (ruP data s).2.off ≤ data.length := by
  obtain ⟨h1, x, o, h2, h3, _⟩ := rr_adv (fun _ h => numE_ne h) h
  have h4 := numE_spec h2
  unfold ruP
  rw [h3]
  exact ⟨h1, by omega, by omega⟩
theorem in_adv {data : List UInt8} {s : RS} (h : (inP data s).2.err = 0) : s.err = 0 ∧ s.off + 1 ≤ (inP data s).2.off ∧ (inP data s).2.off ≤ data.length := ru_adv h
theorem rt_back {data : List UInt8} {most : Nat} {s : RS} (h : (rtP data most s).2.err = 0) : s.err = 0 := (rr_adv (fun _ h => blockE_ne h) h).1
theorem tx_back {data : List UInt8} {most : Nat} {s : RS} (h : (txP data most s).2.err = 0) : s.err = 0 := (rv_adv (fun _ h => blockE_ne h) h).1
theorem un_back {data : List UInt8} {s : RS} (h : (unP data s).2.err = 0) : s.err = 0 := (rv_adv (fun _ h => numE_ne h) h).1
theorem sm_back {data : List UInt8} {s : RS} (h : (smP data s).2.err = 0) : s.err = 0 := (rv_adv (fun _ h => takeE_ne h) h).1
theorem cn_back {data : List UInt8} {most : Nat} {s : RS} (h : (cnP data most s).2.err = 0) : s.err = 0 := (rv_adv (fun _ h => limE_ne h) h).1
theorem refR_adv {data : List UInt8} {s : RS} (h : (refR data s).2.err = 0) : s.err = 0 ∧ (s.off ≤ data.length → s.off + 34 ≤ (refR data s).2.off ∧ (refR data s).2.off ≤ data.length) := by
  obtain ⟨h1, h2, h3⟩ := in_adv (s := (inP data (rsP data s).2).2) h
  obtain ⟨h4, h5, h6⟩ := in_adv h1
  obtain ⟨h7, h8⟩ := rs_adv h4
  refine ⟨h7, fun hle => ?_⟩
  have := h8 hle
  unfold refR
  simp only
  omega
theorem refP_back {data : List UInt8} {s : RS} (h : (refP data s).2.err = 0) : s.err = 0 := sm_back (un_back (un_back h))
theorem chunkR_back {data : List UInt8} : ∀ {n : Nat} {l : List Ref} {s : RS}, (chunkR data n l s).2.err = 0 → s.err = 0
  | 0, _, _, h => h
  | n + 1, l, s, h => by
    rw [chunkR] at h
    split at h
    · assumption
    · exact h
theorem chunkR_mem {data : List UInt8} : ∀ {n : Nat} {l : List Ref} {s : RS} {r : Ref}, r ∈ l → r ∈ (chunkR data n l s).1
  | 0, _, _, _, h => h
  | n + 1, l, s, r, h => by
    rw [chunkR]
    split
    · exact chunkR_mem (List.mem_append_left _ h)
    · exact h
theorem chunkR_adv {data : List UInt8} : ∀ {n : Nat} {l : List Ref} {s : RS}, (chunkR data n l s).2.err = 0 → s.off ≤ data.length → s.off + 34 * n ≤ data.length
  | 0, _, _, _, h => by omega
  | n + 1, l, s, h, hle => by
    have h0 := chunkR_back h
    rw [chunkR, if_pos h0] at h
    have h1 := (refR_adv (chunkR_back h)).2 hle
    have h2 := chunkR_adv h h1.2
    omega
/-- The program's references, from the front. -/
def chunkF (data : List UInt8) : Nat → List Ref → RS → List Ref × RS
  | 0, l, s => (l, s)
  | k + 1, l, s => chunkF data k (l ++ [(refP data s).1]) (refP data s).2
theorem chunkF_snoc (data : List UInt8) : ∀ (k : Nat) (l : List Ref) (s : RS), chunkF data (k + 1) l s = ((chunkF data k l s).1 ++ [(refP data (chunkF data k l s).2).1], (refP data (chunkF data k l s).2).2)
  | 0, _, _ => rfl
  | k + 1, l, s => by rw [chunkF, chunkF_snoc data k]; rfl
theorem chunkN_front (data : List UInt8) (s0 : RS) : ∀ k, chunkN data s0 k = chunkF data k [] s0
  | 0 => rfl
  | k + 1 => by rw [chunkF_snoc, ← chunkN_front data s0 k]; rfl
theorem chunkF_back {data : List UInt8} : ∀ {n : Nat} {l : List Ref} {s : RS}, (chunkF data n l s).2.err = 0 → s.err = 0
  | 0, _, _, h => h
  | n + 1, _, _, h => refP_back (chunkF_back (n := n) h)
theorem chunkF_mem {data : List UInt8} : ∀ {n : Nat} {l : List Ref} {s : RS} {r : Ref}, r ∈ l → r ∈ (chunkF data n l s).1
  | 0, _, _, _, h => h
  | n + 1, _l, _s, _r, h => chunkF_mem (n := n) (List.mem_append_left _ h)
theorem chunk_to {data : List UInt8} : ∀ {n : Nat} {l : List Ref} {s t : RS}, Sim s t → (chunkR data n l s).2.err = 0 → (∀ r ∈ (chunkR data n l s).1, vRef r = true) → (chunkF data n l t).1 = (chunkR data n l s).1 ∧ Sim (chunkR data n l s).2 (chunkF data n l t).2
  | 0, _, _, _, hs, _, _ => ⟨rfl, hs⟩
  | n + 1, l, s, t, hs, he, hv => by
    have h0 := chunkR_back he
    rw [chunkR, if_pos h0] at he hv ⊢
    obtain ⟨h1, h2⟩ := sim_r (data := data) hs
    have h3 := refSim_eq h1 (hv _ (chunkR_mem (by simp)))
    rw [chunkF, ← h3]
    exact chunk_to h2 he hv
theorem chunk_from {data : List UInt8} : ∀ {n : Nat} {l : List Ref} {s t : RS}, Sim s t → (chunkF data n l t).2.err = 0 → (∀ r ∈ (chunkF data n l t).1, vRef r = true) → (chunkR data n l s).1 = (chunkF data n l t).1 ∧ Sim (chunkR data n l s).2 (chunkF data n l t).2
  | 0, _, _, _, hs, _, _ => ⟨rfl, hs⟩
  | n + 1, l, s, t, hs, he, hv => by
    rw [chunkF] at he hv ⊢
    obtain ⟨h1, h2⟩ := sim_r (data := data) hs
    have h3 := refSim_eq h1 (by rw [refSim_valid h1]; exact hv _ (chunkF_mem (by simp)))
    rw [chunkR, if_pos (hs.1.2 (refP_back (chunkF_back he))), h3]
    exact chunk_from h2 he hv

theorem limE_other {data : List UInt8} {off a b n o : Nat} (h : limE data off a = .ok (n, o)) (hn : n ≤ b) : limE data off b = .ok (n, o) := by
  unfold limE at h ⊢
  cases hx : numE data off with
  | error y => rw [hx] at h; simp at h
  | ok p =>
    obtain ⟨m, q⟩ := p
    rw [hx] at h
    simp only at h ⊢
    split at h
    · simp at h
    · simp only [Except.ok.injEq, Prod.mk.injEq] at h
      obtain ⟨rfl, rfl⟩ := h
      rw [if_neg (by omega)]
theorem count_to {data : List UInt8} {a b : Nat} {s t : RS} (hs : Sim s t) (he : (rcP data a s).2.err = 0) (hn : (rcP data a s).1.n.toNat ≤ b) : (cnP data b t).1 = (rcP data a s).1.n.toNat ∧ Sim (rcP data a s).2 (cnP data b t).2 ∧ (rcP data a s).2.off ≤ data.length := by
  obtain ⟨h1, x, o, h2, h3, h4⟩ := rr_adv (fun _ h => limE_ne h) he
  have h5 : (rcP data a s).1.n.toNat = x := by unfold rcP; rw [h4]; simp
  rw [h5] at hn ⊢
  have h6 := limE_other h2 hn
  have h7 : cnP data b t = (x, ⟨o, t.off, 0⟩) := by
    unfold cnP rv
    rw [if_pos (hs.1.1 h1), ← hs.2 h1, h6]
  rw [h7]
  refine ⟨rfl, ⟨⟨fun _ => rfl, fun _ => he⟩, fun _ => h3⟩, ?_⟩
  show (rcP data a s).2.off ≤ _
  have h8 : (rcP data a s).2.off = o := h3
  rw [h8]
  exact (limE_spec h2).2.2
theorem count_from {data : List UInt8} {a b : Nat} (hab : b ≤ a) {s t : RS} (hs : Sim s t) (he : (cnP data b t).2.err = 0) : (rcP data a s).1.n.toNat = (cnP data b t).1 ∧ Sim (rcP data a s).2 (cnP data b t).2 := by
  obtain ⟨h1, x, o, h2, h3, h4⟩ := rv_adv (fun _ h => limE_ne h) he
  have h5 : (cnP data b t).1 = x := h4
  have h8 : (cnP data b t).2.off = o := h3
  have h6 := limE_other h2 (Nat.le_trans (limE_spec h2).1 hab)
  have h7 : rcP data a s = (⟨7, 0, (x : Int), false, ⟨#[]⟩, a⟩, ⟨o, s.off, 0⟩) := by
    unfold rcP rr
    rw [if_pos (hs.1.2 h1), hs.2 (hs.1.2 h1), h6]
  rw [h7, h5]
  exact ⟨by simp, ⟨⟨fun _ => he, fun _ => rfl⟩, fun _ => h8.symm⟩⟩

theorem vItem_facts {it : Item} (h : vItem it = true) : (it.kind = 1 ∨ it.kind = 2 ∨ it.kind = 3) ∧ 0 ≤ it.mode ∧ it.mode ≤ 511 ∧ 0 ≤ it.time ∧ (it.kind = 1 → ∀ c ∈ it.chunks, vRef c = true) ∧ (it.kind = 2 → vRef it.node = true) := by
  unfold vItem vHead vBody at h
  simp only [Bool.and_eq_true, decide_eq_true_eq] at h
  obtain ⟨⟨_, ⟨h1, h2⟩, h3⟩, h4⟩ := h
  refine ⟨?_, h1, h2, h3, fun hk => ?_, fun hk => ?_⟩
  · split at h4
    · exact .inl (by assumption)
    · split at h4
      · exact .inr (.inl (by assumption))
      · split at h4
        · exact .inr (.inr (by assumption))
        · simp at h4
  · rw [if_pos hk] at h4
    simp only [vChunks, vPiece, Bool.and_eq_true, List.all_eq_true] at h4
    exact fun c hc => (h4.2.1 c hc).1
  · rw [if_neg (by omega), if_pos hk] at h4
    simp only [Bool.and_eq_true] at h4
    exact h4.2
theorem itemKR_kind (data : List UInt8) (nm : ByteArray) (kd md td : Int) (s : RS) : (itemKR data nm kd md td s).1.kind = kd ∧ (itemKR data nm kd md td s).1.mode = md ∧ (itemKR data nm kd md td s).1.time = td := by
  unfold itemKR
  split
  · exact ⟨rfl, rfl, rfl⟩
  · split
    · exact ⟨rfl, rfl, rfl⟩
    · exact ⟨rfl, rfl, rfl⟩
theorem itemK_kind {data nm : List UInt8} {kd md td : Nat} {s s1 : RS} {a : Item} (h : itemK data nm kd md td s = some (a, s1)) : a.kind = toI kd ∧ a.mode = toI md ∧ a.time = toI td := by
  unfold itemK at h
  split at h
  · simp only [Option.some.injEq, Prod.mk.injEq] at h; obtain ⟨rfl, _⟩ := h; exact ⟨rfl, rfl, rfl⟩
  · split at h
    · simp only [Option.some.injEq, Prod.mk.injEq] at h; obtain ⟨rfl, _⟩ := h; exact ⟨rfl, rfl, rfl⟩
    · split at h
      · simp only [Option.some.injEq, Prod.mk.injEq] at h; obtain ⟨rfl, _⟩ := h; exact ⟨rfl, rfl, rfl⟩
      · simp at h
theorem itemKR_back {data : List UInt8} {nm : ByteArray} {kd md td : Int} {s : RS} (h : (itemKR data nm kd md td s).2.err = 0) : s.err = 0 := by
  unfold itemKR at h
  split at h
  · exact (rr_adv (fun _ h => limE_ne h) (chunkR_back h)).1
  · split at h
    · exact (refR_adv h).1
    · exact rt_back h
theorem itemK_back {data nm : List UInt8} {kd md td : Nat} {s s1 : RS} {a : Item} (h : itemK data nm kd md td s = some (a, s1)) (he : s1.err = 0) : s.err = 0 := by
  unfold itemK at h
  split at h
  · simp only [Option.some.injEq, Prod.mk.injEq] at h; obtain ⟨_, rfl⟩ := h
    rw [chunkN_front] at he
    exact cn_back (chunkF_back he)
  · split at h
    · simp only [Option.some.injEq, Prod.mk.injEq] at h; obtain ⟨_, rfl⟩ := h; exact refP_back he
    · split at h
      · simp only [Option.some.injEq, Prod.mk.injEq] at h; obtain ⟨_, rfl⟩ := h; exact tx_back he
      · simp at h
theorem itemK_to {data nm : List UInt8} {nm' : ByteArray} {kd md td : Nat} {kd' md' td' : Int} {s t : RS} (hlen : data.length ≤ 32768) (hs : Sim s t) (hn : nm' = ⟨nm.toArray⟩) (hk : kd' = toI kd) (hm : md' = toI md) (ht : td' = toI td)
    (he : (itemKR data nm' kd' md' td' s).2.err = 0) (hv : vItem (itemKR data nm' kd' md' td' s).1 = true) :
    ∃ t', itemK data nm kd md td t = some ((itemKR data nm' kd' md' td' s).1, t') ∧ Sim (itemKR data nm' kd' md' td' s).2 t' := by
  obtain ⟨hf, _, _, _, hf1, hf2⟩ := vItem_facts hv
  rw [(itemKR_kind data nm' kd' md' td' s).1] at hf hf1 hf2
  subst hn hk hm ht
  rcases hf with h | h | h
  · have hf1 := hf1 h
    unfold itemKR itemK at *
    rw [if_pos h] at he hf1 ⊢
    simp only at he hf1 ⊢
    have h1 := chunkR_back he
    obtain ⟨h2, x, o, h3, h4, h5⟩ := rr_adv (fun _ h => limE_ne h) h1
    have h6 := chunkR_adv he (by show (rcP data 32768 s).2.off ≤ _; unfold rcP; rw [h4]; exact (limE_spec h3).2.2)
    obtain ⟨c1, c2, _⟩ := count_to (b := 963) hs h1 (by omega)
    obtain ⟨d1, d2⟩ := chunk_to c2 he hf1
    rw [if_pos h, chunkN_front, c1, d1]
    exact ⟨_, rfl, d2⟩
  · have hf2 := hf2 h
    have h0 : ¬ toI kd = 1 := by omega
    unfold itemKR itemK at *
    rw [if_neg h0, if_pos h] at he hf2 ⊢
    simp only at he hf2 ⊢
    obtain ⟨h1, h2⟩ := sim_r (data := data) hs
    rw [if_neg h0, if_pos h, refSim_eq h1 hf2]
    exact ⟨_, rfl, h2⟩
  · have h0 : ¬ toI kd = 1 := by omega
    have h00 : ¬ toI kd = 2 := by omega
    unfold itemKR itemK at *
    rw [if_neg h0, if_neg h00] at he ⊢
    simp only at he ⊢
    obtain ⟨h1, h2⟩ := sim_t (data := data) (most := 512) hs
    rw [if_neg h0, if_neg h00, if_pos h, h1]
    exact ⟨_, rfl, h2⟩
theorem itemK_from {data nm : List UInt8} {nm' : ByteArray} {kd md td : Nat} {kd' md' td' : Int} {s t t' : RS} {a : Item} (hs : Sim s t) (hn : nm' = ⟨nm.toArray⟩) (hk : kd' = toI kd) (hm : md' = toI md) (ht : td' = toI td)
    (h0 : itemK data nm kd md td t = some (a, t')) (he : t'.err = 0) (hv : vItem a = true) :
    (itemKR data nm' kd' md' td' s).1 = a ∧ Sim (itemKR data nm' kd' md' td' s).2 t' := by
  obtain ⟨hf, _, _, _, hf1, hf2⟩ := vItem_facts hv
  rw [(itemK_kind h0).1] at hf hf1 hf2
  subst hn hk hm ht
  unfold itemK at h0
  unfold itemKR
  rcases hf with h | h | h
  · have hf1 := hf1 h
    rw [if_pos h] at h0 ⊢
    simp only [Option.some.injEq, Prod.mk.injEq] at h0
    obtain ⟨rfl, rfl⟩ := h0
    simp only at hf1 ⊢
    rw [chunkN_front] at he hf1 ⊢
    obtain ⟨c1, c2⟩ := count_from (a := 32768) (by omega) hs (chunkF_back he)
    obtain ⟨d1, d2⟩ := chunk_from c2 he hf1
    rw [c1, d1]
    exact ⟨rfl, d2⟩
  · have hf2 := hf2 h
    have h1 : ¬ toI kd = 1 := by omega
    rw [if_neg h1, if_pos h] at h0 ⊢
    simp only [Option.some.injEq, Prod.mk.injEq] at h0
    obtain ⟨rfl, rfl⟩ := h0
    simp only at hf2 ⊢
    obtain ⟨h1, h2⟩ := sim_r (data := data) hs
    rw [refSim_eq h1 (by rw [refSim_valid h1]; exact hf2)]
    exact ⟨rfl, h2⟩
  · have h1 : ¬ toI kd = 1 := by omega
    have h2 : ¬ toI kd = 2 := by omega
    rw [if_neg h1, if_neg h2] at h0 ⊢
    rw [if_pos h] at h0
    simp only [Option.some.injEq, Prod.mk.injEq] at h0
    obtain ⟨rfl, rfl⟩ := h0
    obtain ⟨h3, h4⟩ := sim_t (data := data) (most := 512) hs
    rw [h3]
    exact ⟨rfl, h4⟩
theorem num_to {a b : Int} (h : NumSim a b) (h0 : 0 ≤ a) : a = b := by unfold NumSim at h; omega
theorem num_from {a b : Int} (h : NumSim a b) (h0 : 0 ≤ b) (h1 : b ≤ 511) : a = b := by unfold NumSim at h; omega
theorem toI_small {n : Nat} (h : n ≤ 9223372036854775807) : toI n = (n : Int) := by unfold toI wrap64; omega
theorem toI_pos {n : Nat} (hn : n < 18446744073709551616) (h : 0 ≤ toI n) : n ≤ 9223372036854775807 := by unfold toI wrap64 at h; omega
theorem item_to {data : List UInt8} {s t s' : RS} {a : Item} (hlen : data.length ≤ 32768) (hs : Sim s t) (h : itemR data s = some (a, s')) (he : s'.err = 0) (hv : vItem a = true) : ∃ t', itemP data t = some (a, t') ∧ Sim s' t' := by
  obtain ⟨n1, n2⟩ := sim_t (data := data) (most := 64) hs
  obtain ⟨k1, k2⟩ := sim_i (data := data) n2
  obtain ⟨m1, m2⟩ := sim_i (data := data) k2
  obtain ⟨t1, t2⟩ := sim_u (data := data) m2
  unfold itemR itemHR at h
  split at h
  · simp at h
  · rename_i htd
    simp only [Option.some.injEq] at h
    obtain ⟨hf, hm0, hm1, hti, _, _⟩ := vItem_facts hv
    have hk := itemKR_kind data (rtP data 64 s).1.s (inP data (rtP data 64 s).2).1 (inP data (inP data (rtP data 64 s).2).2).1 (ruP data (inP data (inP data (rtP data 64 s).2).2).2).1.u (ruP data (inP data (inP data (rtP data 64 s).2).2).2).2
    rw [h] at hk
    obtain ⟨hk1, hk2, _⟩ := hk
    simp only at hk1 hk2
    have r := itemK_to (td := (unP data (unP data (unP data (txP data 64 t).2).2).2).1) (td' := ((ruP data (inP data (inP data (rtP data 64 s).2).2).2).1.u : Int)) hlen t2 n1 (num_to k1 (by omega)) (num_to m1 (by omega)) (by rw [t1]; exact (toI_small (by rw [← t1]; omega)).symm) (by rw [h]; exact he) (by rw [h]; exact hv)
    rw [h] at r
    exact r
theorem item_from {data : List UInt8} {s t t' : RS} {a : Item} (hs : Sim s t) (h : itemP data t = some (a, t')) (he : t'.err = 0) (hv : vItem a = true) : ∃ s', itemR data s = some (a, s') ∧ Sim s' t' := by
  obtain ⟨n1, n2⟩ := sim_t (data := data) (most := 64) hs
  obtain ⟨k1, k2⟩ := sim_i (data := data) n2
  obtain ⟨m1, m2⟩ := sim_i (data := data) k2
  obtain ⟨t1, t2⟩ := sim_u (data := data) m2
  unfold itemP at h
  obtain ⟨hf, hm0, hm1, hti, _, _⟩ := vItem_facts hv
  obtain ⟨hk1, hk2, hk3⟩ := itemK_kind h
  have htd := toI_pos (unP_lt _ _) (by rw [← hk3]; exact hti)
  obtain ⟨r1, r2⟩ := itemK_from (nm' := (rtP data 64 s).1.s) (kd' := (inP data (rtP data 64 s).2).1) (md' := (inP data (inP data (rtP data 64 s).2).2).1) (td' := ((ruP data (inP data (inP data (rtP data 64 s).2).2).2).1.u : Int)) t2 n1 (num_from k1 (by omega) (by omega)) (num_from m1 (by omega) (by omega)) (by rw [t1]; exact (toI_small htd).symm) h he hv
  unfold itemR itemHR
  rw [if_neg (by rw [t1]; omega)]
  exact ⟨_, by rw [← r1], r2⟩
theorem itemR_back {data : List UInt8} {s s' : RS} {a : Item} (h : itemR data s = some (a, s')) (he : s'.err = 0) : s.err = 0 := by
  unfold itemR itemHR at h
  split at h
  · simp at h
  · simp only [Option.some.injEq] at h
    exact rt_back (in_adv (in_adv (ru_adv (itemKR_back (by rw [h]; exact he))).1).1).1
theorem itemP_back {data : List UInt8} {s s' : RS} {a : Item} (h : itemP data s = some (a, s')) (he : s'.err = 0) : s.err = 0 := by
  unfold itemP at h
  exact tx_back (un_back (un_back (un_back (itemK_back h he))))
/-- Items, one after the other, from the front. -/
def itF {α β : Type} (f : β → Option (α × β)) : Nat → List α → β → Option (List α × β)
  | 0, l, s => some (l, s)
  | n + 1, l, s => (f s).bind fun p => itF f n (l ++ [p.1]) p.2
theorem itF_snoc {α β : Type} (f : β → Option (α × β)) : ∀ (k : Nat) (l : List α) (s : β), itF f (k + 1) l s = (itF f k l s).bind fun p => (f p.2).map fun q => (p.1 ++ [q.1], q.2)
  | 0, l, s => by
    show (f s).bind (fun p => some (l ++ [p.1], p.2)) = (f s).map fun q => (l ++ [q.1], q.2)
    cases f s <;> rfl
  | k + 1, l, s => by
    show (f s).bind (fun p => itF f (k + 1) (l ++ [p.1]) p.2) = ((f s).bind fun p => itF f k (l ++ [p.1]) p.2).bind _
    cases f s with
    | none => rfl
    | some p => exact itF_snoc f k _ _
def itemsF (data : List UInt8) (n : Nat) (l : List Item) (s : RS) : Option (List Item × RS) := itF (itemP data) n l s
theorem itemsF_zero (data : List UInt8) (l : List Item) (s : RS) : itemsF data 0 l s = some (l, s) := rfl
theorem itF_succ {α β : Type} (f : β → Option (α × β)) (n : Nat) (l : List α) (s : β) : itF f (n + 1) l s = (f s).bind fun p => itF f n (l ++ [p.1]) p.2 := rfl
theorem itemsF_succ (data : List UInt8) (n : Nat) (l : List Item) (s : RS) : itemsF data (n + 1) l s = (itemP data s).bind fun p => itemsF data n (l ++ [p.1]) p.2 := itF_succ (itemP data) n l s
theorem itemsF_snoc (data : List UInt8) (k : Nat) (l : List Item) (s : RS) : itemsF data (k + 1) l s = (itemsF data k l s).bind fun p => (itemP data p.2).map fun q => (p.1 ++ [q.1], q.2) := itF_snoc (itemP data) k l s
theorem itemsN_front (data : List UInt8) (s0 : RS) : ∀ k, itemsN data s0 k = itemsF data k [] s0
  | 0 => rfl
  | k + 1 => by rw [itemsF_snoc, ← itemsN_front data s0 k, itemsN_succ]
theorem itemsR_back {data : List UInt8} : ∀ {n : Nat} {l : List Item} {s s' : RS} {r : List Item}, itemsR data n l s = some (r, s') → s'.err = 0 → s.err = 0
  | 0, l, s, s', r, h, he => by
    simp only [itemsR, Option.some.injEq, Prod.mk.injEq] at h
    obtain ⟨_, rfl⟩ := h
    exact he
  | n + 1, l, s, s', r, h, he => by
    rw [itemsR] at h
    split at h
    · assumption
    · simp only [Option.some.injEq, Prod.mk.injEq] at h
      obtain ⟨_, rfl⟩ := h
      exact he
theorem itemsF_back {data : List UInt8} : ∀ {n : Nat} {l : List Item} {s s' : RS} {r : List Item}, itemsF data n l s = some (r, s') → s'.err = 0 → s.err = 0
  | 0, l, s, s', r, h, he => by
    simp only [itemsF_zero, Option.some.injEq, Prod.mk.injEq] at h
    obtain ⟨_, rfl⟩ := h
    exact he
  | n + 1, l, s, s', r, h, he => by
    rw [itemsF_succ, Option.bind_eq_some_iff] at h
    obtain ⟨⟨a, s1⟩, h1, h2⟩ := h
    exact itemP_back h1 (itemsF_back h2 he)
theorem itemsR_mem {data : List UInt8} : ∀ {n : Nat} {l : List Item} {s s' : RS} {r : List Item} {a : Item}, itemsR data n l s = some (r, s') → a ∈ l → a ∈ r
  | 0, l, s, s', r, a, h, ha => by
    simp only [itemsR, Option.some.injEq, Prod.mk.injEq] at h
    obtain ⟨rfl, _⟩ := h
    exact ha
  | n + 1, l, s, s', r, a, h, ha => by
    rw [itemsR] at h
    split at h
    · rw [Option.bind_eq_some_iff] at h
      obtain ⟨⟨b, s1⟩, h1, h2⟩ := h
      exact itemsR_mem h2 (List.mem_append_left _ ha)
    · simp only [Option.some.injEq, Prod.mk.injEq] at h
      obtain ⟨rfl, _⟩ := h
      exact ha
theorem itemsF_mem {data : List UInt8} : ∀ {n : Nat} {l : List Item} {s s' : RS} {r : List Item} {a : Item}, itemsF data n l s = some (r, s') → a ∈ l → a ∈ r
  | 0, l, s, s', r, a, h, ha => by
    simp only [itemsF_zero, Option.some.injEq, Prod.mk.injEq] at h
    obtain ⟨rfl, _⟩ := h
    exact ha
  | n + 1, l, s, s', r, a, h, ha => by
    rw [itemsF_succ, Option.bind_eq_some_iff] at h
    obtain ⟨⟨b, s1⟩, h1, h2⟩ := h
    exact itemsF_mem h2 (List.mem_append_left _ ha)
theorem items_to {data : List UInt8} (hlen : data.length ≤ 32768) : ∀ {n : Nat} {l r : List Item} {s t s' : RS}, Sim s t → itemsR data n l s = some (r, s') → s'.err = 0 → (∀ a ∈ r, vItem a = true) → ∃ t', itemsF data n l t = some (r, t') ∧ Sim s' t'
  | 0, l, r, s, t, s', hs, h, he, hv => by
    simp only [itemsR, Option.some.injEq, Prod.mk.injEq] at h
    obtain ⟨rfl, rfl⟩ := h
    exact ⟨t, rfl, hs⟩
  | n + 1, l, r, s, t, s', hs, h, he, hv => by
    have h0 := itemsR_back h he
    rw [itemsR, if_pos h0, Option.bind_eq_some_iff] at h
    obtain ⟨⟨a, s1⟩, h1, h2⟩ := h
    obtain ⟨t1, h3, h4⟩ := item_to hlen hs h1 (itemsR_back h2 he) (hv a (itemsR_mem h2 (by simp)))
    obtain ⟨t', h5, h6⟩ := items_to hlen h4 h2 he hv
    exact ⟨t', by rw [itemsF_succ, h3]; exact h5, h6⟩
theorem items_from {data : List UInt8} : ∀ {n : Nat} {l r : List Item} {s t t' : RS}, Sim s t → itemsF data n l t = some (r, t') → t'.err = 0 → (∀ a ∈ r, vItem a = true) → ∃ s', itemsR data n l s = some (r, s') ∧ Sim s' t'
  | 0, l, r, s, t, t', hs, h, he, hv => by
    simp only [itemsF_zero, Option.some.injEq, Prod.mk.injEq] at h
    obtain ⟨rfl, rfl⟩ := h
    exact ⟨s, rfl, hs⟩
  | n + 1, l, r, s, t, t', hs, h, he, hv => by
    have h0 := itemsF_back h he
    rw [itemsF_succ, Option.bind_eq_some_iff] at h
    obtain ⟨⟨a, t1⟩, h1, h2⟩ := h
    obtain ⟨s1, h3, h4⟩ := item_from hs h1 (itemsF_back h2 he) (hv a (itemsF_mem h2 (by simp)))
    obtain ⟨s', h5, h6⟩ := items_from h4 h2 he hv
    exact ⟨s', by rw [itemsR, if_pos (hs.1.2 h0), h3]; exact h5, h6⟩
theorem vNodeF_items : ∀ {l : List Item} {p : Option ByteArray}, vNodeF p l = true → ∀ a ∈ l, vItem a = true
  | [], _, _ => by simp
  | it :: r, p, h => by
    simp only [vNodeF, Bool.and_eq_true] at h
    intro a ha
    rcases List.mem_cons.1 ha with rfl | ha
    · exact h.1.1
    · exact vNodeF_items h.2 a ha
theorem vNode_items {l : List Item} (h : vNode l = true) : ∀ a ∈ l, vItem a = true := by
  unfold vNode at h
  simp only [Bool.and_eq_true] at h
  exact vNodeF_items h.2
theorem endE_zero {data : List UInt8} {s : RS} (h : endE data s = 0) : s.err = 0 := by
  unfold endE at h
  split at h
  · assumption
  · exact h
theorem endE_sim {data : List UInt8} {s t : RS} (h : Sim s t) : endE data s = 0 ↔ endE data t = 0 := by
  unfold endE
  by_cases he : s.err = 0
  · rw [if_pos he, if_pos (h.1.1 he), h.2 he]
  · rw [if_neg he, if_neg (fun e => he (h.1.2 e))]
    exact ⟨fun e => absurd e he, fun e => absurd (h.1.2 e) he⟩
theorem nodeR_eq (data : List UInt8) : nodeR data = itemsP data := by
  unfold nodeR itemsP
  by_cases hb : 32768 < data.length
  · rw [if_pos hb, if_pos hb]
  rw [if_neg hb, if_neg hb]
  obtain ⟨c1, c2⟩ := sim_c (data := data) (most := 4096) Sim.start
  have hn : (rcP data 4096 ⟨0, 0, 0⟩).1.n.toNat = (cnP data 4096 ⟨0, 0, 0⟩).1 := by rw [c1]; simp
  rw [hn, itemsN_front]
  apply Option.ext
  intro l
  rw [Option.bind_eq_some_iff, Option.bind_eq_some_iff]
  constructor
  · rintro ⟨⟨r, s'⟩, h1, h2⟩
    split at h2
    · rename_i hh
      simp only [Option.some.injEq] at h2
      subst h2
      obtain ⟨t', h3, h4⟩ := items_to (by omega) c2 h1 (endE_zero hh.1) (vNode_items hh.2)
      exact ⟨(r, t'), h3, by rw [if_pos ⟨(endE_sim h4).1 hh.1, hh.2⟩]⟩
    · simp at h2
  · rintro ⟨⟨r, t'⟩, h1, h2⟩
    split at h2
    · rename_i hh
      simp only [Option.some.injEq] at h2
      subst h2
      obtain ⟨s', h3, h4⟩ := items_from c2 h1 (endE_zero hh.1) (vNode_items hh.2)
      exact ⟨(r, s'), h3, by rw [if_pos ⟨(endE_sim h4).2 hh.1, hh.2⟩]⟩
    · simp at h2

end Go.Proofs.YtndgmcggckpgfaaGreatDoor

/- Contracts of the reference of package manifest: node (what Items does, given). -/
namespace Go.Proofs.YtndgmcggckpgfaaGreatDoor
open Go Go.RowKit Go.Maps

/-- What the reference's Items does. -/
def ItemsOf : Prop := ∀ (S : Nat → Prop) (data : List UInt8) (v : Value) (w : World), BytesAt S w v data → Calls Tryz.prog 56 #[v] w fun e w' => Below w.heap.size w w' ∧ match itemsP data with
  | none => e = .returned (.tuple #[.slice none 0 0, .bool false])
  | some l => ∃ v, e = .returned (.tuple #[v, .bool true]) ∧ ItemsAt (w.heap.size ≤ ·) w' v l
set_option maxRecDepth 100000 in
set_option maxHeartbeats 1000000 in
theorem nodeR24_any (HI : ItemsOf) (S : Nat → Prop) (cv : Value) (cs : List (ByteArray × List UInt8)) (r : Ref) (w : World) (hc : ContAt S w cv cs) (hr : RefOk r) : Calls Tryz.prog 48 #[refV r, cv] w (NodeRes cs r w) := by
  have HB := Lib.hid ((Below.refl w.heap.size w).alloc (Nat.le_refl _) (.cells #[.string r.name, .int .i64 r.gen, .int .i64 r.size] 43))
  have HC := Lib.hid (hc.below HB.out)
  have HR := Lib.hid hr
  have HII := Lib.hid HI
  unfold refV
  clear hc hr HI
  go_enter Tryz.func48, Tryz.ntmps48
  go_wp2_with fail
  refine (get24_any S cv cs r _ HC.out HR.out).mono ?_
  rintro e w1 ⟨hb1, hres⟩
  have HB1 := Lib.hid (below_next HB.out hb1)
  clear hb1
  cases hch : chunkP cs r with
  | error x =>
    rw [hch] at hres
    obtain ⟨rfl, hx⟩ := hres
    have HN := Lib.hid (show nodeP cs r = .error x by unfold nodeP; rw [hch])
    have HX := Lib.hid hx
    have e1 : (x != 0) = true := by simp [hx]
    clear hch hx
    go_wp2_with fail
    go_ret2
    exact ⟨HB1.out, by rw [HN.out]; exact ⟨rfl, HX.out⟩⟩
  | ok bs =>
    rw [hch] at hres
    obtain ⟨v, rfl, hv⟩ := hres
    have HV := Lib.hid hv
    obtain ⟨_, a, cap, rfl, hn, hm, -⟩ := hv
    unfold maxLen at hm
    have HCH := Lib.hid hch
    clear hch
    go_wp2_with fail
    refine (HII.out S bs _ w1 HV.out).mono ?_
    rintro e w2 ⟨hb2, hres⟩
    have HB2 := Lib.hid (below_next HB1.out hb2)
    clear hb2
    cases hit : itemsP bs with
    | none =>
      rw [hit] at hres
      simp only at hres
      subst hres
      have HN := Lib.hid (show nodeP cs r = .error 9 by unfold nodeP; rw [HCH.out]; simp only [hit])
      clear hit
      go_wp2_with fail
      go_ret2
      exact ⟨HB2.out, by rw [HN.out]; exact ⟨rfl, by decide⟩⟩
    | some l =>
      rw [hit] at hres
      simp only at hres
      obtain ⟨v, rfl, hv⟩ := hres
      have hwz := HB1.out.size
      have HV2 := Lib.hid (show ItemsAt (w.heap.size ≤ ·) w2 v l from by
        obtain ⟨cells, h1, h2⟩ := hv
        exact ⟨cells, h1.weak (fun k hk => Nat.le_trans hwz hk), h2.mono (fun c x _ hx => hx.same (fun k _ hS => ⟨Nat.le_trans hwz hS, rfl⟩))⟩)
      obtain ⟨a2, c2, rfl, -, -, -⟩ := SeqAt.shape hv ItemR.len
      have HN := Lib.hid (show nodeP cs r = .ok l by unfold nodeP; rw [HCH.out]; simp only [hit])
      clear hit hv
      go_wp2_with fail
      go_ret2
      exact ⟨HB2.out, by rw [HN.out]; exact ⟨_, rfl, HV2.out⟩⟩

end Go.Proofs.YtndgmcggckpgfaaGreatDoor
