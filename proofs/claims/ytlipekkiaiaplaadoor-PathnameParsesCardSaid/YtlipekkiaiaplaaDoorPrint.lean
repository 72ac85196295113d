/- Contracts of package pathname: Rule.line, Print. -/
import Derived.Test.YtlipekkiaiaplaaDoorRefJ
import Derived.Test.YtlipekkiaiaplaaDoorIgn
namespace Go.Proofs.YtlipekkiaiaplaaDoor
open Go.RowKit

theorem Tryd.lays166x : Lays.n166 Tryd.prog Tryd.lays156_ren := {
  mixed := Tryd.lays156.mixed
  f166 := Tryd.lays156.f166
  f240 := Tryd.lays156.f240
  f276 := Tryd.lays156.f276
  t0 := Tryd.lays156.t0
  a0 := Tryd.lays156.a0
  z0 := Tryd.lays156.z0
  v0 := Tryd.lays156.v0
  t3 := Tryd.lays156.t3
  a3 := Tryd.lays156.a3
  z3 := Tryd.lays156.z3
  v3 := Tryd.lays156.v3
  t4 := Tryd.lays156.t4
  a4 := Tryd.lays156.a4
  z4 := Tryd.lays156.z4
  v4 := Tryd.lays156.v4
  t9 := Tryd.lays156.t9
  a9 := Tryd.lays156.a9
  z9 := Tryd.lays156.z9
  v9 := Tryd.lays156.v9
  t20 := Tryd.lays156.t20
  a20 := Tryd.lays156.a20
  z20 := Tryd.lays156.z20
  v20 := Tryd.lays156.v20
  t37 := Tryd.lays156.t37
  a37 := Tryd.lays156.a37
  z37 := Tryd.lays156.z37
  v37 := Tryd.lays156.v37
  t70 := Tryd.lays156.t70
  a70 := Tryd.lays156.a70
  z70 := Tryd.lays156.z70
  v70 := Tryd.lays156.v70
  t72 := Tryd.lays156.t72
  a72 := Tryd.lays156.a72
  z72 := Tryd.lays156.z72
  v72 := Tryd.lays156.v72
  t75 := Tryd.lays156.t75
  a75 := Tryd.lays156.a75
  z75 := Tryd.lays156.z75
  v75 := Tryd.lays156.v75
  t164 := Tryd.lays156.t164
  a164 := Tryd.lays156.a164
  z164 := Tryd.lays156.z164
  v164 := Tryd.lays156.v164 }

def bT : TypeId := 82
theorem writeString_any (B b : Nat) (bs : List Value) (s : ByteArray) (w : World) (h : Lib.IsBuilder 82 5 B b bs w) (hlen : bs.length + s.size ≤ 140737488355328) (hBw : B ≤ w.heap.size) :
    Calls Tryd.prog 61 #[.pointer (some ⟨b, 0, none⟩), .string s] w fun e w' => e = .returned (.tuple #[.int .i64 s.size, .nilIface]) ∧ (Lib.BuilderAt 82 5 B b (.pointer (some ⟨b, 0, none⟩)) (bs ++ Lib.strCells s) w' ∧ Below B w w') :=
  Any.Builder_WriteString Tryd.lays166x Tryd.Builder_Extra_156 B b bs s w h hlen hBw
theorem builder_below {T e : TypeId} {B b : Nat} {bs : List Value} {w w' : World} (h : Lib.IsBuilder T e B b bs w) (hb : Below w.heap.size w w') : Lib.IsBuilder T e B b bs w' := by
  have key : ∀ p, Lib.BuilderAt T e B b p bs w → Lib.BuilderAt T e B b p bs w' := fun p h => by
    have hlt := h.lt
    obtain ⟨h1, v, h2, h3, h4⟩ := h
    exact ⟨h1, v, by rw [hb.block b hlt]; exact h2, owns_below h3 hb, h4⟩
  rcases h with h | h
  · exact .inl (key _ h)
  · exact .inr (key _ h)

set_option maxHeartbeats 1000000 in
theorem line_any (s : ByteArray) (k d r : Bool) (w : World) (hs : s.size ≤ 65536) :
    Calls Tryd.prog 62 #[.agg #[.string s, .bool k, .bool d, .bool r]] w (LineRes ⟨bl s, k, d, r⟩ w) := by
  go_enter Tryd.func62, Tryd.ntmps62
  have hb0 : Below w.heap.size w (w.alloc (.cells #[.string s, .bool k, .bool d, .bool r] 53)) := (Below.refl _ _).alloc (Nat.le_refl _) _
  have HB0 := Lib.hid hb0
  clear hb0
  cases r
  · cases k <;> cases d <;> go_wp2_with fail
    all_goals (
      go_ret
      refine ⟨_, rfl, ?_, HB0.out⟩
      simp [lineS, bl])
  · cases hc : (bl s).contains 47
    all_goals (
      have HC := Lib.hid hc
      clear hc
      go_wp2_with fail
      refine (contains_is s 47 _ _ HC.out).mono ?_
      rintro e w1 ⟨rfl, rfl⟩
      cases k <;> cases d <;> go_wp2_with fail
      all_goals (
        go_ret
        refine ⟨_, rfl, ?_, HB0.out⟩
        have := HC.out
        simp only [lineS, this]
        simp [bl]))

theorem line_rule (r : PRule) (w : World) (hs : r.pat.length ≤ 65536) : Calls Tryd.prog 62 #[.agg #[.string ⟨r.pat.toArray⟩, .bool r.keep, .bool r.dir, .bool r.rooted]] w (LineRes r w) := by
  have := line_any ⟨r.pat.toArray⟩ r.keep r.dir r.rooted w (by rw [size_bl, bl_mk]; exact hs)
  rw [bl_mk] at this; exact this
/-- What Print leaves. -/
def PrintRes (o : List UInt8 × Int) (w : World) (e : Ending) (w' : World) : Prop := ∃ t, e = .returned (.tuple #[.string t, .int .i64 o.2]) ∧ bl t = o.1 ∧ Below w.heap.size w w'
def printTx (rs : List PRule) : List UInt8 := rs.flatMap fun r => lineS r ++ [10]
theorem printE_bad {rs : List PRule} {r : PRule} (hr : r ∈ rs) (h : compileS r = none) : printE rs = ([], 1) := by
  unfold printE
  rw [if_pos]
  rw [List.all_eq_false]
  exact ⟨r, hr, by rw [h]; simp⟩
theorem printE_ok {rs : List PRule} (h : ∀ r ∈ rs, (compileS r).isSome = true) : printE rs = if 256 < rs.length then ([], 2) else (printTx rs, 0) := by
  unfold printE
  rw [if_neg]
  · rfl
  · rw [Bool.not_eq_false, List.all_eq_true]; exact h
theorem line_small (r : PRule) (h : r.pat.length ≤ 512) : (lineS r).length ≤ 515 := by
  obtain ⟨p, k, d, o⟩ := r
  simp only at h
  unfold lineS
  simp only [List.length_append]
  cases k <;> cases d <;> cases (o && !p.contains 47) <;> simp <;> omega
theorem print_take {rs : List PRule} {k : Nat} {r : PRule} (h : rs[k]? = some r) : printTx (rs.take (k + 1)) = printTx (rs.take k) ++ (lineS r ++ [10]) := by
  unfold printTx
  rw [List.take_add_one, h]; simp
theorem print_len (rs : List PRule) (h : ∀ r ∈ rs, r.pat.length ≤ 512) : (printTx rs).length ≤ 516 * rs.length := by
  induction rs with
  | nil => simp [printTx]
  | cons r rs ih =>
    have h1 := line_small r (h r (by simp))
    have h2 := ih (fun q hq => h q (by simp [hq]))
    have e : (printTx (r :: rs)).length = (lineS r).length + 1 + (printTx rs).length := by simp [printTx]; omega
    rw [e, List.length_cons]; omega
theorem ws_len {l : List UInt8} {lt : ByteArray} (h : l.length ≤ 132096) (k : lt.size ≤ 515) : (Lib.byteCells l).length + (lt ++ (⟨#[10]⟩ : ByteArray)).size ≤ 140737488355328 := by
  have e : (⟨#[10]⟩ : ByteArray).size = 1 := rfl
  rw [Lib.byteCells_length, ByteArray.size_append, e]; omega
def AllOk (rs : List PRule) (k : Nat) : Prop := ∀ (j : Nat) r, j < k → rs[j]? = some r → (compileS r).isSome = true
theorem AllOk.all {rs : List PRule} (h : AllOk rs rs.length) : ∀ r ∈ rs, (compileS r).isSome = true := fun r hr => by
  obtain ⟨j, hj, rfl⟩ := List.getElem_of_mem hr
  exact h j _ hj (by simp)
set_option maxRecDepth 100000 in
set_option maxHeartbeats 2000000 in
theorem print_any (rs : List PRule) (S : Nat → Prop) (v : Value) (w : World) (he : Env w) (hv : RulesAt S w v rs) (hp : ∀ r ∈ rs, r.pat.length ≤ 9223372036854775807) : Calls Tryd.prog 36 #[v] w (PrintRes (printE rs) w) := by
  have HE := Lib.hid he
  have HV := Lib.hid hv
  have HP := Lib.hid hp
  obtain ⟨a, cap, rfl, hc, hcm, -⟩ := hv.cells
  clear he hv hp
  unfold maxLen at hcm
  go_enter Tryd.func36, Tryd.ntmps36
  go_wp2_with fail
  go_loopw [13] (fun i wr => ∃ k : Nat, k ≤ rs.length ∧ i = .int .i64 k ∧ Below w.heap.size w wr ∧ AllOk rs k) (fun i _ => rs.length - (intOf i).toNat)
  case atStart => exact ⟨0, Nat.zero_le _, rfl, Below.refl _ _, fun j r hj => by omega⟩
  case round =>
    obtain ⟨k, hk, rfl, hb, hok⟩ := hrel
    have HB := Lib.hid hb
    have HOK := Lib.hid hok
    clear hok
    by_cases hlt : k < rs.length
    · obtain ⟨r, hr⟩ : ∃ r, rs[k]? = some r := ⟨rs[k], by simp [hlt]⟩
      obtain ⟨_, _, hv', _, _, hcells⟩ := (RulesAt.below HV.out hb).cells
      cases hv'
      obtain ⟨b, o, rfl, c0, c1, c2, c3⟩ := hcells k r hr
      have hrp := HP.out r (List.mem_of_getElem? hr)
      have HR := Lib.hid hr
      clear hr hcells hb
      have hwb : Below wr.heap.size wr (wr.alloc (.cells #[.string ⟨r.pat.toArray⟩, .bool r.keep, .bool r.dir, .bool r.rooted] 53)) := (Below.refl _ _).alloc (Nat.le_refl _) _
      have HWB := Lib.hid hwb
      clear hwb
      go_wp2_with fail
      have hE2 : Env (wr.alloc (.cells #[.string ⟨r.pat.toArray⟩, .bool r.keep, .bool r.dir, .bool r.rooted] 53)) := HE.out.below (below_next HB.out HWB.out)
      cases hcs : compileS r with
      | none =>
        have HCS := Lib.hid hcs
        clear hcs
        refine (compile_rule r _ hE2 hrp).mono ?_
        rw [HCS.out]
        rintro e w3 ⟨rfl, hb3⟩
        have HB3 := Lib.hid (below_next HB.out (below_next HWB.out hb3))
        clear hb3 hE2
        go_wp2_with fail
        go_ret2
        refine ⟨⟨#[]⟩, ?_, ?_, HB3.out⟩
        · rw [printE_bad (List.mem_of_getElem? HR.out) HCS.out]; rfl
        · rw [printE_bad (List.mem_of_getElem? HR.out) HCS.out]; rfl
      | some cs =>
        have HCS := Lib.hid hcs
        clear hcs
        refine (compile_rule r _ hE2 hrp).mono ?_
        rw [HCS.out]
        rintro e w3 ⟨pv, rfl, hv3, hb3⟩
        have HB3 := Lib.hid (below_next HB.out (below_next HWB.out hb3))
        obtain ⟨av, cv, rfl, hnv, hmv, -⟩ := hv3.shape CompR.len
        clear hb3 hE2 hv3
        go_wp2_with fail
        go_roundw
        case rel =>
          refine ⟨k + 1, by omega, by go_num, HB3.out, fun j q hj hq => ?_⟩
          rcases Nat.lt_or_ge j k with h | h
          · exact HOK.out j q h hq
          · obtain rfl : j = k := by omega
            have := HR.out.symm.trans hq
            cases this
            rw [HCS.out]; rfl
        case measure => simp [intOf]; omega
    · obtain rfl : k = rs.length := by omega
      have hall := HOK.out.all
      have hsm : ∀ r ∈ rs, r.pat.length ≤ 512 := fun r hr => by
        obtain ⟨cs, hcs⟩ := Option.isSome_iff_exists.1 (hall r hr)
        exact (patS_bounds (compileS_pat hcs)).2.2
      have HPE := Lib.hid (printE_ok hall)
      have HSM := Lib.hid hsm
      clear hb hall hsm
      obtain ⟨w5, hw5⟩ : ∃ w5, w5 = wr := ⟨_, rfl⟩
      subst hw5
      rcases Nat.lt_or_ge 256 rs.length with h256 | h256
      · go_wp2_with fail
        go_ret2
        refine ⟨⟨#[]⟩, ?_, ?_, HB.out⟩
        · rw [HPE.out, if_pos h256]; rfl
        · rw [HPE.out, if_pos h256]; rfl
      · have hpe : printE rs = (printTx rs, 0) := by rw [HPE.out, if_neg (by omega)]
        clear HPE
        have HPE := Lib.hid hpe
        have hszw : w.heap.size ≤ w5.heap.size := HB.out.size
        have hfresh : Lib.IsBuilder 82 5 w5.heap.size w5.heap.size [] (w5.alloc (.cells #[.pointer none, .slice none 0 0] 82)) :=
          .inl ⟨Nat.le_refl _, .slice none 0 0, heap_alloc_new w5 _, World.ownsRow_nil _ _ _ _, by simp [Value.ownBlock]⟩
        have HFR := Lib.hid hfresh
        clear hpe hfresh
        go_wp2_with fail
        go_loopw [30] (fun i wl => ∃ k : Nat, k ≤ rs.length ∧ i = .int .i64 k ∧ Below w5.heap.size w5 wl ∧ w5.heap.size < wl.heap.size ∧ Lib.IsBuilder 82 5 w5.heap.size w5.heap.size (Lib.byteCells (printTx (rs.take k))) wl) (fun i _ => rs.length - (intOf i).toNat)
        case atStart => exact ⟨0, Nat.zero_le _, rfl, (Below.refl _ _).alloc (Nat.le_refl _) _, by simp, HFR.out⟩
        case round =>
          obtain ⟨k, hk, rfl, hb, hlw, hbu⟩ := hrel
          have HBU := Lib.hid hbu
          have hB2 := below_next HB.out hb
          have HB2 := Lib.hid hb
          have hlen : (printTx (rs.take k)).length ≤ 132096 := by
            have h1 := print_len (rs.take k) (fun r hr => HSM.out r (List.mem_of_mem_take hr))
            rw [List.length_take] at h1
            omega
          clear hbu hb
          by_cases hlt : k < rs.length
          · obtain ⟨r, hr⟩ : ∃ r, rs[k]? = some r := ⟨rs[k], by simp [hlt]⟩
            obtain ⟨_, _, hv', _, _, hcells⟩ := (RulesAt.below HV.out hB2).cells
            cases hv'
            obtain ⟨b, o, rfl, c0, c1, c2, c3⟩ := hcells k r hr
            have hrp := HSM.out r (List.mem_of_getElem? hr)
            have hll := line_small r hrp
            have HTK := Lib.hid (print_take hr)
            clear hr hcells hB2
            have hwb : Below wr.heap.size wr (wr.alloc (.cells #[.string ⟨r.pat.toArray⟩, .bool r.keep, .bool r.dir, .bool r.rooted] 53)) := (Below.refl _ _).alloc (Nat.le_refl _) _
            have HWB := Lib.hid hwb
            clear hwb
            go_wp2_with fail
            refine (line_rule r _ (by omega)).mono ?_
            rintro e w3 ⟨lt, rfl, hlt3, hb3⟩
            have hB3 := below_next HWB.out hb3
            have hbu3 := builder_below HBU.out hB3
            have hsl : lt.size ≤ 515 := by rw [size_bl, hlt3]; exact hll
            have HL3 := Lib.hid hlt3
            have HB3 := Lib.hid hB3
            have HBU3 := Lib.hid hbu3
            have hsz3 : w5.heap.size ≤ w3.heap.size := by have := hB3.size; omega
            clear hb3 hB3 hbu3 hlt3
            go_wp2_with fail
            refine (writeString_any w5.heap.size w5.heap.size _ _ w3 HBU3.out (ws_len hlen hsl) hsz3).mono ?_
            rintro e w4 ⟨rfl, hbu4, hb4⟩
            have HB4 := Lib.hid hb4
            have HBU4 := Lib.hid hbu4
            have hlt4 := hbu4.lt
            clear hb4 hbu4
            go_wp2_with fail
            go_roundw
            case rel =>
              refine ⟨k + 1, by omega, by go_num, ?_, hlt4, ?_⟩
              · exact (HB2.out.trans (HB3.out.mono (by omega))).trans HB4.out
              · refine .inr ?_
                have := HBU4.out
                rw [HTK.out, Lib.byteCells_append]
                have e : Lib.byteCells (lineS r ++ [10]) = Lib.strCells (lt ++ (⟨#[10]⟩ : ByteArray)) := by
                  rw [Lib.strCells_eq]
                  show _ = Lib.byteCells (bl (lt ++ (⟨#[10]⟩ : ByteArray)))
                  rw [bl_append, HL3.out]; rfl
                rw [e]; exact this
            case measure => simp [intOf]; omega
          · obtain rfl : k = rs.length := by omega
            have hbu := HBU.out
            rw [List.take_length] at hbu
            have HBU9 := Lib.hid hbu
            clear hbu
            go_wp2_with fail
            refine (Tryd.Builder_String_any w5.heap.size w5.heap.size (printTx rs) wr HBU9.out (by omega)).mono ?_
            rintro e w4 ⟨rfl, hb4⟩
            have HB4 := Lib.hid hb4
            clear hb4
            go_wp2_with fail
            go_ret2
            refine ⟨⟨(printTx rs).toArray⟩, by rw [HPE.out]; rfl, ?_, ?_⟩
            · rw [HPE.out, bl_mk]
            · exact HB.out.trans ((HB2.out.trans HB4.out).mono hszw)

end Go.Proofs.YtlipekkiaiaplaaDoor
