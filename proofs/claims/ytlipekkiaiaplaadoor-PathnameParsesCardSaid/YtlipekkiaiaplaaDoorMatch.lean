/- Contracts of package pathname: Match, Rule.compile. -/
import Derived.Test.YtlipekkiaiaplaaDoorDivF
import Derived.Test.YtlipekkiaiaplaaDoorPlainB
namespace Go.Proofs.YtlipekkiaiaplaaDoor
open Go.RowKit

theorem patS_bounds {l : List UInt8} {cs : List PComp} (h : patS l = some cs) : cs.length ≤ 16 ∧ (∀ c ∈ cs, c.items.length ≤ 512) ∧ l.length ≤ 512 := by
  unfold patS at h
  split at h
  · simp at h
  · rename_i h1
    split at h
    · simp at h
    · rename_i h2
      have h3 := compsS_len h
      have h5 : l.length ≤ 512 := by omega
      refine ⟨by omega, compsS_items h (fun p hp => ?_), h5⟩
      have := mem_split_le 47 l p hp; omega
theorem valid_size {l : List UInt8} (h : validP l = true) : l.length ≤ 512 ∧ (splitL 47 l).length ≤ 16 := by
  simp only [validP, Bool.and_eq_true, decide_eq_true_eq] at h; exact ⟨h.1.1, h.1.2⟩
/-- Sizes of the parts of a valid path. -/
theorem parts_size {xs : List ByteArray} {l : List UInt8} (h : validP l = true) (hx : xs.map bl = splitL 47 l) : xs.length ≤ 16 ∧ ∀ x ∈ xs, x.size ≤ 512 := by
  have h1 := valid_size h
  refine ⟨by have : (xs.map bl).length = _ := congrArg _ hx; rw [List.length_map] at this; omega, fun x hm => ?_⟩
  have := mem_split_le 47 l (bl x) (by rw [← hx]; exact List.mem_map.2 ⟨x, hm, rfl⟩)
  rw [size_bl]; omega

def matchV (o : Bool × Int) : Value := .tuple #[.bool o.1, .int .i64 o.2]

theorem CompsAt.below {S : Nat → Prop} {w w' : World} {v : Value} {cs : List PComp} (h : CompsAt S w v cs) (hb : Below w.heap.size w w') : CompsAt (fun _ => True) w' v cs := h.move (fun k hk _ => ⟨trivial, hb.block k hk⟩)

set_option maxHeartbeats 1000000 in
theorem match_any (p s : ByteArray) (w : World) (he : Env w) (hp : p.size ≤ 9223372036854775807) : Calls Tryd.prog 15 #[.string p, .string s] w fun e w' => e = .returned (matchV (matchE (bl p) (bl s))) ∧ Below w.heap.size w w' := by
  have HE := Lib.hid he
  clear he
  go_enter Tryd.func15, Tryd.ntmps15
  go_wp2_with fail
  cases hpat : patS (bl p) with
  | none =>
    have HP := Lib.hid hpat
    clear hpat
    refine (parsePattern_any p w HE.out hp).mono ?_
    rw [HP.out]
    rintro e w1 ⟨rfl, hb1⟩
    have HB1 := Lib.hid hb1
    clear hb1
    go_wp2_with fail
    go_ret2
    exact ⟨by rw [matchE, HP.out]; rfl, HB1.out⟩
  | some cs =>
    have HP := Lib.hid hpat
    obtain ⟨hc1, hc2, -⟩ := patS_bounds hpat
    have HC2 := Lib.hid hc2
    clear hpat hc2
    refine (parsePattern_any p w HE.out hp).mono ?_
    rw [HP.out]
    rintro e w1 ⟨v, rfl, hv1, hb1⟩
    obtain ⟨av, cv, rfl, -, -, -⟩ := hv1.shape CompR.len
    have HB1 := Lib.hid hb1
    have HV1 := Lib.hid hv1
    clear hb1 hv1
    go_wp2_with fail
    refine (split_calls s w1 (HE.out.below HB1.out)).mono ?_
    rintro e w2 (⟨hval, tv, xs, rfl, hxs, htv, hb2⟩ | ⟨hval, rfl, hb2⟩)
    · obtain ⟨hx1, hx2⟩ := parts_size hval hxs
      obtain ⟨at', ct, rfl, -, -, -⟩ := htv.shape
      have HB2 := Lib.hid hb2
      have HTV := Lib.hid htv
      have HXS := Lib.hid hxs
      have HVAL := Lib.hid hval
      have HX2 := Lib.hid hx2
      clear hb2 htv hxs hval hx2
      go_wp2_with fail
      refine (matchesAll_any cs xs (fun _ => True) w2 _ _ (HV1.out.below HB2.out) (RowAt.weak HTV.out (fun _ _ => trivial)) (by omega) (by omega) (fun c hc => by have := HC2.out c hc; omega) (fun x hx => by have := HX2.out x hx; omega)).mono ?_
      rintro e w3 ⟨rfl, hb3⟩
      have HB3 := Lib.hid hb3
      clear hb3
      go_wp2_with fail
      go_ret2
      refine ⟨?_, below_next (below_next HB1.out HB2.out) HB3.out⟩
      rw [matchE, HP.out, HXS.out]; simp only [HVAL.out, if_true]; rfl
    · have HB2 := Lib.hid hb2
      have HVAL := Lib.hid hval
      clear hb2 hval
      go_wp2_with fail
      go_ret2
      refine ⟨?_, below_next HB1.out HB2.out⟩
      rw [matchE, HP.out]; simp only [HVAL.out]; rfl

/-- A rule in memory, as the program passes it. -/
def ruleV (r : PRule) : Value := .agg #[.string ⟨r.pat.toArray⟩, .bool r.keep, .bool r.dir, .bool r.rooted]

theorem hasPrefix_is (s p : ByteArray) (b : Bool) (w : World) (h : Lib.hasPrefix (bl s) (bl p) = b) :
    Calls Tryd.prog 54 #[.string s, .string p] w fun e w' => e = .returned (.bool b) ∧ w = w' := by rw [← h]; exact hasPrefix_any s p w
theorem contains_is (s : ByteArray) (c : UInt8) (b : Bool) (w : World) (h : (bl s).contains c = b) :
    Calls Tryd.prog 73 #[.string s, .string ⟨#[c]⟩] w fun e w' => e = .returned (.bool b) ∧ w = w' := by rw [← h]; exact contains_one s c w

set_option maxHeartbeats 1000000 in
theorem compile_any (p : ByteArray) (k d r : Bool) (w : World) (he : Env w) (hp : p.size ≤ 9223372036854775807) :
    Calls Tryd.prog 50 #[.agg #[.string p, .bool k, .bool d, .bool r]] w (PatRes (compileS ⟨bl p, k, d, r⟩) w) := by
  have HE := Lib.hid he
  clear he
  have hb0 : Below w.heap.size w (w.alloc (.cells #[.string p, .bool k, .bool d, .bool r] 53)) := (Below.refl _ _).alloc (Nat.le_refl _) _
  have HB0 := Lib.hid hb0
  clear hb0
  cases h1 : Lib.hasPrefix (bl p) [33]
  · have H1 := Lib.hid h1
    clear h1
    cases h2 : Lib.hasPrefix (bl p) [35]
    · have H2 := Lib.hid h2
      clear h2
      cases h3 : (bl p).contains 47 && !r
      · have HC : Hid (compileS ⟨bl p, k, d, r⟩ = patS (bl p)) := Lib.hid (by unfold compileS; simp only [H1.out, H2.out, h3, Bool.or_self, Bool.false_eq_true, if_false])
        have h3' : (bl p).contains 47 = true → r = true := by intro h; rw [h] at h3; simpa using h3
        have H3 := Lib.hid h3'
        clear h3 h3'
        go_enter Tryd.func50, Tryd.ntmps50
        go_wp2_with fail
        refine (hasPrefix_is p ⟨#[33]⟩ false _ H1.out).mono ?_
        rintro e w' ⟨rfl, rfl⟩
        go_wp2_with fail
        refine (hasPrefix_is p ⟨#[35]⟩ false _ H2.out).mono ?_
        rintro e w' ⟨rfl, rfl⟩
        go_wp2_with fail
        cases h4 : (bl p).contains 47
        · have H4 := Lib.hid h4
          clear h4
          refine (contains_is p 47 false _ H4.out).mono ?_
          rintro e w' ⟨rfl, rfl⟩
          go_wp2_with fail
          cases hpat : patS (bl p) with
          | none =>
            have HP := Lib.hid hpat
            clear hpat
            refine (parsePattern_any p _ (HE.out.below HB0.out) hp).mono ?_
            rw [HP.out]
            rintro e w1 ⟨rfl, hb1⟩
            have HB1 := Lib.hid hb1
            clear hb1
            go_wp2_with fail
            go_ret2
            rw [HC.out, HP.out]
            exact ⟨rfl, below_next HB0.out HB1.out⟩
          | some cs =>
            have HP := Lib.hid hpat
            clear hpat
            refine (parsePattern_any p _ (HE.out.below HB0.out) hp).mono ?_
            rw [HP.out]
            rintro e w1 ⟨v, rfl, hv1, hb1⟩
            have HV1 := Lib.hid hv1
            have HB1 := Lib.hid hb1
            clear hb1 hv1
            go_wp2_with fail
            go_ret2
            rw [HC.out, HP.out]
            exact ⟨v, rfl, HV1.out.move (fun k _ hk => ⟨by simp at hk; omega, rfl⟩), below_next HB0.out HB1.out⟩
        · have H4 := Lib.hid h4
          obtain rfl : r = true := H3.out h4
          clear h4
          refine (contains_is p 47 true _ H4.out).mono ?_
          rintro e w' ⟨rfl, rfl⟩
          go_wp2_with fail
          cases hpat : patS (bl p) with
          | none =>
            have HP := Lib.hid hpat
            clear hpat
            refine (parsePattern_any p _ (HE.out.below HB0.out) hp).mono ?_
            rw [HP.out]
            rintro e w1 ⟨rfl, hb1⟩
            have HB1 := Lib.hid hb1
            clear hb1
            go_wp2_with fail
            go_ret2
            rw [HC.out, HP.out]
            exact ⟨rfl, below_next HB0.out HB1.out⟩
          | some cs =>
            have HP := Lib.hid hpat
            clear hpat
            refine (parsePattern_any p _ (HE.out.below HB0.out) hp).mono ?_
            rw [HP.out]
            rintro e w1 ⟨v, rfl, hv1, hb1⟩
            have HV1 := Lib.hid hv1
            have HB1 := Lib.hid hb1
            clear hb1 hv1
            go_wp2_with fail
            go_ret2
            rw [HC.out, HP.out]
            exact ⟨v, rfl, HV1.out.move (fun k _ hk => ⟨by simp at hk; omega, rfl⟩), below_next HB0.out HB1.out⟩
      · have HC : Hid (compileS ⟨bl p, k, d, r⟩ = none) := Lib.hid (by unfold compileS; simp only [H1.out, H2.out, h3, Bool.or_self, Bool.false_eq_true, if_false, if_true])
        rw [Bool.and_eq_true] at h3
        obtain ⟨h4, h5⟩ := h3
        obtain rfl : r = false := by simpa using h5
        have H4 := Lib.hid h4
        clear h4 h5
        go_enter Tryd.func50, Tryd.ntmps50
        go_wp2_with fail
        refine (hasPrefix_is p ⟨#[33]⟩ false _ H1.out).mono ?_
        rintro e w' ⟨rfl, rfl⟩
        go_wp2_with fail
        refine (hasPrefix_is p ⟨#[35]⟩ false _ H2.out).mono ?_
        rintro e w' ⟨rfl, rfl⟩
        go_wp2_with fail
        refine (contains_is p 47 true _ H4.out).mono ?_
        rintro e w' ⟨rfl, rfl⟩
        go_wp2_with fail
        go_ret2
        rw [HC.out]
        exact ⟨rfl, HB0.out⟩
    · have H2 := Lib.hid h2
      clear h2
      have HC : Hid (compileS ⟨bl p, k, d, r⟩ = none) := Lib.hid (by unfold compileS; simp only [H1.out, H2.out, Bool.or_true, if_true])
      go_enter Tryd.func50, Tryd.ntmps50
      go_wp2_with fail
      refine (hasPrefix_is p ⟨#[33]⟩ false _ H1.out).mono ?_
      rintro e w' ⟨rfl, rfl⟩
      go_wp2_with fail
      refine (hasPrefix_is p ⟨#[35]⟩ true _ H2.out).mono ?_
      rintro e w' ⟨rfl, rfl⟩
      go_wp2_with fail
      go_ret2
      rw [HC.out]
      exact ⟨rfl, HB0.out⟩
  · have H1 := Lib.hid h1
    clear h1
    have HC : Hid (compileS ⟨bl p, k, d, r⟩ = none) := Lib.hid (by unfold compileS; simp only [H1.out, Bool.true_or, if_true])
    go_enter Tryd.func50, Tryd.ntmps50
    go_wp2_with fail
    refine (hasPrefix_is p ⟨#[33]⟩ true _ H1.out).mono ?_
    rintro e w' ⟨rfl, rfl⟩
    go_wp2_with fail
    go_ret2
    rw [HC.out]
    exact ⟨rfl, HB0.out⟩
theorem compile_rule (r : PRule) (w : World) (he : Env w) (hp : r.pat.length ≤ 9223372036854775807) : Calls Tryd.prog 50 #[ruleV r] w (PatRes (compileS r) w) := by
  have := compile_any ⟨r.pat.toArray⟩ r.keep r.dir r.rooted w he (by rw [size_bl, bl_mk]; exact hp)
  rw [bl_mk] at this
  exact this

end Go.Proofs.YtlipekkiaiaplaaDoor
