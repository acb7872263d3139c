import Derived.Test.YtdeinkkljhkaoaaRef01
namespace Go.Proofs.Ytdeinkkljhkaoaa
open Ieee

/-! The plain laws of the order, of sameness, of turning. No program here. -/

theorem nan_form (a : Nat) : nanB (formF a) = nanB a := by
  unfold formF
  by_cases h : nanB a = true
  · rw [if_pos h, h]; decide +kernel
  · rw [if_neg h]

theorem form_form (a : Nat) : formF (formF a) = formF a := by
  unfold formF
  by_cases h : nanB a = true
  · rw [if_pos h]; decide +kernel
  · rw [if_neg h, if_neg h]

theorem form_eq {a : Nat} (h : nanB a = false) : formF a = a := by unfold formF; rw [if_neg (by simp [h])]

theorem ord_ne (a : Nat) : (FloatKind.f64.format.order (formF a) (formF a) != some .eq) = nanB a := by rw [ord_self, nan_form]

theorem ord_num {a c : Nat} (ha : nanB a = false) (hc : nanB c = false) : FloatKind.f64.format.order a c = some (compare (key a) (key c)) := by
  show double.order a c = _
  rw [order_eq, ha, hc]; rfl

theorem key_of (a : Nat) (ha : a < 18446744073709551616) : (a < 9223372036854775808 ∧ key a = a) ∨ (9223372036854775808 ≤ a ∧ key a = -((a - 9223372036854775808 : Nat) : Int)) := by
  unfold key
  by_cases h : a < 9223372036854775808
  · left
    refine ⟨h, ?_⟩
    rw [if_neg (by simp; omega)]
    have e : a % 9223372036854775808 = a := by omega
    rw [e]
  · right
    refine ⟨by omega, ?_⟩
    rw [if_pos (by simp; omega)]
    have e : a % 9223372036854775808 = a - 9223372036854775808 := by omega
    rw [e]

theorem place_of (a : Nat) (_ha : a < 18446744073709551616) (h : nanB a = false) : (a < 9223372036854775808 ∧ a ≤ 9218868437227405312 ∧ placeF a = a + 9223372036854775808) ∨ (9223372036854775808 ≤ a ∧ a - 9223372036854775808 ≤ 9218868437227405312 ∧ placeF a = 18446744073709551615 - a) := by
  have hm := mt (nanB_mod a).2 (by simp [h])
  unfold placeF
  rw [if_neg (by simp [h])]
  by_cases hl : a < 9223372036854775808
  · left; exact ⟨hl, by omega, by rw [if_pos hl]⟩
  · right; exact ⟨by omega, by omega, by rw [if_neg hl]⟩

theorem place_nan {a : Nat} (h : nanB a = true) : placeF a = 18446744073709551615 := by unfold placeF; rw [if_pos h]

theorem cmp_eq_iff (x y : Int) : (some (compare x y) = some Ordering.eq) ↔ x = y := by
  rw [compare_int]
  by_cases h : x < y
  · rw [if_pos h]; simp; omega
  · rw [if_neg h]
    by_cases h2 : x = y
    · rw [if_pos h2]; simp [h2]
    · rw [if_neg h2]; simp [h2]

theorem cmp_lt_iff (x y : Int) : (some (compare x y) = some Ordering.lt) ↔ x < y := by
  rw [compare_int]
  by_cases h : x < y
  · rw [if_pos h]; simp [h]
  · rw [if_neg h]
    by_cases h2 : x = y
    · rw [if_pos h2]; simp; omega
    · rw [if_neg h2]; simp; omega

theorem key_zero : key 0 = 0 := by decide +kernel
theorem nan_zero : nanB 0 = false := by decide +kernel

theorem ahead_iff (a c : Nat) (ha : a < 18446744073709551616) (hc : c < 18446744073709551616) : aheadF a c = decide (placeF a < placeF c) := by
  unfold aheadF
  rw [ord_ne, ord_ne]
  by_cases na : nanB a = true
  · rw [if_pos na, place_nan na]
    have : placeF c ≤ 18446744073709551615 := by
      by_cases nc : nanB c = true
      · rw [place_nan nc]; exact Nat.le_refl _
      · rcases place_of c hc (by simpa using nc) with ⟨_, _, h⟩ | ⟨_, _, h⟩ <;> omega
    simp; omega
  · rw [if_neg na]
    have na' : nanB a = false := by simpa using na
    by_cases nc : nanB c = true
    · rw [if_pos nc, place_nan nc]
      rcases place_of a ha na' with ⟨_, _, h⟩ | ⟨_, _, h⟩ <;> simp <;> omega
    · rw [if_neg nc]
      have nc' : nanB c = false := by simpa using nc
      rw [form_eq na', form_eq nc', ord_num na' nan_zero, ord_num nc' nan_zero, ord_num na' nc', key_zero]
      rw [Bool.eq_iff_iff]
      have ka := key_of a ha
      have kc := key_of c hc
      have pa := place_of a ha na'
      have pc := place_of c hc nc'
      generalize placeF a = p at *
      generalize placeF c = q at *
      generalize key a = x at *
      generalize key c = y at *
      by_cases hz : x = 0 ∧ y = 0
      · have h1 : (some (compare x 0) == some Ordering.eq) = true := by rw [beq_iff_eq, cmp_eq_iff]; exact hz.1
        have h2 : (some (compare y 0) == some Ordering.eq) = true := by rw [beq_iff_eq, cmp_eq_iff]; exact hz.2
        rw [h1, h2]
        simp
        omega
      · have h1 : (some (compare x 0) == some Ordering.eq && some (compare y 0) == some Ordering.eq) = false := by
          rw [Bool.eq_false_iff]
          intro h
          rw [Bool.and_eq_true, beq_iff_eq, beq_iff_eq, cmp_eq_iff, cmp_eq_iff] at h
          exact hz h
        rw [h1, if_neg (by simp), beq_iff_eq, cmp_lt_iff, decide_eq_true_eq]
        omega

theorem form_place (a c : Nat) (ha : a < 18446744073709551616) (hc : c < 18446744073709551616) : formF a = formF c ↔ placeF a = placeF c := by
  by_cases na : nanB a = true
  · by_cases nc : nanB c = true
    · rw [place_nan na, place_nan nc]; unfold formF; simp [na, nc]
    · have nc' : nanB c = false := by simpa using nc
      have hm := mt (nanB_mod c).2 nc
      rw [place_nan na, form_eq nc']
      unfold formF
      rw [if_pos na]
      rcases place_of c hc nc' with ⟨_, _, h⟩ | ⟨_, _, h⟩ <;> omega
  · have na' : nanB a = false := by simpa using na
    have ma := mt (nanB_mod a).2 na
    rw [form_eq na']
    by_cases nc : nanB c = true
    · rw [place_nan nc]; unfold formF; rw [if_pos nc]
      rcases place_of a ha na' with ⟨_, _, h⟩ | ⟨_, _, h⟩ <;> omega
    · have nc' : nanB c = false := by simpa using nc
      rw [form_eq nc']
      rcases place_of a ha na' with ⟨_, _, h⟩ | ⟨_, _, h⟩ <;> rcases place_of c hc nc' with ⟨_, _, g⟩ | ⟨_, _, g⟩ <;> omega

/-- 'Less' is what the document says. -/
theorem less_law (a b c d : Nat) (ha : a < 18446744073709551616) (hb : b < 18446744073709551616) (hc : c < 18446744073709551616) (hd : d < 18446744073709551616) :
    lessF a b c d = (aheadF a c || decide (formF a = formF c) && aheadF b d) := by
  rw [ahead_iff a c ha hc, ahead_iff b d hb hd]
  unfold lessF
  have h := form_place a c ha hc
  by_cases e : placeF a = placeF c
  · rw [if_pos e, decide_eq_true (h.2 e), e]; simp
  · rw [if_neg e, decide_eq_false (mt h.1 e)]; simp

theorem same_iff (a b c d : Nat) (ha : a < 18446744073709551616) (hb : b < 18446744073709551616) (hc : c < 18446744073709551616) (hd : d < 18446744073709551616) :
    sameF a b c d = true ↔ placeF a = placeF c ∧ placeF b = placeF d := by
  unfold sameF
  rw [Bool.and_eq_true, decide_eq_true_eq, decide_eq_true_eq, form_place a c ha hc, form_place b d hb hd]

theorem less_iff (a b c d : Nat) : lessF a b c d = true ↔ placeF a < placeF c ∨ placeF a = placeF c ∧ placeF b < placeF d := by
  unfold lessF
  split <;> simp <;> omega

theorem flip_flip (x : Nat) : flipF (flipF x) = x := by unfold flipF; rw [Nat.xor_assoc, Nat.xor_self, Nat.xor_zero]
theorem flip_mod (x : Nat) : flipF x % 9223372036854775808 = x % 9223372036854775808 := by
  unfold flipF
  have := Nat.xor_mod_two_pow (a := x) (b := 9223372036854775808) (n := 63)
  rw [show (2 : Nat) ^ 63 = 9223372036854775808 from rfl] at this
  rw [this, Nat.mod_self, Nat.xor_zero]
theorem fin_flip (x : Nat) : finB (flipF x) = finB x := by unfold finB; rw [flip_mod]
theorem nan_flip (x : Nat) : nanB (flipF x) = nanB x := by unfold nanB; rw [flip_mod]
theorem same_self (a b : Nat) : sameF a b a b = true := by unfold sameF; simp
theorem same_symm (a b c d : Nat) : sameF c d a b = sameF a b c d := by
  unfold sameF; rw [Bool.eq_iff_iff]; simp; omega

theorem form_nan {a c : Nat} (h : formF a = formF c) : nanB a = nanB c := by rw [← nan_form a, ← nan_form c, h]
theorem form_flip {a c : Nat} (h : formF a = formF c) : formF (flipF a) = formF (flipF c) := by
  have hn := form_nan h
  cases e : nanB a
  · rw [e] at hn
    rw [form_eq e, form_eq hn.symm] at h
    rw [h]
  · rw [e] at hn
    unfold formF
    rw [nan_flip, nan_flip, e, ← hn]; rfl
theorem form_fin {a c : Nat} (h : formF a = formF c) : finB a = finB c := by
  have hn := form_nan h
  cases e : nanB a
  · rw [e] at hn
    rw [form_eq e, form_eq hn.symm] at h
    rw [h]
  · rw [e] at hn
    have h1 := (nanB_mod a).1 e
    have h2 := (nanB_mod c).1 hn.symm
    unfold finB
    rw [decide_eq_false (by omega), decide_eq_false (by omega)]

/-- What is told of one is told of the other. -/
theorem alike_law {a b c d : Nat} (h : sameF a b c d = true) (ha : a < 18446744073709551616) (hb : b < 18446744073709551616) (hc : c < 18446744073709551616) (hd : d < 18446744073709551616) :
    sameF (flipF b) a (flipF d) c = true ∧ finB a = finB c ∧ finB b = finB d ∧ lessF a b c d = false ∧ sameF (formF a) (formF b) c d = true := by
  have hp := (same_iff a b c d ha hb hc hd).1 h
  have hs : formF a = formF c ∧ formF b = formF d := by unfold sameF at h; simpa using h
  refine ⟨?_, form_fin hs.1, form_fin hs.2, ?_, ?_⟩
  · unfold sameF; simp [form_flip hs.2, hs.1]
  · rw [Bool.eq_false_iff]; intro hl; have := (less_iff a b c d).1 hl; omega
  · unfold sameF; rw [form_form, form_form]; simp [hs.1, hs.2]

/-- One order. -/
theorem chain_law (a b c d e f : Nat) (ha : a < 18446744073709551616) (hb : b < 18446744073709551616) (hc : c < 18446744073709551616) (hd : d < 18446744073709551616) :
    lessF a b a b = false ∧ (
      (lessF a b c d = true ∧ lessF c d a b = false ∧ sameF a b c d = false ∧ (lessF c d e f = true → lessF a b e f = true)) ∨
      (lessF a b c d = false ∧ lessF c d a b = true ∧ sameF a b c d = false) ∨
      (lessF a b c d = false ∧ lessF c d a b = false ∧ sameF a b c d = true ∧ lessF a b e f = lessF c d e f)) := by
  have x0 := less_iff a b a b
  have x1 := less_iff a b c d
  have x2 := less_iff c d a b
  have x3 := same_iff a b c d ha hb hc hd
  have x4 := less_iff a b e f
  have x5 := less_iff c d e f
  refine ⟨by rw [Bool.eq_false_iff, Ne, x0]; omega, ?_⟩
  generalize placeF a = pa at *
  generalize placeF b = pb at *
  generalize placeF c = pc at *
  generalize placeF d = pd at *
  generalize placeF e = pe at *
  generalize placeF f = pf at *
  by_cases h1 : pa < pc ∨ pa = pc ∧ pb < pd
  · left
    exact ⟨x1.2 h1, by rw [Bool.eq_false_iff, Ne, x2]; omega, by rw [Bool.eq_false_iff, Ne, x3]; omega, fun h => x4.2 (by have := x5.1 h; omega)⟩
  · right
    by_cases h2 : pc < pa ∨ pc = pa ∧ pd < pb
    · left
      exact ⟨by rw [Bool.eq_false_iff, Ne, x1]; omega, x2.2 h2, by rw [Bool.eq_false_iff, Ne, x3]; omega⟩
    · right
      refine ⟨by rw [Bool.eq_false_iff, Ne, x1]; omega, by rw [Bool.eq_false_iff, Ne, x2]; omega, x3.2 (by omega), ?_⟩
      rw [Bool.eq_iff_iff, x4, x5]; omega

end Go.Proofs.Ytdeinkkljhkaoaa
