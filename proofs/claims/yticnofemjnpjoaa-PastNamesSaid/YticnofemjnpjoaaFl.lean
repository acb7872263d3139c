import Derived.Laws.FloatBits
import Derived.WalkLawsBesides
import Derived.Laws.BitsAllLaws

set_option linter.unusedSimpArgs false
set_option linter.unusedVariables false
set_option linter.unnecessarySimpa false

namespace Go.Proofs.Yticnofemjnpjoaa
open Ieee

/-- The float is no number. -/
def nanB (b : Nat) : Bool := decide (9218868437227405312 < b % 9223372036854775808)

/-- Where a float that is a number stands among all. -/
def key (b : Nat) : Int := if b / 9223372036854775808 % 2 == 1 then -((b % 9223372036854775808 : Nat) : Int) else ((b % 9223372036854775808 : Nat) : Int)

/-- A rung's magnitude in units of the least place. -/
def V (r : Nat) : Nat := if r < 4503599627370496 then r else (4503599627370496 + r % 4503599627370496) <<< (r / 4503599627370496 - 1)

theorem V_mono {r s : Nat} (h : r < s) : V r < V s := by
  unfold V
  by_cases hs : s < 4503599627370496
  · rw [if_pos (by omega), if_pos hs]; exact h
  · rw [if_neg hs]
    have hq : 1 ≤ s / 4503599627370496 := by omega
    have hle : 4503599627370496 * 2 ^ (s / 4503599627370496 - 1) ≤ (4503599627370496 + s % 4503599627370496) <<< (s / 4503599627370496 - 1) := by
      rw [Nat.shiftLeft_eq]; exact Nat.mul_le_mul_right _ (by omega)
    by_cases hr : r < 4503599627370496
    · rw [if_pos hr]
      have : 1 ≤ 2 ^ (s / 4503599627370496 - 1) := Nat.one_le_two_pow
      have : 4503599627370496 * 1 ≤ 4503599627370496 * 2 ^ (s / 4503599627370496 - 1) := Nat.mul_le_mul_left _ this
      omega
    · rw [if_neg hr]
      by_cases he : r / 4503599627370496 = s / 4503599627370496
      · rw [he, Nat.shiftLeft_eq, Nat.shiftLeft_eq]
        exact Nat.mul_lt_mul_of_pos_right (by omega) (Nat.two_pow_pos _)
      · have hlt : r / 4503599627370496 < s / 4503599627370496 := by omega
        refine Nat.lt_of_lt_of_le ?_ hle
        rw [Nat.shiftLeft_eq]
        have h1 : (4503599627370496 + r % 4503599627370496) * 2 ^ (r / 4503599627370496 - 1) < (4503599627370496 * 2) * 2 ^ (r / 4503599627370496 - 1) := Nat.mul_lt_mul_of_pos_right (by omega) (Nat.two_pow_pos _)
        have h2 : (4503599627370496 * 2) * 2 ^ (r / 4503599627370496 - 1) = 4503599627370496 * 2 ^ (r / 4503599627370496) := by
          rw [Nat.mul_assoc, ← Nat.pow_succ', Nat.succ_eq_add_one, show r / 4503599627370496 - 1 + 1 = r / 4503599627370496 from by omega]
        have h3 : 4503599627370496 * 2 ^ (r / 4503599627370496) ≤ 4503599627370496 * 2 ^ (s / 4503599627370496 - 1) := Nat.mul_le_mul_left _ (Nat.pow_le_pow_right (by omega) (by omega))
        omega

theorem V_zero : V 0 = 0 := rfl

theorem sw : double.signWeight = 9223372036854775808 := by decide +kernel
theorem bn : double.binade = 4503599627370496 := by decide +kernel
theorem ir : double.infRung = 9218868437227405312 := by decide +kernel
theorem lp : double.leastPlace = -1074 := by decide +kernel

def negB (b : Nat) : Bool := b / 9223372036854775808 % 2 == 1

theorem read_number (b : Nat) (h : b % 9223372036854775808 < 9218868437227405312) :
    ∃ (m e : Nat), double.read b = .number (negB b) m (-1074 + (e : Int)) ∧ m <<< e = V (b % 9223372036854775808) := by
  unfold Format.read negB
  simp only [sw, bn, ir, lp]
  by_cases hb : b % 9223372036854775808 < 4503599627370496
  · rw [if_pos hb]
    exact ⟨_, 0, rfl, by unfold V; rw [if_pos hb]; rfl⟩
  · rw [if_neg hb, if_pos h]
    exact ⟨_, _, rfl, by unfold V; rw [if_neg hb]⟩

theorem read_inf (b : Nat) (h : b % 9223372036854775808 = 9218868437227405312) : double.read b = .infinity (negB b) := by
  unfold Format.read negB
  simp only [sw, bn, ir, lp]
  rw [if_neg (by omega), if_neg (by omega), if_pos h]

theorem read_nan (b : Nat) (h : 9218868437227405312 < b % 9223372036854775808) : ∃ t, double.read b = .nan (negB b) t := by
  unfold Format.read negB
  simp only [sw, bn, ir, lp]
  rw [if_neg (by omega), if_neg (by omega), if_neg (by omega)]
  exact ⟨_, rfl⟩

theorem compare_int (a b : Int) : compare a b = if a < b then .lt else if a = b then .eq else .gt := rfl

theorem compare_same {a b c d : Int} (h1 : a < b ↔ c < d) (h2 : a = b ↔ c = d) : compare a b = compare c d := by
  rw [compare_int, compare_int]
  by_cases x : c < d
  · rw [if_pos (h1.2 x), if_pos x]
  · rw [if_neg (fun y => x (h1.1 y)), if_neg x]
    by_cases z : c = d
    · rw [if_pos (h2.2 z), if_pos z]
    · rw [if_neg (fun y => z (h2.1 y)), if_neg z]

def sg (s : Bool) (n : Nat) : Int := if s then -(n : Int) else (n : Int)

theorem signed_eq (s : Bool) (m u : Nat) : signed s m u = sg s (m <<< u) := rfl

theorem sg_mul (s : Bool) (n c : Nat) : sg s n * (c : Int) = sg s (n * c) := by
  unfold sg; cases s <;> simp [Int.neg_mul]

theorem order_number (s t : Bool) (m n e f : Nat) :
    (Datum.number s m (-1074 + (e : Int))).order (.number t n (-1074 + (f : Int))) = some (compare (sg s (m <<< e)) (sg t (n <<< f))) := by
  unfold Datum.order
  simp only [signed_eq]
  have hb : min (-1074 + (e : Int)) (-1074 + (f : Int)) = -1074 + ((min e f : Nat) : Int) := by omega
  rw [hb]
  have h1 : (-1074 + (e : Int) - (-1074 + ((min e f : Nat) : Int))).toNat = e - min e f := by omega
  have h2 : (-1074 + (f : Int) - (-1074 + ((min e f : Nat) : Int))).toNat = f - min e f := by omega
  rw [h1, h2]
  congr 1
  have k1 : m <<< e = (m <<< (e - min e f)) * 2 ^ (min e f) := by
    rw [Nat.shiftLeft_eq, Nat.shiftLeft_eq, Nat.mul_assoc, ← Nat.pow_add, show e - min e f + min e f = e from by omega]
  have k2 : n <<< f = (n <<< (f - min e f)) * 2 ^ (min e f) := by
    rw [Nat.shiftLeft_eq, Nat.shiftLeft_eq, Nat.mul_assoc, ← Nat.pow_add, show f - min e f + min e f = f from by omega]
  rw [k1, k2, ← sg_mul, ← sg_mul]
  have hc : (0 : Int) < ((2 ^ (min e f) : Nat) : Int) := by exact_mod_cast Nat.two_pow_pos _
  refine compare_same ⟨fun h => Int.mul_lt_mul_of_pos_right h hc, fun h => Int.lt_of_mul_lt_mul_right h (Int.le_of_lt hc)⟩ ⟨fun h => by rw [h], fun h => Int.eq_of_mul_eq_mul_right (by omega) h⟩

theorem key_eq (b : Nat) : key b = sg (negB b) (b % 9223372036854775808) := rfl

theorem compare_V (s t : Bool) (r q : Nat) : compare (sg s (V r)) (sg t (V q)) = compare (sg s r) (sg t q) := by
  have hr : r = 0 ∨ 0 < r := by omega
  have hq : q = 0 ∨ 0 < q := by omega
  have v0 : V 0 = 0 := rfl
  have hvr : r = 0 ∧ V r = 0 ∨ 0 < r ∧ 0 < V r := by
    rcases hr with rfl | h
    · left; exact ⟨rfl, rfl⟩
    · right; exact ⟨h, by have := V_mono h; omega⟩
  have hvq : q = 0 ∧ V q = 0 ∨ 0 < q ∧ 0 < V q := by
    rcases hq with rfl | h
    · left; exact ⟨rfl, rfl⟩
    · right; exact ⟨h, by have := V_mono h; omega⟩
  have ht : r < q ∧ V r < V q ∨ r = q ∧ V r = V q ∨ q < r ∧ V q < V r := by
    rcases Nat.lt_trichotomy r q with h | rfl | h
    · left; exact ⟨h, V_mono h⟩
    · right; left; exact ⟨rfl, rfl⟩
    · right; right; exact ⟨h, V_mono h⟩
  generalize V r = x at *
  generalize V q = y at *
  unfold sg
  cases s <;> cases t <;> (refine compare_same ?_ ?_ <;> simp only [Bool.false_eq_true, if_false, if_true] <;> omega)

theorem cmp_inf_left (s t : Bool) (q : Nat) (h : q < 9218868437227405312) : compare (sg s 9218868437227405312) (sg t q) = if s then .lt else .gt := by
  rw [compare_int]
  unfold sg
  cases s <;> cases t <;> simp only [Bool.false_eq_true, if_false, if_true]
  · rw [if_neg (by omega), if_neg (by omega)]
  · rw [if_neg (by omega), if_neg (by omega)]
  · rw [if_pos (by omega)]
  · rw [if_pos (by omega)]

theorem cmp_inf_right (s t : Bool) (q : Nat) (h : q < 9218868437227405312) : compare (sg s q) (sg t 9218868437227405312) = if t then .gt else .lt := by
  rw [compare_int]
  unfold sg
  cases s <;> cases t <;> simp only [Bool.false_eq_true, if_false, if_true]
  · rw [if_pos (by omega)]
  · rw [if_neg (by omega), if_neg (by omega)]
  · rw [if_pos (by omega)]
  · rw [if_neg (by omega), if_neg (by omega)]

/-- How any two floats stand to each other. -/
theorem order_eq (a b : Nat) : double.order a b = if nanB a || nanB b then none else some (compare (key a) (key b)) := by
  unfold Format.order
  by_cases ha : 9218868437227405312 < a % 9223372036854775808
  · obtain ⟨t, e⟩ := read_nan a ha
    rw [e, show nanB a = true from by unfold nanB; simp [ha]]; rfl
  · have na : nanB a = false := by unfold nanB; simp; omega
    by_cases hb : 9218868437227405312 < b % 9223372036854775808
    · obtain ⟨t, e⟩ := read_nan b hb
      rw [e, na, show nanB b = true from by unfold nanB; simp [hb]]
      cases double.read a <;> rfl
    · have nb : nanB b = false := by unfold nanB; simp; omega
      rw [na, nb]
      simp only [Bool.or_self, Bool.false_eq_true, if_false]
      rw [key_eq, key_eq]
      by_cases ia : a % 9223372036854775808 = 9218868437227405312
      · rw [read_inf a ia]
        by_cases ib : b % 9223372036854775808 = 9218868437227405312
        · rw [read_inf b ib, ia, ib]
          cases negB a <;> cases negB b <;> decide
        · obtain ⟨m, e, h1, h2⟩ := read_number b (by omega)
          rw [h1, ia]
          rw [cmp_inf_left _ _ _ (by omega)]
          unfold Datum.order
          cases negB a <;> rfl
      · obtain ⟨m, e, h1, h2⟩ := read_number a (by omega)
        rw [h1]
        by_cases ib : b % 9223372036854775808 = 9218868437227405312
        · rw [read_inf b ib, ib]
          rw [cmp_inf_right _ _ _ (by omega)]
          unfold Datum.order
          cases negB b <;> rfl
        · obtain ⟨n, f, h3, h4⟩ := read_number b (by omega)
          rw [h3, order_number, h2, h4, compare_V]

theorem ord_self (b : Nat) : (FloatKind.f64.format.order b b != some .eq) = nanB b := by
  show (double.order b b != some .eq) = nanB b
  rw [order_eq]
  cases h : nanB b
  · simp [compare_int]
  · rfl

/-- A float's bits in their one form. -/
def formF (b : Nat) : Nat := if nanB b = true then 9221120237041090561 else b

/-- Where a float stands in the order. -/
def placeF (b : Nat) : Nat :=
  if nanB b = true then 18446744073709551615
  else if b < 9223372036854775808 then b + 9223372036854775808 else 18446744073709551615 - b

theorem nanB_mod (b : Nat) : nanB b = true ↔ 9218868437227405312 < b % 9223372036854775808 := by unfold nanB; simp

theorem formF_lt (b : Nat) (hb : b < 18446744073709551616) : formF b < 18446744073709551616 := by
  unfold formF; split <;> omega

theorem and_high (b : Nat) (hb : b < 18446744073709551616) : bits .and .u64 (b : Int) 9223372036854775808 = ((b / 9223372036854775808 * 9223372036854775808 : Nat) : Int) := by
  have := u64_and_nat b 9223372036854775808 hb (by omega)
  rw [show ((9223372036854775808 : Nat) : Int) = 9223372036854775808 from rfl] at this
  rw [this, show (9223372036854775808 : Nat) = 2 ^ 63 from rfl, nat_bit]
  have : b / 2 ^ 63 % 2 = b / 2 ^ 63 := by omega
  rw [this]

theorem or_high (b : Nat) (hb : b < 9223372036854775808) : bits .or .u64 (b : Int) 9223372036854775808 = ((b + 9223372036854775808 : Nat) : Int) := by
  have := u64_or_nat b 9223372036854775808 (by omega) (by omega)
  rw [show ((9223372036854775808 : Nat) : Int) = 9223372036854775808 from rfl] at this
  rw [this, Nat.or_comm, nat_join 63 9223372036854775808 b (by decide) hb, Nat.add_comm]

theorem xor_all (b : Nat) (hb : b < 18446744073709551616) : bits .xor .u64 IntKind.u64.max (b : Int) = ((18446744073709551615 - b : Nat) : Int) := by
  have h0 : IntKind.u64.max = ((18446744073709551615 : Nat) : Int) := by decide
  rw [h0, u64_xor_nat _ b (by omega) hb]
  congr 1
  have h1 : (18446744073709551615 : Nat) = (BitVec.allOnes 64).toNat := by decide
  have h2 : b = (BitVec.ofNat 64 b).toNat := by simp; omega
  have h3 : 18446744073709551615 ^^^ b = (BitVec.allOnes 64 ^^^ BitVec.ofNat 64 b).toNat := by
    rw [BitVec.toNat_xor, ← h1, ← h2]
  rw [h3, BitVec.allOnes_xor, BitVec.toNat_not, ← h2]

/-- The three ways of 'place'. -/
theorem place_bits (b : Nat) (hb : b < 18446744073709551616) :
    (((formF b : Nat) : Int) == 9221120237041090561) = true ∧ placeF b = 18446744073709551615 ∨
    (((formF b : Nat) : Int) == 9221120237041090561) = false ∧ (bits .and .u64 ((formF b : Nat) : Int) 9223372036854775808 != 0) = true ∧ bits .xor .u64 IntKind.u64.max ((formF b : Nat) : Int) = ((placeF b : Nat) : Int) ∨
    (((formF b : Nat) : Int) == 9221120237041090561) = false ∧ (bits .and .u64 ((formF b : Nat) : Int) 9223372036854775808 != 0) = false ∧ bits .or .u64 ((formF b : Nat) : Int) 9223372036854775808 = ((placeF b : Nat) : Int) := by
  unfold placeF
  by_cases hn : nanB b = true
  · left; rw [if_pos hn]; unfold formF; rw [if_pos hn]; exact ⟨by decide, rfl⟩
  · rw [if_neg hn]
    have hm := mt (nanB_mod b).2 hn
    have hf : formF b = b := by unfold formF; rw [if_neg hn]
    have h1 : ((b : Int) == 9221120237041090561) = false := by simp; omega
    right
    rw [hf, and_high b hb]
    by_cases hl : b < 9223372036854775808
    · right
      refine ⟨h1, ?_, ?_⟩
      · simp; omega
      · rw [if_pos hl]; exact or_high b hl
    · left
      refine ⟨h1, ?_, ?_⟩
      · simp; omega
      · rw [if_neg hl]; exact xor_all b hb

/-- A number, and no infinity. -/
def finB (b : Nat) : Bool := decide (b % 9223372036854775808 < 9218868437227405312)

theorem sub_fin {P : Program} (t : TypeId) (w : World) (a : Nat) (h : finB a = true) : (binOp .sub t (.float .f64 a) (.float .f64 a)).run P w = .ok (.float .f64 0) w := by
  have hs : double.sub a a = some 0 := by
    unfold finB at h
    obtain ⟨m, e, h1, _⟩ := read_number a (of_decide_eq_true h)
    unfold Format.sub
    rw [h1]
    have hz : ∀ s : Bool, signed s m (-1074 + (e : Int) - min (-1074 + (e : Int)) (-1074 + (e : Int))).toNat + signed (!s) m (-1074 + (e : Int) - min (-1074 + (e : Int)) (-1074 + (e : Int))).toNat = 0 := by
      intro s; cases s <;> simp [signed] <;> omega
    simp only [Datum.opposite, Datum.sum, hz, if_true, Bool.and_not_self, Int.natAbs_zero, Option.map_some, Format.write]
    rfl
  have hs' : FloatKind.f64.format.sub a a = some 0 := hs
  simp [binOp, Op.floatArith, hs']

theorem sub_big {P : Program} (t : TypeId) (w : World) (a : Nat) (h : finB a = false) : ∃ r, nanB r = true ∧ (binOp .sub t (.float .f64 a) (.float .f64 a)).run P w = .ok (.float .f64 r) w.drew := by
  have hs : double.sub a a = none := by
    unfold finB at h
    have h' := of_decide_eq_false h
    unfold Format.sub
    by_cases hi : a % 9223372036854775808 = 9218868437227405312
    · rw [read_inf a hi]; cases negB a <;> rfl
    · obtain ⟨t, e⟩ := read_nan a (by omega)
      rw [e]; rfl
  have hs' : FloatKind.f64.format.sub a a = none := hs
  have hr : (binOp .sub t (.float .f64 a) (.float .f64 a)).run P w = .ok (.float .f64 ((Question.nanBits .f64 a a).cut (w.tape w.drawn (.nanBits .f64 a a)))) w.drew := by
    simp [binOp, Op.floatArith, hs', Question.forced, -World.drew_eq]
  refine ⟨_, ?_, hr⟩
  rw [nanB_mod]
  simp only [Question.cut]
  generalize w.tape w.drawn (Question.nanBits FloatKind.f64 a a) = x
  have h1 : x / 2 % (2 ^ 52 - 1) < 4503599627370495 := Nat.mod_lt _ (by decide)
  generalize x / 2 % (2 ^ 52 - 1) = y at *
  have h2 : x % 2 = 0 ∨ x % 2 = 1 := by omega
  rcases h2 with h2 | h2 <;> rw [h2] <;> omega

theorem ord_zero (r : Nat) (h : nanB r = true) : (FloatKind.f64.format.order r 0 == some .eq) = false := by
  show (double.order r 0 == some .eq) = false
  rw [order_eq, h]; rfl

theorem ord_zero0 : (FloatKind.f64.format.order 0 0 == some .eq) = true := by decide +kernel

theorem run_neg_float {P : Program} (w : World) (k : FloatKind) (b : Nat) : (Op.unary .neg (.float k b)).run P w = .ok (.float k (Op.negFloat k b)) w := rfl

theorem and_mask52 (b : Nat) (hb : b < 18446744073709551616) : bits .and .u64 (b : Int) 4503599627370495 = ((b % 4503599627370496 : Nat) : Int) := by
  have := u64_and_nat b 4503599627370495 hb (by omega)
  rw [show ((4503599627370495 : Nat) : Int) = 4503599627370495 from rfl] at this
  rw [this, show (4503599627370495 : Nat) = 2 ^ 52 - 1 from rfl, Nat.and_two_pow_sub_one_eq_mod]

theorem and_exp (b : Nat) (hb : b < 18446744073709551616) : bits .and .u64 ((b : Int) / 4503599627370496) 2047 = ((b / 4503599627370496 % 2048 : Nat) : Int) := by
  have h : (b : Int) / 4503599627370496 = ((b / 4503599627370496 : Nat) : Int) := by omega
  have := u64_and_nat (b / 4503599627370496) 2047 (by omega) (by omega)
  rw [show ((2047 : Nat) : Int) = 2047 from rfl] at this
  rw [h, this, show (2047 : Nat) = 2 ^ 11 - 1 from rfl, Nat.and_two_pow_sub_one_eq_mod]

/-- The three ways of the reference's 'Form'. -/
theorem form_ways (b : Nat) (hb : b < 18446744073709551616) :
    (bits .and .u64 ((b : Int) / 4503599627370496) 2047 == 2047) = true ∧ (bits .and .u64 (b : Int) 4503599627370495 != 0) = true ∧ formF b = 9221120237041090561 ∨
    (bits .and .u64 ((b : Int) / 4503599627370496) 2047 == 2047) = true ∧ (bits .and .u64 (b : Int) 4503599627370495 != 0) = false ∧ formF b = b ∨
    (bits .and .u64 ((b : Int) / 4503599627370496) 2047 == 2047) = false ∧ formF b = b := by
  rw [and_exp b hb, and_mask52 b hb]
  by_cases hn : nanB b = true
  · have hm := (nanB_mod b).1 hn
    left
    refine ⟨?_, ?_, by unfold formF; rw [if_pos hn]⟩
    · simp; omega
    · simp; omega
  · have hm := mt (nanB_mod b).2 hn
    have hf : formF b = b := by unfold formF; rw [if_neg hn]
    right
    by_cases hi : b % 9223372036854775808 = 9218868437227405312
    · left
      refine ⟨?_, ?_, hf⟩
      · simp; omega
      · simp; omega
    · right
      refine ⟨?_, hf⟩
      simp; omega

/-- A float with its sign turned. -/
def flipF (b : Nat) : Nat := b ^^^ 9223372036854775808

theorem flipF_eq (b : Nat) (hb : b < 18446744073709551616) : flipF b = if b < 9223372036854775808 then b + 9223372036854775808 else b - 9223372036854775808 := by
  unfold flipF
  by_cases h : b < 9223372036854775808
  · rw [if_pos h]
    have h1 : b &&& 9223372036854775808 = 0 := by
      rw [show (9223372036854775808 : Nat) = 2 ^ 63 from rfl, nat_bit]
      have : b / 2 ^ 63 % 2 = 0 := by omega
      rw [this]
    have h2 := Nat.or_comm b 9223372036854775808
    have h3 := nat_join 63 9223372036854775808 b (by decide) h
    have h4 : b ^^^ 9223372036854775808 = b ||| 9223372036854775808 := by
      apply Nat.eq_of_testBit_eq
      intro i
      have := congrArg (fun n => n.testBit i) h1
      simp only [Nat.testBit_and, Nat.zero_testBit] at this
      rw [Nat.testBit_xor, Nat.testBit_or]
      cases hb1 : b.testBit i <;> cases hb2 : (9223372036854775808 : Nat).testBit i <;> simp_all
    rw [h4, h2, h3, Nat.add_comm]
  · rw [if_neg h]
    have hq : b = (b - 9223372036854775808) + 9223372036854775808 := by omega
    generalize b - 9223372036854775808 = c at *
    have hc : c < 9223372036854775808 := by omega
    have h1 : c &&& 9223372036854775808 = 0 := by
      rw [show (9223372036854775808 : Nat) = 2 ^ 63 from rfl, nat_bit]
      have : c / 2 ^ 63 % 2 = 0 := by omega
      rw [this]
    have h3 := nat_join 63 9223372036854775808 c (by decide) hc
    have h5 : b = c ||| 9223372036854775808 := by rw [Nat.or_comm, h3]; omega
    rw [h5]
    apply Nat.eq_of_testBit_eq
    intro i
    have := congrArg (fun n => n.testBit i) h1
    simp only [Nat.testBit_and, Nat.zero_testBit] at this
    rw [Nat.testBit_xor, Nat.testBit_or]
    cases hb1 : c.testBit i <;> cases hb2 : (9223372036854775808 : Nat).testBit i <;> simp_all

theorem flipF_lt (b : Nat) (hb : b < 18446744073709551616) : flipF b < 18446744073709551616 := by
  rw [flipF_eq b hb]; split <;> omega

theorem flip_ways (b : Nat) (hb : b < 18446744073709551616) :
    decide ((b : Int) < 9223372036854775808) = true ∧ IntKind.u64.wrap ((b : Int) + 9223372036854775808) = (flipF b : Nat) ∨
    decide ((b : Int) < 9223372036854775808) = false ∧ IntKind.u64.wrap ((b : Int) - 9223372036854775808) = (flipF b : Nat) := by
  rw [flipF_eq b hb]
  by_cases h : b < 9223372036854775808
  · left; rw [if_pos h]; refine ⟨by simp; omega, ?_⟩
    simp only [IntKind.wrap_u64]; omega
  · right; rw [if_neg h]; refine ⟨by simp; omega, ?_⟩
    simp only [IntKind.wrap_u64]; omega

theorem finB_eq (b : Nat) (hb : b < 18446744073709551616) : (bits .and .u64 ((b : Int) / 4503599627370496) 2047 != 2047) = finB b := by
  rw [and_exp b hb]
  unfold finB
  rw [Bool.eq_iff_iff]
  simp
  omega

end Go.Proofs.Yticnofemjnpjoaa
