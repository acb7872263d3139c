import Derived.Test.YteoafaofiohefaaRefBurstN
namespace Go.Proofs.Yteoafaofiohefaa

/-! The plain laws of the sum: it is linear, and no step of it loses anything. -/

theorem xor_mod2 (a b : Nat) : (a ^^^ b) % 2 = (a % 2 ^^^ b % 2) := Nat.xor_mod_two_pow (a := a) (b := b) (n := 1)
theorem xor_div2 (a b : Nat) : (a ^^^ b) / 2 = (a / 2 ^^^ b / 2) := by
  have := Nat.shiftRight_xor_distrib (a := a) (b := b) (i := 1)
  simpa [Nat.shiftRight_eq_div_pow] using this

theorem stepB_xor (c d : Nat) : stepB (c ^^^ d) = (stepB c ^^^ stepB d) := by
  unfold stepB
  rw [xor_mod2, xor_div2]
  have hc : c % 2 = 0 ∨ c % 2 = 1 := by omega
  have hd : d % 2 = 0 ∨ d % 2 = 1 := by omega
  rcases hc with hc | hc <;> rcases hd with hd | hd <;> rw [hc, hd]
  · simp
  · simp [Nat.xor_assoc]
  · simp only [show (1 ^^^ 0 : Nat) = 1 from rfl, if_true, show ¬ (0 : Nat) = 1 from by omega, if_false]
    rw [Nat.xor_assoc, Nat.xor_assoc, Nat.xor_comm 33800]
  · simp only [show (1 ^^^ 1 : Nat) = 0 from rfl, if_true, show ¬ (0 : Nat) = 1 from by omega, if_false]
    rw [Nat.xor_assoc, ← Nat.xor_assoc 33800, Nat.xor_comm 33800, Nat.xor_assoc (d / 2), Nat.xor_self, Nat.xor_zero]

theorem xor_eq {a b : Nat} (h : (a ^^^ b) = 0) : a = b := by
  have : (a ^^^ b ^^^ b) = a := by rw [Nat.xor_assoc, Nat.xor_self, Nat.xor_zero]
  rw [← this, h, Nat.zero_xor]

theorem stepB_even (e : Nat) : stepB (2 * e) = e := by
  unfold stepB; rw [if_neg (by omega)]; omega

theorem stepB_zero {x : Nat} (hx : x < 65536) (h : stepB x = 0) : x = 0 := by
  unfold stepB at h
  split at h
  · have := xor_eq h
    omega
  · omega

theorem steps_xor : ∀ (n c d : Nat), steps n (c ^^^ d) = (steps n c ^^^ steps n d)
  | 0, _, _ => rfl
  | n + 1, c, d => by
    show steps n (stepB (c ^^^ d)) = _
    rw [stepB_xor, steps_xor n]; rfl

theorem steps_zero : ∀ (n : Nat) {x : Nat}, x < 65536 → steps n x = 0 → x = 0
  | 0, _, _, h => h
  | n + 1, _, hx, h => stepB_zero hx (steps_zero n (stepB_lt hx) h)

theorem steps_inj (n : Nat) {c d : Nat} (hc : c < 65536) (hd : d < 65536) (h : steps n c = steps n d) : c = d := by
  have h1 := steps_xor n c d
  rw [h, Nat.xor_self] at h1
  exact xor_eq (steps_zero n (Nat.xor_lt_two_pow (n := 16) hc hd) h1)

/-- The register behind the lowest bits of a number, the lowest first. -/
def reg : Nat → Nat → Nat → Nat
  | c, 0, _ => c
  | c, n + 1, e => reg (stepB (c ^^^ e % 2)) n (e / 2)

theorem xor_split (e : Nat) : (e % 2 ^^^ 2 * (e / 2)) = e := by
  apply Nat.eq_of_testBit_eq
  intro i
  rw [Nat.testBit_xor]
  cases i with
  | zero => simp [Nat.testBit_zero]
  | succ i => simp [Nat.testBit_succ]

theorem reg_steps : ∀ (n c e : Nat), steps n (c ^^^ e) = (reg c n e ^^^ e / 2 ^ n)
  | 0, c, e => by simp [steps, reg]
  | n + 1, c, e => by
    show steps n (stepB (c ^^^ e)) = (reg (stepB (c ^^^ e % 2)) n (e / 2) ^^^ e / 2 ^ (n + 1))
    have h1 : (c ^^^ e) = ((c ^^^ e % 2) ^^^ 2 * (e / 2)) := by rw [Nat.xor_assoc, xor_split]
    rw [h1, stepB_xor, stepB_even, reg_steps n, Nat.div_div_eq_div_mul, Nat.pow_succ, Nat.mul_comm 2]

theorem reg_small {n c e : Nat} (h : e < 2 ^ n) : reg c n e = steps n (c ^^^ e) := by
  rw [reg_steps, Nat.div_eq_of_lt h, Nat.xor_zero]

theorem reg_xor : ∀ (n c d e f : Nat), reg (c ^^^ d) n (e ^^^ f) = (reg c n e ^^^ reg d n f)
  | 0, _, _, _, _ => rfl
  | n + 1, c, d, e, f => by
    show reg (stepB ((c ^^^ d) ^^^ (e ^^^ f) % 2)) n ((e ^^^ f) / 2) = _
    rw [xor_mod2, xor_div2]
    have h1 : ((c ^^^ d) ^^^ (e % 2 ^^^ f % 2)) = ((c ^^^ e % 2) ^^^ (d ^^^ f % 2)) := by
      rw [Nat.xor_assoc, Nat.xor_assoc, ← Nat.xor_assoc d, Nat.xor_comm d, Nat.xor_assoc (e % 2)]
    rw [h1, stepB_xor, reg_xor n]; rfl

theorem reg_add : ∀ (m n c e : Nat), reg c (m + n) e = reg (reg c m e) n (e / 2 ^ m)
  | 0, n, c, e => by simp [reg]
  | m + 1, n, c, e => by
    rw [show m + 1 + n = (m + n) + 1 from by omega]
    show reg (stepB (c ^^^ e % 2)) (m + n) (e / 2) = reg (reg (stepB (c ^^^ e % 2)) m (e / 2)) n (e / 2 ^ (m + 1))
    rw [reg_add m n, Nat.div_div_eq_div_mul, Nat.pow_succ, Nat.mul_comm 2]

theorem reg_mod : ∀ (n c e : Nat), reg c n (e % 2 ^ n) = reg c n e
  | 0, _, _ => rfl
  | n + 1, c, e => by
    show reg (stepB (c ^^^ e % 2 ^ (n + 1) % 2)) n (e % 2 ^ (n + 1) / 2) = reg (stepB (c ^^^ e % 2)) n (e / 2)
    have h1 : e % 2 ^ (n + 1) % 2 = e % 2 := Nat.mod_mod_of_dvd _ ⟨2 ^ n, by rw [Nat.pow_succ, Nat.mul_comm]⟩
    have h2 : e % 2 ^ (n + 1) / 2 = e / 2 % 2 ^ n := by
      rw [Nat.pow_succ, Nat.mul_comm, Nat.mod_mul_right_div_self]
    rw [h1, h2, reg_mod n]

theorem reg_zero : ∀ (n : Nat), reg 0 n 0 = 0
  | 0 => rfl
  | n + 1 => by
    show reg (stepB 0) n 0 = 0
    exact reg_zero n

/-- Bytes as one number, the first one lowest. -/
def num : List UInt8 → Nat
  | [] => 0
  | x :: l => x.toNat + 256 * num l

theorem num_inj : ∀ {l m : List UInt8}, l.length = m.length → num l = num m → l = m
  | [], [], _, _ => rfl
  | [], _ :: _, h, _ => by simp at h
  | _ :: _, [], h, _ => by simp at h
  | x :: l, y :: m, h, e => by
    have hx := UInt8.toNat_lt x
    have hy := UInt8.toNat_lt y
    have e' : x.toNat + 256 * num l = y.toNat + 256 * num m := e
    have e1 : x.toNat = y.toNat := by omega
    have e2 : num l = num m := by omega
    rw [UInt8.toNat_inj.1 e1, num_inj (by simpa using h) e2]

theorem run_reg : ∀ (l : List UInt8) (c : Nat), runN c l = reg c (8 * l.length) (num l)
  | [], c => rfl
  | x :: l, c => by
    have hx := UInt8.toNat_lt x
    show runN (stepN c x.toNat) l = reg c (8 * (l.length + 1)) (x.toNat + 256 * num l)
    rw [run_reg l, show 8 * (l.length + 1) = 8 + 8 * l.length from by omega, reg_add, ← reg_mod 8 c]
    have h1 : (x.toNat + 256 * num l) % 2 ^ 8 = x.toNat := by omega
    have h2 : (x.toNat + 256 * num l) / 2 ^ 8 = num l := by omega
    rw [h1, h2, reg_small (by omega : x.toNat < 2 ^ 8)]
    rfl

theorem two_bytes (c : Nat) (x y : UInt8) : runN c [x, y] = steps 16 (c ^^^ (x.toNat + 256 * y.toNat)) := by
  have hx := UInt8.toNat_lt x
  have hy := UInt8.toNat_lt y
  rw [run_reg]
  show reg c 16 (x.toNat + 256 * (y.toNat + 256 * 0)) = _
  rw [Nat.mul_zero, Nat.add_zero, reg_small (by omega)]

/-- The register behind a whole frame is one number. -/
theorem run_seal (l : List UInt8) : runN 65535 (sealN l) = steps 16 65535 := by
  unfold sealN
  rw [runN_append, two_bytes]
  have hl := runN_lt (c := 65535) (by omega) l
  have hs : sumN l = 65535 - runN 65535 l := rfl
  have hs2 := sumN_lt l
  have h1 : (UInt8.ofNat (sumN l)).toNat + 256 * (UInt8.ofNat (sumN l / 256)).toNat = sumN l := by
    rw [UInt8.toNat_ofNat', UInt8.toNat_ofNat']
    omega
  rw [h1, hs]
  congr 1
  generalize runN 65535 l = c at *
  have h2 : 65535 - c = (65535 ^^^ c) := by
    have h3 : (65535 : Nat) = (BitVec.allOnes 16).toNat := by decide
    have h4 : c = (BitVec.ofNat 16 c).toNat := by simp; omega
    have h5 : 65535 ^^^ c = (BitVec.allOnes 16 ^^^ BitVec.ofNat 16 c).toNat := by rw [BitVec.toNat_xor, ← h3, ← h4]
    rw [h5, BitVec.allOnes_xor, BitVec.toNat_not, ← h4]
  rw [h2, Nat.xor_comm 65535, ← Nat.xor_assoc, Nat.xor_self, Nat.zero_xor]

theorem open_seal (l : List UInt8) : openO (sealN l) = some l := by
  have h : (sealN l).length = l.length + 2 := by simp [sealN]
  have h2 : (sealN l).take ((sealN l).length - 2) = l := by rw [h]; simp [sealN]
  unfold openO
  rw [if_neg (by omega), h2, if_pos rfl]

theorem open_run {x p : List UInt8} (h : openO x = some p) : runN 65535 x = steps 16 65535 := by
  unfold openO at h
  split at h
  · cases h
  · split at h
    · rename_i e
      rw [← e]; exact run_seal _
    · cases h

theorem add_xor {a : Nat} (b : Nat) (ha : a < 256) : a + 256 * b = (a ^^^ 256 * b) := by
  have h1 := Nat.two_pow_add_eq_or_of_lt (i := 8) ha b
  rw [show (2 : Nat) ^ 8 = 256 from rfl] at h1
  rw [Nat.add_comm, h1]
  apply Nat.eq_of_testBit_eq
  intro i
  rw [Nat.testBit_or, Nat.testBit_xor, show (256 : Nat) = 2 ^ 8 from rfl, Nat.testBit_two_pow_mul]
  by_cases hi : 8 ≤ i
  · have h2 : a.testBit i = false := Nat.testBit_lt_two_pow (Nat.lt_of_lt_of_le ha (Nat.pow_le_pow_right (n := 2) (by omega) hi))
    rw [h2]; simp
  · simp [hi]

theorem mul_xor256 (a b : Nat) : 256 * (a ^^^ b) = (256 * a ^^^ 256 * b) := by
  have := Nat.shiftLeft_xor_distrib (a := a) (b := b) (i := 8)
  simp only [Nat.shiftLeft_eq] at this
  rw [Nat.mul_comm 256, Nat.mul_comm 256 a, Nat.mul_comm 256 b]
  exact this

theorem num_set : ∀ (l : List UInt8) (i : Nat) (v : UInt8), i < l.length → num (l.set i (l.getD i 0 ^^^ v)) = (num l ^^^ v.toNat * 256 ^ i)
  | [], i, _, h => by simp at h
  | x :: l, 0, v, _ => by
    show (x ^^^ v).toNat + 256 * num l = ((x.toNat + 256 * num l) ^^^ v.toNat * 256 ^ 0)
    have hx := UInt8.toNat_lt x
    have hv := UInt8.toNat_lt v
    have hxv := Nat.xor_lt_two_pow (n := 8) (x := x.toNat) (y := v.toNat) (by omega) (by omega)
    rw [UInt8.toNat_xor, Nat.pow_zero, Nat.mul_one, add_xor _ hxv, add_xor _ hx, Nat.xor_assoc, Nat.xor_assoc, Nat.xor_comm v.toNat]
  | x :: l, i + 1, v, h => by
    show x.toNat + 256 * num (l.set i (l.getD i 0 ^^^ v)) = ((x.toNat + 256 * num l) ^^^ v.toNat * 256 ^ (i + 1))
    have hx := UInt8.toNat_lt x
    rw [num_set l i v (by simpa using h), add_xor _ hx, add_xor _ hx, mul_xor256, Nat.xor_assoc, Nat.pow_succ, Nat.mul_comm (256 ^ i) 256, Nat.mul_left_comm v.toNat]

theorem turn_num (l : List UInt8) (a m : Nat) : ∀ k, a + k ≤ 8 * l.length → num (turnN l a m k) = (num l ^^^ m % 2 ^ k * 2 ^ a)
  | 0, _ => by simp [turnN, Nat.mod_one]
  | k + 1, h => by
    have ih := turn_num l a m k (by omega)
    have hq : (a + k) / 8 < (turnN l a m k).length := by rw [turnN_length]; omega
    have hB : m / 2 ^ k % 2 < 2 := Nat.mod_lt _ (by omega)
    have hr8 : (a + k) % 8 < 8 := Nat.mod_lt _ (by omega)
    have hp : 2 ^ ((a + k) % 8) ≤ 128 := by
      have := Nat.pow_le_pow_right (n := 2) (by omega) (show (a + k) % 8 ≤ 7 by omega)
      simpa using this
    have hn : m / 2 ^ k % 2 * 2 ^ ((a + k) % 8) ≤ 128 := by
      have := Nat.mul_le_mul (show m / 2 ^ k % 2 ≤ 1 by omega) hp
      omega
    have e1 : (UInt8.ofNat (m / 2 ^ k % 2 * 2 ^ ((a + k) % 8))).toNat = m / 2 ^ k % 2 * 2 ^ ((a + k) % 8) := by
      rw [UInt8.toNat_ofNat', Nat.mod_eq_of_lt (by omega)]
    have e2 : m / 2 ^ k % 2 * 2 ^ ((a + k) % 8) * 256 ^ ((a + k) / 8) = m / 2 ^ k % 2 * 2 ^ k * 2 ^ a := by
      rw [show (256 : Nat) = 2 ^ 8 from rfl, ← Nat.pow_mul, Nat.mul_assoc, ← Nat.pow_add, Nat.mul_assoc, ← Nat.pow_add]
      congr 2
      omega
    have e3 : m % 2 ^ (k + 1) = (m % 2 ^ k ^^^ m / 2 ^ k % 2 * 2 ^ k) := by
      have h1 : m % 2 ^ (k + 1) = m / 2 ^ k % 2 * 2 ^ k + m % 2 ^ k := by
        have := Nat.mod_mul (x := m) (a := 2 ^ k) (b := 2)
        rw [Nat.pow_succ, this, Nat.add_comm, Nat.mul_comm]
      rw [h1]
      generalize m / 2 ^ k % 2 = b at *
      have hlt : m % 2 ^ k < 2 ^ k := Nat.mod_lt _ (Nat.two_pow_pos _)
      generalize m % 2 ^ k = y at *
      have hb : b = 0 ∨ b = 1 := by omega
      rcases hb with rfl | rfl
      · simp
      · rw [Nat.one_mul]
        apply Nat.eq_of_testBit_eq
        intro i
        rw [Nat.testBit_xor, Nat.testBit_two_pow]
        by_cases hi : k = i
        · subst hi
          have hy : y.testBit k = false := Nat.testBit_lt_two_pow hlt
          rw [hy, Nat.testBit_two_pow_add_eq, hy]; simp
        · have := Nat.two_pow_add_eq_or_of_lt (i := k) hlt 1
          rw [Nat.mul_one] at this
          rw [this, Nat.testBit_or, Nat.testBit_two_pow]
          simp [hi]
    show num ((turnN l a m k).set ((a + k) / 8) ((turnN l a m k).getD ((a + k) / 8) 0 ^^^ UInt8.ofNat (m / 2 ^ k % 2 * 2 ^ ((a + k) % 8)))) = _
    rw [num_set _ _ _ hq, ih, e1, e2, e3, Nat.xor_assoc]
    congr 1
    have := Nat.shiftLeft_xor_distrib (a := m % 2 ^ k) (b := m / 2 ^ k % 2 * 2 ^ k) (i := a)
    simp only [Nat.shiftLeft_eq] at this
    rw [this]

/-- Turned twice it is as it was. -/
theorem turn_twice (l : List UInt8) (a m k : Nat) (h : a + k ≤ 8 * l.length) : turnN (turnN l a m k) a m k = l := by
  apply num_inj
  · rw [turnN_length, turnN_length]
  · rw [turn_num _ _ _ _ (by rw [turnN_length]; exact h), turn_num _ _ _ _ h, Nat.xor_assoc, Nat.xor_self, Nat.xor_zero]

theorem burst_twice (l : List UInt8) (at_ : Int) (m : Nat) : burstN (burstN l at_ m) at_ m = l := by
  by_cases h : at_ < 0 ∨ 0 < wideN m ∧ 8 * (l.length : Int) - wideN m < at_
  · have e : burstN l at_ m = l := by unfold burstN; rw [if_pos h]
    rw [e, e]
  · have e : burstN l at_ m = turnN l at_.toNat m (wideN m) := by unfold burstN; rw [if_neg h]
    have e2 : burstN (turnN l at_.toNat m (wideN m)) at_ m = turnN (turnN l at_.toNat m (wideN m)) at_.toNat m (wideN m) := by
      unfold burstN; rw [turnN_length, if_neg h]
    rw [e, e2]
    by_cases h0 : 0 < wideN m
    · exact turn_twice _ _ _ _ (by omega)
    · have hz : wideN m = 0 := by omega
      rw [hz]; rfl

theorem wide_small {m : Nat} : m < 2 ^ wideN m := by
  unfold wideN
  split
  · subst_vars; exact Nat.two_pow_pos _
  · exact Nat.lt_log2_self

/-- A burst that turns something is found. -/
theorem burst_found (l : List UInt8) (a m : Nat) (hm : m < 65536) (h : a + wideN m ≤ 8 * l.length) (h0 : m ≠ 0) : runN 65535 (turnN l a m (wideN m)) ≠ runN 65535 l := by
  intro e
  rw [run_reg, run_reg, turnN_length, turn_num _ _ _ _ h, Nat.mod_eq_of_lt wide_small] at e
  have h1 := reg_xor (8 * l.length) 65535 0 (num l) (m * 2 ^ a)
  rw [Nat.xor_zero] at h1
  rw [h1] at e
  have h2 : reg 0 (8 * l.length) (m * 2 ^ a) = 0 := by
    generalize reg 65535 (8 * l.length) (num l) = x at *
    generalize reg 0 (8 * l.length) (m * 2 ^ a) = y at *
    have : (x ^^^ (x ^^^ y)) = 0 := by rw [e, Nat.xor_self]
    rwa [← Nat.xor_assoc, Nat.xor_self, Nat.zero_xor] at this
  have h3 : 8 * l.length = a + (8 * l.length - a) := by omega
  rw [h3, reg_add, ← reg_mod a, Nat.mul_mod_left, reg_zero, Nat.mul_div_cancel _ (Nat.two_pow_pos _)] at h2
  have hk : m < 2 ^ (a + (8 * l.length - a) - a) := Nat.lt_of_lt_of_le wide_small (Nat.pow_le_pow_right (by omega) (by omega))
  rw [show a + (8 * l.length - a) - a = 8 * l.length - a from by omega] at hk
  rw [reg_small hk, Nat.zero_xor] at h2
  exact h0 (steps_zero _ hm h2)

theorem finds_law (b : List UInt8) (at_ : Int) (m : Nat) (hm : m < 65536) :
    (burstN (sealN b) at_ m = sealN b ∧ openO (burstN (sealN b) at_ m) = some b) ∨ (burstN (sealN b) at_ m ≠ sealN b ∧ openO (burstN (sealN b) at_ m) = none) := by
  by_cases e : burstN (sealN b) at_ m = sealN b
  · left; rw [e]; exact ⟨rfl, open_seal b⟩
  · right
    refine ⟨e, ?_⟩
    cases ho : openO (burstN (sealN b) at_ m) with
    | none => rfl
    | some p =>
      exfalso
      have h1 := open_run ho
      have h2 := run_seal b
      by_cases h : at_ < 0 ∨ 0 < wideN m ∧ 8 * ((sealN b).length : Int) - wideN m < at_
      · exact e (by unfold burstN; rw [if_pos h])
      · have e2 : burstN (sealN b) at_ m = turnN (sealN b) at_.toNat m (wideN m) := by unfold burstN; rw [if_neg h]
        by_cases h0 : m = 0
        · subst h0
          exact e (by rw [e2]; rfl)
        · have hw : 0 < wideN m := by unfold wideN; rw [if_neg h0]; omega
          rw [e2] at h1
          exact burst_found (sealN b) at_.toNat m hm (by omega) h0 (h1.trans h2.symm)

/-- The bytes between two others are told by the sum. -/
theorem run_inj (l : List UInt8) {c d : Nat} (hc : c < 65536) (hd : d < 65536) (h : runN c l = runN d l) : c = d := by
  induction l generalizing c d with
  | nil => exact h
  | cons x l ih =>
    have hx := UInt8.toNat_lt x
    have h1 := ih (stepN_lt hc hx) (stepN_lt hd hx) h
    have h2 := steps_inj 8 (Nat.xor_lt_two_pow (n := 16) hc (by omega)) (Nat.xor_lt_two_pow (n := 16) hd (by omega)) h1
    have h3 : (c ^^^ x.toNat ^^^ x.toNat) = (d ^^^ x.toNat ^^^ x.toNat) := by rw [h2]
    rwa [Nat.xor_assoc, Nat.xor_assoc, Nat.xor_self, Nat.xor_zero, Nat.xor_zero] at h3

theorem one_law (f l : List UInt8) (a b c d : UInt8) : sumN (f ++ [a, b] ++ l) = sumN (f ++ [c, d] ++ l) ↔ a = c ∧ b = d := by
  constructor
  · intro h
    unfold sumN at h
    have hl1 := runN_lt (c := 65535) (by omega) (f ++ [a, b] ++ l)
    have hl2 := runN_lt (c := 65535) (by omega) (f ++ [c, d] ++ l)
    have h1 : runN 65535 (f ++ [a, b] ++ l) = runN 65535 (f ++ [c, d] ++ l) := by omega
    rw [runN_append, runN_append, runN_append 65535 (f ++ [c, d]), runN_append 65535 f [c, d]] at h1
    have hr := runN_lt (c := 65535) (by omega) f
    generalize runN 65535 f = r at *
    have h2 := run_inj l (runN_lt hr _) (runN_lt hr _) h1
    rw [two_bytes, two_bytes] at h2
    have ha := UInt8.toNat_lt a
    have hb := UInt8.toNat_lt b
    have hc := UInt8.toNat_lt c
    have hd := UInt8.toNat_lt d
    have h3 := steps_inj 16 (Nat.xor_lt_two_pow (n := 16) hr (by omega)) (Nat.xor_lt_two_pow (n := 16) hr (by omega)) h2
    have h4 : a.toNat + 256 * b.toNat = c.toNat + 256 * d.toNat := by
      have : (r ^^^ (r ^^^ (a.toNat + 256 * b.toNat))) = (r ^^^ (r ^^^ (c.toNat + 256 * d.toNat))) := by rw [h3]
      rwa [← Nat.xor_assoc, ← Nat.xor_assoc, Nat.xor_self, Nat.zero_xor, Nat.zero_xor] at this
    exact ⟨UInt8.toNat_inj.1 (by omega), UInt8.toNat_inj.1 (by omega)⟩
  · rintro ⟨rfl, rfl⟩; rfl

end Go.Proofs.Yteoafaofiohefaa
