import Derived.Test.YtbhjdapkhcgmlaaProg
import Derived.Test.YtbhjdapkhcgmlaaAid
import Derived.WalkMore
import Derived.ScopeJumps

set_option linter.unusedSimpArgs false
set_option linter.unusedVariables false
set_option linter.unnecessarySimpa false

namespace Go.Proofs.Ytbhjdapkhcgmlaa
open Go.RowKit

/-- One bit's step of the sum. -/
def stepB (c : Nat) : Nat := if c % 2 = 1 then c / 2 ^^^ 33800 else c / 2

def steps : Nat → Nat → Nat
  | 0, c => c
  | k + 1, c => steps k (stepB c)

/-- The sum behind one more byte. -/
def stepN (c x : Nat) : Nat := steps 8 (c ^^^ x)

theorem stepB_lt {c : Nat} (h : c < 65536) : stepB c < 65536 := by
  unfold stepB
  split
  · exact Nat.xor_lt_two_pow (n := 16) (by omega) (by omega)
  · omega

theorem steps_lt : ∀ (k c : Nat), c < 65536 → steps k c < 65536
  | 0, _, h => h
  | k + 1, _, h => steps_lt k _ (stepB_lt h)

theorem stepN_lt {c x : Nat} (hc : c < 65536) (hx : x < 256) : stepN c x < 65536 := steps_lt 8 _ (Nat.xor_lt_two_pow (n := 16) hc (by omega))

theorem step_bits (c : Nat) (h : c < 65536) : bits .xor .u16 ((c : Int) / 2) (bits .and .u16 33800 (IntKind.u16.wrap (- bits .and .u16 (c : Int) 1))) = ((stepB c : Nat) : Int) := by
  have h1 : bits .and .u16 (c : Int) 1 = ((c % 2 : Nat) : Int) := by
    have := u16_and_nat c 1 h (by omega)
    rw [nat_mask1] at this
    exact this
  have h2 : (c : Int) / 2 = ((c / 2 : Nat) : Int) := by omega
  rw [h1, h2]
  unfold stepB
  by_cases hc : c % 2 = 1
  · rw [hc, if_pos rfl]
    have h3 : bits .and .u16 33800 (IntKind.u16.wrap (- ((1 : Nat) : Int))) = ((33800 : Nat) : Int) := by decide +kernel
    rw [h3, u16_xor_nat (c / 2) 33800 (by omega) (by omega)]
  · have hc0 : c % 2 = 0 := by omega
    rw [hc0, if_neg (by omega)]
    have h3 : bits .and .u16 33800 (IntKind.u16.wrap (- ((0 : Nat) : Int))) = ((0 : Nat) : Int) := by decide +kernel
    rw [h3, u16_xor_nat (c / 2) 0 (by omega) (by omega), Nat.xor_zero]

theorem jump_ret {l : Nat} {J : Act → World → Prop} {Q : Exit → Act → World → Prop} {a : Act} {w : World} (h : Q .ret a w) : Exit.jump l J Q .ret a w := h

set_option maxRecDepth 1000000 in
set_option maxHeartbeats 1000000 in
theorem step_c (c x : Nat) (hc : c < 65536) (hx : x < 256) (w : World) :
    Calls Try.prog 71 #[.int .u16 c, .int .u8 x] w fun e w' => e = .returned (.int .u16 (stepN c x : Nat)) ∧ w = w' := by
  have hxor : bits .xor .u16 (c : Int) (x : Int) = ((c ^^^ x : Nat) : Int) := u16_xor_nat c x hc (by omega)
  have hlt := Nat.xor_lt_two_pow (n := 16) (x := c) (y := x) (by omega) (by omega)
  have HL := Lib.hid hlt
  have hs := step_bits (c ^^^ x) hlt
  have h8 : steps 7 (stepB (c ^^^ x)) = stepN c x := rfl
  have H8 := Lib.hid h8
  have hl2 := Lib.hid (stepB_lt hlt)
  clear hlt hc h8
  go_enter Try.func71, Try.ntmps71
  go_wp2
  refine wp_scope_jumps 0 (fun a' w' => w' = w ∧ ∃ (c' k : Nat) (u6 u7 u8 u9 u10 u11 u12 u13 u14 u15 u16 u17 u18 u19 u20 : Value), a' = { tmps := #[.int .u16 c', .int .u8 x, undef, undef, .int .u16 0, .int .i64 k, u6, u7, u8, u9, u10, u11, u12, u13, u14, u15, u16, u17, u18, u19, u20, undef], defers := [] } ∧ c' < 65536 ∧ k < 8 ∧ steps (8 - k) c' = stepN c x) (fun a' _ => 8 - (intOf (a'.tmps.getD 5 undef)).toNat) rfl ?_ ?_
  · go_wp2
    go_step3
    go_wp2
    go_step3
    exact ⟨rfl, rfl, stepB (c ^^^ x), 1, _, _, _, _, _, _, _, _, _, _, _, _, _, _, _, rfl, hl2.out, by omega, H8.out⟩
  · clear hs hxor
    rintro a w' ⟨rfl, c', k, u6, u7, u8, u9, u10, u11, u12, u13, u14, u15, u16, u17, u18, u19, u20, rfl, hc', hk, hst⟩
    have hs := step_bits c' hc'
    have hl := Lib.hid (stepB_lt hc')
    have HST := Lib.hid hst
    clear hst hc'
    go_wp2
    · go_step3
      have hk8 : k + 1 < 8 := by omega
      refine ⟨rfl, ⟨rfl, stepB c', k + 1, _, _, _, _, _, _, _, _, _, _, _, _, _, _, _, rfl, hl.out, hk8, ?_⟩, ?_⟩
      · have h1 := HST.out
        obtain ⟨m, hm⟩ : ∃ m, 8 - k = m + 1 := ⟨7 - k, by omega⟩
        rw [hm] at h1
        rw [show 8 - (k + 1) = m from by omega]
        exact h1
      · simp [intOf]; omega
    · refine jump_ret ?_
      go_ret
      have h1 := HST.out
      rw [show 8 - k = 1 from by omega] at h1
      refine ⟨?_, rfl⟩
      rw [← h1]
      rfl

end Go.Proofs.Ytbhjdapkhcgmlaa
