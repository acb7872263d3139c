import Derived.Test.YtbhjdapkhcgmlaaMrI
import Derived.Test.YtbhjdapkhcgmlaaMrJ
import Derived.Handy

set_option linter.unusedSimpArgs false
set_option linter.unusedVariables false
set_option linter.unnecessarySimpa false

namespace Go.Proofs.Ytbhjdapkhcgmlaa
open Go.RowKit

/-! What the reference's Read answers, plainly. -/

def bodyR (h : List Int) (p : List PutV × RState) : MsgM × RState :=
  if h.getD 0 0 = 5 then (⟨h.getD 0 0, h.getD 1 0, h.getD 2 0, h.getD 3 0, h.getD 4 0, h.getD 5 0, h.getD 6 0 != 0, p.1, atV p.2 0, atV p.2 1, atV p.2 2, atV p.2 3⟩, afterV p.2 4)
  else (⟨h.getD 0 0, h.getD 1 0, h.getD 2 0, h.getD 3 0, h.getD 4 0, h.getD 5 0, h.getD 6 0 != 0, p.1, (0, 0), (0, 0), (0, 0), (0, 0)⟩, p.2)
/-- The puts that the reference reads. -/
def putsR (b : List UInt8) : List PutV × RState := putsX (b.drop 24, false) (min ((ints3 b 8).getD 7 0).toNat 25)
def bodyB (b : List UInt8) : MsgM × RState := bodyR (ints3 b 8) (putsR b)
def readRO (b : List UInt8) : Option MsgM :=
  if b.length < 24 then none else if (bodyB b).2.2 = false ∧ mright (bodyB b).1 = true ∧ bytesM (bodyB b).1 = b then some (bodyB b).1 else none
def readRM (b : List UInt8) : MsgM := (readRO b).getD noM
def readRE (b : List UInt8) : Int := if (readRO b).isSome then 0 else 101
theorem readR_no {b : List UInt8} (h : readRO b = none) : readRM b = noM ∧ readRE b = 101 := by unfold readRM readRE; rw [h]; exact ⟨rfl, rfl⟩
theorem readR_yes {b : List UInt8} {m : MsgM} (h : readRO b = some m) : readRM b = m ∧ readRE b = 0 := by unfold readRM readRE; rw [h]; exact ⟨rfl, rfl⟩
theorem rr_short {b : List UInt8} (h : b.length < 24) : readRO b = none := if_pos h
theorem rr_no {b : List UInt8} (h : ¬ ((bodyB b).2.2 = false ∧ mright (bodyB b).1 = true ∧ bytesM (bodyB b).1 = b)) : readRO b = none := by
  unfold readRO
  split
  · rfl
  · rfl
theorem rr_some {b : List UInt8} (h : ¬ b.length < 24) (h1 : (bodyB b).2.2 = false) (h2 : mright (bodyB b).1 = true) (h3 : bytesM (bodyB b).1 = b) : readRO b = some (bodyB b).1 := by
  unfold readRO
  rw [if_neg h, if_pos ⟨h1, h2, h3⟩]

/-- Puts that cannot be read: nothing is read. -/
theorem rr_putsbad {b : List UInt8} (k : Nat) (hk : k ≤ min ((ints3 b 8).getD 7 0).toNat 25) (h : (putsX (b.drop 24, false) k).2.2 = true) : readRO b = none := by
  refine rr_no (fun q => ?_)
  have h1 : (putsR b).2.2 = true := by
    have := putsX_badS (b.drop 24, false) k h (min ((ints3 b 8).getD 7 0).toNat 25 - k)
    rw [show k + (min ((ints3 b 8).getD 7 0).toNat 25 - k) = min ((ints3 b 8).getD 7 0).toNat 25 by omega] at this
    exact this
  have h2 := q.1
  unfold bodyB bodyR at h2
  split at h2
  · have := afterV_badS (putsR b).2 0 h1 4
    simp only [Nat.zero_add] at this
    exact absurd h2 (by rw [this]; decide)
  · exact absurd h2 (by rw [h1]; decide)

/-- Values that cannot be read: nothing is read. -/
theorem rr_valbad {b : List UInt8} (h5 : (ints3 b 8).getD 0 0 = 5) (j : Nat) (hj : j ≤ 4) (h : (afterV (putsR b).2 j).2 = true) : readRO b = none := by
  refine rr_no (fun q => ?_)
  have h2 := q.1
  unfold bodyB bodyR at h2
  rw [if_pos h5] at h2
  have := afterV_badS (putsR b).2 j h (4 - j)
  rw [show j + (4 - j) = 4 by omega] at this
  exact absurd h2 (by show ¬ (afterV (putsR b).2 4).2 = false; rw [this]; decide)

theorem putsX_w64 (s : RState) : ∀ k, ∀ p ∈ (putsX s k).1, W64 (p.re, p.im)
  | 0 => fun p hp => by simp [putsX] at hp
  | k + 1 => fun p hp => by
    simp only [putsX, List.mem_append, List.mem_singleton] at hp
    rcases hp with hp | rfl
    · exact putsX_w64 s k p hp
    · exact valX_w (numsX (putsX s k).2 2).2
theorem atV_w64 (s : RState) (k : Nat) : W64 (atV s k) := valX_w (afterV s k)

theorem val_good {l : List UInt8} (h16 : 16 ≤ l.length) (hv : valOk l = true) : valX (l, false) = ((reB l, imB l), (l.drop 16, false)) := valX_yes rfl h16 hv
theorem val_bad {l : List UInt8} (h : ¬ (16 ≤ l.length ∧ valOk l = true)) : (valX (l, false)).2.2 = true := by
  have e : valX (l, false) = ((0, 0), l, true) := valX_no (fun q => h q.2)
  rw [e]

theorem rtake_n (A : Option Addr) (l : List UInt8) (n c : Nat) (w : World) (h : Rd g8 w A l) (hn : A = none → c = 0) (he : l.length = n) (hc : n ≤ c) (hc2 : c ≤ 9223372036854775807) (hl2 : n ≤ 140737488355328) (hg : ¬ (16 ≤ l.length ∧ valOk l = true)) :
    Calls Try.prog 26 #[.slice A n c] w fun e w' => e = .returned (.tuple #[.complex .f64 0 0, .slice none 0 0, .int .i64 21]) ∧ Below w.heap.size w w' := by
  by_cases h16 : 16 ≤ n
  · have hv : valOk l = false := by
      cases hq : valOk l with
      | true => exact absurd ⟨by omega, hq⟩ hg
      | false => rfl
    refine (rtake_c A l n c w h hn he hc hc2 h16 hl2).mono ?_
    rintro e w' ⟨A2, c2, e1, -, hb⟩
    rw [hv] at e1
    exact ⟨e1, hb⟩
  · refine (rtake_short A n c w (by omega)).mono ?_
    rintro e w' ⟨rfl, rfl⟩
    exact ⟨rfl, Below.refl _ _⟩
theorem rtake_y (A : Option Addr) (l : List UInt8) (n c : Nat) (w : World) (h : Rd g8 w A l) (hn : A = none → c = 0) (he : l.length = n) (hc : n ≤ c) (hc2 : c ≤ 9223372036854775807) (hl2 : n ≤ 140737488355328) (h16 : 16 ≤ n) (hv : valOk l = true) :
    Calls Try.prog 26 #[.slice A n c] w fun e w' => ∃ A2 c2, e = .returned (.tuple #[.complex .f64 (reB l) (imB l), .slice A2 (n - 16) c2, .int .i64 0]) ∧ Ow 5 g8 w' w.heap.size A2 (l.drop 16) c2 ∧ Below w.heap.size w w' := by
  refine (rtake_c A l n c w h hn he hc hc2 h16 hl2).mono ?_
  rintro e w' ⟨A2, c2, e1, h2, hb⟩
  rw [hv] at e1 h2
  exact ⟨A2, c2, e1, h2, hb⟩

end Go.Proofs.Ytbhjdapkhcgmlaa
