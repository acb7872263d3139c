import Derived.Test.YtbhjdapkhcgmlaaMsgJ
namespace Go.Proofs.Ytbhjdapkhcgmlaa
open Go.RowKit

/-! The living message: its bytes, its frame, the packet of it, the burst. -/

deriving instance DecidableEq for Pk

theorem good_zero : Good 0 0 := by unfold Good; decide +kernel
theorem good_one : Good 4607182418800017408 0 := by unfold Good; decide +kernel
theorem good_two : Good 4611686018427387904 4613937818241073152 := by unfold Good; decide +kernel

def body5 : List UInt8 := numsB [5, 2, 0, 0, 15, 4, 0, 0] ++ flatV [(4607182418800017408, 0), (4611686018427387904, 4613937818241073152), (0, 0), (0, 0)]
def frame5 : List UInt8 := frameL 1 2 3 4 5 true body5
theorem body5_length : body5.length = 88 := by decide +kernel
theorem frame5_length : frame5.length = 108 := by decide +kernel
theorem frame5_e : frameE 1 2 3 4 5 true body5 = 0 := by decide +kernel
theorem open5_p : mopenP frame5 = ⟨1, 2, 3, 4, 5, true, body5⟩ := by decide +kernel
theorem open5_e : mopenE frame5 = 0 := by decide +kernel
theorem burst5_e : mopenE (burstN frame5 40 1) = 101 := by decide +kernel
theorem burst5_length : (burstN frame5 40 1).length = 108 := by decide +kernel
theorem burst5_p : mopenP (burstN frame5 40 1) = noPk := by decide +kernel

theorem frame5_c (A : Option Addr) (c : Nat) (w : World) (h : Rd g8 w A body5) (hn : A = none → c = 0) :
    Calls Try.prog 11 #[.agg #[.int .i64 1, .int .i64 2, .int .i64 3, .int .i64 4, .int .i64 5, .bool true, .slice A 88 c]] w fun e w' => ∃ A' c', e = .returned (.tuple #[.slice A' 108 c', .int .i64 0]) ∧ Ow 5 g8 w' w.heap.size A' frame5 c' ∧ Below w.heap.size w w' := by
  have h1 := frame_c 1 2 3 4 5 true A body5 c w h hn (by rw [body5_length]; decide)
  rw [body5_length, frame5_e] at h1
  refine h1.mono ?_
  rintro e w' ⟨A', c', rfl, h2, h3⟩
  have h4 : (frameL 1 2 3 4 5 true body5).length = 108 := frame5_length
  rw [h4]
  exact ⟨A', c', rfl, h2, h3⟩

theorem open5_c (A : Option Addr) (c : Nat) (w : World) (h : Rd g8 w A frame5) (hn : A = none → c = 0) (hc : frame5.length ≤ c) :
    Calls Try.prog 13 #[.slice A 108 c] w fun e w' => ∃ A' c', e = .returned (.tuple #[.agg #[.int .i64 1, .int .i64 2, .int .i64 3, .int .i64 4, .int .i64 5, .bool true, .slice A' 88 c'], .int .i64 0]) ∧ Ow 5 g8 w' w.heap.size A' body5 c' ∧ Below w.heap.size w w' := by
  have h1 := mopen_c A frame5 c w h hn hc (by rw [frame5_length]; decide)
  rw [frame5_length, open5_e, open5_p] at h1
  refine h1.mono ?_
  rintro e w' ⟨A', c', rfl, h2, h3⟩
  refine ⟨A', c', ?_, h2, h3⟩
  unfold pkC
  rw [body5_length]

theorem burst5_c (A : Option Addr) (c : Nat) (w : World) (h : Rd g8 w A frame5) (hn : A = none → c = 0) :
    Calls Try.prog 21 #[.slice A 108 c, .int .i64 40, .int .u16 1] w fun e w' => ∃ A' c', e = .returned (.slice A' 108 c') ∧ Ow 5 g8 w' w.heap.size A' (burstN frame5 40 1) c' ∧ Below w.heap.size w w' := by
  have h1 := burst_c A frame5 c 40 1 w h hn (by rw [frame5_length]; decide) (by decide) (by decide) (by decide)
  rw [frame5_length] at h1
  exact h1

theorem open5b_c (A : Option Addr) (c : Nat) (w : World) (h : Rd g8 w A (burstN frame5 40 1)) (hn : A = none → c = 0) (hc : (burstN frame5 40 1).length ≤ c) :
    Calls Try.prog 13 #[.slice A 108 c] w fun e w' => ∃ A' c', e = .returned (.tuple #[.agg #[.int .i64 0, .int .i64 0, .int .i64 0, .int .i64 0, .int .i64 0, .bool false, .slice A' 0 c'], .int .i64 101]) ∧ Below w.heap.size w w' := by
  have h1 := mopen_c A (burstN frame5 40 1) c w h hn hc (by rw [burst5_length]; decide)
  rw [burst5_length, burst5_e, burst5_p] at h1
  refine h1.mono ?_
  rintro e w' ⟨A', c', rfl, h2, h3⟩
  exact ⟨A', c', rfl, h3⟩

end Go.Proofs.Ytbhjdapkhcgmlaa
