import Derived.Test.YtbhjdapkhcgmlaaCrc

set_option linter.unusedSimpArgs false
set_option linter.unusedVariables false
set_option linter.unnecessarySimpa false

namespace Go.Proofs.Ytbhjdapkhcgmlaa
open Go.RowKit

/-- The bytes of a frame, if it is one. -/
def openO (l : List UInt8) : Option (List UInt8) := if l.length < 2 then none else if sealN (l.take (l.length - 2)) = l then some (l.take (l.length - 2)) else none
def openL (l : List UInt8) : List UInt8 := (openO l).getD []
def openE (l : List UInt8) : Int := if (openO l).isSome then 0 else 31

set_option maxHeartbeats 1000000 in
theorem open_c (A : Option Addr) (l : List UInt8) (c : Nat) (w : World) (h : Rd g8 w A l) (hn : A = none → c = 0) (hle : l.length ≤ c) (hlen : l.length ≤ 140737488355328) :
    Calls Try.prog 35 #[.slice A l.length c] w fun e w' => ∃ A' c', e = .returned (.tuple #[.slice A' (openL l).length c', .int .i64 (openE l)]) ∧ Ow 5 g8 w' w.heap.size A' (openL l) c' ∧ Below w.heap.size w w' := by
  have H := Lib.hid h
  have HN := Lib.hid hn
  clear h hn
  by_cases hs : l.length < 2
  · have ho : openO l = none := by unfold openO; rw [if_pos hs]
    have HO := Lib.hid ho
    clear ho
    go_enter Try.func35, Try.ntmps35
    go_wp2_with fail
    go_ret2
    refine ⟨none, 0, ?_, ?_, Below.refl _ _⟩
    · unfold openL openE; rw [HO.out]; rfl
    · unfold openL; rw [HO.out]; exact Ow.nil
  · obtain ⟨p, s, rfl, hs2⟩ : ∃ p s, l = p ++ s ∧ s.length = 2 := ⟨l.take (l.length - 2), l.drop (l.length - 2), (List.take_append_drop _ _).symm, by simp; omega⟩
    have hlp : (p ++ s).length = p.length + 2 := by simp [hs2]
    have hto : (p ++ s).take ((p ++ s).length - 2) = p := by rw [hlp]; simp
    have hP := H.out.take p.length
    rw [List.take_left] at hP
    have HP := Lib.hid hP
    have hpc : p.length ≤ c := by omega
    have hpl : p.length ≤ 140737488355326 := by omega
    have hoo : openO (p ++ s) = if sealN p = p ++ s then some p else none := by unfold openO; rw [if_neg hs, hto]
    have HOO := Lib.hid hoo
    have HLP := Lib.hid hlp
    rw [hlp]
    clear hP hto hoo hs hs2 hle hlp hlen
    go_enter Try.func35, Try.ntmps35
    go_wp2_with fail
    refine (seal_c A p c _ HP.out HN.out hpl).mono ?_; rintro e w1 ⟨A1, c1, rfl, ho, hb⟩
    have HO := Lib.hid ho
    have HB := Lib.hid hb
    clear ho hb
    go_wp2_with fail
    have heq := equal_c A1 A (sealN p) (p ++ s) c1 c w1 HO.out.rd (H.out.below HB.out) (by simp [sealN]; omega)
    rw [HLP.out] at heq
    by_cases he : sealN p = p ++ s
    · rw [decide_eq_true he] at heq
      have HE := Lib.hid he
      clear he
      refine heq.mono ?_; rintro e w2 ⟨rfl, n, rfl⟩
      clear heq
      go_wp2_with fail
      refine (clone_c A p c _ ((HP.out.below HB.out).drewN n) HN.out (by omega)).mono ?_; rintro e w3 ⟨A3, c3, rfl, ho3, hb3⟩
      have HO3 := Lib.hid ho3
      have HB3 := Lib.hid hb3
      clear ho3 hb3
      go_wp2_with fail
      go_ret2
      have hoe : openO (p ++ s) = some p := by rw [HOO.out, if_pos HE.out]
      have hlo : openL (p ++ s) = p := by unfold openL; rw [hoe]; rfl
      refine ⟨A3, c3, ?_, ?_, ?_⟩
      · rw [hlo]; unfold openE; rw [hoe]; rfl
      · rw [hlo]; exact HO3.out.low (by have := HB.out.size; simpa using this)
      · exact (below_drewN HB.out n).trans (HB3.out.mono (by have := HB.out.size; simpa using this))
    · rw [decide_eq_false he] at heq
      have HE := Lib.hid he
      clear he
      refine heq.mono ?_; rintro e w2 ⟨rfl, n, rfl⟩
      clear heq
      go_wp2_with fail
      go_ret2
      have hoe : openO (p ++ s) = none := by rw [HOO.out, if_neg HE.out]
      refine ⟨none, 0, ?_, ?_, below_drewN HB.out n⟩
      · unfold openL openE; rw [hoe]; rfl
      · unfold openL; rw [hoe]; exact Ow.nil

end Go.Proofs.Ytbhjdapkhcgmlaa
