import Derived.Test.YteoafaofiohefaaRnI
namespace Go.Proofs.Yteoafaofiohefaa
open Go.RowKit

variable {w w' : World} {B nb : Nat} {F : Nat → Prop} {S : Nat → List Fr}

/-- Put, where none of F's blocks is the net's. -/
theorem Put_f (w : World) (B nb : Nat) (F : Nat → Prop) (S : Nat → List Fr) (k : Int) (h : NetF B F w nb S) (hF : ∀ b, F b → b < w.heap.size) (A : Option Addr) (l : List UInt8) (n c : Nat) (hX : Rd g8 w A l) (hn : A = none → c = 0) (hlen : l.length ≤ 140737488355328) (he : l.length = n) :
    Calls Try.prog 11 #[.pointer (some ⟨nb, 0, none⟩), .int .i64 k, .slice A n c] w fun e w' => e = .returned (.bool (putS S k (l, false)).2) ∧ NetF B F w' nb (putS S k (l, false)).1 ∧ Stp B w w' := by
  rcases lane_cases k with hk | ⟨k, rfl, hk⟩
  · have e : putS S k (l, false) = (S, false) := by unfold putS; rw [if_neg (by omega)]
    rw [e]
    exact (Put_no _ k hk A n c w).mono fun _ _ ⟨e1, e2⟩ => ⟨e1, e2 ▸ h, e2 ▸ Stp.refl _ _⟩
  · obtain ⟨V, I, h1, rfl, h3, h4, h5⟩ := h
    by_cases hr : (I k).length < 200
    · have e : putS (fun j => (I j).map It.fr) k (l, false) = (upd (fun j => (I j).map It.fr) k ((I k).map It.fr ++ [(l, false)]), true) := by unfold putS; rw [if_pos ⟨by omega, by omega, by simpa using hr⟩]; rfl
      rw [e]
      refine (Put_ok w B nb V I k h1 hk hr A l n c hX hn hlen he).mono ?_
      rintro e w' ⟨rfl, N, x, rfl, hs, h6, h7, h8, h9⟩
      refine ⟨rfl, ⟨_, _, h6, ?_, h3, ?_, ?_⟩, h1.stp hk h7⟩
      · rw [map_upd]; simp [It.fr, hs]
      · intro j hj b q1 q2
        by_cases ej : j = k
        · subst ej
          rw [upd_same] at q1
          rcases h8 b q1 with q | q
          · exact h4 j hj b q q2
          · have := hF b q2; omega
        · rw [upd_ne _ _ _ ej] at q1; exact h4 j hj b q1 q2
      · intro j hj y hy a q1 q2
        by_cases ej : j = k
        · subst ej
          rw [upd_same] at hy
          rcases List.mem_append.1 hy with hy | hy
          · exact h5 j hj y hy a q1 q2
          · obtain rfl : y = x := by simpa using hy
            have := h9 a q1; have := hF _ q2; omega
        · rw [upd_ne _ _ _ ej] at hy; exact h5 j hj y hy a q1 q2
    · have e : putS (fun j => (I j).map It.fr) k (l, false) = (fun j => (I j).map It.fr, false) := by unfold putS; rw [if_neg (by rintro ⟨_, _, q⟩; exact hr (by simpa using q))]
      rw [e]
      refine (Put_full w B nb V I k h1 hk (by omega) A n c).mono ?_
      rintro e w' ⟨rfl, h2⟩
      exact ⟨rfl, ⟨V, I, h1.below h2, rfl, h3, h4, h5⟩, Stp.of_below h2⟩

end Go.Proofs.Yteoafaofiohefaa
