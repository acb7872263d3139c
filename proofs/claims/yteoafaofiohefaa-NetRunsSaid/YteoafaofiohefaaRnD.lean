import Derived.Test.YteoafaofiohefaaRnC
namespace Go.Proofs.Yteoafaofiohefaa
open Go.RowKit

/-! The reference's Put, of any lane. -/

variable {w w' : World} {B : Nat} {F : Nat → Prop} {P : Nat → Sh} {I : Nat → List It} {S : Nat → List Fr}

theorem RLane.sh {a : Option Addr} {n c : Nat} {L : List It} (h : RLane w B (.slice a n c) L) : L.length = n ∧ (a = none → n = 0 ∧ c = 0) := by
  rcases h.2 with ⟨e, hn⟩ | ⟨b, cap, cur, e, _⟩
  · injection e with e1 e2 e3; subst e1 e2 e3; exact ⟨hn, fun _ => ⟨rfl, rfl⟩⟩
  · injection e with e1 e2 e3; subst e1; exact ⟨e2.symm, fun h => by cases h⟩


theorem RPut_u (h : RefS B F w (vS P) S) (hB : B ≤ w.heap.size) (hF : ∀ b, F b → b < w.heap.size) (k : Int) (X : Option Addr) (l : List UInt8) (n c : Nat) (s : Bool) (hX : Rd g8 w X l) (hn : X = none → c = 0) (hlen : l.length ≤ 140737488355328) (he : l.length = n) :
    Calls Try.prog 15 #[.agg (arr8 (vS P)), .int .i64 k, .agg #[.slice X n c, .bool s]] w fun e w' => ∃ P', e = .returned (.tuple #[.agg (arr8 (vS P')), .bool (putS S k (l, s)).2]) ∧ RefS B F w' (vS P') (putS S k (l, s)).1 ∧ Below w.heap.size w w' := by
  rcases lane_cases k with hk | ⟨k, rfl, hk⟩
  · have e : putS S k (l, s) = (S, false) := by unfold putS; rw [if_neg (by omega)]
    rw [e]
    exact (RPut_bad P k hk X n c s w).mono fun _ _ ⟨e1, e2⟩ => ⟨P, e1, h.below e2, e2⟩
  · obtain ⟨I, h1, rfl⟩ := h
    have hl := h1.lane k hk
    have hl' : RLane w B (.slice (P k).a (P k).n (P k).c) (I k) := hl
    obtain ⟨hL, hcap⟩ := hl'.sh
    by_cases hr : (P k).n < 200
    · have e : putS (fun j => (I j).map It.fr) k (l, s) = (upd (fun j => (I j).map It.fr) k ((I k).map It.fr ++ [(l, s)]), true) := by unfold putS; rw [if_pos ⟨by omega, by omega, by simpa [hL] using hr⟩]; rfl
      rw [e]
      refine (RPut_ok P k hk X l n c s w B (I k) hB hL hr (by rw [hL]; exact hl') hcap hX hn hlen he).mono ?_
      rintro e w' ⟨a', n', c', x, rfl, rfl, rfl, rfl, h2, h3, h4⟩
      refine ⟨_, rfl, ⟨upd I k (I k ++ [x]), ?_, ?_⟩, h4⟩
      · rw [← vS_upd]
        refine (h1.below h4).upd (h2.low hB) ?_ (by simp [hL]; omega) (fun b hb hf => by have := (h2.typed b hb).1; have := hF b hf; omega)
        intro y hy
        rcases List.mem_append.1 hy with hy | hy
        · exact ⟨(h1.frame k hk y hy).below h4, h1.short k hk y hy, h1.frameF k hk y hy⟩
        · obtain rfl : y = x := by simpa using hy
          exact ⟨h3.low hB, hlen, fun a ha hf => by have := (h3.lt a ha).1; have := hF _ hf; omega⟩
      · rw [map_upd, List.map_append]; rfl
    · have e : putS (fun j => (I j).map It.fr) k (l, s) = (fun j => (I j).map It.fr, false) := by unfold putS; rw [if_neg (by rintro ⟨_, _, q⟩; exact hr (by simpa [hL] using q))]
      rw [e]
      exact (RPut_full P k hk (by omega) X n c s w).mono fun _ _ ⟨e1, e2⟩ => ⟨P, e1, ⟨I, h1.below e2, rfl⟩, e2⟩

end Go.Proofs.Yteoafaofiohefaa
