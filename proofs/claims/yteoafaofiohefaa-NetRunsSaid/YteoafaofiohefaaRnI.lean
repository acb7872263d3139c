import Derived.Test.YteoafaofiohefaaRnH
namespace Go.Proofs.Yteoafaofiohefaa
open Go.RowKit

variable {w w' : World} {B nb : Nat} {F : Nat → Prop} {P : Nat → Sh} {I : Nat → List It} {S : Nat → List Fr}

theorem RSpoil_u (h : RefS B F w (vS P) S) (hB : B ≤ w.heap.size) (hF : ∀ b, F b → b < w.heap.size) (k i at_ : Int) (m : Nat) (hm : m < 65536) (ha1 : -9223372036854775808 ≤ at_) (ha2 : at_ ≤ 9223372036854775807) :
    Calls Try.prog 21 #[.agg (arr8 (vS P)), .int .i64 k, .int .i64 i, .int .i64 at_, .int .u16 m] w fun e w' => ∃ P', e = .returned (.tuple #[.agg (arr8 (vS P')), .bool (spoilS S k i at_ m).2]) ∧ RefS B F w' (vS P') (spoilS S k i at_ m).1 ∧ Below w.heap.size w w' := by
  have none : atS S k i = Option.none → Calls Try.prog 21 #[.agg (arr8 (vS P)), .int .i64 k, .int .i64 i, .int .i64 at_, .int .u16 m] w fun e w' => ∃ P', e = .returned (.tuple #[.agg (arr8 (vS P')), .bool (spoilS S k i at_ m).2]) ∧ RefS B F w' (vS P') (spoilS S k i at_ m).1 ∧ Below w.heap.size w w' := fun e0 => by
    have e : spoilS S k i at_ m = (S, false) := by unfold spoilS; rw [e0]
    rw [e]
    exact (RSpoil_none h k i at_ m e0).mono fun _ _ ⟨e1, h1, h2⟩ => ⟨P, e1, h1, h2⟩
  rcases lane_cases k with hk | ⟨k, rfl, hk⟩
  · exact none (atS_bad hk)
  · rcases atS_cases S k i hk with ⟨e0, hi⟩ | ⟨j, x, rfl, hx, e0⟩
    · exact none e0
    · obtain ⟨I, h1, rfl⟩ := h
      obtain ⟨y, hy, e1, e2⟩ := map_get hx
      cases hs : y.s with
      | true =>
        have hn : spoils x at_ m = false := by unfold spoils; rw [← e2, hs]; rfl
        have e : spoilS (fun k => (I k).map It.fr) k j at_ m = (fun k => (I k).map It.fr, false) := by unfold spoilS; rw [e0]; simp only; rw [if_neg (by rw [hn]; decide)]
        rw [e]
        exact (RSpoil_twice h1 k j hk y hy hs at_ m).mono fun _ _ ⟨e1, h1, h2⟩ => ⟨P, e1, h1, h2⟩
      | false =>
        refine (RSpoil_yes h1 hB hF k j hk y hy hs at_ m hm ha1 ha2).mono ?_
        rintro e w' (⟨hb, rfl, h2, h3⟩ | ⟨hb, P', rfl, h2, h3⟩)
        · have hn : spoils x at_ m = false := by unfold spoils; rw [← e1, decide_eq_true hb]; simp
          have e : spoilS (fun k => (I k).map It.fr) k j at_ m = (fun k => (I k).map It.fr, false) := by unfold spoilS; rw [e0]; simp only; rw [if_neg (by rw [hn]; decide)]
          rw [e]
          exact ⟨P, rfl, h2, h3⟩
        · have hn : spoils x at_ m = true := by unfold spoils; rw [← e1, decide_eq_false hb, ← e2, hs]; rfl
          have e : spoilS (fun k => (I k).map It.fr) k j at_ m = (upd (fun k => (I k).map It.fr) k (((I k).map It.fr).set j (burstN x.1 at_ m, true)), true) := by unfold spoilS; rw [e0]; simp only; rw [if_pos hn]; rfl
          rw [e]
          refine ⟨P', rfl, ?_, h3⟩
          rw [map_upd, List.map_set] at h2
          simpa [It.fr, e1] using h2

/-! A net of which no block is one of F's. -/

def NetF (B : Nat) (F : Nat → Prop) (w : World) (nb : Nat) (S : Nat → List Fr) : Prop := ∃ V I, NetAt w B nb V I ∧ (S = fun k => (I k).map It.fr) ∧ ¬ F nb ∧ (∀ k, k < 8 → ∀ b, (V k).ownBlock = some b → ¬ F b) ∧ ∀ k, k < 8 → ∀ x ∈ I k, ∀ a, x.A = some a → ¬ F a.block

theorem NetF.net (h : NetF B F w nb S) : NetS B w nb S := by
  obtain ⟨V, I, h1, h2, _⟩ := h
  exact ⟨V, I, h1, h2⟩

theorem NetS.free (h : NetS B w nb S) (hF : ∀ b, F b → w.heap.size ≤ b) (u : Below w.heap.size w w') : NetF B F w' nb S := by
  obtain ⟨V, I, h1, h2⟩ := h
  exact ⟨V, I, h1.below u, h2, fun e => by have := h1.lt; have := hF _ e; omega, fun k hk b e e2 => by have := (h1.own hk e).1; have := hF _ e2; omega, fun k hk x hx a e e2 => by have := (h1.fr hk hx e).1; have := hF _ e2; omega⟩

theorem NetF.below (h : NetF B F w nb S) (u : Below w.heap.size w w') : NetF B F w' nb S := by
  obtain ⟨V, I, h1, h2, h3⟩ := h
  exact ⟨V, I, h1.below u, h2, h3⟩

theorem NetF.upto (h : NetF B F w nb S) (u : Upto F w w') : NetF B F w' nb S := by
  obtain ⟨V, I, h1, h2, h3, h4, h5⟩ := h
  exact ⟨V, I, h1.upto u h3 h4 h5, h2, h3, h4, h5⟩

end Go.Proofs.Yteoafaofiohefaa
