import Derived.Test.YteoafaofiohefaaNetX
import Derived.Test.YteoafaofiohefaaCrcPlainN
namespace Go.Proofs.Yteoafaofiohefaa
open Go.RowKit

/-! Frames with their sums, on lanes: each is opened as it was put, or it was spoilt. -/

/-- What lies on lane k, where the i-th text was put on lane i % 8. -/
def FrOk (T : List (List UInt8)) (k : Nat) (x : Fr) : Prop := ∃ i l, T[i]? = some l ∧ i % 8 = k ∧ (x = (sealN l, false) ∨ (x.2 = true ∧ openO x.1 = none))
def Good (T : List (List UInt8)) (S : Nat → List Fr) : Prop := ∀ k, k < 8 → ∀ x ∈ S k, FrOk T k x

variable {T : List (List UInt8)} {S : Nat → List Fr}

theorem Good.upd (h : Good T S) {k : Nat} {L : List Fr} (hL : k < 8 → ∀ x ∈ L, FrOk T k x) : Good T (upd S k L) := fun j hj x hx => by
  by_cases e : j = k
  · subst e; rw [upd_same] at hx; exact hL hj x hx
  · rw [upd_ne _ _ _ e] at hx; exact h j hj x hx

theorem atS_some {k i : Int} {x : Fr} (h : atS S k i = some x) : 0 ≤ k ∧ k < 8 ∧ 0 ≤ i ∧ (S k.toNat)[i.toNat]? = some x := by
  unfold atS at h
  split at h
  · rename_i q; exact ⟨q.1, q.2.1, q.2.2, h⟩
  · cases h

theorem Good.at (h : Good T S) {k i : Int} {x : Fr} (e : atS S k i = some x) : FrOk T k.toNat x := by
  obtain ⟨h1, h2, h3, h4⟩ := atS_some e
  exact h k.toNat (by omega) x (List.mem_of_getElem? h4)

theorem Good.put (h : Good T S) (k : Int) (x : Fr) (hx : 0 ≤ k → k < 8 → FrOk T k.toNat x) : Good T (putS S k x).1 := by
  unfold putS
  split
  · rename_i q
    refine h.upd fun hk y hy => ?_
    rcases List.mem_append.1 hy with hy | hy
    · exact h _ hk y hy
    · obtain rfl : y = x := by simpa using hy
      exact hx q.1 q.2.1
  · exact h

theorem Good.double (h : Good T S) (k i : Int) : Good T (doubleS S k i).1 := by
  unfold doubleS
  cases e : atS S k i with
  | none => exact h
  | some x => exact h.put k x fun _ _ => h.at e

theorem Good.late (h : Good T S) (k i : Int) : Good T (lateS S k i).1 := by
  unfold lateS
  cases e : atS S k i with
  | none => exact h
  | some x =>
    refine h.upd fun hk y hy => ?_
    rcases List.mem_append.1 hy with hy | hy
    · exact h _ hk y (List.mem_of_mem_eraseIdx hy)
    · obtain rfl : y = x := by simpa using hy
      exact h.at e

theorem Good.spoil (h : Good T S) (k i at_ : Int) (m : Nat) (hm : m < 65536) : Good T (spoilS S k i at_ m).1 := by
  unfold spoilS
  cases e : atS S k i with
  | none => exact h
  | some x =>
    simp only
    split
    · rename_i q
      refine h.upd fun hk y hy => ?_
      rcases List.mem_or_eq_of_mem_set hy with hy | rfl
      · exact h _ hk y hy
      · obtain ⟨j, l, h1, h2, h3⟩ := h.at e
        refine ⟨j, l, h1, h2, .inr ⟨rfl, ?_⟩⟩
        unfold spoils at q
        simp at q
        rcases h3 with rfl | ⟨h3, _⟩
        · rcases finds_law l at_ m hm with ⟨h4, _⟩ | ⟨_, h4⟩
          · exact absurd h4 q.2
          · exact h4
        · rw [h3] at q; exact absurd q.1 (by decide)
    · exact h

theorem Good.take (h : Good T S) (k i : Int) : Good T (takeS S k i).1 := by
  unfold takeS
  cases e : atS S k i with
  | none => exact h
  | some x => exact h.upd fun hk y hy => h _ hk y (List.mem_of_mem_eraseIdx hy)

/-- A frame that comes out, opened. -/
theorem FrOk.opened {k : Nat} {x : Fr} (h : FrOk T k x) : openE x.1 = 31 ∨ (openE x.1 = 0 ∧ ∃ i, T[i]? = some (openL x.1) ∧ i % 8 = k) := by
  obtain ⟨i, l, h1, h2, rfl | ⟨h3, h4⟩⟩ := h
  · right
    refine ⟨by unfold openE; rw [open_seal]; rfl, i, ?_, h2⟩
    unfold openL; rw [open_seal]; exact h1
  · left
    unfold openE; rw [h4]; rfl

end Go.Proofs.Yteoafaofiohefaa
