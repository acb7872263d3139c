import Derived.Test.YteoafaofiohefaaNetW
namespace Go.Proofs.Yteoafaofiohefaa
open Go.RowKit

/-! Frames of one byte each, and what becomes of them. -/

def fulls (k : Nat) : List Fr := (List.range k).map fun j => ([UInt8.ofNat j], false)

theorem fulls_length (k : Nat) : (fulls k).length = k := by simp [fulls]

theorem fulls_succ (k : Nat) : fulls (k + 1) = fulls k ++ [([UInt8.ofNat k], false)] := by simp [fulls, List.range_succ]

theorem fulls_get {k j : Nat} (h : j < k) : (fulls k)[j]? = some ([UInt8.ofNat j], false) := by simp [fulls, h]

/-- The first of the frames behind a late one. -/
theorem late_first {L : List Fr} {x : Fr} {n : Nat} (hn : 0 < n) (hL : L.length = n) (h1 : 2 ≤ n → L[1]? = some ([1], false)) (M : List Fr) :
    ∃ y, (((L ++ M).eraseIdx 0) ++ [x])[0]? = some y ∧ (2 ≤ n → y = ([1], false)) := by
  match L, hL, h1 with
  | [], hL, _ => exact absurd hL (by simp; omega)
  | [a], hL, h1 =>
    have : n = 1 := by simpa using hL.symm
    match M with
    | [] => exact ⟨x, rfl, fun h => by omega⟩
    | m :: M => exact ⟨m, rfl, fun h => by omega⟩
  | a :: b :: L, hL, h1 =>
    refine ⟨b, rfl, fun h => ?_⟩
    have := h1 h
    simpa using this

end Go.Proofs.Yteoafaofiohefaa
