import Derived.Test.YteoafaofiohefaaNetA
namespace Go.Proofs.Yteoafaofiohefaa
open Go.RowKit

/-! bytes.Equal, bytes.Clone; a net and its lanes; net.at, net.Lane. -/

set_option maxHeartbeats 400000 in
theorem bclone_c (A : Option Addr) (l : List UInt8) (c : Nat) (w : World) (h : Rd g8 w A l) (hn : A = none → c = 0) (hlen : l.length ≤ 140737488355328) :
    Calls Try.prog 34 #[.slice A l.length c] w fun e w' => ∃ A' c', e = .returned (.slice A' l.length c') ∧ Ow 5 g8 w' w.heap.size A' l c' ∧ Below w.heap.size w w' := by
  have hq := fun (a : Option Addr) (m k : Nat) (W : World) => Lib.run_eql_slice_nil (P := Try.prog) W 29 5 a m k 0 0 Try.underlying29
  go_enter Try.func34, Try.ntmps34
  cases A with
  | none =>
    have := h.empty
    subst this
    have hc := hn rfl
    subst hc
    go_wp2
    go_ret
    exact ⟨none, 0, rfl, Ow.nil, Below.refl _ _⟩
  | some a =>
    have hx := h.below (w' := w.alloc (.cells #[] 5)) ((Below.refl _ _).alloc (Nat.le_refl _) _)
    have hown : Ow 5 g8 (w.alloc (.cells #[] 5)) w.heap.size (some ⟨w.heap.size, 0, none⟩) ([] : List UInt8) 0 := Ow.new (Nat.le_refl _)
    go_wp2_with (at_builtin; refine app8 rfl _ _ rfl [] l hown rfl (some a) c hx rfl (by intro h; cases h) (by simpa using hlen) (by simp) ?_; intro A' c' w1 ho hg)
    go_ret
    refine ⟨A', c', by simp, by simpa using ho, ?_⟩
    exact ((Below.refl _ _).alloc (Nat.le_refl _) _).grown hg (by simp) (fun k hk => (hown.block k hk).1)

theorem bclone_n (A : Option Addr) (l : List UInt8) (c n : Nat) (w : World) (h : Rd g8 w A l) (hn : A = none → c = 0) (hlen : l.length ≤ 140737488355328) (he : l.length = n) :
    Calls Try.prog 34 #[.slice A n c] w fun e w' => ∃ A' c', e = .returned (.slice A' n c') ∧ Ow 5 g8 w' w.heap.size A' l c' ∧ Below w.heap.size w w' := by
  subst he; exact bclone_c A l c w h hn hlen

/-- The lanes of a net. -/
structure NetAt (w : World) (B nb : Nat) (V : Nat → Value) (I : Nat → List It) : Prop where
  row : w.heap[nb]? = some (.cells #[V 0, V 1, V 2, V 3, V 4, V 5, V 6, V 7] 59 (0, 0))
  base : B ≤ nb
  lane : ∀ k, k < 8 → Lane w B (V k) (I k)
  frame : ∀ k, k < 8 → ∀ x ∈ I k, Ow 5 g8 w B x.A x.l x.c
  many : ∀ k, k < 8 → (I k).length ≤ 200
  short : ∀ k, k < 8 → ∀ x ∈ I k, x.l.length ≤ 140737488355328
  apart : ∀ j k, j < 8 → k < 8 → j ≠ k → ∀ b, (V j).ownBlock = some b → (V k).ownBlock ≠ some b

theorem Lane.slice {w : World} {B : Nat} {v : Value} {L : List It} (h : Lane w B v L) : ∃ A c, v = .slice A L.length c := by
  rcases h.2 with ⟨e, hn⟩ | ⟨b, cap, cur, e, _⟩
  · exact ⟨none, 0, by rw [e, hn]⟩
  · exact ⟨_, _, e⟩

theorem NetAt.cell {w : World} {B nb : Nat} {V : Nat → Value} {I : Nat → List It} (h : NetAt w B nb V I) (k : Nat) (hk : k < 8) : w.cell? ⟨nb, k, none⟩ = some (V k) := by
  have := cell_of_row w nb k _ _ _ h.row
  rw [this]
  obtain rfl | rfl | rfl | rfl | rfl | rfl | rfl | rfl : k = 0 ∨ k = 1 ∨ k = 2 ∨ k = 3 ∨ k = 4 ∨ k = 5 ∨ k = 6 ∨ k = 7 := by omega
  all_goals rfl

set_option maxHeartbeats 2000000 in
theorem at_no (n : Addr) (k i : Int) (hk : k < 0 ∨ 8 ≤ k) (w : World) : Calls Try.prog 24 #[.pointer (some n), .int .i64 k, .int .i64 i] w fun e w' => e = .returned (.tuple #[.pointer none, .bool false]) ∧ w = w' := by
  go_enter Try.func24, Try.ntmps24
  by_cases h : k < 0
  · go_wp2_with fail
    go_ret2
    exact ⟨rfl, rfl⟩
  · have h8 : 8 ≤ k := by omega
    go_wp2_with fail
    go_ret2
    exact ⟨rfl, rfl⟩

set_option maxHeartbeats 2000000 in
theorem at_yes (nb k L c : Nat) (A : Option Addr) (i : Int) (hk : k < 8) (w : World) (hc : w.cell? ⟨nb, k, none⟩ = some (.slice A L c)) : Calls Try.prog 24 #[.pointer (some ⟨nb, 0, none⟩), .int .i64 k, .int .i64 i] w fun e w' => e = .returned (.tuple #[.pointer (some ⟨nb, k, none⟩), .bool (decide (0 ≤ i ∧ i < L))]) ∧ ∃ m, w' = w.drewN m := by
  have h1 : ¬ ((k : Int) < 0) := by omega
  have h2 : ¬ (8 ≤ (k : Int)) := by omega
  go_enter Try.func24, Try.ntmps24
  by_cases h3 : 0 ≤ i
  · obtain ⟨n, rfl⟩ := Int.eq_ofNat_of_zero_le h3
    by_cases h4 : n < L
    · go_wp2_with fail
      go_quiet (fail)
      go_wp2_with fail
      go_ret2
      refine ⟨by simp [h4], _, rfl⟩
    go_wp2_with fail
    go_quiet (fail)
    go_wp2_with fail
    go_ret2
    refine ⟨by simp [h4], _, rfl⟩
  · have hd : decide (0 ≤ i) = false := by simp; omega
    have hd2 : decide (i ≥ 0) = false := by simp; omega
    have HI := Lib.hid h3
    clear h3
    go_wp2_with fail
    first | go_quiet (fail) | (trace_state; fail)
    go_wp2_with fail
    go_ret2
    refine ⟨by have := HI.out; simp; omega, _, rfl⟩

end Go.Proofs.Yteoafaofiohefaa
