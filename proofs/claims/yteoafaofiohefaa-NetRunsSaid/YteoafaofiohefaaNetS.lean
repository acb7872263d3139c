import Derived.Test.YteoafaofiohefaaNetR
namespace Go.Proofs.Yteoafaofiohefaa
open Go.RowKit

/-! net.Spoil: no frame there, or a spoilt one. -/

set_option maxHeartbeats 4000000 in
theorem Spoil_bad (n : Addr) (k i at_ : Int) (m : Nat) (hk : k < 0 ∨ 8 ≤ k) (w : World) :
    Calls Try.prog 20 #[.pointer (some n), .int .i64 k, .int .i64 i, .int .i64 at_, .int .u16 m] w fun e w' => e = .returned (.bool false) ∧ w = w' := by
  go_enter Try.func20, Try.ntmps20
  go_wp2_with fail
  (with_reducible refine (at_no n k i hk w).mono ?_); rintro e w1 ⟨rfl, rfl⟩
  go_wp2_with fail
  go_ret
  exact ⟨rfl, rfl⟩

set_option maxHeartbeats 4000000 in
theorem Spoil_none (w : World) (B nb : Nat) (V : Nat → Value) (I : Nat → List It) (k : Nat) (h : NetAt w B nb V I) (hk : k < 8) (i at_ : Int) (m : Nat) (hi : ¬ (0 ≤ i ∧ i < (I k).length)) :
    Calls Try.prog 20 #[.pointer (some ⟨nb, 0, none⟩), .int .i64 k, .int .i64 i, .int .i64 at_, .int .u16 m] w fun e w' => e = .returned (.bool false) ∧ ∃ q, w' = w.drewN q := by
  obtain ⟨A0, c0, hv⟩ := (h.lane k hk).slice
  have hc := h.cell k hk
  rw [hv] at hc
  have hat := at_yes nb k (I k).length c0 A0 i hk w hc
  rw [decide_eq_false hi] at hat
  have HAT := Lib.hid hat
  clear hat hv hc h hi
  go_enter Try.func20, Try.ntmps20
  go_wp2_with fail
  (with_reducible refine HAT.out.mono ?_); rintro e w1 ⟨rfl, q, rfl⟩
  go_wp2_with fail
  go_ret
  exact ⟨rfl, q, rfl⟩

end Go.Proofs.Yteoafaofiohefaa
