import Derived.Test.YteoafaofiohefaaNetS
namespace Go.Proofs.Yteoafaofiohefaa
open Go.RowKit

/-! net.Spoil: a frame that is spoilt already. -/

set_option maxRecDepth 100000 in
set_option maxHeartbeats 8000000 in
theorem Spoil_twice (w : World) (B nb : Nat) (V : Nat → Value) (I : Nat → List It) (k : Nat) (h : NetAt w B nb V I) (hk : k < 8) (i : Nat) (x : It) (hx : (I k)[i]? = some x) (hs : x.s = true) (at_ : Int) (mm : Nat) :
    Calls Try.prog 20 #[.pointer (some ⟨nb, 0, none⟩), .int .i64 k, .int .i64 i, .int .i64 at_, .int .u16 mm] w fun e w' => e = .returned (.bool false) ∧ ∃ q, w' = w.drewN q := by
  have hi := (List.getElem?_eq_some_iff.1 hx).1
  obtain ⟨g, c, cur, hv, hB, hr, hsz, hc, hm, ht⟩ := h.form hk (by omega)
  obtain ⟨m, hm1⟩ : ∃ m, (I k).length = m + 1 := ⟨(I k).length - 1, by omega⟩
  have hcell := h.cell k hk
  rw [hv, hm1] at hcell
  obtain ⟨y0, y1⟩ := NetAt.item hr ht hx
  rw [hs] at y1
  have hat := at_yes nb k (m + 1) c (some ⟨g, 0, none⟩) i hk w hcell
  rw [decide_eq_true (by omega)] at hat
  have HAT := Lib.hid hat
  have hi0 : i < m + 1 := by omega
  clear hat hv hr hsz hc hm ht hx h hB hi hm1
  go_enter Try.func20, Try.ntmps20
  go_wp2_with fail
  (with_reducible refine HAT.out.mono ?_); rintro e w1 ⟨rfl, q, rfl⟩
  go_wp2_with fail
  go_ret
  exact ⟨rfl, q, rfl⟩

end Go.Proofs.Yteoafaofiohefaa
