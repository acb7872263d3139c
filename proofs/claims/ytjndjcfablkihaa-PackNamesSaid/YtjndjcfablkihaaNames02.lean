import Derived.Test.YtjndjcfablkihaaAlive02
namespace Go.Proofs.Ytjndjcfablkihaa
open Go.RowKit

set_option maxRecDepth 1000000 in
set_option maxHeartbeats 4000000 in
theorem names_c (w : World) : Calls Try.prog 3 #[] w fun e w' => e = .returned (.bool true) ∧ Below w.heap.size w w' := by
  have h0 : Below w.heap.size w (w.alloc (.cells #[.int .i64 16777216] 3)) := (Below.refl _ _).alloc (Nat.le_refl _) _
  have H0 := Lib.hid h0
  have HR0 := Lib.hid (Rd.row_of (g := g64) (E := 3) w [16777216] (cs := #[.int .i64 16777216]) rfl)
  have n1 : numsR [16777216] = [] := by decide +kernel
  have n2 : numsE [16777216] = 21 := by decide +kernel
  have N1 := Lib.hid n1
  have N2 := Lib.hid n2
  clear h0 n1 n2
  go_enter Try.func3, Try.ntmps3
  go_wp2_with fail
  refine (nums_c _ [16777216] 1 _ HR0.out (by decide)).mono ?_; rintro e w1 ⟨A1, c1, rfl, ho1, hb1⟩
  rw [N1.out, N2.out]
  have HB1 := Lib.hid (H0.out.trans (hb1.mono H0.out.size))
  clear ho1 hb1
  go_wp2_with fail
  refine (alive_c w1).mono ?_; rintro e w2 ⟨rfl, hb2⟩
  have HB2 := Lib.hid (HB1.out.trans (hb2.mono HB1.out.size))
  clear hb2
  go_wp2_with fail
  go_ret
  exact ⟨rfl, HB2.out⟩

end Go.Proofs.Ytjndjcfablkihaa
