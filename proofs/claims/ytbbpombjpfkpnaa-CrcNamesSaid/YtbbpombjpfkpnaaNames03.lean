import Derived.Test.YtbbpombjpfkpnaaAlive03
namespace Go.Proofs.Ytbbpombjpfkpnaa
open Go.RowKit

theorem nm_burst : burstN [0, 0] 7 3 = [128, 1] := by decide +kernel

set_option maxRecDepth 1000000 in
set_option maxHeartbeats 4000000 in
theorem names_c (w : World) : Calls Try.prog 6 #[] w fun e w' => e = .returned (.bool true) ∧ Below w.heap.size w w' := by
  go_enter Try.func6, Try.ntmps6
  go_wp2_with fail
  refine (open_c none [] 0 w Rd.nil (fun _ => rfl) (by decide) (by decide)).mono ?_; rintro e w1 ⟨A1, c1, rfl, ho1, hb1⟩
  rw [show openL [] = [] from rfl, show openE [] = 31 from rfl]
  have HB1 := Lib.hid hb1
  clear ho1 hb1
  go_wp2_with fail
  refine (alive_c _).mono ?_; rintro e w2 ⟨rfl, hb2⟩
  have HB2 := Lib.hid (HB1.out.trans (hb2.mono HB1.out.size))
  clear hb2
  go_wp2_with fail
  have hr : Rd g8 (w2.alloc (.cells #[.int .u8 0, .int .u8 0] 5)) (some ⟨w2.heap.size, 0, none⟩) [0, 0] := Rd.row_mark w2 _ _ rfl
  have HR := Lib.hid hr
  have HB3 := Lib.hid (HB2.out.alloc HB2.out.size (.cells #[.int .u8 0, .int .u8 0] 5))
  clear hr
  refine (burst_c _ [0, 0] 2 7 3 _ HR.out (by intro h; cases h) (by decide) (by decide) (by decide) (by decide)).mono ?_; rintro e w4 ⟨A4, c4, rfl, ho4, hb4⟩
  rw [nm_burst] at ho4
  have e1 := str8 (n := 2) (c := c4) ho4.rd rfl
  have HB4 := Lib.hid (HB3.out.trans (hb4.mono HB3.out.size))
  clear ho4 hb4
  go_wp2_with fail
  go_ret
  exact ⟨rfl, HB4.out⟩

end Go.Proofs.Ytbbpombjpfkpnaa
