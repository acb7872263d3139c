import Derived.Test.YteabhokkiggcjaaAlive06
namespace Go.Proofs.Yteabhokkiggcjaa
open Go.RowKit

set_option maxRecDepth 100000 in
set_option maxHeartbeats 4000000 in
theorem names_c (w : World) : Calls Try.prog 3 #[] w fun e w' => e = .returned (.bool true) ∧ Below w.heap.size w w' := by
  have kc := fun (w : World) (C : Array Value) (n c : Nat) => Lib.run_convert_bytes_const (P := Try.prog) w 27 5 C n c Try.underlying27 Try.underlying5
  go_enter Try.func3, Try.ntmps3
  go_wp2_with fail
  refine (alive_c w).mono ?_; rintro e w0 ⟨rfl, hb0⟩
  have HB0 := Lib.hid hb0
  clear hb0
  go_wp2_with fail
  refine (new_c w0 0 (by decide) (by decide)).mono ?_; rintro e w1 ⟨rfl, ht1, hb1⟩
  have HT1 := Lib.hid (ht1.alloc (.cells #[.int .u8 97] 5 (1, 2)))
  have hb1' := HB0.out.trans (hb1.mono HB0.out.size)
  have HB1 := Lib.hid (hb1'.alloc hb1'.size (.cells #[.int .u8 97] 5 (1, 2)))
  have HX1 := Lib.hid (Rd.row_mark (g := g8) (E := 5) w1 [97] (cs := #[.int .u8 97]) (1, 2) rfl)
  clear ht1 hb1 hb1'
  go_wp2_with fail
  refine (append_full w0.heap.size _ w0.heap.size [] [] 0 none none HT1.out _ [97] 1 HX1.out (by intro h; cases h) (by decide) (by decide)).mono ?_
  rintro e w2 ⟨rfl, n2, rfl⟩
  have HB2 := Lib.hid (below_drewN HB1.out n2)
  go_wp2_with fail
  generalize hw2 : World.drewN _ n2 = w2 at *
  refine (new_c w2 (-5) (by decide) (by decide)).mono ?_; rintro e w3 ⟨rfl, ht3, hb3⟩
  have HT3 := Lib.hid ht3
  have HB3 := Lib.hid (HB2.out.trans (hb3.mono HB2.out.size))
  clear ht3 hb3 hw2
  go_wp2_with fail
  refine (append_ok w2.heap.size _ w2.heap.size [] [] 0 none none HT3.out none [] 0 Rd.nil (fun _ => rfl) (by decide) (by decide)).mono ?_
  rintro e w4 ⟨rfl, lb4, ht4, hn4, hu4⟩
  have HB4 := Lib.hid (HB3.out.trans ((HT3.out.step (Below.refl _ w3) hu4).mono HB2.out.size))
  clear ht4 hn4 hu4
  go_wp2_with fail
  go_ret
  exact ⟨rfl, HB4.out⟩

end Go.Proofs.Yteabhokkiggcjaa
