import Derived.Test.YteabhokkiggcjaaTapeC
import Derived.Lib.SmallJoins
namespace Go.Proofs.Yteabhokkiggcjaa
open Go.RowKit

theorem TapeAt.alloc {w : World} {B t : Nat} {f l : List UInt8} {r : Nat} {fb lb : Option Nat} (h : TapeAt w B t f l r fb lb) (o : Obj) : TapeAt (w.alloc o) B t f l r fb lb := h.below ((Below.refl _ _).alloc (Nat.le_refl _) _)

/-- What a method of the one tape turns lies above the base. -/
theorem TapeAt.step {w0 w w' : World} {B t : Nat} {f l : List UInt8} {r : Nat} {fb lb : Option Nat} (h : TapeAt w B t f l r fb lb) (hb : Below B w0 w) (u : Upto (Own t lb) w w') : Below B w0 w' :=
  hb.trans (u.below (by have := h.lt; have := h.base; omega) (fun k hk e => by
    rcases e with e | e
    · have := h.base; omega
    · have := (h.lb_lt k e).1; omega))

set_option maxRecDepth 100000 in
set_option maxHeartbeats 4000000 in
theorem alive_c (w : World) : Calls Try.prog 8 #[] w fun e w' => e = .returned (.bool true) ∧ Below w.heap.size w w' := by
  have kc := fun (w : World) (C : Array Value) (n c : Nat) => Lib.run_convert_bytes_const (P := Try.prog) w 27 5 C n c Try.underlying27 Try.underlying5
  go_enter Try.func8, Try.ntmps8
  go_wp2_with fail
  refine (new_c w 9 (by decide) (by decide)).mono ?_; rintro e w1 ⟨rfl, ht1, hb1⟩
  have HT1 := Lib.hid (ht1.alloc (.cells #[.int .u8 97, .int .u8 98, .int .u8 99] 5 (3, 4)))
  have HB1 := Lib.hid (hb1.alloc hb1.size (.cells #[.int .u8 97, .int .u8 98, .int .u8 99] 5 (3, 4)))
  have HX1 := Lib.hid (Rd.row_mark (g := g8) (E := 5) w1 [97, 98, 99] (cs := #[.int .u8 97, .int .u8 98, .int .u8 99]) (3, 4) rfl)
  clear ht1 hb1
  go_wp2_with fail
  refine (append_ok w.heap.size _ w.heap.size [] [] 9 none none HT1.out _ [97, 98, 99] 3 HX1.out (by intro h; cases h) (by decide) (by decide)).mono ?_
  rintro e w2 ⟨rfl, lb2, ht2, hn2, hu2⟩
  have HT2 := Lib.hid ht2
  have HB2 := Lib.hid (HT1.out.step HB1.out hu2)
  clear ht2 hn2 hu2
  go_wp2_with fail
  refine (sync_c w.heap.size _ w.heap.size [] [97, 98, 99] 9 none lb2 HT2.out).mono ?_
  rintro e w3 ⟨rfl, fb3, ht3, hn3, hu3⟩
  have HT3 := Lib.hid (ht3.alloc (.cells #[.int .u8 100, .int .u8 101] 5 (2, 3)))
  have hb3 := HT2.out.step HB2.out hu3
  have HB3 := Lib.hid (hb3.alloc hb3.size (.cells #[.int .u8 100, .int .u8 101] 5 (2, 3)))
  have HX3 := Lib.hid (Rd.row_mark (g := g8) (E := 5) w3 [100, 101] (cs := #[.int .u8 100, .int .u8 101]) (2, 3) rfl)
  clear ht3 hn3 hu3 hb3
  go_wp2_with fail
  refine (append_ok w.heap.size _ w.heap.size [97, 98, 99] [] 9 fb3 none HT3.out _ [100, 101] 2 HX3.out (by intro h; cases h) (by decide) (by decide)).mono ?_
  rintro e w4 ⟨rfl, lb4, ht4, hn4, hu4⟩
  have HT4 := Lib.hid ht4
  have HB4 := Lib.hid (HT3.out.step HB3.out hu4)
  clear ht4 hn4 hu4
  go_wp2_with fail
  refine (drop_yes w.heap.size _ w.heap.size [97, 98, 99] [100, 101] 9 fb3 lb4 HT4.out 2 (by decide)).mono ?_
  rintro e w5 ⟨rfl, fb5, ht5, hn5, hu5⟩
  have HT5 := Lib.hid ht5
  have HB5 := Lib.hid (HT4.out.step HB4.out hu5)
  clear ht5 hn5 hu5
  go_wp2_with fail
  refine (drop_no w.heap.size _ w.heap.size [99] [100, 101] 9 fb5 lb4 HT5.out 2 (by decide)).mono ?_
  rintro e w6 ⟨rfl, rfl⟩
  go_wp2_with fail
  refine (crash_c w.heap.size _ w.heap.size [99] [100, 101] 9 fb5 lb4 HT5.out 1 (by decide) (by decide)).mono ?_
  rintro e w6 ⟨rfl, fb6, ht6, hn6, hu6⟩
  have HT6 := Lib.hid ht6
  have HB6 := Lib.hid (HT5.out.step HB5.out hu6)
  clear ht6 hn6 hu6
  go_wp2_with fail
  refine (bytes_c w.heap.size _ w.heap.size [99, 100] [] 9 fb6 none HT6.out).mono ?_
  rintro e w7 ⟨A7, c7, rfl, ho7, hb7⟩
  have HT7 := Lib.hid (HT6.out.below hb7)
  have HB7 := Lib.hid (HB6.out.trans (hb7.mono HB6.out.size))
  have e7 := str8 (n := 2) (c := c7) ho7.rd rfl
  clear ho7 hb7
  go_wp2_with fail
  refine (safe_c w.heap.size _ w.heap.size [99, 100] [] 9 fb6 none HT7.out).mono ?_
  rintro e w8 ⟨rfl, rfl⟩
  go_wp2_with fail
  go_ret
  exact ⟨rfl, HB7.out⟩

end Go.Proofs.Yteabhokkiggcjaa
