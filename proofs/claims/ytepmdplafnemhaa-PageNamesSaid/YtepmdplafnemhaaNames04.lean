import Derived.Test.YtepmdplafnemhaaPageD
namespace Go.Proofs.Ytepmdplafnemhaa
open Go.RowKit

attribute [local go_sem] run_store_complex

theorem good_zero : Good 0 0 := by unfold Good; decide +kernel
theorem good_ab : Good 4607182418800017408 4611686018427387904 := by unfold Good; decide +kernel

set_option maxRecDepth 1000000 in
set_option maxHeartbeats 8000000 in
theorem alive_c (w : World) : Calls Try.prog 5 #[] w fun e w' => e = .returned (.bool true) ∧ Below w.heap.size w w' := by
  go_enter Try.func5, Try.ntmps5
  go_wp2_with fail
  refine (pbytes_c 0 (by decide) 0 0 0 0 0 0 0 0 _).mono ?_; rintro e w1 ⟨A1, c1, rfl, -, hb1⟩
  have HB1 := Lib.hid hb1
  clear hb1
  go_wp2_with fail
  refine (set_c 4607182418800017408 4611686018427387904 _).mono ?_; rintro e w2 ⟨rfl, hb2⟩
  have HB2 := Lib.hid (HB1.out.trans (hb2.mono HB1.out.size))
  clear hb2
  have hb3 := HB2.out.alloc HB2.out.size (.cells #[.int .i64 5, .complex .f64 0 0, .complex .f64 0 0, .complex .f64 4607182418800017408 4611686018427387904, .complex .f64 0 0] 25)
  have hp3 := heap_alloc_new w2 (.cells #[.int .i64 5, .complex .f64 0 0, .complex .f64 0 0, .complex .f64 4607182418800017408 4611686018427387904, .complex .f64 0 0] 25)
  have hz3 : w2.heap.size < (w2.alloc (.cells #[.int .i64 5, .complex .f64 0 0, .complex .f64 0 0, .complex .f64 4607182418800017408 4611686018427387904, .complex .f64 0 0] 25)).heap.size := by simp
  have HB3 := Lib.hid hb3
  have HP3 := Lib.hid hp3
  have HZ3 := Lib.hid hz3
  have HLE : Hid (w.heap.size ≤ w2.heap.size) := HB2.out.size
  obtain ⟨x0, x1, x2, x3, x4, xz⟩ := row5 hp3
  clear hb3 hp3 hz3
  go_wp2_with fail
  generalize w2.alloc (.cells #[.int .i64 5, .complex .f64 0 0, .complex .f64 0 0, .complex .f64 4607182418800017408 4611686018427387904, .complex .f64 0 0] 25) = w3 at *
  clear x0 x1 x2 x3 x4 xz
  generalize w2.heap.size = P at *
  refine (pbytes_c 5 (by decide) 0 0 0 0 4607182418800017408 4611686018427387904 0 0 _).mono ?_; rintro e w4 ⟨A4, c4, rfl, ho4, hb4⟩
  have HO4 := Lib.hid ho4
  have HP4 := Lib.hid ((hb4.block P HZ3.out).trans HP3.out)
  have HZ4 : Hid (P < w4.heap.size) := Nat.lt_of_lt_of_le HZ3.out hb4.size
  have HB4 := Lib.hid (HB3.out.trans (hb4.mono HB3.out.size))
  clear ho4 hb4
  have hsl : (sealN (pageT 5 [(0, 0), (0, 0), (4607182418800017408, 4611686018427387904), (0, 0)])).length = 69 := by unfold sealN; rw [List.length_append, pageT_length]; rfl
  have HC4 : Hid (69 ≤ c4) := by have := HO4.out.le; rw [hsl] at this; exact this
  clear hsl
  go_wp2_with fail
  refine (read_c 5 (by decide) 0 0 0 0 4607182418800017408 4611686018427387904 0 0 good_zero good_zero good_ab good_zero A4 c4 w4 HO4.out.rd HO4.out.nil_cap HC4.out).mono ?_; rintro e w5 ⟨rfl, hb5⟩
  have HB5 := Lib.hid (HB4.out.trans (hb5.mono HB4.out.size))
  have HP5 := Lib.hid ((hb5.block P HZ4.out).trans HP4.out)
  have HZ5 : Hid (P < w5.heap.size) := Nat.lt_of_lt_of_le HZ4.out hb5.size
  clear hb5
  have hb6 := HB5.out.alloc HB5.out.size (.cells #[.int .i64 5, .complex .f64 0 0, .complex .f64 0 0, .complex .f64 4607182418800017408 4611686018427387904, .complex .f64 0 0] 25)
  have hp6 := heap_alloc_new w5 (.cells #[.int .i64 5, .complex .f64 0 0, .complex .f64 0 0, .complex .f64 4607182418800017408 4611686018427387904, .complex .f64 0 0] 25)
  have hq6 := ((((Below.refl w5.heap.size w5).alloc (Nat.le_refl _) (.cells #[.int .i64 5, .complex .f64 0 0, .complex .f64 0 0, .complex .f64 4607182418800017408 4611686018427387904, .complex .f64 0 0] 25)).block P HZ5.out).trans HP5.out)
  have HB6 := Lib.hid hb6
  obtain ⟨x0, x1, x2, x3, x4, xz⟩ := row5 hp6
  obtain ⟨y0, y1, y2, y3, y4, yz⟩ := row5 hq6
  clear hb6 hp6 hq6
  go_wp2_with fail
  refine (psame_c 5 0 0 0 0 4607182418800017408 4611686018427387904 0 0 _).mono ?_; rintro e w7 ⟨rfl, hb7⟩
  have HB7 := Lib.hid (HB6.out.trans (hb7.mono HB6.out.size))
  have hz6 : w5.heap.size < (w5.alloc (.cells #[.int .i64 5, .complex .f64 0 0, .complex .f64 0 0, .complex .f64 4607182418800017408 4611686018427387904, .complex .f64 0 0] 25)).heap.size := by simp
  have hp7 := (hb7.block w5.heap.size hz6).trans (heap_alloc_new w5 (.cells #[.int .i64 5, .complex .f64 0 0, .complex .f64 0 0, .complex .f64 4607182418800017408 4611686018427387904, .complex .f64 0 0] 25))
  clear x0 x1 x2 x3 x4 xz y0 y1 y2 y3 y4 yz
  obtain ⟨x0, x1, x2, x3, x4, xz⟩ := row5 hp7
  clear hb7 hz6 hp7
  go_wp2_with fail
  go_ret
  exact ⟨rfl, HB7.out⟩

set_option maxRecDepth 1000000 in
set_option maxHeartbeats 4000000 in
theorem names_c (w : World) : Calls Try.prog 3 #[] w fun e w' => e = .returned (.bool true) ∧ Below w.heap.size w w' := by
  go_enter Try.func3, Try.ntmps3
  go_wp2_with fail
  refine (read_nil _).mono ?_; rintro e w1 ⟨rfl, hb1⟩
  have HB1 := Lib.hid hb1
  clear hb1
  go_wp2_with fail
  have hb2 := HB1.out.alloc HB1.out.size (.cells #[.int .i64 0, .complex .f64 0 0, .complex .f64 0 0, .complex .f64 0 0, .complex .f64 0 0] 25)
  generalize w1.alloc (.cells #[.int .i64 0, .complex .f64 0 0, .complex .f64 0 0, .complex .f64 0 0, .complex .f64 0 0] 25) = w2 at *
  have HB2 := Lib.hid hb2
  clear hb2
  refine (alive_c _).mono ?_; rintro e w3 ⟨rfl, hb3⟩
  have HB3 := Lib.hid (HB2.out.trans (hb3.mono HB2.out.size))
  clear hb3
  go_wp2_with fail
  refine (right_c _).mono ?_; rintro e w4 ⟨rfl, hb4⟩
  have HB4 := Lib.hid (HB3.out.trans (hb4.mono HB3.out.size))
  clear hb4
  go_wp2_with fail
  go_ret
  exact ⟨rfl, HB4.out⟩

end Go.Proofs.Ytepmdplafnemhaa
