import Derived.Test.YtepmdplafnemhaaPageB
namespace Go.Proofs.Ytepmdplafnemhaa
open Go.RowKit

attribute [local go_sem] run_store_complex

/-! page.Same of a page and itself; page.Read of what page.Bytes wrote. -/

set_option maxRecDepth 1000000 in
set_option maxHeartbeats 4000000 in
theorem psame_c (n : Nat) (a0 b0 a1 b1 a2 b2 a3 b3 : Nat) (w : World) :
    Calls Try.prog 12 #[.agg #[.int .i64 n, .complex .f64 a0 b0, .complex .f64 a1 b1, .complex .f64 a2 b2, .complex .f64 a3 b3], .agg #[.int .i64 n, .complex .f64 a0 b0, .complex .f64 a1 b1, .complex .f64 a2 b2, .complex .f64 a3 b3]] w fun e w' => e = .returned (.bool true) ∧ Below w.heap.size w w' := by
  have hb := below2 w (.cells #[.int .i64 n, .complex .f64 a0 b0, .complex .f64 a1 b1, .complex .f64 a2 b2, .complex .f64 a3 b3] 25) (.cells #[.int .i64 n, .complex .f64 a0 b0, .complex .f64 a1 b1, .complex .f64 a2 b2, .complex .f64 a3 b3] 25)
  have p1 := heap_alloc2_old w (.cells #[.int .i64 n, .complex .f64 a0 b0, .complex .f64 a1 b1, .complex .f64 a2 b2, .complex .f64 a3 b3] 25) (.cells #[.int .i64 n, .complex .f64 a0 b0, .complex .f64 a1 b1, .complex .f64 a2 b2, .complex .f64 a3 b3] 25)
  have p2 := heap_alloc2_new w (.cells #[.int .i64 n, .complex .f64 a0 b0, .complex .f64 a1 b1, .complex .f64 a2 b2, .complex .f64 a3 b3] 25) (.cells #[.int .i64 n, .complex .f64 a0 b0, .complex .f64 a1 b1, .complex .f64 a2 b2, .complex .f64 a3 b3] 25)
  go_enter Try.func12, Try.ntmps12
  go_wp2_with fail
  generalize (w.alloc (.cells #[.int .i64 n, .complex .f64 a0 b0, .complex .f64 a1 b1, .complex .f64 a2 b2, .complex .f64 a3 b3] 25)).alloc (.cells #[.int .i64 n, .complex .f64 a0 b0, .complex .f64 a1 b1, .complex .f64 a2 b2, .complex .f64 a3 b3] 25) = W0 at *
  have HB := Lib.hid hb
  obtain ⟨x0, x1, x2, x3, x4, xz⟩ := row5 p1
  obtain ⟨r0, r1, r2, r3, r4, rz⟩ := row5 p2
  clear hb p1 p2
  go_loop [9] (fun i => ∃ k : Nat, k ≤ 4 ∧ i = .int .i64 k) (fun i => 4 - (intOf i).toNat)
  case atStart => exact ⟨0, Nat.zero_le _, rfl⟩
  case round =>
    obtain ⟨k, hk, rfl⟩ := hrel
    by_cases hlt : k < 4
    · obtain rfl | rfl | rfl | rfl : k = 0 ∨ k = 1 ∨ k = 2 ∨ k = 3 := by omega
      · have hix := fun W => (idx4 W a0 b0 a1 b1 a2 b2 a3 b3).1
        go_wp2_with fail
        refine (csame_c a0 b0 _).mono ?_; rintro e w1 ⟨rfl, rfl⟩
        go_wp2_with fail
        go_round
        case rel => exact ⟨0 + 1, by omega, rfl⟩
        case measure => simp [intOf]
      · have hix := fun W => (idx4 W a0 b0 a1 b1 a2 b2 a3 b3).2.1
        go_wp2_with fail
        refine (csame_c a1 b1 _).mono ?_; rintro e w1 ⟨rfl, rfl⟩
        go_wp2_with fail
        go_round
        case rel => exact ⟨1 + 1, by omega, rfl⟩
        case measure => simp [intOf]
      · have hix := fun W => (idx4 W a0 b0 a1 b1 a2 b2 a3 b3).2.2.1
        go_wp2_with fail
        refine (csame_c a2 b2 _).mono ?_; rintro e w1 ⟨rfl, rfl⟩
        go_wp2_with fail
        go_round
        case rel => exact ⟨2 + 1, by omega, rfl⟩
        case measure => simp [intOf]
      · have hix := fun W => (idx4 W a0 b0 a1 b1 a2 b2 a3 b3).2.2.2
        go_wp2_with fail
        refine (csame_c a3 b3 _).mono ?_; rintro e w1 ⟨rfl, rfl⟩
        go_wp2_with fail
        go_round
        case rel => exact ⟨3 + 1, by omega, rfl⟩
        case measure => simp [intOf]
    · have he : k = 4 := by omega
      subst he
      go_wp2_with fail
      go_ret
      exact ⟨ret_bool (by simp), HB.out⟩

set_option maxRecDepth 1000000 in
set_option maxHeartbeats 4000000 in
theorem read_nil (w : World) : Calls Try.prog 4 #[.slice none 0 0] w fun e w' => e = .returned (.tuple #[.agg #[.int .i64 0, .complex .f64 0 0, .complex .f64 0 0, .complex .f64 0 0, .complex .f64 0 0], .int .i64 41]) ∧ Below w.heap.size w w' := by
  have hoL : openL [] = [] := by decide +kernel
  have hoE : openE [] = 31 := by decide +kernel
  have HOL := Lib.hid hoL
  have HOE := Lib.hid hoE
  clear hoL hoE
  have hb : Below w.heap.size w (w.alloc (.cells #[.int .i64 0, .complex .f64 0 0, .complex .f64 0 0, .complex .f64 0 0, .complex .f64 0 0] 25)) := (Below.refl _ _).alloc (Nat.le_refl _) _
  have p1 := heap_alloc_new w (.cells #[.int .i64 0, .complex .f64 0 0, .complex .f64 0 0, .complex .f64 0 0, .complex .f64 0 0] 25)
  go_enter Try.func4, Try.ntmps4
  go_wp2_with fail
  have hz : w.heap.size < (w.alloc (.cells #[.int .i64 0, .complex .f64 0 0, .complex .f64 0 0, .complex .f64 0 0, .complex .f64 0 0] 25)).heap.size := by simp
  generalize w.alloc (.cells #[.int .i64 0, .complex .f64 0 0, .complex .f64 0 0, .complex .f64 0 0, .complex .f64 0 0] 25) = W0 at *
  have HB := Lib.hid hb
  have HP := Lib.hid p1
  have HZ := Lib.hid hz
  clear hb p1 hz
  refine (open_c none [] 0 W0 Rd.nil (fun _ => rfl) (Nat.le_refl _) (by decide)).mono ?_; rintro e w1 ⟨A1, c1, rfl, ho1, hb1⟩
  rw [HOL.out, HOE.out]
  have HB1 := Lib.hid (HB.out.trans (hb1.mono HB.out.size))
  obtain ⟨r0, r1, r2, r3, r4, rz⟩ := row5 ((hb1.block w.heap.size HZ.out).trans HP.out)
  have t0 := fun v => World.cell?_setCell_same w1 ⟨w.heap.size, 0, none⟩ v r0
  have t1 := fun v => World.cell?_setCell_same w1 ⟨w.heap.size, 1, none⟩ v r1
  have t2 := fun v => World.cell?_setCell_same w1 ⟨w.heap.size, 2, none⟩ v r2
  have t3 := fun v => World.cell?_setCell_same w1 ⟨w.heap.size, 3, none⟩ v r3
  have t4 := fun v => World.cell?_setCell_same w1 ⟨w.heap.size, 4, none⟩ v r4
  clear ho1 hb1
  go_wp2_with fail
  refine bodyPost_ret (by simp [results, Try.results4, go_sem, r0, r1, r2, r3, r4]; try rfl) rfl ?_
  exact ⟨rfl, ((((HB1.out.setCell (p := ⟨w.heap.size, 0, none⟩) (Nat.le_refl _) _).setCell (p := ⟨w.heap.size, 1, none⟩) (Nat.le_refl _) _).setCell (p := ⟨w.heap.size, 2, none⟩) (Nat.le_refl _) _).setCell (p := ⟨w.heap.size, 3, none⟩) (Nat.le_refl _) _).setCell (p := ⟨w.heap.size, 4, none⟩) (Nat.le_refl _) _⟩

end Go.Proofs.Ytepmdplafnemhaa
