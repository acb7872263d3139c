import Derived.Test.YtdeinkkljhkaoaaAlive01
import Derived.Test.YtdeinkkljhkaoaaPlain01
namespace Go.Proofs.Ytdeinkkljhkaoaa
open Go.RowKit

set_option maxHeartbeats 2000000 in
theorem chain1 (a b c d e f : Nat) (ha : a < 18446744073709551616) (hb : b < 18446744073709551616) (hc : c < 18446744073709551616) (hd : d < 18446744073709551616) (he : e < 18446744073709551616) (hf : f < 18446744073709551616) (hz : lessF a b a b = false) (h1 : lessF a b c d = true) (h2 : lessF c d a b = false) (h3 : sameF a b c d = false) (h4 : lessF c d e f = true) (h5 : lessF a b e f = true) (w : World) :
    Calls Try.prog 5 #[.agg #[.int .u64 a, .int .u64 b], .agg #[.int .u64 c, .int .u64 d], .agg #[.int .u64 e, .int .u64 f]] w fun e w' => e = .returned (.bool true) ∧ Below w.heap.size w w' := by
  have Ha := Lib.hid ha
  have Hb := Lib.hid hb
  have Hc := Lib.hid hc
  have Hd := Lib.hid hd
  have He := Lib.hid he
  have Hf := Lib.hid hf
  have hB : Below w.heap.size w (((w.alloc (.cells #[.int .u64 a, .int .u64 b] 23)).alloc (.cells #[.int .u64 c, .int .u64 d] 23)).alloc (.cells #[.int .u64 e, .int .u64 f] 23)) := (((Below.refl _ _).alloc (Nat.le_refl _) _).alloc (by simp) _).alloc (by simp; omega) _
  have HB := Lib.hid hB
  clear ha hb hc hd he hf
  clear hB
  go_enter Try.func5, Try.ntmps5
  go_wp2_with (first | (go_at_call 9; refine (of_c _ _ _).mono ?_; rintro e w' ⟨rfl, rfl⟩) | (go_at_call 12; refine (less_c _ _ _ _ (by first | exact Ha.out | exact Hb.out | exact Hc.out | exact Hd.out | exact He.out | exact Hf.out) (by first | exact Ha.out | exact Hb.out | exact Hc.out | exact Hd.out | exact He.out | exact Hf.out) (by first | exact Ha.out | exact Hb.out | exact Hc.out | exact Hd.out | exact He.out | exact Hf.out) (by first | exact Ha.out | exact Hb.out | exact Hc.out | exact Hd.out | exact He.out | exact Hf.out) _).mono ?_; rintro e w' ⟨rfl, rfl⟩) | (go_at_call 21; refine (same_c _ _ _ _ _).mono ?_; rintro e w' ⟨rfl, rfl⟩) | (go_at_call 11; refine (alive_c _).mono ?_; rintro e w' ⟨rfl, n, rfl⟩))
  go_quiet ((first | (go_at_call 9; first | exact quiet_left (of_c _ _ _) | exact quiet_add_left (of_c _ _ _)) | (go_at_call 12; first | exact quiet_left (less_c _ _ _ _ (by first | exact Ha.out | exact Hb.out | exact Hc.out | exact Hd.out | exact He.out | exact Hf.out) (by first | exact Ha.out | exact Hb.out | exact Hc.out | exact Hd.out | exact He.out | exact Hf.out) (by first | exact Ha.out | exact Hb.out | exact Hc.out | exact Hd.out | exact He.out | exact Hf.out) (by first | exact Ha.out | exact Hb.out | exact Hc.out | exact Hd.out | exact He.out | exact Hf.out) _) | exact quiet_add_left (less_c _ _ _ _ (by first | exact Ha.out | exact Hb.out | exact Hc.out | exact Hd.out | exact He.out | exact Hf.out) (by first | exact Ha.out | exact Hb.out | exact Hc.out | exact Hd.out | exact He.out | exact Hf.out) (by first | exact Ha.out | exact Hb.out | exact Hc.out | exact Hd.out | exact He.out | exact Hf.out) (by first | exact Ha.out | exact Hb.out | exact Hc.out | exact Hd.out | exact He.out | exact Hf.out) _)) | (go_at_call 21; first | exact quiet_left (same_c _ _ _ _ _) | exact quiet_add_left (same_c _ _ _ _ _)) | (go_at_call 11; first | exact Calls.quiet_of (alive_c _) | exact quiet_add (alive_c _))))
  go_wp2_with (first | (go_at_call 9; refine (of_c _ _ _).mono ?_; rintro e w' ⟨rfl, rfl⟩) | (go_at_call 12; refine (less_c _ _ _ _ (by first | exact Ha.out | exact Hb.out | exact Hc.out | exact Hd.out | exact He.out | exact Hf.out) (by first | exact Ha.out | exact Hb.out | exact Hc.out | exact Hd.out | exact He.out | exact Hf.out) (by first | exact Ha.out | exact Hb.out | exact Hc.out | exact Hd.out | exact He.out | exact Hf.out) (by first | exact Ha.out | exact Hb.out | exact Hc.out | exact Hd.out | exact He.out | exact Hf.out) _).mono ?_; rintro e w' ⟨rfl, rfl⟩) | (go_at_call 21; refine (same_c _ _ _ _ _).mono ?_; rintro e w' ⟨rfl, rfl⟩) | (go_at_call 11; refine (alive_c _).mono ?_; rintro e w' ⟨rfl, n, rfl⟩))
  go_ret
  exact ⟨rfl, by repeat (first | exact HB.out | apply below_drewN)⟩

set_option maxHeartbeats 2000000 in
theorem chain2 (a b c d e f : Nat) (ha : a < 18446744073709551616) (hb : b < 18446744073709551616) (hc : c < 18446744073709551616) (hd : d < 18446744073709551616) (he : e < 18446744073709551616) (hf : f < 18446744073709551616) (hz : lessF a b a b = false) (h1 : lessF a b c d = true) (h2 : lessF c d a b = false) (h3 : sameF a b c d = false) (h4 : lessF c d e f = false) (w : World) :
    Calls Try.prog 5 #[.agg #[.int .u64 a, .int .u64 b], .agg #[.int .u64 c, .int .u64 d], .agg #[.int .u64 e, .int .u64 f]] w fun e w' => e = .returned (.bool true) ∧ Below w.heap.size w w' := by
  have Ha := Lib.hid ha
  have Hb := Lib.hid hb
  have Hc := Lib.hid hc
  have Hd := Lib.hid hd
  have He := Lib.hid he
  have Hf := Lib.hid hf
  have hB : Below w.heap.size w (((w.alloc (.cells #[.int .u64 a, .int .u64 b] 23)).alloc (.cells #[.int .u64 c, .int .u64 d] 23)).alloc (.cells #[.int .u64 e, .int .u64 f] 23)) := (((Below.refl _ _).alloc (Nat.le_refl _) _).alloc (by simp) _).alloc (by simp; omega) _
  have HB := Lib.hid hB
  clear ha hb hc hd he hf
  clear hB
  go_enter Try.func5, Try.ntmps5
  go_wp2_with (first | (go_at_call 9; refine (of_c _ _ _).mono ?_; rintro e w' ⟨rfl, rfl⟩) | (go_at_call 12; refine (less_c _ _ _ _ (by first | exact Ha.out | exact Hb.out | exact Hc.out | exact Hd.out | exact He.out | exact Hf.out) (by first | exact Ha.out | exact Hb.out | exact Hc.out | exact Hd.out | exact He.out | exact Hf.out) (by first | exact Ha.out | exact Hb.out | exact Hc.out | exact Hd.out | exact He.out | exact Hf.out) (by first | exact Ha.out | exact Hb.out | exact Hc.out | exact Hd.out | exact He.out | exact Hf.out) _).mono ?_; rintro e w' ⟨rfl, rfl⟩) | (go_at_call 21; refine (same_c _ _ _ _ _).mono ?_; rintro e w' ⟨rfl, rfl⟩) | (go_at_call 11; refine (alive_c _).mono ?_; rintro e w' ⟨rfl, n, rfl⟩))
  go_quiet ((first | (go_at_call 9; first | exact quiet_left (of_c _ _ _) | exact quiet_add_left (of_c _ _ _)) | (go_at_call 12; first | exact quiet_left (less_c _ _ _ _ (by first | exact Ha.out | exact Hb.out | exact Hc.out | exact Hd.out | exact He.out | exact Hf.out) (by first | exact Ha.out | exact Hb.out | exact Hc.out | exact Hd.out | exact He.out | exact Hf.out) (by first | exact Ha.out | exact Hb.out | exact Hc.out | exact Hd.out | exact He.out | exact Hf.out) (by first | exact Ha.out | exact Hb.out | exact Hc.out | exact Hd.out | exact He.out | exact Hf.out) _) | exact quiet_add_left (less_c _ _ _ _ (by first | exact Ha.out | exact Hb.out | exact Hc.out | exact Hd.out | exact He.out | exact Hf.out) (by first | exact Ha.out | exact Hb.out | exact Hc.out | exact Hd.out | exact He.out | exact Hf.out) (by first | exact Ha.out | exact Hb.out | exact Hc.out | exact Hd.out | exact He.out | exact Hf.out) (by first | exact Ha.out | exact Hb.out | exact Hc.out | exact Hd.out | exact He.out | exact Hf.out) _)) | (go_at_call 21; first | exact quiet_left (same_c _ _ _ _ _) | exact quiet_add_left (same_c _ _ _ _ _)) | (go_at_call 11; first | exact Calls.quiet_of (alive_c _) | exact quiet_add (alive_c _))))
  go_wp2_with (first | (go_at_call 9; refine (of_c _ _ _).mono ?_; rintro e w' ⟨rfl, rfl⟩) | (go_at_call 12; refine (less_c _ _ _ _ (by first | exact Ha.out | exact Hb.out | exact Hc.out | exact Hd.out | exact He.out | exact Hf.out) (by first | exact Ha.out | exact Hb.out | exact Hc.out | exact Hd.out | exact He.out | exact Hf.out) (by first | exact Ha.out | exact Hb.out | exact Hc.out | exact Hd.out | exact He.out | exact Hf.out) (by first | exact Ha.out | exact Hb.out | exact Hc.out | exact Hd.out | exact He.out | exact Hf.out) _).mono ?_; rintro e w' ⟨rfl, rfl⟩) | (go_at_call 21; refine (same_c _ _ _ _ _).mono ?_; rintro e w' ⟨rfl, rfl⟩) | (go_at_call 11; refine (alive_c _).mono ?_; rintro e w' ⟨rfl, n, rfl⟩))
  go_ret
  exact ⟨rfl, by repeat (first | exact HB.out | apply below_drewN)⟩

set_option maxHeartbeats 2000000 in
theorem chain3 (a b c d e f : Nat) (ha : a < 18446744073709551616) (hb : b < 18446744073709551616) (hc : c < 18446744073709551616) (hd : d < 18446744073709551616) (he : e < 18446744073709551616) (hf : f < 18446744073709551616) (hz : lessF a b a b = false) (h1 : lessF a b c d = false) (h2 : lessF c d a b = true) (h3 : sameF a b c d = false) (w : World) :
    Calls Try.prog 5 #[.agg #[.int .u64 a, .int .u64 b], .agg #[.int .u64 c, .int .u64 d], .agg #[.int .u64 e, .int .u64 f]] w fun e w' => e = .returned (.bool true) ∧ Below w.heap.size w w' := by
  have Ha := Lib.hid ha
  have Hb := Lib.hid hb
  have Hc := Lib.hid hc
  have Hd := Lib.hid hd
  have He := Lib.hid he
  have Hf := Lib.hid hf
  have hB : Below w.heap.size w (((w.alloc (.cells #[.int .u64 a, .int .u64 b] 23)).alloc (.cells #[.int .u64 c, .int .u64 d] 23)).alloc (.cells #[.int .u64 e, .int .u64 f] 23)) := (((Below.refl _ _).alloc (Nat.le_refl _) _).alloc (by simp) _).alloc (by simp; omega) _
  have HB := Lib.hid hB
  clear ha hb hc hd he hf
  clear hB
  go_enter Try.func5, Try.ntmps5
  go_wp2_with (first | (go_at_call 9; refine (of_c _ _ _).mono ?_; rintro e w' ⟨rfl, rfl⟩) | (go_at_call 12; refine (less_c _ _ _ _ (by first | exact Ha.out | exact Hb.out | exact Hc.out | exact Hd.out | exact He.out | exact Hf.out) (by first | exact Ha.out | exact Hb.out | exact Hc.out | exact Hd.out | exact He.out | exact Hf.out) (by first | exact Ha.out | exact Hb.out | exact Hc.out | exact Hd.out | exact He.out | exact Hf.out) (by first | exact Ha.out | exact Hb.out | exact Hc.out | exact Hd.out | exact He.out | exact Hf.out) _).mono ?_; rintro e w' ⟨rfl, rfl⟩) | (go_at_call 21; refine (same_c _ _ _ _ _).mono ?_; rintro e w' ⟨rfl, rfl⟩) | (go_at_call 11; refine (alive_c _).mono ?_; rintro e w' ⟨rfl, n, rfl⟩))
  go_quiet ((first | (go_at_call 9; first | exact quiet_left (of_c _ _ _) | exact quiet_add_left (of_c _ _ _)) | (go_at_call 12; first | exact quiet_left (less_c _ _ _ _ (by first | exact Ha.out | exact Hb.out | exact Hc.out | exact Hd.out | exact He.out | exact Hf.out) (by first | exact Ha.out | exact Hb.out | exact Hc.out | exact Hd.out | exact He.out | exact Hf.out) (by first | exact Ha.out | exact Hb.out | exact Hc.out | exact Hd.out | exact He.out | exact Hf.out) (by first | exact Ha.out | exact Hb.out | exact Hc.out | exact Hd.out | exact He.out | exact Hf.out) _) | exact quiet_add_left (less_c _ _ _ _ (by first | exact Ha.out | exact Hb.out | exact Hc.out | exact Hd.out | exact He.out | exact Hf.out) (by first | exact Ha.out | exact Hb.out | exact Hc.out | exact Hd.out | exact He.out | exact Hf.out) (by first | exact Ha.out | exact Hb.out | exact Hc.out | exact Hd.out | exact He.out | exact Hf.out) (by first | exact Ha.out | exact Hb.out | exact Hc.out | exact Hd.out | exact He.out | exact Hf.out) _)) | (go_at_call 21; first | exact quiet_left (same_c _ _ _ _ _) | exact quiet_add_left (same_c _ _ _ _ _)) | (go_at_call 11; first | exact Calls.quiet_of (alive_c _) | exact quiet_add (alive_c _))))
  go_wp2_with (first | (go_at_call 9; refine (of_c _ _ _).mono ?_; rintro e w' ⟨rfl, rfl⟩) | (go_at_call 12; refine (less_c _ _ _ _ (by first | exact Ha.out | exact Hb.out | exact Hc.out | exact Hd.out | exact He.out | exact Hf.out) (by first | exact Ha.out | exact Hb.out | exact Hc.out | exact Hd.out | exact He.out | exact Hf.out) (by first | exact Ha.out | exact Hb.out | exact Hc.out | exact Hd.out | exact He.out | exact Hf.out) (by first | exact Ha.out | exact Hb.out | exact Hc.out | exact Hd.out | exact He.out | exact Hf.out) _).mono ?_; rintro e w' ⟨rfl, rfl⟩) | (go_at_call 21; refine (same_c _ _ _ _ _).mono ?_; rintro e w' ⟨rfl, rfl⟩) | (go_at_call 11; refine (alive_c _).mono ?_; rintro e w' ⟨rfl, n, rfl⟩))
  go_ret
  exact ⟨rfl, by repeat (first | exact HB.out | apply below_drewN)⟩

set_option maxHeartbeats 2000000 in
theorem chain4 (a b c d e f : Nat) (ha : a < 18446744073709551616) (hb : b < 18446744073709551616) (hc : c < 18446744073709551616) (hd : d < 18446744073709551616) (he : e < 18446744073709551616) (hf : f < 18446744073709551616) (hz : lessF a b a b = false) (h1 : lessF a b c d = false) (h2 : lessF c d a b = false) (h3 : sameF a b c d = true) (h4 : lessF a b e f = false) (h5 : lessF c d e f = false) (w : World) :
    Calls Try.prog 5 #[.agg #[.int .u64 a, .int .u64 b], .agg #[.int .u64 c, .int .u64 d], .agg #[.int .u64 e, .int .u64 f]] w fun e w' => e = .returned (.bool true) ∧ Below w.heap.size w w' := by
  have Ha := Lib.hid ha
  have Hb := Lib.hid hb
  have Hc := Lib.hid hc
  have Hd := Lib.hid hd
  have He := Lib.hid he
  have Hf := Lib.hid hf
  have hB : Below w.heap.size w (((w.alloc (.cells #[.int .u64 a, .int .u64 b] 23)).alloc (.cells #[.int .u64 c, .int .u64 d] 23)).alloc (.cells #[.int .u64 e, .int .u64 f] 23)) := (((Below.refl _ _).alloc (Nat.le_refl _) _).alloc (by simp) _).alloc (by simp; omega) _
  have HB := Lib.hid hB
  clear ha hb hc hd he hf
  clear hB
  go_enter Try.func5, Try.ntmps5
  go_wp2_with (first | (go_at_call 9; refine (of_c _ _ _).mono ?_; rintro e w' ⟨rfl, rfl⟩) | (go_at_call 12; refine (less_c _ _ _ _ (by first | exact Ha.out | exact Hb.out | exact Hc.out | exact Hd.out | exact He.out | exact Hf.out) (by first | exact Ha.out | exact Hb.out | exact Hc.out | exact Hd.out | exact He.out | exact Hf.out) (by first | exact Ha.out | exact Hb.out | exact Hc.out | exact Hd.out | exact He.out | exact Hf.out) (by first | exact Ha.out | exact Hb.out | exact Hc.out | exact Hd.out | exact He.out | exact Hf.out) _).mono ?_; rintro e w' ⟨rfl, rfl⟩) | (go_at_call 21; refine (same_c _ _ _ _ _).mono ?_; rintro e w' ⟨rfl, rfl⟩) | (go_at_call 11; refine (alive_c _).mono ?_; rintro e w' ⟨rfl, n, rfl⟩))
  go_quiet ((first | (go_at_call 9; first | exact quiet_left (of_c _ _ _) | exact quiet_add_left (of_c _ _ _)) | (go_at_call 12; first | exact quiet_left (less_c _ _ _ _ (by first | exact Ha.out | exact Hb.out | exact Hc.out | exact Hd.out | exact He.out | exact Hf.out) (by first | exact Ha.out | exact Hb.out | exact Hc.out | exact Hd.out | exact He.out | exact Hf.out) (by first | exact Ha.out | exact Hb.out | exact Hc.out | exact Hd.out | exact He.out | exact Hf.out) (by first | exact Ha.out | exact Hb.out | exact Hc.out | exact Hd.out | exact He.out | exact Hf.out) _) | exact quiet_add_left (less_c _ _ _ _ (by first | exact Ha.out | exact Hb.out | exact Hc.out | exact Hd.out | exact He.out | exact Hf.out) (by first | exact Ha.out | exact Hb.out | exact Hc.out | exact Hd.out | exact He.out | exact Hf.out) (by first | exact Ha.out | exact Hb.out | exact Hc.out | exact Hd.out | exact He.out | exact Hf.out) (by first | exact Ha.out | exact Hb.out | exact Hc.out | exact Hd.out | exact He.out | exact Hf.out) _)) | (go_at_call 21; first | exact quiet_left (same_c _ _ _ _ _) | exact quiet_add_left (same_c _ _ _ _ _)) | (go_at_call 11; first | exact Calls.quiet_of (alive_c _) | exact quiet_add (alive_c _))))
  go_wp2_with (first | (go_at_call 9; refine (of_c _ _ _).mono ?_; rintro e w' ⟨rfl, rfl⟩) | (go_at_call 12; refine (less_c _ _ _ _ (by first | exact Ha.out | exact Hb.out | exact Hc.out | exact Hd.out | exact He.out | exact Hf.out) (by first | exact Ha.out | exact Hb.out | exact Hc.out | exact Hd.out | exact He.out | exact Hf.out) (by first | exact Ha.out | exact Hb.out | exact Hc.out | exact Hd.out | exact He.out | exact Hf.out) (by first | exact Ha.out | exact Hb.out | exact Hc.out | exact Hd.out | exact He.out | exact Hf.out) _).mono ?_; rintro e w' ⟨rfl, rfl⟩) | (go_at_call 21; refine (same_c _ _ _ _ _).mono ?_; rintro e w' ⟨rfl, rfl⟩) | (go_at_call 11; refine (alive_c _).mono ?_; rintro e w' ⟨rfl, n, rfl⟩))
  go_ret
  exact ⟨rfl, by repeat (first | exact HB.out | apply below_drewN)⟩

set_option maxHeartbeats 2000000 in
theorem chain5 (a b c d e f : Nat) (ha : a < 18446744073709551616) (hb : b < 18446744073709551616) (hc : c < 18446744073709551616) (hd : d < 18446744073709551616) (he : e < 18446744073709551616) (hf : f < 18446744073709551616) (hz : lessF a b a b = false) (h1 : lessF a b c d = false) (h2 : lessF c d a b = false) (h3 : sameF a b c d = true) (h4 : lessF a b e f = true) (h5 : lessF c d e f = true) (w : World) :
    Calls Try.prog 5 #[.agg #[.int .u64 a, .int .u64 b], .agg #[.int .u64 c, .int .u64 d], .agg #[.int .u64 e, .int .u64 f]] w fun e w' => e = .returned (.bool true) ∧ Below w.heap.size w w' := by
  have Ha := Lib.hid ha
  have Hb := Lib.hid hb
  have Hc := Lib.hid hc
  have Hd := Lib.hid hd
  have He := Lib.hid he
  have Hf := Lib.hid hf
  have hB : Below w.heap.size w (((w.alloc (.cells #[.int .u64 a, .int .u64 b] 23)).alloc (.cells #[.int .u64 c, .int .u64 d] 23)).alloc (.cells #[.int .u64 e, .int .u64 f] 23)) := (((Below.refl _ _).alloc (Nat.le_refl _) _).alloc (by simp) _).alloc (by simp; omega) _
  have HB := Lib.hid hB
  clear ha hb hc hd he hf
  clear hB
  go_enter Try.func5, Try.ntmps5
  go_wp2_with (first | (go_at_call 9; refine (of_c _ _ _).mono ?_; rintro e w' ⟨rfl, rfl⟩) | (go_at_call 12; refine (less_c _ _ _ _ (by first | exact Ha.out | exact Hb.out | exact Hc.out | exact Hd.out | exact He.out | exact Hf.out) (by first | exact Ha.out | exact Hb.out | exact Hc.out | exact Hd.out | exact He.out | exact Hf.out) (by first | exact Ha.out | exact Hb.out | exact Hc.out | exact Hd.out | exact He.out | exact Hf.out) (by first | exact Ha.out | exact Hb.out | exact Hc.out | exact Hd.out | exact He.out | exact Hf.out) _).mono ?_; rintro e w' ⟨rfl, rfl⟩) | (go_at_call 21; refine (same_c _ _ _ _ _).mono ?_; rintro e w' ⟨rfl, rfl⟩) | (go_at_call 11; refine (alive_c _).mono ?_; rintro e w' ⟨rfl, n, rfl⟩))
  go_quiet ((first | (go_at_call 9; first | exact quiet_left (of_c _ _ _) | exact quiet_add_left (of_c _ _ _)) | (go_at_call 12; first | exact quiet_left (less_c _ _ _ _ (by first | exact Ha.out | exact Hb.out | exact Hc.out | exact Hd.out | exact He.out | exact Hf.out) (by first | exact Ha.out | exact Hb.out | exact Hc.out | exact Hd.out | exact He.out | exact Hf.out) (by first | exact Ha.out | exact Hb.out | exact Hc.out | exact Hd.out | exact He.out | exact Hf.out) (by first | exact Ha.out | exact Hb.out | exact Hc.out | exact Hd.out | exact He.out | exact Hf.out) _) | exact quiet_add_left (less_c _ _ _ _ (by first | exact Ha.out | exact Hb.out | exact Hc.out | exact Hd.out | exact He.out | exact Hf.out) (by first | exact Ha.out | exact Hb.out | exact Hc.out | exact Hd.out | exact He.out | exact Hf.out) (by first | exact Ha.out | exact Hb.out | exact Hc.out | exact Hd.out | exact He.out | exact Hf.out) (by first | exact Ha.out | exact Hb.out | exact Hc.out | exact Hd.out | exact He.out | exact Hf.out) _)) | (go_at_call 21; first | exact quiet_left (same_c _ _ _ _ _) | exact quiet_add_left (same_c _ _ _ _ _)) | (go_at_call 11; first | exact Calls.quiet_of (alive_c _) | exact quiet_add (alive_c _))))
  go_wp2_with (first | (go_at_call 9; refine (of_c _ _ _).mono ?_; rintro e w' ⟨rfl, rfl⟩) | (go_at_call 12; refine (less_c _ _ _ _ (by first | exact Ha.out | exact Hb.out | exact Hc.out | exact Hd.out | exact He.out | exact Hf.out) (by first | exact Ha.out | exact Hb.out | exact Hc.out | exact Hd.out | exact He.out | exact Hf.out) (by first | exact Ha.out | exact Hb.out | exact Hc.out | exact Hd.out | exact He.out | exact Hf.out) (by first | exact Ha.out | exact Hb.out | exact Hc.out | exact Hd.out | exact He.out | exact Hf.out) _).mono ?_; rintro e w' ⟨rfl, rfl⟩) | (go_at_call 21; refine (same_c _ _ _ _ _).mono ?_; rintro e w' ⟨rfl, rfl⟩) | (go_at_call 11; refine (alive_c _).mono ?_; rintro e w' ⟨rfl, n, rfl⟩))
  go_ret
  exact ⟨rfl, by repeat (first | exact HB.out | apply below_drewN)⟩

theorem chain_c (a b c d e f : Nat) (ha : a < 18446744073709551616) (hb : b < 18446744073709551616) (hc : c < 18446744073709551616) (hd : d < 18446744073709551616) (he : e < 18446744073709551616) (hf : f < 18446744073709551616) (w : World) :
    Calls Try.prog 5 #[.agg #[.int .u64 a, .int .u64 b], .agg #[.int .u64 c, .int .u64 d], .agg #[.int .u64 e, .int .u64 f]] w fun e w' => e = .returned (.bool true) ∧ Below w.heap.size w w' := by
  obtain ⟨hz, ⟨h1, h2, h3, h4⟩ | ⟨h1, h2, h3⟩ | ⟨h1, h2, h3, h4⟩⟩ := chain_law a b c d e f ha hb hc hd
  · cases h5 : lessF c d e f
    · exact chain2 a b c d e f ha hb hc hd he hf hz h1 h2 h3 h5 w
    · exact chain1 a b c d e f ha hb hc hd he hf hz h1 h2 h3 h5 (h4 h5) w
  · exact chain3 a b c d e f ha hb hc hd he hf hz h1 h2 h3 w
  · cases h5 : lessF c d e f
    · exact chain4 a b c d e f ha hb hc hd he hf hz h1 h2 h3 (h4.trans h5) h5 w
    · exact chain5 a b c d e f ha hb hc hd he hf hz h1 h2 h3 (h4.trans h5) h5 w

end Go.Proofs.Ytdeinkkljhkaoaa
