import Derived.Test.YtbhjdapkhcgmlaaMsgT
import Derived.Handy
import Derived.Deep.Cut
import Derived.Deep.RegionLaw

set_option linter.unusedSimpArgs false
set_option linter.unusedVariables false
set_option linter.unnecessarySimpa false

namespace Go.Proofs.Ytbhjdapkhcgmlaa
open Go.RowKit

attribute [local go_sem] run_store_complex

/-! msg.Right of any message. -/

def copyIn (k cp : Int) : Bool := if k = 8 then decide (1 ≤ cp ∧ cp ≤ 999) else decide (0 ≤ cp ∧ cp ≤ 15)
/-- The numbers lie in their bounds. -/
def numsIn (k pg ob cp ow : Int) : Bool := decide (k ≤ 8) && (decide (pg ≤ 5) && (decide (ob ≤ 3) && (copyIn k cp && decide (ow ≤ 15))))

theorem rbox {w : World} {b : Nat} {T : TypeId} {v0 v1 v2 v3 v4 v5 v6 v7 v8 v9 v10 v11 : Value} (h : w.heap[b]? = some (.cells #[v0, v1, v2, v3, v4, v5, v6, v7, v8, v9, v10, v11] T (0, 0))) :
    Hid (w.cell? ⟨b, 0, none⟩ = some v0 ∧ w.cell? ⟨b, 1, none⟩ = some v1 ∧ w.cell? ⟨b, 2, none⟩ = some v2 ∧ w.cell? ⟨b, 3, none⟩ = some v3 ∧ w.cell? ⟨b, 4, none⟩ = some v4 ∧ w.cell? ⟨b, 5, none⟩ = some v5 ∧ w.cell? ⟨b, 6, none⟩ = some v6 ∧ w.cell? ⟨b, 7, none⟩ = some v7 ∧ w.cell? ⟨b, 8, none⟩ = some v8 ∧ w.cell? ⟨b, 9, none⟩ = some v9 ∧ w.cell? ⟨b, 10, none⟩ = some v10 ∧ w.cell? ⟨b, 11, none⟩ = some v11) := by
  obtain ⟨y0, y1, y2, y3, y4, y5, y6, y7, y8, y9, y10, y11, -⟩ := row12 h
  exact ⟨y0, y1, y2, y3, y4, y5, y6, y7, y8, y9, y10, y11⟩

set_option maxRecDepth 100000 in
set_option maxHeartbeats 16000000 in
theorem mright_h (k pg ob tx cp ow : Int) (wr : Bool) (A : Option Addr) (n c : Nat) (a0 b0 a1 b1 a2 b2 a3 b3 : Nat) (pg' ob' tx' cp' ow' : Int) (wr' : Bool) (B : Option Addr) (m d : Nat) (c0 d0 c1 d1 c2 d2 c3 d3 : Nat) (r rp : Bool) (w : World)
    (hk : 0 ≤ k) (hpg : 0 ≤ pg) (hob : 0 ≤ ob) (htx : 0 ≤ tx) (htx2 : tx ≤ 16777215) (_hcp : 0 ≤ cp) (how : 0 ≤ ow)
    (hbare : k ≤ 8 → ∀ W, Calls Try.prog 38 #[.agg #[.int .i64 k, .int .i64 pg, .int .i64 ob, .int .i64 tx, .int .i64 cp, .int .i64 ow, .bool wr, .slice A n c, .complex .f64 a0 b0, .complex .f64 a1 b1, .complex .f64 a2 b2, .complex .f64 a3 b3]] W fun e w' => e = .returned (.agg #[.int .i64 k, .int .i64 pg', .int .i64 ob', .int .i64 tx', .int .i64 cp', .int .i64 ow', .bool wr', .slice B m d, .complex .f64 c0 d0, .complex .f64 c1 d1, .complex .f64 c2 d2, .complex .f64 c3 d3]) ∧ Below W.heap.size W w')
    (hq : From w 76 #[.slice A n c, .slice B m d, .func (.func 77) #[] #[]] (.bool r))
    (hp : From w 73 #[.slice A n c] (.bool rp)) :
    From w 16 #[.agg #[.int .i64 k, .int .i64 pg, .int .i64 ob, .int .i64 tx, .int .i64 cp, .int .i64 ow, .bool wr, .slice A n c, .complex .f64 a0 b0, .complex .f64 a1 b1, .complex .f64 a2 b2, .complex .f64 a3 b3]] (.bool (numsIn k pg ob cp ow && ((headsEq pg ob tx cp ow wr pg' ob' tx' cp' ow' wr' && (same4 (a0, b0) (a1, b1) (a2, b2) (a3, b3) (c0, d0) (c1, d1) (c2, d2) (c3, d3) && r)) && rp))) := by
  intro W hW
  replace hq := hq.on hW
  replace hp := hp.on hW
  clear hW
  have h1 := heap_alloc_new W (.cells #[.int .i64 k, .int .i64 pg, .int .i64 ob, .int .i64 tx, .int .i64 cp, .int .i64 ow, .bool wr, .slice A n c, .complex .f64 a0 b0, .complex .f64 a1 b1, .complex .f64 a2 b2, .complex .f64 a3 b3] 30)
  have hb := (Below.refl W.heap.size W).alloc (Nat.le_refl _) (.cells #[.int .i64 k, .int .i64 pg, .int .i64 ob, .int .i64 tx, .int .i64 cp, .int .i64 ow, .bool wr, .slice A n c, .complex .f64 a0 b0, .complex .f64 a1 b1, .complex .f64 a2 b2, .complex .f64 a3 b3] 30)
  have tt : decide ((0 : Int) ≤ tx ∧ tx ≤ 16777215) = true := by simp; omega
  by_cases kc8 : k = 8
  · subst kc8
    have t1 : decide ((0 : Int) ≤ 8 ∧ (8 : Int) ≤ 8) = true := by decide
    by_cases kc2 : pg ≤ 5
    rotate_left
    · have t2 : decide ((0 : Int) ≤ pg ∧ pg ≤ 5) = false := by simp; omega
      by_cases kc4 : (1 : Int) ≤ cp ∧ cp ≤ 999
      rotate_left
      · have t4 : decide ((1 : Int) ≤ cp ∧ cp ≤ 999) = false := decide_eq_false kc4
        have HE : numsIn 8 pg ob cp ow = false := by unfold numsIn; simp [kc2]
        clear hbare hq hp
        go_enter Try.func16, Try.ntmps16
        go_wp2_with fail
        generalize W.alloc (.cells #[.int .i64 8, .int .i64 pg, .int .i64 ob, .int .i64 tx, .int .i64 cp, .int .i64 ow, .bool wr, .slice A n c, .complex .f64 a0 b0, .complex .f64 a1 b1, .complex .f64 a2 b2, .complex .f64 a3 b3] 30) = W0 at *
        obtain ⟨x0, x1, x2, x3, x4, x5, x6, x7, x8, x9, x10, x11, xz⟩ := row12 h1
        have HE2 := Lib.hid HE
        clear HE
        refine (mbetween_c _ _ _ _).mono ?_; rintro e w1 ⟨rfl, rfl⟩
        rw [t1]
        go_wp2_with fail
        refine (mbetween_c _ _ _ _).mono ?_; rintro e w1 ⟨rfl, rfl⟩
        rw [t2]
        go_wp2_with fail
        refine (mbetween_c _ _ _ _).mono ?_; rintro e w1 ⟨rfl, rfl⟩
        rw [t4]
        go_wp2_with fail
        go_quiet (fail)
        go_wp2_with fail
        go_ret
        exact ⟨ret_bool (by rw [HE2.out]; rfl), below_drewN hb _⟩
      have t4 : decide ((1 : Int) ≤ cp ∧ cp ≤ 999) = true := decide_eq_true kc4
      by_cases kc5 : ow ≤ 15
      rotate_left
      · have t5 : decide ((0 : Int) ≤ ow ∧ ow ≤ 15) = false := by simp; omega
        have HE : numsIn 8 pg ob cp ow = false := by unfold numsIn; simp [kc2]
        clear hbare hq hp
        go_enter Try.func16, Try.ntmps16
        go_wp2_with fail
        generalize W.alloc (.cells #[.int .i64 8, .int .i64 pg, .int .i64 ob, .int .i64 tx, .int .i64 cp, .int .i64 ow, .bool wr, .slice A n c, .complex .f64 a0 b0, .complex .f64 a1 b1, .complex .f64 a2 b2, .complex .f64 a3 b3] 30) = W0 at *
        obtain ⟨x0, x1, x2, x3, x4, x5, x6, x7, x8, x9, x10, x11, xz⟩ := row12 h1
        have HE2 := Lib.hid HE
        clear HE
        refine (mbetween_c _ _ _ _).mono ?_; rintro e w1 ⟨rfl, rfl⟩
        rw [t1]
        go_wp2_with fail
        refine (mbetween_c _ _ _ _).mono ?_; rintro e w1 ⟨rfl, rfl⟩
        rw [t2]
        go_wp2_with fail
        refine (mbetween_c _ _ _ _).mono ?_; rintro e w1 ⟨rfl, rfl⟩
        rw [t4]
        go_wp2_with fail
        refine (mbetween_c _ _ _ _).mono ?_; rintro e w1 ⟨rfl, rfl⟩
        rw [t5]
        go_wp2_with fail
        go_quiet (fail)
        go_wp2_with fail
        go_ret
        exact ⟨ret_bool (by rw [HE2.out]; rfl), below_drewN hb _⟩
      have t5 : decide ((0 : Int) ≤ ow ∧ ow ≤ 15) = true := by simp; omega
      have HE : numsIn 8 pg ob cp ow = false := by unfold numsIn; simp [kc2]
      clear hbare hq hp
      go_enter Try.func16, Try.ntmps16
      go_wp2_with fail
      generalize W.alloc (.cells #[.int .i64 8, .int .i64 pg, .int .i64 ob, .int .i64 tx, .int .i64 cp, .int .i64 ow, .bool wr, .slice A n c, .complex .f64 a0 b0, .complex .f64 a1 b1, .complex .f64 a2 b2, .complex .f64 a3 b3] 30) = W0 at *
      obtain ⟨x0, x1, x2, x3, x4, x5, x6, x7, x8, x9, x10, x11, xz⟩ := row12 h1
      have HE2 := Lib.hid HE
      clear HE
      refine (mbetween_c _ _ _ _).mono ?_; rintro e w1 ⟨rfl, rfl⟩
      rw [t1]
      go_wp2_with fail
      refine (mbetween_c _ _ _ _).mono ?_; rintro e w1 ⟨rfl, rfl⟩
      rw [t2]
      go_wp2_with fail
      refine (mbetween_c _ _ _ _).mono ?_; rintro e w1 ⟨rfl, rfl⟩
      rw [t4]
      go_wp2_with fail
      refine (mbetween_c _ _ _ _).mono ?_; rintro e w1 ⟨rfl, rfl⟩
      rw [t5]
      go_wp2_with fail
      go_quiet (fail)
      go_wp2_with fail
      go_ret
      exact ⟨ret_bool (by rw [HE2.out]; rfl), below_drewN hb _⟩
    have t2 : decide ((0 : Int) ≤ pg ∧ pg ≤ 5) = true := by simp; omega
    by_cases kc3 : ob ≤ 3
    rotate_left
    · have t3 : decide ((0 : Int) ≤ ob ∧ ob ≤ 3) = false := by simp; omega
      by_cases kc4 : (1 : Int) ≤ cp ∧ cp ≤ 999
      rotate_left
      · have t4 : decide ((1 : Int) ≤ cp ∧ cp ≤ 999) = false := decide_eq_false kc4
        have HE : numsIn 8 pg ob cp ow = false := by unfold numsIn; simp [kc3]
        clear hbare hq hp
        go_enter Try.func16, Try.ntmps16
        go_wp2_with fail
        generalize W.alloc (.cells #[.int .i64 8, .int .i64 pg, .int .i64 ob, .int .i64 tx, .int .i64 cp, .int .i64 ow, .bool wr, .slice A n c, .complex .f64 a0 b0, .complex .f64 a1 b1, .complex .f64 a2 b2, .complex .f64 a3 b3] 30) = W0 at *
        obtain ⟨x0, x1, x2, x3, x4, x5, x6, x7, x8, x9, x10, x11, xz⟩ := row12 h1
        have HE2 := Lib.hid HE
        clear HE
        refine (mbetween_c _ _ _ _).mono ?_; rintro e w1 ⟨rfl, rfl⟩
        rw [t1]
        go_wp2_with fail
        refine (mbetween_c _ _ _ _).mono ?_; rintro e w1 ⟨rfl, rfl⟩
        rw [t2]
        go_wp2_with fail
        refine (mbetween_c _ _ _ _).mono ?_; rintro e w1 ⟨rfl, rfl⟩
        rw [t3]
        go_wp2_with fail
        refine (mbetween_c _ _ _ _).mono ?_; rintro e w1 ⟨rfl, rfl⟩
        rw [t4]
        go_wp2_with fail
        go_quiet (fail)
        go_wp2_with fail
        go_ret
        exact ⟨ret_bool (by rw [HE2.out]; rfl), below_drewN hb _⟩
      have t4 : decide ((1 : Int) ≤ cp ∧ cp ≤ 999) = true := decide_eq_true kc4
      by_cases kc5 : ow ≤ 15
      rotate_left
      · have t5 : decide ((0 : Int) ≤ ow ∧ ow ≤ 15) = false := by simp; omega
        have HE : numsIn 8 pg ob cp ow = false := by unfold numsIn; simp [kc3]
        clear hbare hq hp
        go_enter Try.func16, Try.ntmps16
        go_wp2_with fail
        generalize W.alloc (.cells #[.int .i64 8, .int .i64 pg, .int .i64 ob, .int .i64 tx, .int .i64 cp, .int .i64 ow, .bool wr, .slice A n c, .complex .f64 a0 b0, .complex .f64 a1 b1, .complex .f64 a2 b2, .complex .f64 a3 b3] 30) = W0 at *
        obtain ⟨x0, x1, x2, x3, x4, x5, x6, x7, x8, x9, x10, x11, xz⟩ := row12 h1
        have HE2 := Lib.hid HE
        clear HE
        refine (mbetween_c _ _ _ _).mono ?_; rintro e w1 ⟨rfl, rfl⟩
        rw [t1]
        go_wp2_with fail
        refine (mbetween_c _ _ _ _).mono ?_; rintro e w1 ⟨rfl, rfl⟩
        rw [t2]
        go_wp2_with fail
        refine (mbetween_c _ _ _ _).mono ?_; rintro e w1 ⟨rfl, rfl⟩
        rw [t3]
        go_wp2_with fail
        refine (mbetween_c _ _ _ _).mono ?_; rintro e w1 ⟨rfl, rfl⟩
        rw [t4]
        go_wp2_with fail
        refine (mbetween_c _ _ _ _).mono ?_; rintro e w1 ⟨rfl, rfl⟩
        rw [t5]
        go_wp2_with fail
        go_quiet (fail)
        go_wp2_with fail
        go_ret
        exact ⟨ret_bool (by rw [HE2.out]; rfl), below_drewN hb _⟩
      have t5 : decide ((0 : Int) ≤ ow ∧ ow ≤ 15) = true := by simp; omega
      have HE : numsIn 8 pg ob cp ow = false := by unfold numsIn; simp [kc3]
      clear hbare hq hp
      go_enter Try.func16, Try.ntmps16
      go_wp2_with fail
      generalize W.alloc (.cells #[.int .i64 8, .int .i64 pg, .int .i64 ob, .int .i64 tx, .int .i64 cp, .int .i64 ow, .bool wr, .slice A n c, .complex .f64 a0 b0, .complex .f64 a1 b1, .complex .f64 a2 b2, .complex .f64 a3 b3] 30) = W0 at *
      obtain ⟨x0, x1, x2, x3, x4, x5, x6, x7, x8, x9, x10, x11, xz⟩ := row12 h1
      have HE2 := Lib.hid HE
      clear HE
      refine (mbetween_c _ _ _ _).mono ?_; rintro e w1 ⟨rfl, rfl⟩
      rw [t1]
      go_wp2_with fail
      refine (mbetween_c _ _ _ _).mono ?_; rintro e w1 ⟨rfl, rfl⟩
      rw [t2]
      go_wp2_with fail
      refine (mbetween_c _ _ _ _).mono ?_; rintro e w1 ⟨rfl, rfl⟩
      rw [t3]
      go_wp2_with fail
      refine (mbetween_c _ _ _ _).mono ?_; rintro e w1 ⟨rfl, rfl⟩
      rw [t4]
      go_wp2_with fail
      refine (mbetween_c _ _ _ _).mono ?_; rintro e w1 ⟨rfl, rfl⟩
      rw [t5]
      go_wp2_with fail
      go_quiet (fail)
      go_wp2_with fail
      go_ret
      exact ⟨ret_bool (by rw [HE2.out]; rfl), below_drewN hb _⟩
    have t3 : decide ((0 : Int) ≤ ob ∧ ob ≤ 3) = true := by simp; omega
    by_cases kc4 : (1 : Int) ≤ cp ∧ cp ≤ 999
    rotate_left
    · have t4 : decide ((1 : Int) ≤ cp ∧ cp ≤ 999) = false := decide_eq_false kc4
      have HE : numsIn 8 pg ob cp ow = false := by unfold numsIn copyIn; rw [if_pos rfl, t4]; simp
      clear hbare hq hp
      go_enter Try.func16, Try.ntmps16
      go_wp2_with fail
      generalize W.alloc (.cells #[.int .i64 8, .int .i64 pg, .int .i64 ob, .int .i64 tx, .int .i64 cp, .int .i64 ow, .bool wr, .slice A n c, .complex .f64 a0 b0, .complex .f64 a1 b1, .complex .f64 a2 b2, .complex .f64 a3 b3] 30) = W0 at *
      obtain ⟨x0, x1, x2, x3, x4, x5, x6, x7, x8, x9, x10, x11, xz⟩ := row12 h1
      have HE2 := Lib.hid HE
      clear HE
      refine (mbetween_c _ _ _ _).mono ?_; rintro e w1 ⟨rfl, rfl⟩
      rw [t1]
      go_wp2_with fail
      refine (mbetween_c _ _ _ _).mono ?_; rintro e w1 ⟨rfl, rfl⟩
      rw [t2]
      go_wp2_with fail
      refine (mbetween_c _ _ _ _).mono ?_; rintro e w1 ⟨rfl, rfl⟩
      rw [t3]
      go_wp2_with fail
      refine (mbetween_c _ _ _ _).mono ?_; rintro e w1 ⟨rfl, rfl⟩
      rw [tt]
      go_wp2_with fail
      refine (mbetween_c _ _ _ _).mono ?_; rintro e w1 ⟨rfl, rfl⟩
      rw [t4]
      go_wp2_with fail
      go_quiet (fail)
      go_wp2_with fail
      go_ret
      exact ⟨ret_bool (by rw [HE2.out]; rfl), below_drewN hb _⟩
    have t4 : decide ((1 : Int) ≤ cp ∧ cp ≤ 999) = true := decide_eq_true kc4
    by_cases kc5 : ow ≤ 15
    rotate_left
    · have t5 : decide ((0 : Int) ≤ ow ∧ ow ≤ 15) = false := by simp; omega
      have HE : numsIn 8 pg ob cp ow = false := by unfold numsIn; simp [kc5]
      clear hbare hq hp
      go_enter Try.func16, Try.ntmps16
      go_wp2_with fail
      generalize W.alloc (.cells #[.int .i64 8, .int .i64 pg, .int .i64 ob, .int .i64 tx, .int .i64 cp, .int .i64 ow, .bool wr, .slice A n c, .complex .f64 a0 b0, .complex .f64 a1 b1, .complex .f64 a2 b2, .complex .f64 a3 b3] 30) = W0 at *
      obtain ⟨x0, x1, x2, x3, x4, x5, x6, x7, x8, x9, x10, x11, xz⟩ := row12 h1
      have HE2 := Lib.hid HE
      clear HE
      refine (mbetween_c _ _ _ _).mono ?_; rintro e w1 ⟨rfl, rfl⟩
      rw [t1]
      go_wp2_with fail
      refine (mbetween_c _ _ _ _).mono ?_; rintro e w1 ⟨rfl, rfl⟩
      rw [t2]
      go_wp2_with fail
      refine (mbetween_c _ _ _ _).mono ?_; rintro e w1 ⟨rfl, rfl⟩
      rw [t3]
      go_wp2_with fail
      refine (mbetween_c _ _ _ _).mono ?_; rintro e w1 ⟨rfl, rfl⟩
      rw [tt]
      go_wp2_with fail
      refine (mbetween_c _ _ _ _).mono ?_; rintro e w1 ⟨rfl, rfl⟩
      rw [t4]
      go_wp2_with fail
      refine (mbetween_c _ _ _ _).mono ?_; rintro e w1 ⟨rfl, rfl⟩
      rw [t5]
      go_wp2_with fail
      go_quiet (fail)
      go_wp2_with fail
      go_ret
      exact ⟨ret_bool (by rw [HE2.out]; rfl), below_drewN hb _⟩
    have t5 : decide ((0 : Int) ≤ ow ∧ ow ≤ 15) = true := by simp; omega
    have HE : numsIn 8 pg ob cp ow = true := by unfold numsIn copyIn; rw [if_pos rfl, t4]; simp; omega
    have BARE := Lib.hid (hbare (by omega))
    have hsame := msame_h 8 pg ob tx cp ow wr A n c a0 b0 a1 b1 a2 b2 a3 b3 pg' ob' tx' cp' ow' wr' B m d c0 d0 c1 d1 c2 d2 c3 d3 r W hq
    generalize (headsEq pg ob tx cp ow wr pg' ob' tx' cp' ow' wr' && (same4 (a0, b0) (a1, b1) (a2, b2) (a3, b3) (c0, d0) (c1, d1) (c2, d2) (c3, d3) && r)) = s at *
    have SAME := Lib.hid hsame
    have WRIGHT := Lib.hid (wright_h A n c rp W hp)
    have HE2 := Lib.hid HE
    clear hbare hq hp hsame HE
    go_enter Try.func16, Try.ntmps16
    go_wp2_with fail
    generalize W.alloc (.cells #[.int .i64 8, .int .i64 pg, .int .i64 ob, .int .i64 tx, .int .i64 cp, .int .i64 ow, .bool wr, .slice A n c, .complex .f64 a0 b0, .complex .f64 a1 b1, .complex .f64 a2 b2, .complex .f64 a3 b3] 30) = W0 at *
    obtain ⟨x0, x1, x2, x3, x4, x5, x6, x7, x8, x9, x10, x11, xz⟩ := row12 h1
    refine (mbetween_c _ _ _ _).mono ?_; rintro e w1 ⟨rfl, rfl⟩
    rw [t1]
    go_wp2_with fail
    refine (mbetween_c _ _ _ _).mono ?_; rintro e w1 ⟨rfl, rfl⟩
    rw [t2]
    go_wp2_with fail
    refine (mbetween_c _ _ _ _).mono ?_; rintro e w1 ⟨rfl, rfl⟩
    rw [t3]
    go_wp2_with fail
    refine (mbetween_c _ _ _ _).mono ?_; rintro e w1 ⟨rfl, rfl⟩
    rw [tt]
    go_wp2_with fail
    refine (mbetween_c _ _ _ _).mono ?_; rintro e w1 ⟨rfl, rfl⟩
    rw [t4]
    go_wp2_with fail
    refine (mbetween_c _ _ _ _).mono ?_; rintro e w1 ⟨rfl, rfl⟩
    rw [t5]
    have HR0 := Lib.hid (row_drewI h1)
    have HB0 := Lib.hid hb.drew
    have HBOX : Hid True := trivial
    clear h1 hb
    clear t1 t2 t3 tt t4 t5 kc2 kc3 kc4 kc5 hpg hob htx htx2 how hk
    cases s
    · go_wp2_with fail
      clear HBOX
      first
        | (go_region_law (first
            | (go_simp; go_at_call 38; refine (BARE.out _).mono ?_; rintro e w1 ⟨rfl, hb1⟩; have HR1 := Lib.hid ((hb1.block W.heap.size (lt_of_row (Nat.le_refl _) HR0.out)).trans HR0.out); have HB1 := Lib.hid (HB0.out.trans (hb1.mono HB0.out.size)); obtain ⟨y0, y1, y2, y3, y4, y5, y6, y7, y8, y9, y10, y11, yz⟩ := row12 HR1.out; clear hb1)
            | (go_simp; go_at_call 22; refine (SAME.out _ HB1.out).mono ?_; rintro e w2 ⟨rfl, hb2⟩; have HR2 := Lib.hid ((hb2.block W.heap.size (lt_of_row (Nat.le_refl _) HR1.out)).trans HR1.out); have HB2 := Lib.hid (HB1.out.trans (hb2.mono HB1.out.size)); skip; clear hb2)
            ))
        | fail
      all_goals
        go_wp2_with fail
        go_ret
        exact ⟨ret_bool (by rw [HE2.out]; rfl), HB2.out⟩
    · go_wp2_with fail
      first
        | (go_region_held_law (fun W' => W'.cell? ⟨W.heap.size, 0, none⟩ = some (.int .i64 8) ∧ W'.cell? ⟨W.heap.size, 1, none⟩ = some (.int .i64 pg) ∧ W'.cell? ⟨W.heap.size, 2, none⟩ = some (.int .i64 ob) ∧ W'.cell? ⟨W.heap.size, 3, none⟩ = some (.int .i64 tx) ∧ W'.cell? ⟨W.heap.size, 4, none⟩ = some (.int .i64 cp) ∧ W'.cell? ⟨W.heap.size, 5, none⟩ = some (.int .i64 ow) ∧ W'.cell? ⟨W.heap.size, 6, none⟩ = some (.bool wr) ∧ W'.cell? ⟨W.heap.size, 7, none⟩ = some (.slice A n c) ∧ W'.cell? ⟨W.heap.size, 8, none⟩ = some (.complex .f64 a0 b0) ∧ W'.cell? ⟨W.heap.size, 9, none⟩ = some (.complex .f64 a1 b1) ∧ W'.cell? ⟨W.heap.size, 10, none⟩ = some (.complex .f64 a2 b2) ∧ W'.cell? ⟨W.heap.size, 11, none⟩ = some (.complex .f64 a3 b3)) (first | go_keep | exact HBOX.out)
            (first
              | (go_at_call 38; clear HBOX; refine (BARE.out _).mono ?_; rintro e w1 ⟨rfl, hb1⟩; have HR1 := Lib.hid ((hb1.block W.heap.size (lt_of_row (Nat.le_refl _) HR0.out)).trans HR0.out); have HB1 := Lib.hid (HB0.out.trans (hb1.mono HB0.out.size)); have HBOX := rbox HR1.out; clear hb1)
              | (go_at_call 22; clear HBOX; refine (SAME.out _ HB1.out).mono ?_; rintro e w2 ⟨rfl, hb2⟩; have HR2 := Lib.hid ((hb2.block W.heap.size (lt_of_row (Nat.le_refl _) HR1.out)).trans HR1.out); have HB2 := Lib.hid (HB1.out.trans (hb2.mono HB1.out.size)); have HBOX := rbox HR2.out; clear hb2)
              | (go_at_call 39; clear HBOX; refine (WRIGHT.out _ HB2.out).mono ?_; rintro e w3 ⟨rfl, hb3⟩; have HR3 := Lib.hid ((hb3.block W.heap.size (lt_of_row (Nat.le_refl _) HR2.out)).trans HR2.out); have HB3 := Lib.hid (HB2.out.trans (hb3.mono HB2.out.size)); have HBOX := rbox HR3.out; clear hb3)
            ))
        | fail
      all_goals
        go_wp2_with fail
        go_ret
        exact ⟨ret_bool (by rw [HE2.out]; simp), HB3.out⟩
  · have f8 : ((k : Int) == 8) = false := by simp; omega
    by_cases kc1 : k ≤ 8
    rotate_left
    · have t1 : decide ((0 : Int) ≤ k ∧ k ≤ 8) = false := by simp; omega
      by_cases kc4 : (0 : Int) ≤ cp ∧ cp ≤ 15
      rotate_left
      · have t4 : decide ((0 : Int) ≤ cp ∧ cp ≤ 15) = false := decide_eq_false kc4
        have HE : numsIn k pg ob cp ow = false := by unfold numsIn; simp [kc1]
        clear hbare hq hp
        go_enter Try.func16, Try.ntmps16
        go_wp2_with fail
        generalize W.alloc (.cells #[.int .i64 k, .int .i64 pg, .int .i64 ob, .int .i64 tx, .int .i64 cp, .int .i64 ow, .bool wr, .slice A n c, .complex .f64 a0 b0, .complex .f64 a1 b1, .complex .f64 a2 b2, .complex .f64 a3 b3] 30) = W0 at *
        obtain ⟨x0, x1, x2, x3, x4, x5, x6, x7, x8, x9, x10, x11, xz⟩ := row12 h1
        have HE2 := Lib.hid HE
        clear HE
        refine (mbetween_c _ _ _ _).mono ?_; rintro e w1 ⟨rfl, rfl⟩
        rw [t1]
        go_wp2_with fail
        refine (mbetween_c _ _ _ _).mono ?_; rintro e w1 ⟨rfl, rfl⟩
        rw [t4]
        go_wp2_with fail
        go_quiet (fail)
        go_wp2_with fail
        go_ret
        exact ⟨ret_bool (by rw [HE2.out]; rfl), below_drewN hb _⟩
      have t4 : decide ((0 : Int) ≤ cp ∧ cp ≤ 15) = true := decide_eq_true kc4
      by_cases kc5 : ow ≤ 15
      rotate_left
      · have t5 : decide ((0 : Int) ≤ ow ∧ ow ≤ 15) = false := by simp; omega
        have HE : numsIn k pg ob cp ow = false := by unfold numsIn; simp [kc1]
        clear hbare hq hp
        go_enter Try.func16, Try.ntmps16
        go_wp2_with fail
        generalize W.alloc (.cells #[.int .i64 k, .int .i64 pg, .int .i64 ob, .int .i64 tx, .int .i64 cp, .int .i64 ow, .bool wr, .slice A n c, .complex .f64 a0 b0, .complex .f64 a1 b1, .complex .f64 a2 b2, .complex .f64 a3 b3] 30) = W0 at *
        obtain ⟨x0, x1, x2, x3, x4, x5, x6, x7, x8, x9, x10, x11, xz⟩ := row12 h1
        have HE2 := Lib.hid HE
        clear HE
        refine (mbetween_c _ _ _ _).mono ?_; rintro e w1 ⟨rfl, rfl⟩
        rw [t1]
        go_wp2_with fail
        refine (mbetween_c _ _ _ _).mono ?_; rintro e w1 ⟨rfl, rfl⟩
        rw [t4]
        go_wp2_with fail
        refine (mbetween_c _ _ _ _).mono ?_; rintro e w1 ⟨rfl, rfl⟩
        rw [t5]
        go_wp2_with fail
        go_quiet (fail)
        go_wp2_with fail
        go_ret
        exact ⟨ret_bool (by rw [HE2.out]; rfl), below_drewN hb _⟩
      have t5 : decide ((0 : Int) ≤ ow ∧ ow ≤ 15) = true := by simp; omega
      have HE : numsIn k pg ob cp ow = false := by unfold numsIn; simp [kc1]
      clear hbare hq hp
      go_enter Try.func16, Try.ntmps16
      go_wp2_with fail
      generalize W.alloc (.cells #[.int .i64 k, .int .i64 pg, .int .i64 ob, .int .i64 tx, .int .i64 cp, .int .i64 ow, .bool wr, .slice A n c, .complex .f64 a0 b0, .complex .f64 a1 b1, .complex .f64 a2 b2, .complex .f64 a3 b3] 30) = W0 at *
      obtain ⟨x0, x1, x2, x3, x4, x5, x6, x7, x8, x9, x10, x11, xz⟩ := row12 h1
      have HE2 := Lib.hid HE
      clear HE
      refine (mbetween_c _ _ _ _).mono ?_; rintro e w1 ⟨rfl, rfl⟩
      rw [t1]
      go_wp2_with fail
      refine (mbetween_c _ _ _ _).mono ?_; rintro e w1 ⟨rfl, rfl⟩
      rw [t4]
      go_wp2_with fail
      refine (mbetween_c _ _ _ _).mono ?_; rintro e w1 ⟨rfl, rfl⟩
      rw [t5]
      go_wp2_with fail
      go_quiet (fail)
      go_wp2_with fail
      go_ret
      exact ⟨ret_bool (by rw [HE2.out]; rfl), below_drewN hb _⟩
    have t1 : decide ((0 : Int) ≤ k ∧ k ≤ 8) = true := by simp; omega
    by_cases kc2 : pg ≤ 5
    rotate_left
    · have t2 : decide ((0 : Int) ≤ pg ∧ pg ≤ 5) = false := by simp; omega
      by_cases kc4 : (0 : Int) ≤ cp ∧ cp ≤ 15
      rotate_left
      · have t4 : decide ((0 : Int) ≤ cp ∧ cp ≤ 15) = false := decide_eq_false kc4
        have HE : numsIn k pg ob cp ow = false := by unfold numsIn; simp [kc2]
        clear hbare hq hp
        go_enter Try.func16, Try.ntmps16
        go_wp2_with fail
        generalize W.alloc (.cells #[.int .i64 k, .int .i64 pg, .int .i64 ob, .int .i64 tx, .int .i64 cp, .int .i64 ow, .bool wr, .slice A n c, .complex .f64 a0 b0, .complex .f64 a1 b1, .complex .f64 a2 b2, .complex .f64 a3 b3] 30) = W0 at *
        obtain ⟨x0, x1, x2, x3, x4, x5, x6, x7, x8, x9, x10, x11, xz⟩ := row12 h1
        have HE2 := Lib.hid HE
        clear HE
        refine (mbetween_c _ _ _ _).mono ?_; rintro e w1 ⟨rfl, rfl⟩
        rw [t1]
        go_wp2_with fail
        refine (mbetween_c _ _ _ _).mono ?_; rintro e w1 ⟨rfl, rfl⟩
        rw [t2]
        go_wp2_with fail
        refine (mbetween_c _ _ _ _).mono ?_; rintro e w1 ⟨rfl, rfl⟩
        rw [t4]
        go_wp2_with fail
        go_quiet (fail)
        go_wp2_with fail
        go_ret
        exact ⟨ret_bool (by rw [HE2.out]; rfl), below_drewN hb _⟩
      have t4 : decide ((0 : Int) ≤ cp ∧ cp ≤ 15) = true := decide_eq_true kc4
      by_cases kc5 : ow ≤ 15
      rotate_left
      · have t5 : decide ((0 : Int) ≤ ow ∧ ow ≤ 15) = false := by simp; omega
        have HE : numsIn k pg ob cp ow = false := by unfold numsIn; simp [kc2]
        clear hbare hq hp
        go_enter Try.func16, Try.ntmps16
        go_wp2_with fail
        generalize W.alloc (.cells #[.int .i64 k, .int .i64 pg, .int .i64 ob, .int .i64 tx, .int .i64 cp, .int .i64 ow, .bool wr, .slice A n c, .complex .f64 a0 b0, .complex .f64 a1 b1, .complex .f64 a2 b2, .complex .f64 a3 b3] 30) = W0 at *
        obtain ⟨x0, x1, x2, x3, x4, x5, x6, x7, x8, x9, x10, x11, xz⟩ := row12 h1
        have HE2 := Lib.hid HE
        clear HE
        refine (mbetween_c _ _ _ _).mono ?_; rintro e w1 ⟨rfl, rfl⟩
        rw [t1]
        go_wp2_with fail
        refine (mbetween_c _ _ _ _).mono ?_; rintro e w1 ⟨rfl, rfl⟩
        rw [t2]
        go_wp2_with fail
        refine (mbetween_c _ _ _ _).mono ?_; rintro e w1 ⟨rfl, rfl⟩
        rw [t4]
        go_wp2_with fail
        refine (mbetween_c _ _ _ _).mono ?_; rintro e w1 ⟨rfl, rfl⟩
        rw [t5]
        go_wp2_with fail
        go_quiet (fail)
        go_wp2_with fail
        go_ret
        exact ⟨ret_bool (by rw [HE2.out]; rfl), below_drewN hb _⟩
      have t5 : decide ((0 : Int) ≤ ow ∧ ow ≤ 15) = true := by simp; omega
      have HE : numsIn k pg ob cp ow = false := by unfold numsIn; simp [kc2]
      clear hbare hq hp
      go_enter Try.func16, Try.ntmps16
      go_wp2_with fail
      generalize W.alloc (.cells #[.int .i64 k, .int .i64 pg, .int .i64 ob, .int .i64 tx, .int .i64 cp, .int .i64 ow, .bool wr, .slice A n c, .complex .f64 a0 b0, .complex .f64 a1 b1, .complex .f64 a2 b2, .complex .f64 a3 b3] 30) = W0 at *
      obtain ⟨x0, x1, x2, x3, x4, x5, x6, x7, x8, x9, x10, x11, xz⟩ := row12 h1
      have HE2 := Lib.hid HE
      clear HE
      refine (mbetween_c _ _ _ _).mono ?_; rintro e w1 ⟨rfl, rfl⟩
      rw [t1]
      go_wp2_with fail
      refine (mbetween_c _ _ _ _).mono ?_; rintro e w1 ⟨rfl, rfl⟩
      rw [t2]
      go_wp2_with fail
      refine (mbetween_c _ _ _ _).mono ?_; rintro e w1 ⟨rfl, rfl⟩
      rw [t4]
      go_wp2_with fail
      refine (mbetween_c _ _ _ _).mono ?_; rintro e w1 ⟨rfl, rfl⟩
      rw [t5]
      go_wp2_with fail
      go_quiet (fail)
      go_wp2_with fail
      go_ret
      exact ⟨ret_bool (by rw [HE2.out]; rfl), below_drewN hb _⟩
    have t2 : decide ((0 : Int) ≤ pg ∧ pg ≤ 5) = true := by simp; omega
    by_cases kc3 : ob ≤ 3
    rotate_left
    · have t3 : decide ((0 : Int) ≤ ob ∧ ob ≤ 3) = false := by simp; omega
      by_cases kc4 : (0 : Int) ≤ cp ∧ cp ≤ 15
      rotate_left
      · have t4 : decide ((0 : Int) ≤ cp ∧ cp ≤ 15) = false := decide_eq_false kc4
        have HE : numsIn k pg ob cp ow = false := by unfold numsIn; simp [kc3]
        clear hbare hq hp
        go_enter Try.func16, Try.ntmps16
        go_wp2_with fail
        generalize W.alloc (.cells #[.int .i64 k, .int .i64 pg, .int .i64 ob, .int .i64 tx, .int .i64 cp, .int .i64 ow, .bool wr, .slice A n c, .complex .f64 a0 b0, .complex .f64 a1 b1, .complex .f64 a2 b2, .complex .f64 a3 b3] 30) = W0 at *
        obtain ⟨x0, x1, x2, x3, x4, x5, x6, x7, x8, x9, x10, x11, xz⟩ := row12 h1
        have HE2 := Lib.hid HE
        clear HE
        refine (mbetween_c _ _ _ _).mono ?_; rintro e w1 ⟨rfl, rfl⟩
        rw [t1]
        go_wp2_with fail
        refine (mbetween_c _ _ _ _).mono ?_; rintro e w1 ⟨rfl, rfl⟩
        rw [t2]
        go_wp2_with fail
        refine (mbetween_c _ _ _ _).mono ?_; rintro e w1 ⟨rfl, rfl⟩
        rw [t3]
        go_wp2_with fail
        refine (mbetween_c _ _ _ _).mono ?_; rintro e w1 ⟨rfl, rfl⟩
        rw [t4]
        go_wp2_with fail
        go_quiet (fail)
        go_wp2_with fail
        go_ret
        exact ⟨ret_bool (by rw [HE2.out]; rfl), below_drewN hb _⟩
      have t4 : decide ((0 : Int) ≤ cp ∧ cp ≤ 15) = true := decide_eq_true kc4
      by_cases kc5 : ow ≤ 15
      rotate_left
      · have t5 : decide ((0 : Int) ≤ ow ∧ ow ≤ 15) = false := by simp; omega
        have HE : numsIn k pg ob cp ow = false := by unfold numsIn; simp [kc3]
        clear hbare hq hp
        go_enter Try.func16, Try.ntmps16
        go_wp2_with fail
        generalize W.alloc (.cells #[.int .i64 k, .int .i64 pg, .int .i64 ob, .int .i64 tx, .int .i64 cp, .int .i64 ow, .bool wr, .slice A n c, .complex .f64 a0 b0, .complex .f64 a1 b1, .complex .f64 a2 b2, .complex .f64 a3 b3] 30) = W0 at *
        obtain ⟨x0, x1, x2, x3, x4, x5, x6, x7, x8, x9, x10, x11, xz⟩ := row12 h1
        have HE2 := Lib.hid HE
        clear HE
        refine (mbetween_c _ _ _ _).mono ?_; rintro e w1 ⟨rfl, rfl⟩
        rw [t1]
        go_wp2_with fail
        refine (mbetween_c _ _ _ _).mono ?_; rintro e w1 ⟨rfl, rfl⟩
        rw [t2]
        go_wp2_with fail
        refine (mbetween_c _ _ _ _).mono ?_; rintro e w1 ⟨rfl, rfl⟩
        rw [t3]
        go_wp2_with fail
        refine (mbetween_c _ _ _ _).mono ?_; rintro e w1 ⟨rfl, rfl⟩
        rw [t4]
        go_wp2_with fail
        refine (mbetween_c _ _ _ _).mono ?_; rintro e w1 ⟨rfl, rfl⟩
        rw [t5]
        go_wp2_with fail
        go_quiet (fail)
        go_wp2_with fail
        go_ret
        exact ⟨ret_bool (by rw [HE2.out]; rfl), below_drewN hb _⟩
      have t5 : decide ((0 : Int) ≤ ow ∧ ow ≤ 15) = true := by simp; omega
      have HE : numsIn k pg ob cp ow = false := by unfold numsIn; simp [kc3]
      clear hbare hq hp
      go_enter Try.func16, Try.ntmps16
      go_wp2_with fail
      generalize W.alloc (.cells #[.int .i64 k, .int .i64 pg, .int .i64 ob, .int .i64 tx, .int .i64 cp, .int .i64 ow, .bool wr, .slice A n c, .complex .f64 a0 b0, .complex .f64 a1 b1, .complex .f64 a2 b2, .complex .f64 a3 b3] 30) = W0 at *
      obtain ⟨x0, x1, x2, x3, x4, x5, x6, x7, x8, x9, x10, x11, xz⟩ := row12 h1
      have HE2 := Lib.hid HE
      clear HE
      refine (mbetween_c _ _ _ _).mono ?_; rintro e w1 ⟨rfl, rfl⟩
      rw [t1]
      go_wp2_with fail
      refine (mbetween_c _ _ _ _).mono ?_; rintro e w1 ⟨rfl, rfl⟩
      rw [t2]
      go_wp2_with fail
      refine (mbetween_c _ _ _ _).mono ?_; rintro e w1 ⟨rfl, rfl⟩
      rw [t3]
      go_wp2_with fail
      refine (mbetween_c _ _ _ _).mono ?_; rintro e w1 ⟨rfl, rfl⟩
      rw [t4]
      go_wp2_with fail
      refine (mbetween_c _ _ _ _).mono ?_; rintro e w1 ⟨rfl, rfl⟩
      rw [t5]
      go_wp2_with fail
      go_quiet (fail)
      go_wp2_with fail
      go_ret
      exact ⟨ret_bool (by rw [HE2.out]; rfl), below_drewN hb _⟩
    have t3 : decide ((0 : Int) ≤ ob ∧ ob ≤ 3) = true := by simp; omega
    by_cases kc4 : (0 : Int) ≤ cp ∧ cp ≤ 15
    rotate_left
    · have t4 : decide ((0 : Int) ≤ cp ∧ cp ≤ 15) = false := decide_eq_false kc4
      have HE : numsIn k pg ob cp ow = false := by unfold numsIn copyIn; rw [if_neg kc8, t4]; simp
      clear hbare hq hp
      go_enter Try.func16, Try.ntmps16
      go_wp2_with fail
      generalize W.alloc (.cells #[.int .i64 k, .int .i64 pg, .int .i64 ob, .int .i64 tx, .int .i64 cp, .int .i64 ow, .bool wr, .slice A n c, .complex .f64 a0 b0, .complex .f64 a1 b1, .complex .f64 a2 b2, .complex .f64 a3 b3] 30) = W0 at *
      obtain ⟨x0, x1, x2, x3, x4, x5, x6, x7, x8, x9, x10, x11, xz⟩ := row12 h1
      have HE2 := Lib.hid HE
      clear HE
      refine (mbetween_c _ _ _ _).mono ?_; rintro e w1 ⟨rfl, rfl⟩
      rw [t1]
      go_wp2_with fail
      refine (mbetween_c _ _ _ _).mono ?_; rintro e w1 ⟨rfl, rfl⟩
      rw [t2]
      go_wp2_with fail
      refine (mbetween_c _ _ _ _).mono ?_; rintro e w1 ⟨rfl, rfl⟩
      rw [t3]
      go_wp2_with fail
      refine (mbetween_c _ _ _ _).mono ?_; rintro e w1 ⟨rfl, rfl⟩
      rw [tt]
      go_wp2_with fail
      refine (mbetween_c _ _ _ _).mono ?_; rintro e w1 ⟨rfl, rfl⟩
      rw [t4]
      go_wp2_with fail
      go_quiet (fail)
      go_wp2_with fail
      go_ret
      exact ⟨ret_bool (by rw [HE2.out]; rfl), below_drewN hb _⟩
    have t4 : decide ((0 : Int) ≤ cp ∧ cp ≤ 15) = true := decide_eq_true kc4
    by_cases kc5 : ow ≤ 15
    rotate_left
    · have t5 : decide ((0 : Int) ≤ ow ∧ ow ≤ 15) = false := by simp; omega
      have HE : numsIn k pg ob cp ow = false := by unfold numsIn; simp [kc5]
      clear hbare hq hp
      go_enter Try.func16, Try.ntmps16
      go_wp2_with fail
      generalize W.alloc (.cells #[.int .i64 k, .int .i64 pg, .int .i64 ob, .int .i64 tx, .int .i64 cp, .int .i64 ow, .bool wr, .slice A n c, .complex .f64 a0 b0, .complex .f64 a1 b1, .complex .f64 a2 b2, .complex .f64 a3 b3] 30) = W0 at *
      obtain ⟨x0, x1, x2, x3, x4, x5, x6, x7, x8, x9, x10, x11, xz⟩ := row12 h1
      have HE2 := Lib.hid HE
      clear HE
      refine (mbetween_c _ _ _ _).mono ?_; rintro e w1 ⟨rfl, rfl⟩
      rw [t1]
      go_wp2_with fail
      refine (mbetween_c _ _ _ _).mono ?_; rintro e w1 ⟨rfl, rfl⟩
      rw [t2]
      go_wp2_with fail
      refine (mbetween_c _ _ _ _).mono ?_; rintro e w1 ⟨rfl, rfl⟩
      rw [t3]
      go_wp2_with fail
      refine (mbetween_c _ _ _ _).mono ?_; rintro e w1 ⟨rfl, rfl⟩
      rw [tt]
      go_wp2_with fail
      refine (mbetween_c _ _ _ _).mono ?_; rintro e w1 ⟨rfl, rfl⟩
      rw [t4]
      go_wp2_with fail
      refine (mbetween_c _ _ _ _).mono ?_; rintro e w1 ⟨rfl, rfl⟩
      rw [t5]
      go_wp2_with fail
      go_quiet (fail)
      go_wp2_with fail
      go_ret
      exact ⟨ret_bool (by rw [HE2.out]; rfl), below_drewN hb _⟩
    have t5 : decide ((0 : Int) ≤ ow ∧ ow ≤ 15) = true := by simp; omega
    have HE : numsIn k pg ob cp ow = true := by unfold numsIn copyIn; rw [if_neg kc8, t4]; simp; omega
    have BARE := Lib.hid (hbare (by omega))
    have hsame := msame_h k pg ob tx cp ow wr A n c a0 b0 a1 b1 a2 b2 a3 b3 pg' ob' tx' cp' ow' wr' B m d c0 d0 c1 d1 c2 d2 c3 d3 r W hq
    generalize (headsEq pg ob tx cp ow wr pg' ob' tx' cp' ow' wr' && (same4 (a0, b0) (a1, b1) (a2, b2) (a3, b3) (c0, d0) (c1, d1) (c2, d2) (c3, d3) && r)) = s at *
    have SAME := Lib.hid hsame
    have WRIGHT := Lib.hid (wright_h A n c rp W hp)
    have HE2 := Lib.hid HE
    clear hbare hq hp hsame HE
    go_enter Try.func16, Try.ntmps16
    go_wp2_with fail
    generalize W.alloc (.cells #[.int .i64 k, .int .i64 pg, .int .i64 ob, .int .i64 tx, .int .i64 cp, .int .i64 ow, .bool wr, .slice A n c, .complex .f64 a0 b0, .complex .f64 a1 b1, .complex .f64 a2 b2, .complex .f64 a3 b3] 30) = W0 at *
    obtain ⟨x0, x1, x2, x3, x4, x5, x6, x7, x8, x9, x10, x11, xz⟩ := row12 h1
    refine (mbetween_c _ _ _ _).mono ?_; rintro e w1 ⟨rfl, rfl⟩
    rw [t1]
    go_wp2_with fail
    refine (mbetween_c _ _ _ _).mono ?_; rintro e w1 ⟨rfl, rfl⟩
    rw [t2]
    go_wp2_with fail
    refine (mbetween_c _ _ _ _).mono ?_; rintro e w1 ⟨rfl, rfl⟩
    rw [t3]
    go_wp2_with fail
    refine (mbetween_c _ _ _ _).mono ?_; rintro e w1 ⟨rfl, rfl⟩
    rw [tt]
    go_wp2_with fail
    refine (mbetween_c _ _ _ _).mono ?_; rintro e w1 ⟨rfl, rfl⟩
    rw [t4]
    go_wp2_with fail
    refine (mbetween_c _ _ _ _).mono ?_; rintro e w1 ⟨rfl, rfl⟩
    rw [t5]
    have HR0 := Lib.hid (row_drewI h1)
    have HB0 := Lib.hid hb.drew
    have HBOX : Hid True := trivial
    clear h1 hb
    clear t1 t2 t3 tt t4 t5 kc2 kc3 kc4 kc5 hpg hob htx htx2 how hk kc1 kc8 f8
    cases s
    · go_wp2_with fail
      clear HBOX
      first
        | (go_region_law (first
            | (go_simp; go_at_call 38; refine (BARE.out _).mono ?_; rintro e w1 ⟨rfl, hb1⟩; have HR1 := Lib.hid ((hb1.block W.heap.size (lt_of_row (Nat.le_refl _) HR0.out)).trans HR0.out); have HB1 := Lib.hid (HB0.out.trans (hb1.mono HB0.out.size)); obtain ⟨y0, y1, y2, y3, y4, y5, y6, y7, y8, y9, y10, y11, yz⟩ := row12 HR1.out; clear hb1)
            | (go_simp; go_at_call 22; refine (SAME.out _ HB1.out).mono ?_; rintro e w2 ⟨rfl, hb2⟩; have HR2 := Lib.hid ((hb2.block W.heap.size (lt_of_row (Nat.le_refl _) HR1.out)).trans HR1.out); have HB2 := Lib.hid (HB1.out.trans (hb2.mono HB1.out.size)); skip; clear hb2)
            ))
        | fail
      all_goals
        go_wp2_with fail
        go_ret
        exact ⟨ret_bool (by rw [HE2.out]; rfl), HB2.out⟩
    · go_wp2_with fail
      first
        | (go_region_held_law (fun W' => W'.cell? ⟨W.heap.size, 0, none⟩ = some (.int .i64 k) ∧ W'.cell? ⟨W.heap.size, 1, none⟩ = some (.int .i64 pg) ∧ W'.cell? ⟨W.heap.size, 2, none⟩ = some (.int .i64 ob) ∧ W'.cell? ⟨W.heap.size, 3, none⟩ = some (.int .i64 tx) ∧ W'.cell? ⟨W.heap.size, 4, none⟩ = some (.int .i64 cp) ∧ W'.cell? ⟨W.heap.size, 5, none⟩ = some (.int .i64 ow) ∧ W'.cell? ⟨W.heap.size, 6, none⟩ = some (.bool wr) ∧ W'.cell? ⟨W.heap.size, 7, none⟩ = some (.slice A n c) ∧ W'.cell? ⟨W.heap.size, 8, none⟩ = some (.complex .f64 a0 b0) ∧ W'.cell? ⟨W.heap.size, 9, none⟩ = some (.complex .f64 a1 b1) ∧ W'.cell? ⟨W.heap.size, 10, none⟩ = some (.complex .f64 a2 b2) ∧ W'.cell? ⟨W.heap.size, 11, none⟩ = some (.complex .f64 a3 b3)) (first | go_keep | exact HBOX.out)
            (first
              | (go_at_call 38; clear HBOX; refine (BARE.out _).mono ?_; rintro e w1 ⟨rfl, hb1⟩; have HR1 := Lib.hid ((hb1.block W.heap.size (lt_of_row (Nat.le_refl _) HR0.out)).trans HR0.out); have HB1 := Lib.hid (HB0.out.trans (hb1.mono HB0.out.size)); have HBOX := rbox HR1.out; clear hb1)
              | (go_at_call 22; clear HBOX; refine (SAME.out _ HB1.out).mono ?_; rintro e w2 ⟨rfl, hb2⟩; have HR2 := Lib.hid ((hb2.block W.heap.size (lt_of_row (Nat.le_refl _) HR1.out)).trans HR1.out); have HB2 := Lib.hid (HB1.out.trans (hb2.mono HB1.out.size)); have HBOX := rbox HR2.out; clear hb2)
              | (go_at_call 39; clear HBOX; refine (WRIGHT.out _ HB2.out).mono ?_; rintro e w3 ⟨rfl, hb3⟩; have HR3 := Lib.hid ((hb3.block W.heap.size (lt_of_row (Nat.le_refl _) HR2.out)).trans HR2.out); have HB3 := Lib.hid (HB2.out.trans (hb3.mono HB2.out.size)); have HBOX := rbox HR3.out; clear hb3)
            ))
        | fail
      all_goals
        go_wp2_with fail
        go_ret
        exact ⟨ret_bool (by rw [HE2.out]; simp), HB3.out⟩

end Go.Proofs.Ytbhjdapkhcgmlaa
