import Derived.Test.YtbhjdapkhcgmlaaMrB
import Derived.Handy
import Derived.Deep.Cut

set_option linter.unusedSimpArgs false
set_option linter.unusedVariables false
set_option linter.unnecessarySimpa false

namespace Go.Proofs.Ytbhjdapkhcgmlaa
open Go.RowKit

attribute [local go_sem] run_store_complex

/-! The reference's Right, by what a kind has. -/

theorem w640 : W64 (0, 0) := ⟨by decide, by decide⟩

set_option maxRecDepth 100000 in
set_option maxHeartbeats 16000000 in
theorem rrightA (k pg ob tx cp ow : Int) (wr : Bool) (A : Option Addr) (n c : Nat) (ps : List PutV) (w : World)
    (hk : 0 ≤ k) (hk2 : k ≤ 8) (hk8 : k ≠ 8) (hpg : 0 ≤ pg) (hob : 0 ≤ ob) (htx : 0 ≤ tx) (htx2 : tx ≤ 16777215) (hcp : 0 ≤ cp) (how : 0 ≤ ow) (hn : ps.length = n)
    (hP : hasPlace k = true) (hT : hasTxn k = false) (hM : hasMasks k = false) (hW : hasWrite k = false) (hk2n : k ≠ 2)
    (hhas : ∀ W, Calls Try.prog 67 #[.int .i64 k] W fun e w' => e = .returned (.agg #[.bool true, .bool false, .bool false, .bool false, .bool false, .bool false]) ∧ Below W.heap.size W w')
    (hp : From w 68 #[.slice A n c] (.bool (putsOk ps))) :
    From w 52 #[.agg #[.int .i64 k, .int .i64 pg, .int .i64 ob, .int .i64 tx, .int .i64 cp, .int .i64 ow, .bool wr, .slice A n c, .complex .f64 0 0, .complex .f64 0 0, .complex .f64 0 0, .complex .f64 0 0]] (.bool (rightM k pg ob tx cp ow wr ps)) := by
  intro W hW
  replace hp := hp.on hW
  clear hW
  have h1 := heap_alloc_new W (.cells #[.int .i64 k, .int .i64 pg, .int .i64 ob, .int .i64 tx, .int .i64 cp, .int .i64 ow, .bool wr, .slice A n c, .complex .f64 0 0, .complex .f64 0 0, .complex .f64 0 0, .complex .f64 0 0] 30)
  have hb := (Below.refl W.heap.size W).alloc (Nat.le_refl _) (.cells #[.int .i64 k, .int .i64 pg, .int .i64 ob, .int .i64 tx, .int .i64 cp, .int .i64 ow, .bool wr, .slice A n c, .complex .f64 0 0, .complex .f64 0 0, .complex .f64 0 0, .complex .f64 0 0] 30)
  have HP := Lib.hid hp
  have HH := Lib.hid hhas
  have XP := Lib.hid hP
  have XT := Lib.hid hT
  have XM := Lib.hid hM
  have XW := Lib.hid hW
  have XN := Lib.hid hn
  clear hp hhas hP hT hM hW hn
  go_enter Try.func52, Try.ntmps52
  go_upto_region 1 with fail
  generalize W.alloc (.cells #[.int .i64 k, .int .i64 pg, .int .i64 ob, .int .i64 tx, .int .i64 cp, .int .i64 ow, .bool wr, .slice A n c, .complex .f64 0 0, .complex .f64 0 0, .complex .f64 0 0, .complex .f64 0 0] 30) = W0 at *
  obtain ⟨x0, x1, x2, x3, x4, x5, x6, x7, x8, x9, x10, x11, xz⟩ := row12 h1
  have H1 := Lib.hid h1
  have HB := Lib.hid hb
  clear h1 hb
  by_cases g_pg : pg ≤ 5
  rotate_left
  · skip
    have HE : Hid (rightM k pg ob tx cp ow wr ps = false) := by
      unfold Hid rightM numsIn; simp [g_pg]
    go_wp2_with fail
    go_ret
    exact ⟨ret_bool (by rw [HE.out]), HB.out⟩
  by_cases g_ob : ob ≤ 3
  rotate_left
  · skip
    have HE : Hid (rightM k pg ob tx cp ow wr ps = false) := by
      unfold Hid rightM numsIn; simp [g_ob]
    go_wp2_with fail
    go_ret
    exact ⟨ret_bool (by rw [HE.out]), HB.out⟩
  by_cases g_ow : ow ≤ 15
  rotate_left
  · skip
    have HE : Hid (rightM k pg ob tx cp ow wr ps = false) := by
      unfold Hid rightM numsIn; simp [g_ow]
    go_wp2_with fail
    go_ret
    exact ⟨ret_bool (by rw [HE.out]), HB.out⟩
  go_wp2_with fail
  refine (HH.out _).mono ?_; rintro e w1 ⟨rfl, hb1⟩
  have hr1 := (hb1.block W.heap.size (lt_of_row (Nat.le_refl _) H1.out)).trans H1.out
  have HB1 := Lib.hid (HB.out.trans (hb1.mono HB.out.size))
  clear x0 x1 x2 x3 x4 x5 x6 x7 x8 x9 x10 x11 xz hb1 H1 HB
  have hal := (Below.refl w1.heap.size w1).alloc (Nat.le_refl _) (.cells #[.bool true, .bool false, .bool false, .bool false, .bool false, .bool false] 110)
  have hrf := heap_alloc_new w1 (.cells #[.bool true, .bool false, .bool false, .bool false, .bool false, .bool false] 110)
  have hr2 := (hal.block W.heap.size (lt_of_row (Nat.le_refl _) hr1)).trans hr1
  have HB2 := Lib.hid (HB1.out.trans (hal.mono HB1.out.size))
  clear hr1 hal HB1
  go_upto_region 4 with fail
  generalize w1.alloc (.cells #[.bool true, .bool false, .bool false, .bool false, .bool false, .bool false] 110) = W2 at *
  obtain ⟨x0, x1, x2, x3, x4, x5, x6, x7, x8, x9, x10, x11, xz⟩ := row12 hr2
  obtain ⟨y0, y1, y2, y3, y4, y5, yz⟩ := row6 hrf
  have HR2 := Lib.hid hr2
  clear hr2 hrf
  have f8 : ((k : Int) == 8) = false := by simp; omega
  have f9 : ((k : Int) != 8) = true := by simp; omega
  by_cases g_cp : cp ≤ 15
  rotate_left
  · skip
    have HE : Hid (rightM k pg ob tx cp ow wr ps = false) := by
      unfold Hid rightM numsIn copyIn; simp [g_cp, hk8]
    go_wp2_with fail
    go_ret
    exact ⟨ret_bool (by rw [HE.out]), HB2.out⟩
  have HNUMS : Hid (numsIn k pg ob cp ow = true) := by unfold Hid numsIn copyIn; simp [hk8]; omega
  go_upto_region 6 with fail
  by_cases z_tx : tx = 0
  rotate_left
  · have n_tx : ((tx : Int) != 0) = true := by simp; omega
    have HE : Hid (rightM k pg ob tx cp ow wr ps = false) := by
      unfold Hid rightM fits; simp [XP.out, XT.out, XM.out, XW.out, z_tx]
    go_wp2_with fail
    go_ret
    exact ⟨ret_bool (by rw [HE.out]), HB2.out⟩
  subst z_tx
  by_cases z_ow : ow = 0
  rotate_left
  · have n_ow : ((ow : Int) != 0) = true := by simp; omega
    have HE : Hid (rightM k pg ob 0 cp ow wr ps = false) := by
      unfold Hid rightM fits; simp [XP.out, XT.out, XM.out, XW.out, z_ow]
    go_wp2_with fail
    go_ret
    exact ⟨ret_bool (by rw [HE.out]), HB2.out⟩
  subst z_ow
  by_cases z_cp : cp = 0
  rotate_left
  · have n_cp : ((cp : Int) != 0) = true := by simp; omega
    have HE : Hid (rightM k pg ob 0 cp 0 wr ps = false) := by
      unfold Hid rightM fits; simp [XP.out, XT.out, XM.out, XW.out, z_cp, hk8]
    go_wp2_with fail
    go_ret
    exact ⟨ret_bool (by rw [HE.out]), HB2.out⟩
  subst z_cp
  go_upto_region 8 with fail
  cases wr
  rotate_left
  · skip
    have HE : Hid (rightM k pg ob 0 0 0 true ps = false) := by
      unfold Hid rightM fits; simp [XP.out, XT.out, XM.out, XW.out]
    go_wp2_with fail
    go_ret
    exact ⟨ret_bool (by rw [HE.out]), HB2.out⟩
  by_cases z_n : n = 0
  rotate_left
  · have n_n : ((n : Int) == 0) = false := by simp; omega
    have hps : ps.isEmpty = false := by cases ps; (have := XN.out; simp at this; omega); rfl
    have hk2' : decide ((k : Int) = 2) = false := by simp [hk2n]
    have HE : Hid (rightM k pg ob 0 0 0 false ps = false) := by
      unfold Hid rightM fits; rw [hps, hk2']; simp
    go_wp2_with fail
    go_ret
    exact ⟨ret_bool (by rw [HE.out]), HB2.out⟩
  subst z_n
  have hps : ps.isEmpty = true := by cases ps; rfl; (have := XN.out; simp at this)
  have HE : Hid (rightM k pg ob 0 0 0 false ps = putsOk ps) := by
    unfold Hid rightM fits; rw [HNUMS.out, hps]; simp [XP.out, XT.out, XM.out, XW.out]
  clear hps
  go_wp2_with fail
  refine (rvalues_r 0 0 0 0 0 0 0 0 w640 w640 w640 w640 _).mono ?_; rintro e w3 ⟨rfl, hb3⟩
  have hr3 := (hb3.block W.heap.size (lt_of_row (Nat.le_refl _) HR2.out)).trans HR2.out
  have HB3 := Lib.hid (HB2.out.trans (hb3.mono HB2.out.size))
  clear x0 x1 x2 x3 x4 x5 x6 x7 x8 x9 x10 x11 xz y0 y1 y2 y3 y4 y5 yz hb3 HR2 HB2
  obtain ⟨x0, x1, x2, x3, x4, x5, x6, x7, x8, x9, x10, x11, xz⟩ := row12 hr3
  clear hr3
  go_wp2_with fail
  refine (HP.out _ HB3.out).mono ?_; rintro e w4 ⟨rfl, hb4⟩
  have HB4 := Lib.hid (HB3.out.trans (hb4.mono HB3.out.size))
  clear hb4
  go_wp2_with fail
  go_ret
  exact ⟨ret_bool (by first | (rw [HE.out]; done) | (rw [HE.out]; simp)), HB4.out⟩

set_option maxRecDepth 100000 in
set_option maxHeartbeats 16000000 in
theorem rrightB (k pg ob tx cp ow : Int) (wr : Bool) (A : Option Addr) (n c : Nat) (ps : List PutV) (w : World)
    (hk : 0 ≤ k) (hk2 : k ≤ 8) (hk8 : k ≠ 8) (hpg : 0 ≤ pg) (hob : 0 ≤ ob) (htx : 0 ≤ tx) (htx2 : tx ≤ 16777215) (hcp : 0 ≤ cp) (how : 0 ≤ ow) (hn : ps.length = n)
    (hP : hasPlace k = false) (hT : hasTxn k = true) (hM : hasMasks k = false) (hW : hasWrite k = false) (h2 : k = 2)
    (hhas : ∀ W, Calls Try.prog 67 #[.int .i64 k] W fun e w' => e = .returned (.agg #[.bool false, .bool true, .bool false, .bool false, .bool true, .bool false]) ∧ Below W.heap.size W w')
    (hp : From w 68 #[.slice A n c] (.bool (putsOk ps))) :
    From w 52 #[.agg #[.int .i64 k, .int .i64 pg, .int .i64 ob, .int .i64 tx, .int .i64 cp, .int .i64 ow, .bool wr, .slice A n c, .complex .f64 0 0, .complex .f64 0 0, .complex .f64 0 0, .complex .f64 0 0]] (.bool (rightM k pg ob tx cp ow wr ps)) := by
  intro W hW
  replace hp := hp.on hW
  clear hW
  have h1 := heap_alloc_new W (.cells #[.int .i64 k, .int .i64 pg, .int .i64 ob, .int .i64 tx, .int .i64 cp, .int .i64 ow, .bool wr, .slice A n c, .complex .f64 0 0, .complex .f64 0 0, .complex .f64 0 0, .complex .f64 0 0] 30)
  have hb := (Below.refl W.heap.size W).alloc (Nat.le_refl _) (.cells #[.int .i64 k, .int .i64 pg, .int .i64 ob, .int .i64 tx, .int .i64 cp, .int .i64 ow, .bool wr, .slice A n c, .complex .f64 0 0, .complex .f64 0 0, .complex .f64 0 0, .complex .f64 0 0] 30)
  have HP := Lib.hid hp
  have HH := Lib.hid hhas
  have XP := Lib.hid hP
  have XT := Lib.hid hT
  have XM := Lib.hid hM
  have XW := Lib.hid hW
  have XN := Lib.hid hn
  clear hp hhas hP hT hM hW hn
  have X2 := Lib.hid h2
  clear h2
  go_enter Try.func52, Try.ntmps52
  go_upto_region 1 with fail
  generalize W.alloc (.cells #[.int .i64 k, .int .i64 pg, .int .i64 ob, .int .i64 tx, .int .i64 cp, .int .i64 ow, .bool wr, .slice A n c, .complex .f64 0 0, .complex .f64 0 0, .complex .f64 0 0, .complex .f64 0 0] 30) = W0 at *
  obtain ⟨x0, x1, x2, x3, x4, x5, x6, x7, x8, x9, x10, x11, xz⟩ := row12 h1
  have H1 := Lib.hid h1
  have HB := Lib.hid hb
  clear h1 hb
  by_cases g_pg : pg ≤ 5
  rotate_left
  · skip
    have HE : Hid (rightM k pg ob tx cp ow wr ps = false) := by
      unfold Hid rightM numsIn; simp [g_pg]
    go_wp2_with fail
    go_ret
    exact ⟨ret_bool (by rw [HE.out]), HB.out⟩
  by_cases g_ob : ob ≤ 3
  rotate_left
  · skip
    have HE : Hid (rightM k pg ob tx cp ow wr ps = false) := by
      unfold Hid rightM numsIn; simp [g_ob]
    go_wp2_with fail
    go_ret
    exact ⟨ret_bool (by rw [HE.out]), HB.out⟩
  by_cases g_ow : ow ≤ 15
  rotate_left
  · skip
    have HE : Hid (rightM k pg ob tx cp ow wr ps = false) := by
      unfold Hid rightM numsIn; simp [g_ow]
    go_wp2_with fail
    go_ret
    exact ⟨ret_bool (by rw [HE.out]), HB.out⟩
  go_wp2_with fail
  refine (HH.out _).mono ?_; rintro e w1 ⟨rfl, hb1⟩
  have hr1 := (hb1.block W.heap.size (lt_of_row (Nat.le_refl _) H1.out)).trans H1.out
  have HB1 := Lib.hid (HB.out.trans (hb1.mono HB.out.size))
  clear x0 x1 x2 x3 x4 x5 x6 x7 x8 x9 x10 x11 xz hb1 H1 HB
  have hal := (Below.refl w1.heap.size w1).alloc (Nat.le_refl _) (.cells #[.bool false, .bool true, .bool false, .bool false, .bool true, .bool false] 110)
  have hrf := heap_alloc_new w1 (.cells #[.bool false, .bool true, .bool false, .bool false, .bool true, .bool false] 110)
  have hr2 := (hal.block W.heap.size (lt_of_row (Nat.le_refl _) hr1)).trans hr1
  have HB2 := Lib.hid (HB1.out.trans (hal.mono HB1.out.size))
  clear hr1 hal HB1
  go_upto_region 4 with fail
  generalize w1.alloc (.cells #[.bool false, .bool true, .bool false, .bool false, .bool true, .bool false] 110) = W2 at *
  obtain ⟨x0, x1, x2, x3, x4, x5, x6, x7, x8, x9, x10, x11, xz⟩ := row12 hr2
  obtain ⟨y0, y1, y2, y3, y4, y5, yz⟩ := row6 hrf
  have HR2 := Lib.hid hr2
  clear hr2 hrf
  have f8 : ((k : Int) == 8) = false := by simp; omega
  have f9 : ((k : Int) != 8) = true := by simp; omega
  by_cases g_cp : cp ≤ 15
  rotate_left
  · skip
    have HE : Hid (rightM k pg ob tx cp ow wr ps = false) := by
      unfold Hid rightM numsIn copyIn; simp [g_cp, hk8]
    go_wp2_with fail
    go_ret
    exact ⟨ret_bool (by rw [HE.out]), HB2.out⟩
  have HNUMS : Hid (numsIn k pg ob cp ow = true) := by unfold Hid numsIn copyIn; simp [hk8]; omega
  go_upto_region 6 with fail
  by_cases z_ob : ob = 0
  rotate_left
  · have n_ob : ((ob : Int) != 0) = true := by simp; omega
    have HE : Hid (rightM k pg ob tx cp ow wr ps = false) := by
      unfold Hid rightM fits; simp [XP.out, XT.out, XM.out, XW.out, z_ob]
    go_wp2_with fail
    go_ret
    exact ⟨ret_bool (by rw [HE.out]), HB2.out⟩
  subst z_ob
  by_cases z_pg : pg = 0
  rotate_left
  · have n_pg : ((pg : Int) != 0) = true := by simp; omega
    have HE : Hid (rightM k pg 0 tx cp ow wr ps = false) := by
      unfold Hid rightM fits; simp [XP.out, XT.out, XM.out, XW.out, z_pg]
    go_wp2_with fail
    go_ret
    exact ⟨ret_bool (by rw [HE.out]), HB2.out⟩
  subst z_pg
  by_cases z_ow : ow = 0
  rotate_left
  · have n_ow : ((ow : Int) != 0) = true := by simp; omega
    have HE : Hid (rightM k 0 0 tx cp ow wr ps = false) := by
      unfold Hid rightM fits; simp [XP.out, XT.out, XM.out, XW.out, z_ow]
    go_wp2_with fail
    go_ret
    exact ⟨ret_bool (by rw [HE.out]), HB2.out⟩
  subst z_ow
  by_cases z_cp : cp = 0
  rotate_left
  · have n_cp : ((cp : Int) != 0) = true := by simp; omega
    have HE : Hid (rightM k 0 0 tx cp 0 wr ps = false) := by
      unfold Hid rightM fits; simp [XP.out, XT.out, XM.out, XW.out, z_cp, hk8]
    go_wp2_with fail
    go_ret
    exact ⟨ret_bool (by rw [HE.out]), HB2.out⟩
  subst z_cp
  go_upto_region 8 with fail
  cases wr
  rotate_left
  · skip
    have HE : Hid (rightM k 0 0 tx 0 0 true ps = false) := by
      unfold Hid rightM fits; simp [XP.out, XT.out, XM.out, XW.out]
    go_wp2_with fail
    go_ret
    exact ⟨ret_bool (by rw [HE.out]), HB2.out⟩
  have HE : Hid (rightM k 0 0 tx 0 0 false ps = putsOk ps) := by
    unfold Hid rightM fits; rw [HNUMS.out, XP.out, XT.out, XM.out, XW.out, X2.out]; simp
  go_wp2_with fail
  refine (rvalues_r 0 0 0 0 0 0 0 0 w640 w640 w640 w640 _).mono ?_; rintro e w3 ⟨rfl, hb3⟩
  have hr3 := (hb3.block W.heap.size (lt_of_row (Nat.le_refl _) HR2.out)).trans HR2.out
  have HB3 := Lib.hid (HB2.out.trans (hb3.mono HB2.out.size))
  clear x0 x1 x2 x3 x4 x5 x6 x7 x8 x9 x10 x11 xz y0 y1 y2 y3 y4 y5 yz hb3 HR2 HB2
  obtain ⟨x0, x1, x2, x3, x4, x5, x6, x7, x8, x9, x10, x11, xz⟩ := row12 hr3
  clear hr3
  go_wp2_with fail
  refine (HP.out _ HB3.out).mono ?_; rintro e w4 ⟨rfl, hb4⟩
  have HB4 := Lib.hid (HB3.out.trans (hb4.mono HB3.out.size))
  clear hb4
  go_wp2_with fail
  go_ret
  exact ⟨ret_bool (by first | (rw [HE.out]; done) | (rw [HE.out]; simp)), HB4.out⟩

set_option maxRecDepth 100000 in
set_option maxHeartbeats 16000000 in
theorem rrightG (pg ob tx cp ow : Int) (wr : Bool) (A : Option Addr) (n c : Nat) (ps : List PutV) (w : World)
    (hpg : 0 ≤ pg) (hob : 0 ≤ ob) (htx : 0 ≤ tx) (htx2 : tx ≤ 16777215) (hcp : 0 ≤ cp) (how : 0 ≤ ow) (hn : ps.length = n)
    (hP : hasPlace 8 = false) (hT : hasTxn 8 = true) (hM : hasMasks 8 = false) (hW : hasWrite 8 = false)
    (hhas : ∀ W, Calls Try.prog 67 #[.int .i64 8] W fun e w' => e = .returned (.agg #[.bool false, .bool true, .bool false, .bool false, .bool false, .bool false]) ∧ Below W.heap.size W w')
    (hp : From w 68 #[.slice A n c] (.bool (putsOk ps))) :
    From w 52 #[.agg #[.int .i64 8, .int .i64 pg, .int .i64 ob, .int .i64 tx, .int .i64 cp, .int .i64 ow, .bool wr, .slice A n c, .complex .f64 0 0, .complex .f64 0 0, .complex .f64 0 0, .complex .f64 0 0]] (.bool (rightM 8 pg ob tx cp ow wr ps)) := by
  intro W hW
  replace hp := hp.on hW
  clear hW
  have h1 := heap_alloc_new W (.cells #[.int .i64 8, .int .i64 pg, .int .i64 ob, .int .i64 tx, .int .i64 cp, .int .i64 ow, .bool wr, .slice A n c, .complex .f64 0 0, .complex .f64 0 0, .complex .f64 0 0, .complex .f64 0 0] 30)
  have hb := (Below.refl W.heap.size W).alloc (Nat.le_refl _) (.cells #[.int .i64 8, .int .i64 pg, .int .i64 ob, .int .i64 tx, .int .i64 cp, .int .i64 ow, .bool wr, .slice A n c, .complex .f64 0 0, .complex .f64 0 0, .complex .f64 0 0, .complex .f64 0 0] 30)
  have HP := Lib.hid hp
  have HH := Lib.hid hhas
  have XP := Lib.hid hP
  have XT := Lib.hid hT
  have XM := Lib.hid hM
  have XW := Lib.hid hW
  have XN := Lib.hid hn
  clear hp hhas hP hT hM hW hn
  go_enter Try.func52, Try.ntmps52
  go_upto_region 1 with fail
  generalize W.alloc (.cells #[.int .i64 8, .int .i64 pg, .int .i64 ob, .int .i64 tx, .int .i64 cp, .int .i64 ow, .bool wr, .slice A n c, .complex .f64 0 0, .complex .f64 0 0, .complex .f64 0 0, .complex .f64 0 0] 30) = W0 at *
  obtain ⟨x0, x1, x2, x3, x4, x5, x6, x7, x8, x9, x10, x11, xz⟩ := row12 h1
  have H1 := Lib.hid h1
  have HB := Lib.hid hb
  clear h1 hb
  by_cases g_pg : pg ≤ 5
  rotate_left
  · skip
    have HE : Hid (rightM 8 pg ob tx cp ow wr ps = false) := by
      unfold Hid rightM numsIn; simp [g_pg]
    go_wp2_with fail
    go_ret
    exact ⟨ret_bool (by rw [HE.out]), HB.out⟩
  by_cases g_ob : ob ≤ 3
  rotate_left
  · skip
    have HE : Hid (rightM 8 pg ob tx cp ow wr ps = false) := by
      unfold Hid rightM numsIn; simp [g_ob]
    go_wp2_with fail
    go_ret
    exact ⟨ret_bool (by rw [HE.out]), HB.out⟩
  by_cases g_ow : ow ≤ 15
  rotate_left
  · skip
    have HE : Hid (rightM 8 pg ob tx cp ow wr ps = false) := by
      unfold Hid rightM numsIn; simp [g_ow]
    go_wp2_with fail
    go_ret
    exact ⟨ret_bool (by rw [HE.out]), HB.out⟩
  go_wp2_with fail
  refine (HH.out _).mono ?_; rintro e w1 ⟨rfl, hb1⟩
  have hr1 := (hb1.block W.heap.size (lt_of_row (Nat.le_refl _) H1.out)).trans H1.out
  have HB1 := Lib.hid (HB.out.trans (hb1.mono HB.out.size))
  clear x0 x1 x2 x3 x4 x5 x6 x7 x8 x9 x10 x11 xz hb1 H1 HB
  have hal := (Below.refl w1.heap.size w1).alloc (Nat.le_refl _) (.cells #[.bool false, .bool true, .bool false, .bool false, .bool false, .bool false] 110)
  have hrf := heap_alloc_new w1 (.cells #[.bool false, .bool true, .bool false, .bool false, .bool false, .bool false] 110)
  have hr2 := (hal.block W.heap.size (lt_of_row (Nat.le_refl _) hr1)).trans hr1
  have HB2 := Lib.hid (HB1.out.trans (hal.mono HB1.out.size))
  clear hr1 hal HB1
  go_upto_region 4 with fail
  generalize w1.alloc (.cells #[.bool false, .bool true, .bool false, .bool false, .bool false, .bool false] 110) = W2 at *
  obtain ⟨x0, x1, x2, x3, x4, x5, x6, x7, x8, x9, x10, x11, xz⟩ := row12 hr2
  obtain ⟨y0, y1, y2, y3, y4, y5, yz⟩ := row6 hrf
  have HR2 := Lib.hid hr2
  clear hr2 hrf
  by_cases g_cp : 1 ≤ cp
  rotate_left
  · skip
    have HE : Hid (rightM 8 pg ob tx cp ow wr ps = false) := by
      unfold Hid rightM numsIn copyIn; simp [g_cp]
    go_wp2_with fail
    go_ret
    exact ⟨ret_bool (by rw [HE.out]), HB2.out⟩
  by_cases g_cp2 : cp ≤ 999
  rotate_left
  · skip
    have HE : Hid (rightM 8 pg ob tx cp ow wr ps = false) := by
      unfold Hid rightM numsIn copyIn; simp [g_cp2]
    go_wp2_with fail
    go_ret
    exact ⟨ret_bool (by rw [HE.out]), HB2.out⟩
  have HNUMS : Hid (numsIn 8 pg ob cp ow = true) := by unfold Hid numsIn copyIn; simp; omega
  go_upto_region 6 with fail
  by_cases z_ob : ob = 0
  rotate_left
  · have n_ob : ((ob : Int) != 0) = true := by simp; omega
    have HE : Hid (rightM 8 pg ob tx cp ow wr ps = false) := by
      unfold Hid rightM fits; simp [XP.out, XT.out, XM.out, XW.out, z_ob]
    go_wp2_with fail
    go_ret
    exact ⟨ret_bool (by rw [HE.out]), HB2.out⟩
  subst z_ob
  by_cases z_pg : pg = 0
  rotate_left
  · have n_pg : ((pg : Int) != 0) = true := by simp; omega
    have HE : Hid (rightM 8 pg 0 tx cp ow wr ps = false) := by
      unfold Hid rightM fits; simp [XP.out, XT.out, XM.out, XW.out, z_pg]
    go_wp2_with fail
    go_ret
    exact ⟨ret_bool (by rw [HE.out]), HB2.out⟩
  subst z_pg
  by_cases z_ow : ow = 0
  rotate_left
  · have n_ow : ((ow : Int) != 0) = true := by simp; omega
    have HE : Hid (rightM 8 0 0 tx cp ow wr ps = false) := by
      unfold Hid rightM fits; simp [XP.out, XT.out, XM.out, XW.out, z_ow]
    go_wp2_with fail
    go_ret
    exact ⟨ret_bool (by rw [HE.out]), HB2.out⟩
  subst z_ow
  go_upto_region 8 with fail
  cases wr
  rotate_left
  · skip
    have HE : Hid (rightM 8 0 0 tx cp 0 true ps = false) := by
      unfold Hid rightM fits; simp [XP.out, XT.out, XM.out, XW.out]
    go_wp2_with fail
    go_ret
    exact ⟨ret_bool (by rw [HE.out]), HB2.out⟩
  by_cases z_n : n = 0
  rotate_left
  · have n_n : ((n : Int) == 0) = false := by simp; omega
    have hps : ps.isEmpty = false := by cases ps; (have := XN.out; simp at this; omega); rfl
    have hk2' : decide ((8 : Int) = 2) = false := by decide
    have HE : Hid (rightM 8 0 0 tx cp 0 false ps = false) := by
      unfold Hid rightM fits; rw [hps, hk2']; simp
    go_wp2_with fail
    go_ret
    exact ⟨ret_bool (by rw [HE.out]), HB2.out⟩
  subst z_n
  have hps : ps.isEmpty = true := by cases ps; rfl; (have := XN.out; simp at this)
  have HE : Hid (rightM 8 0 0 tx cp 0 false ps = putsOk ps) := by
    unfold Hid rightM fits; rw [HNUMS.out, hps]; simp [XP.out, XT.out, XM.out, XW.out]
  clear hps
  go_wp2_with fail
  refine (rvalues_r 0 0 0 0 0 0 0 0 w640 w640 w640 w640 _).mono ?_; rintro e w3 ⟨rfl, hb3⟩
  have hr3 := (hb3.block W.heap.size (lt_of_row (Nat.le_refl _) HR2.out)).trans HR2.out
  have HB3 := Lib.hid (HB2.out.trans (hb3.mono HB2.out.size))
  clear x0 x1 x2 x3 x4 x5 x6 x7 x8 x9 x10 x11 xz y0 y1 y2 y3 y4 y5 yz hb3 HR2 HB2
  obtain ⟨x0, x1, x2, x3, x4, x5, x6, x7, x8, x9, x10, x11, xz⟩ := row12 hr3
  clear hr3
  go_wp2_with fail
  refine (HP.out _ HB3.out).mono ?_; rintro e w4 ⟨rfl, hb4⟩
  have HB4 := Lib.hid (HB3.out.trans (hb4.mono HB3.out.size))
  clear hb4
  go_wp2_with fail
  go_ret
  exact ⟨ret_bool (by first | (rw [HE.out]; done) | (rw [HE.out]; simp)), HB4.out⟩

end Go.Proofs.Ytbhjdapkhcgmlaa
