import Derived.Test.YteoafaofiohefaaFullA
namespace Go.Proofs.Yteoafaofiohefaa
open Go.RowKit

set_option maxRecDepth 1000000 in
set_option maxHeartbeats 8000000 in
theorem full_early (a m : Int) (w : World) (hno : m < 0 ∨ (¬ m < 0 ∧ 250 < m) ∨ (¬ m < 0 ∧ ¬ 250 < m ∧ a < 0) ∨ (¬ m < 0 ∧ ¬ 250 < m ∧ ¬ a < 0 ∧ 7 < a)) :
    Calls Try.prog 6 #[.int .i64 a, .int .i64 m] w fun e w' => e = .returned (.bool true) ∧ Below w.heap.size w w' := by
  go_enter Try.func6, Try.ntmps6
  go_wp2_with fail
  refine (alive_c _).mono ?_; rintro e w1 ⟨rfl, hb1⟩
  have HB1 := Lib.hid hb1
  clear hb1
  rcases hno with h | ⟨h1, h2⟩ | ⟨h1, h2, h3⟩ | ⟨h1, h2, h3, h4⟩
  all_goals
    go_wp2_with fail
    go_ret
    exact ⟨rfl, HB1.out⟩

theorem Stp.on' {W W1 w w' : World} (h : Stp W1.heap.size w w') (h1 : W1.heap.size ≤ w.heap.size) (hw : Below W.heap.size W W1) (hb : Below W.heap.size W w) : Below W.heap.size W w' := hb.trans ((h.below h1).mono hw.size)

set_option maxRecDepth 1000000 in
set_option maxHeartbeats 8000000 in
theorem full_main (a m : Nat) (w : World) (ha : a < 8) (hm : m ≤ 250) :
    Calls Try.prog 6 #[.int .i64 a, .int .i64 m] w fun e w' => e = .returned (.bool true) ∧ Below w.heap.size w w' := by
  have h1 : ¬ ((m : Int) < 0) := by omega
  have h2 : ¬ (250 < (m : Int)) := by omega
  have h3 : ¬ ((a : Int) < 0) := by omega
  have h4 : ¬ (7 < (a : Int)) := by omega
  go_enter Try.func6, Try.ntmps6
  go_wp2_with fail
  refine (alive_c _).mono ?_; rintro e w1 ⟨rfl, hb1⟩
  have HB1 := Lib.hid hb1
  clear hb1
  go_wp2_with fail
  (with_reducible refine (new_s w1).mono ?_); rintro e w2 ⟨rfl, ht2, hb2⟩
  rw [one_nil a] at ht2
  have HT2 := Lib.hid ht2
  have HB2 := Lib.hid (HB1.out.trans (hb2.mono HB1.out.size))
  have HZ2 := Lib.hid hb2.size
  clear ht2 hb2
  go_wp2_with fail
  go_loopw [6] (fun i wr => ∃ k : Nat, k ≤ m ∧ i = .int .i64 k ∧ Hid (NetS w1.heap.size wr w1.heap.size (one a (fulls (min k 200)))) ∧ Hid (Below w.heap.size w wr) ∧ Hid (w1.heap.size ≤ wr.heap.size)) (fun i _ => m - (intOf i).toNat)
  case atStart => exact ⟨0, Nat.zero_le _, rfl, HT2, HB2, HZ2⟩
  case round =>
    obtain ⟨k, hk, rfl, ht, hb, hz⟩ := hrel
    by_cases hlt : k < m
    · have hk256 : (UInt8.ofNat k).toNat = k := by rw [UInt8.toNat_ofNat', Nat.mod_eq_of_lt (by omega)]
      have HX := Lib.hid (Rd.row_of (g := g8) (E := 5) wr [UInt8.ofNat k] (cs := #[.int .u8 (k : Int)]) (by simp [hk256]))
      have HT := Lib.hid (ht.out.alloc (.cells #[.int .u8 (k : Int)] 5))
      have HB := Lib.hid (hb.out.alloc hb.out.size (.cells #[.int .u8 (k : Int)] 5))
      have HZ : Hid (w1.heap.size ≤ (wr.alloc (.cells #[.int .u8 (k : Int)] 5)).heap.size) := by have := hz.out; unfold Hid; simp; omega
      have hlen : ((one a (fulls (min k 200)) a).length < 200) = (k < 200) := by rw [one_same, fulls_length]; apply propext; omega
      have HLEN := Lib.hid hlen
      clear hk256 hlen
      go_wp2_with fail
      (with_reducible refine (Put_s _ _ _ _ a HT.out ha _ [UInt8.ofNat k] 1 1 HX.out (by intro h; cases h) (by simp) rfl).mono ?_); rintro e w4 ⟨rfl, ht4, hs4⟩
      simp only [HLEN.out] at ht4 ⊢
      have HB4 := Lib.hid (hs4.on' HZ.out HB1.out HB.out)
      have HZ4 := Lib.hid (Nat.le_trans HZ.out hs4.size)
      by_cases hk2 : k < 200
      · rw [if_pos hk2, one_same, upd_one, Nat.min_eq_left (by omega), ← fulls_succ] at ht4
        have HT4 := Lib.hid ht4
        clear ht4 hs4
        have hk3 : (k : Int) < 200 := by omega
        go_wp2_with fail
        go_roundw
        case rel => exact ⟨k + 1, by omega, by go_num, by rw [Nat.min_eq_left (by omega)]; exact HT4, HB4, HZ4⟩
        case measure => simp [intOf]; omega
      · rw [if_neg hk2] at ht4
        have HT4 := Lib.hid ht4
        clear ht4 hs4
        have hk3 : ¬ (k : Int) < 200 := by omega
        go_wp2_with fail
        go_roundw
        case rel => exact ⟨k + 1, by omega, by go_num, by rw [show min (k + 1) 200 = min k 200 from by omega]; exact HT4, HB4, HZ4⟩
        case measure => simp [intOf]; omega
    · obtain rfl : k = m := by omega
      have hcase : k = 0 ∨ (0 < k ∧ k < 200) ∨ k = 200 ∨ 200 < k := by omega
      rcases hcase with hk0 | ⟨hk0, hk2⟩ | hk2 | hk2
      · have hk0' : k < 200 := by omega
        have ht0 := ht.out
        rw [Nat.min_eq_left (by omega)] at ht0
        subst hk0
        have HT3 := Lib.hid ht0
        clear ht ht0
        go_wp2_with fail
        (with_reducible refine (Len_s _ _ _ _ a HT3.out ha).mono ?_); rintro e w4 ⟨rfl, q4, rfl⟩
        rw [one_same, fulls_length]
        have HB4 := Lib.hid (below_drewN hb.out q4)
        have HZ4 : Hid (w1.heap.size ≤ (wr.drewN q4).heap.size) := hz.out
        have HT4 := Lib.hid (HT3.out.below (drewN_below wr q4))
        generalize wr.drewN q4 = w4 at *
        go_wp2_with fail
        refine (Double_s_none _ _ _ _ a HT4.out ha 0 (by rw [one_same]; simp [fulls])).mono ?_; rintro e w5 ⟨rfl, hb5⟩
        have HB5 := Lib.hid (HB4.out.trans (hb5.mono HB4.out.size))
        have HZ5 := Lib.hid (Nat.le_trans HZ4.out hb5.size)
        have HT5 := Lib.hid (HT4.out.below hb5)
        clear hb5
        go_wp2_with fail
        refine (Late_s_none _ _ _ _ a HT5.out ha 0 (by rw [one_same]; simp [fulls])).mono ?_; rintro e w6 ⟨rfl, hb6⟩
        have HB6 := Lib.hid (HB5.out.trans (hb6.mono HB5.out.size))
        have HZ6 := Lib.hid (Nat.le_trans HZ5.out hb6.size)
        have ht6 := HT5.out.below hb6
        obtain ⟨M, hM⟩ : ∃ M, M = fulls 0 := ⟨_, rfl⟩
        rw [← hM] at ht6
        have HT6 := Lib.hid ht6
        have HM : Hid (M = []) := hM
        clear hb6 ht6 hM HT3 HT4 HT5 HB4 HB5 HZ4 HZ5
        go_wp2_with fail
        go_loopw [8] (fun i wr => ∃ j : Nat, j ≤ 8 ∧ i = .int .i64 j ∧ Hid (NetS w1.heap.size wr w1.heap.size (one a M)) ∧ Hid (Below w.heap.size w wr) ∧ Hid (w1.heap.size ≤ wr.heap.size)) (fun i _ => 8 - (intOf i).toNat)
        case atStart => exact ⟨0, Nat.zero_le _, rfl, HT6, HB6, HZ6⟩
        case round =>
          obtain ⟨j, hj, rfl, htj, hbj, hzj⟩ := hrel
          by_cases hj8 : j < 8
          · by_cases hja : j = a
            · subst hja
              go_wp2_with fail
              go_roundw
              case rel => exact ⟨j + 1, by omega, by go_num, htj, hbj, hzj⟩
              case measure => simp [intOf]; omega
            · have hja2 : ¬ ((j : Int) = (a : Int)) := by omega
              have HJA := Lib.hid hja
              clear hja
              go_wp2_with fail
              (with_reducible refine (Len_s _ _ _ _ j htj.out hj8).mono ?_); rintro e w9 ⟨rfl, q9, rfl⟩
              rw [one_ne _ HJA.out]
              have HB9 := Lib.hid (below_drewN hbj.out q9)
              have HT9 := Lib.hid (htj.out.below (drewN_below _ q9))
              go_wp2_with fail
              go_roundw
              case rel => exact ⟨j + 1, by omega, by go_num, HT9, HB9, hzj⟩
              case measure => simp [intOf]; omega
          · obtain rfl : j = 8 := by omega
            go_wp2_with fail
            refine (Take_s_none _ _ _ _ a htj.out ha 0 (by rw [one_same, HM.out]; simp)).mono ?_; rintro e w9 ⟨rfl, hb9⟩
            have HB9 := Lib.hid (hbj.out.trans (hb9.mono hbj.out.size))
            clear hb9
            go_wp2_with fail
            go_ret
            exact ⟨rfl, HB9.out⟩
      · have ht0 := ht.out
        rw [Nat.min_eq_left (by omega)] at ht0
        have h5 : (k : Int) < 200 := by omega
        have h6 : ¬ (200 ≤ (k : Int)) := by omega
        have h7 : (k : Int) ≤ 200 := by omega
        have h8 : 0 < (k : Int) := by omega
        have HK0 := Lib.hid hk0
        have HT3 := Lib.hid ht0
        clear ht ht0
        go_wp2_with fail
        (with_reducible refine (Len_s _ _ _ _ a HT3.out ha).mono ?_); rintro e w4 ⟨rfl, q4, rfl⟩
        rw [one_same, fulls_length]
        have HB4 := Lib.hid (below_drewN hb.out q4)
        have HZ4 : Hid (w1.heap.size ≤ (wr.drewN q4).heap.size) := hz.out
        have HT4 := Lib.hid (HT3.out.below (drewN_below wr q4))
        generalize wr.drewN q4 = w4 at *
        go_wp2_with fail
        refine (Double_s_yes _ _ _ _ a HT4.out ha 0 ([UInt8.ofNat 0], false) (by rw [one_same]; exact fulls_get (by omega))).mono ?_; rintro e w5 ⟨rfl, ht5, hs5⟩
        rw [one_same, if_pos (by rw [fulls_length]; exact hk2), upd_one] at ht5
        rw [one_same, decide_eq_true (by rw [fulls_length]; exact hk2)]
        obtain ⟨X0, hX0⟩ : ∃ X0 : Fr, X0 = ([UInt8.ofNat 0], false) := ⟨_, rfl⟩
        obtain ⟨LM, hLM⟩ : ∃ LM, LM = fulls k ++ [X0] := ⟨_, rfl⟩
        rw [← hX0, ← hLM] at ht5
        have HLM := Lib.hid hLM
        have HLE : Hid ((fulls k).length = k) := fulls_length k
        have HX0 : Hid (LM[0]? = some X0) := by rw [hLM, List.getElem?_append_left (by rw [fulls_length]; exact hk0), fulls_get hk0, hX0]; rfl
        clear hX0 hLM
        have HB5 := Lib.hid (hs5.on' HZ4.out HB1.out HB4.out)
        have HZ5 := Lib.hid (Nat.le_trans HZ4.out hs5.size)
        have HT5 := Lib.hid ht5
        clear ht5 hs5
        go_wp2_with fail
        refine (Late_s_yes _ _ _ _ a HT5.out ha 0 X0 (by rw [one_same]; exact HX0.out)).mono ?_; rintro e w6 ⟨rfl, ht6, hs6⟩
        rw [one_same, upd_one] at ht6
        have HB6 := Lib.hid (hs6.on' HZ5.out HB1.out HB5.out)
        have HZ6 := Lib.hid (Nat.le_trans HZ5.out hs6.size)
        obtain ⟨y, hy1, hy2⟩ := late_first (x := X0) (n := k) (L := fulls k) HK0.out HLE.out (fun h => by rw [fulls_get (by omega)]; rfl) [X0]
        obtain ⟨M, hM⟩ : ∃ M, M = LM.eraseIdx 0 ++ [X0] := ⟨_, rfl⟩
        rw [← hM] at ht6
        have HM : Hid (M[0]? = some y) := by rw [hM, HLM.out]; exact hy1
        have HY := Lib.hid hy2
        have HT6 := Lib.hid ht6
        clear hs6 ht6 hM hy1 hy2 HT3 HT4 HT5 HB4 HB5 HZ4 HZ5 HX0
        go_wp2_with fail
        go_loopw [8] (fun i wr => ∃ j : Nat, j ≤ 8 ∧ i = .int .i64 j ∧ Hid (NetS w1.heap.size wr w1.heap.size (one a M)) ∧ Hid (Below w.heap.size w wr) ∧ Hid (w1.heap.size ≤ wr.heap.size)) (fun i _ => 8 - (intOf i).toNat)
        case atStart => exact ⟨0, Nat.zero_le _, rfl, HT6, HB6, HZ6⟩
        case round =>
          obtain ⟨j, hj, rfl, htj, hbj, hzj⟩ := hrel
          by_cases hj8 : j < 8
          · by_cases hja : j = a
            · subst hja
              go_wp2_with fail
              go_roundw
              case rel => exact ⟨j + 1, by omega, by go_num, htj, hbj, hzj⟩
              case measure => simp [intOf]; omega
            · have hja2 : ¬ ((j : Int) = (a : Int)) := by omega
              have HJA := Lib.hid hja
              clear hja
              go_wp2_with fail
              (with_reducible refine (Len_s _ _ _ _ j htj.out hj8).mono ?_); rintro e w9 ⟨rfl, q9, rfl⟩
              rw [one_ne _ HJA.out]
              have HB9 := Lib.hid (below_drewN hbj.out q9)
              have HT9 := Lib.hid (htj.out.below (drewN_below _ q9))
              go_wp2_with fail
              go_roundw
              case rel => exact ⟨j + 1, by omega, by go_num, HT9, HB9, hzj⟩
              case measure => simp [intOf]; omega
          · obtain rfl : j = 8 := by omega
            go_wp2_with fail
            refine (Take_s_yes _ _ _ _ a htj.out ha 0 y (by rw [one_same]; exact HM.out)).mono ?_; rintro e w9 ⟨A9, c9, rfl, ht9, hs9, ho9⟩
            have HB9 := Lib.hid (hs9.on' hzj.out HB1.out hbj.out)
            clear ht9 hs9
            by_cases hk1 : k < 2
            · have hk1' : (k : Int) < 2 := by omega
              clear ho9
              go_wp2_with fail
              go_ret
              exact ⟨rfl, HB9.out⟩
            · have hk1' : ¬ (k : Int) < 2 := by omega
              have hy1 : y.1 = [1] := by rw [HY.out (by omega)]
              rw [hy1] at ho9
              rw [hy1]
              obtain ⟨b9, rfl, _⟩ := ho9.at_some (by simp)
              have hc9 : w9.cell? ⟨b9, 0, none⟩ = some (.int .u8 1) := ho9.cell (x := 1) rfl
              clear ho9 hy1
              go_wp2_with fail
              go_ret
              exact ⟨rfl, HB9.out⟩
      · have ht0 := ht.out
        rw [Nat.min_eq_right (by omega)] at ht0
        have h5 : ¬ (k : Int) < 200 := by omega
        have h6 : (k : Int) = 200 := by omega
        have h8 : 0 < (k : Int) := by omega
        have HK0 : Hid (0 < 200) := by unfold Hid; omega
        have HK2 := Lib.hid hk2
        subst hk2
        have HT3 := Lib.hid ht0
        clear ht ht0
        go_wp2_with fail
        (with_reducible refine (Len_s _ _ _ _ a HT3.out ha).mono ?_); rintro e w4 ⟨rfl, q4, rfl⟩
        rw [one_same, fulls_length]
        have HB4 := Lib.hid (below_drewN hb.out q4)
        have HZ4 : Hid (w1.heap.size ≤ (wr.drewN q4).heap.size) := hz.out
        have HT4 := Lib.hid (HT3.out.below (drewN_below wr q4))
        generalize wr.drewN q4 = w4 at *
        go_wp2_with fail
        refine (Double_s_yes _ _ _ _ a HT4.out ha 0 ([UInt8.ofNat 0], false) (by rw [one_same]; exact fulls_get (by omega))).mono ?_; rintro e w5 ⟨rfl, ht5, hs5⟩
        rw [one_same, if_neg (by rw [fulls_length]; omega)] at ht5
        rw [one_same, decide_eq_false (by rw [fulls_length]; omega)]
        obtain ⟨X0, hX0⟩ : ∃ X0 : Fr, X0 = ([UInt8.ofNat 0], false) := ⟨_, rfl⟩
        obtain ⟨LM, hLM⟩ : ∃ LM, LM = fulls 200 := ⟨_, rfl⟩
        rw [← hLM] at ht5
        have HLE : Hid ((fulls 200).length = 200) := fulls_length _
        have HLM : Hid (LM = fulls 200 ++ []) := by rw [hLM, List.append_nil]; exact rfl
        have HX0 : Hid (LM[0]? = some X0) := by rw [hLM, fulls_get (by omega), hX0]; rfl
        clear hX0 hLM
        have HB5 := Lib.hid (hs5.on' HZ4.out HB1.out HB4.out)
        have HZ5 := Lib.hid (Nat.le_trans HZ4.out hs5.size)
        have HT5 := Lib.hid ht5
        clear ht5 hs5
        go_wp2_with fail
        refine (Late_s_yes _ _ _ _ a HT5.out ha 0 X0 (by rw [one_same]; exact HX0.out)).mono ?_; rintro e w6 ⟨rfl, ht6, hs6⟩
        rw [one_same, upd_one] at ht6
        have HB6 := Lib.hid (hs6.on' HZ5.out HB1.out HB5.out)
        have HZ6 := Lib.hid (Nat.le_trans HZ5.out hs6.size)
        obtain ⟨y, hy1, hy2⟩ := late_first (x := X0) (n := 200) (L := fulls 200) HK0.out HLE.out (fun h => by rw [fulls_get (by omega)]; rfl) []
        obtain ⟨M, hM⟩ : ∃ M, M = LM.eraseIdx 0 ++ [X0] := ⟨_, rfl⟩
        rw [← hM] at ht6
        have HM : Hid (M[0]? = some y) := by rw [hM, HLM.out]; exact hy1
        have HY := Lib.hid hy2
        have HT6 := Lib.hid ht6
        clear hs6 ht6 hM hy1 hy2 HT3 HT4 HT5 HB4 HB5 HZ4 HZ5 HX0
        go_wp2_with fail
        go_loopw [8] (fun i wr => ∃ j : Nat, j ≤ 8 ∧ i = .int .i64 j ∧ Hid (NetS w1.heap.size wr w1.heap.size (one a M)) ∧ Hid (Below w.heap.size w wr) ∧ Hid (w1.heap.size ≤ wr.heap.size)) (fun i _ => 8 - (intOf i).toNat)
        case atStart => exact ⟨0, Nat.zero_le _, rfl, HT6, HB6, HZ6⟩
        case round =>
          obtain ⟨j, hj, rfl, htj, hbj, hzj⟩ := hrel
          by_cases hj8 : j < 8
          · by_cases hja : j = a
            · subst hja
              go_wp2_with fail
              go_roundw
              case rel => exact ⟨j + 1, by omega, by go_num, htj, hbj, hzj⟩
              case measure => simp [intOf]; omega
            · have hja2 : ¬ ((j : Int) = (a : Int)) := by omega
              have HJA := Lib.hid hja
              clear hja
              go_wp2_with fail
              (with_reducible refine (Len_s _ _ _ _ j htj.out hj8).mono ?_); rintro e w9 ⟨rfl, q9, rfl⟩
              rw [one_ne _ HJA.out]
              have HB9 := Lib.hid (below_drewN hbj.out q9)
              have HT9 := Lib.hid (htj.out.below (drewN_below _ q9))
              go_wp2_with fail
              go_roundw
              case rel => exact ⟨j + 1, by omega, by go_num, HT9, HB9, hzj⟩
              case measure => simp [intOf]; omega
          · obtain rfl : j = 8 := by omega
            go_wp2_with fail
            refine (Take_s_yes _ _ _ _ a htj.out ha 0 y (by rw [one_same]; exact HM.out)).mono ?_; rintro e w9 ⟨A9, c9, rfl, ht9, hs9, ho9⟩
            have HB9 := Lib.hid (hs9.on' hzj.out HB1.out hbj.out)
            clear ht9 hs9
            have hy1 : y.1 = [1] := by rw [HY.out (by omega)]
            rw [hy1] at ho9
            rw [hy1]
            obtain ⟨b9, rfl, _⟩ := ho9.at_some (by simp)
            have hc9 : w9.cell? ⟨b9, 0, none⟩ = some (.int .u8 1) := ho9.cell (x := 1) rfl
            clear ho9 hy1
            go_wp2_with fail
            go_ret
            exact ⟨rfl, HB9.out⟩
      · have ht0 := ht.out
        rw [Nat.min_eq_right (by omega)] at ht0
        have h5 : ¬ (k : Int) < 200 := by omega
        have h6 : ¬ (k : Int) ≤ 200 := by omega
        have h8 : 0 < (k : Int) := by omega
        have HK0 : Hid (0 < 200) := by unfold Hid; omega
        have HT3 := Lib.hid ht0
        clear ht ht0
        go_wp2_with fail
        (with_reducible refine (Len_s _ _ _ _ a HT3.out ha).mono ?_); rintro e w4 ⟨rfl, q4, rfl⟩
        rw [one_same, fulls_length]
        have HB4 := Lib.hid (below_drewN hb.out q4)
        have HZ4 : Hid (w1.heap.size ≤ (wr.drewN q4).heap.size) := hz.out
        have HT4 := Lib.hid (HT3.out.below (drewN_below wr q4))
        generalize wr.drewN q4 = w4 at *
        go_wp2_with fail
        refine (Double_s_yes _ _ _ _ a HT4.out ha 0 ([UInt8.ofNat 0], false) (by rw [one_same]; exact fulls_get (by omega))).mono ?_; rintro e w5 ⟨rfl, ht5, hs5⟩
        rw [one_same, if_neg (by rw [fulls_length]; omega)] at ht5
        rw [one_same, decide_eq_false (by rw [fulls_length]; omega)]
        obtain ⟨X0, hX0⟩ : ∃ X0 : Fr, X0 = ([UInt8.ofNat 0], false) := ⟨_, rfl⟩
        obtain ⟨LM, hLM⟩ : ∃ LM, LM = fulls 200 := ⟨_, rfl⟩
        rw [← hLM] at ht5
        have HLE : Hid ((fulls 200).length = 200) := fulls_length _
        have HLM : Hid (LM = fulls 200 ++ []) := by rw [hLM, List.append_nil]; exact rfl
        have HX0 : Hid (LM[0]? = some X0) := by rw [hLM, fulls_get (by omega), hX0]; rfl
        clear hX0 hLM
        have HB5 := Lib.hid (hs5.on' HZ4.out HB1.out HB4.out)
        have HZ5 := Lib.hid (Nat.le_trans HZ4.out hs5.size)
        have HT5 := Lib.hid ht5
        clear ht5 hs5
        go_wp2_with fail
        refine (Late_s_yes _ _ _ _ a HT5.out ha 0 X0 (by rw [one_same]; exact HX0.out)).mono ?_; rintro e w6 ⟨rfl, ht6, hs6⟩
        rw [one_same, upd_one] at ht6
        have HB6 := Lib.hid (hs6.on' HZ5.out HB1.out HB5.out)
        have HZ6 := Lib.hid (Nat.le_trans HZ5.out hs6.size)
        obtain ⟨y, hy1, hy2⟩ := late_first (x := X0) (n := 200) (L := fulls 200) HK0.out HLE.out (fun h => by rw [fulls_get (by omega)]; rfl) []
        obtain ⟨M, hM⟩ : ∃ M, M = LM.eraseIdx 0 ++ [X0] := ⟨_, rfl⟩
        rw [← hM] at ht6
        have HM : Hid (M[0]? = some y) := by rw [hM, HLM.out]; exact hy1
        have HY := Lib.hid hy2
        have HT6 := Lib.hid ht6
        clear hs6 ht6 hM hy1 hy2 HT3 HT4 HT5 HB4 HB5 HZ4 HZ5 HX0
        go_wp2_with fail
        go_loopw [8] (fun i wr => ∃ j : Nat, j ≤ 8 ∧ i = .int .i64 j ∧ Hid (NetS w1.heap.size wr w1.heap.size (one a M)) ∧ Hid (Below w.heap.size w wr) ∧ Hid (w1.heap.size ≤ wr.heap.size)) (fun i _ => 8 - (intOf i).toNat)
        case atStart => exact ⟨0, Nat.zero_le _, rfl, HT6, HB6, HZ6⟩
        case round =>
          obtain ⟨j, hj, rfl, htj, hbj, hzj⟩ := hrel
          by_cases hj8 : j < 8
          · by_cases hja : j = a
            · subst hja
              go_wp2_with fail
              go_roundw
              case rel => exact ⟨j + 1, by omega, by go_num, htj, hbj, hzj⟩
              case measure => simp [intOf]; omega
            · have hja2 : ¬ ((j : Int) = (a : Int)) := by omega
              have HJA := Lib.hid hja
              clear hja
              go_wp2_with fail
              (with_reducible refine (Len_s _ _ _ _ j htj.out hj8).mono ?_); rintro e w9 ⟨rfl, q9, rfl⟩
              rw [one_ne _ HJA.out]
              have HB9 := Lib.hid (below_drewN hbj.out q9)
              have HT9 := Lib.hid (htj.out.below (drewN_below _ q9))
              go_wp2_with fail
              go_roundw
              case rel => exact ⟨j + 1, by omega, by go_num, HT9, HB9, hzj⟩
              case measure => simp [intOf]; omega
          · obtain rfl : j = 8 := by omega
            go_wp2_with fail
            refine (Take_s_yes _ _ _ _ a htj.out ha 0 y (by rw [one_same]; exact HM.out)).mono ?_; rintro e w9 ⟨A9, c9, rfl, ht9, hs9, ho9⟩
            have HB9 := Lib.hid (hs9.on' hzj.out HB1.out hbj.out)
            clear ht9 hs9
            by_cases hk1 : k < 2
            · have hk1' : (k : Int) < 2 := by omega
              clear ho9
              go_wp2_with fail
              go_ret
              exact ⟨rfl, HB9.out⟩
            · have hk1' : ¬ (k : Int) < 2 := by omega
              have hy1 : y.1 = [1] := by rw [HY.out (by omega)]
              rw [hy1] at ho9
              rw [hy1]
              obtain ⟨b9, rfl, _⟩ := ho9.at_some (by simp)
              have hc9 : w9.cell? ⟨b9, 0, none⟩ = some (.int .u8 1) := ho9.cell (x := 1) rfl
              clear ho9 hy1
              go_wp2_with fail
              go_ret
              exact ⟨rfl, HB9.out⟩

theorem full_c (a m : Int) (w : World) : Calls Try.prog 6 #[.int .i64 a, .int .i64 m] w fun e w' => e = .returned (.bool true) ∧ Below w.heap.size w w' := by
  by_cases h1 : m < 0
  · exact full_early a m w (.inl h1)
  · by_cases h2 : 250 < m
    · exact full_early a m w (.inr (.inl ⟨h1, h2⟩))
    · by_cases h3 : a < 0
      · exact full_early a m w (.inr (.inr (.inl ⟨h1, h2, h3⟩)))
      · by_cases h4 : 7 < a
        · exact full_early a m w (.inr (.inr (.inr ⟨h1, h2, h3, h4⟩)))
        · obtain ⟨x, rfl⟩ := Int.eq_ofNat_of_zero_le (a := a) (by omega)
          obtain ⟨y, rfl⟩ := Int.eq_ofNat_of_zero_le (a := m) (by omega)
          exact full_main x y w (by omega) (by omega)

end Go.Proofs.Yteoafaofiohefaa
