import Derived.Test.YteabhokkiggcjaaStr
namespace Go.Proofs.Yteabhokkiggcjaa
open Go.RowKit

set_option maxRecDepth 1000000 in
set_option maxHeartbeats 8000000 in
theorem room_c (room : Int) (A : Option Addr) (L : List (List UInt8)) (c : Nat) (drop : Int) (w : World) (h : RdS w A L) (hl : L.length ≤ 9223372036854775807)
    (hr1 : -9223372036854775808 ≤ room) (hr2 : room ≤ 9223372036854775807) :
    Calls Try.prog 5 #[.int .i64 room, .slice A L.length c, .int .i64 drop] w fun e w' => e = .returned (.bool true) ∧ Below w.heap.size w w' := by
  have H := Lib.hid h
  clear h
  go_enter Try.func5, Try.ntmps5
  go_wp2_with fail
  refine (alive_c _).mono ?_; rintro e w1 ⟨rfl, hb1⟩
  have HB1 := Lib.hid hb1
  clear hb1
  by_cases hlen : 100 < L.length
  · go_wp2_with fail
    go_ret
    exact ⟨rfl, HB1.out⟩
  · go_wp2_with fail
    refine (new_c w1 room hr1 hr2).mono ?_; rintro e w2 ⟨rfl, ht2, hb2⟩
    have hrr : ((max 0 (min room 20000)).toNat : Int) = max 0 (min room 20000) := by omega
    have HRR := Lib.hid hrr
    clear hrr
    generalize (max 0 (min room 20000)).toNat = r at *
    have HT2 := Lib.hid ht2
    have HB2 := Lib.hid (HB1.out.trans (hb2.mono HB1.out.size))
    have HW1 := Lib.hid HB1.out.size
    clear ht2 hb2
    go_wp2_with fail
    go_loopw [8, 21] (fun s i wr => ∃ k : Nat, k ≤ L.length ∧ i = .int .i64 k ∧ ∃ (f : List UInt8) (S : ByteArray) (fb : Option Nat), s = .string S ∧ Hid (S = ⟨f.toArray⟩) ∧ S.size = f.length ∧ f.length ≤ 20000 ∧ Hid (f.length ≤ r) ∧ Hid (TapeAt wr w1.heap.size w1.heap.size f [] r fb none) ∧ Hid (Below w.heap.size w wr)) (fun _ i _ => L.length - (intOf i).toNat)
    case atStart => exact ⟨0, Nat.zero_le _, rfl, [], ⟨#[]⟩, none, rfl, rfl, rfl, by simp, Nat.zero_le _, HT2, HB2⟩
    case round =>
      obtain ⟨k, hk, rfl, f, S, fb, rfl, hS, hsz, hf2, hfr, ht, hb⟩ := hrel
      by_cases hlt : k < L.length
      · obtain ⟨p, hp⟩ := get_some L k hlt
        obtain ⟨a, Bp, cp, rfl, hcell0, hnp, hlp, hrp⟩ := H.out k p hp
        have hcell := (hb.out.cell (World.block_lt_of_cell? w _ hcell0)).trans hcell0
        have HRP := Lib.hid hrp
        have HNP := Lib.hid hnp
        have HRW := Lib.hid (hrp.below hb.out)
        clear hp hrp hnp hcell0
        by_cases h1 : 3000 < p.length
        · go_wp2_with fail
          go_ret
          exact ⟨rfl, hb.out⟩
        · have hq1 : (f.length : Int) ≤ 8388608 := by omega
          have hq2 : (p.length : Int) ≤ 8388608 := by omega
          have hcase : (p = [] ∧ Hid (p.length ≤ r - f.length)) ∨ ((¬ p = [] ∧ 20000 < room ∧ ((f.length:Int) + p.length ≤ 20000) ∧ Hid (p.length ≤ r - f.length)) ∨ (¬ p = [] ∧ ¬ 20000 < room ∧ ((f.length:Int) + p.length ≤ room) ∧ Hid (p.length ≤ r - f.length))) ∨ (¬ p = [] ∧ 20000 < room ∧ (20000 < (f.length:Int) + p.length) ∧ Hid (r - f.length < p.length)) ∨ (¬ p = [] ∧ ¬ 20000 < room ∧ (room < (f.length:Int) + p.length) ∧ Hid (r - f.length < p.length)) := by
            have h5 := HRR.out
            have h6 := hfr.out
            unfold Hid
            by_cases h0 : p = []
            · left; exact ⟨h0, by rw [h0]; simp⟩
            · have h7 : 0 < p.length := List.length_pos_iff.2 h0
              by_cases h8 : 20000 < room
              · by_cases h9 : (f.length:Int) + p.length ≤ 20000
                · right; left; left; exact ⟨h0, h8, h9, by omega⟩
                · right; right; left; exact ⟨h0, h8, by omega, by omega⟩
              · by_cases h9 : (f.length:Int) + p.length ≤ room
                · right; left; right; exact ⟨h0, h8, h9, by omega⟩
                · right; right; right; exact ⟨h0, h8, by omega, by omega⟩
          rcases hcase with ⟨rfl, h3⟩ | hcase | hcase
          · go_wp2_with (at_builtin; refine copy8 rfl _ _ rfl _ rfl [] Bp cp HRW.out rfl rfl HNP.out (by first | omega | simp) ?_)
            intro A3 c3 w3 ho3 hb3
            have HO3 := Lib.hid ho3
            have HB3 := Lib.hid (hb.out.trans (hb3.mono hb.out.size))
            have HT3 := Lib.hid (ht.out.below hb3)
            clear ho3 hb3
            go_wp2_with fail

            refine (append_ok w1.heap.size w3 w1.heap.size f [] r fb none HT3.out A3 _ c3 HO3.out.rd HO3.out.nil_cap (by first | omega | simp) h3.out).mono ?_
            rintro e w4 ⟨rfl, lb4, ht4, hn4, hu4⟩
            simp only [List.nil_append] at ht4
            have HT4 := Lib.hid ht4
            have HB4 := Lib.hid (HB3.out.trans ((HT3.out.step (Below.refl _ _) hu4).mono HW1.out))
            have e4 := str8 (n := 0) (c := cp) (HRP.out.below HB4.out) rfl
            clear ht4 hn4 hu4
            go_wp2_with fail
            refine (sync_c w1.heap.size _ w1.heap.size f _ r fb lb4 HT4.out).mono ?_
            rintro e w5 ⟨rfl, fb5, ht5, hn5, hu5⟩
            have HB5 := Lib.hid (HB4.out.trans ((HT4.out.step (Below.refl _ _) hu5).mono HW1.out))
            clear e4 hn5 hu5

            obtain ⟨f2, hf2e⟩ : ∃ f2, f ++ [] = f2 := ⟨_, rfl⟩
            have hS2 : Hid (S ++ ⟨#[]⟩ = ⟨f2.toArray⟩) := by unfold Hid; rw [← hf2e, hS.out]; exact str_add f []
            have hsz2 : (S ++ ⟨#[]⟩ : ByteArray).size = f2.length := by rw [hS2.out, str_size]
            have hfr2 : Hid (f2.length ≤ r) := by have := hfr.out; rw [← hf2e]; unfold Hid; simp; omega
            rw [hf2e] at ht5
            have hf2m : f2.length ≤ 20000 := by have := ht5.many; simpa using this
            clear hsz hS
            generalize S ++ _ = S2 at *

            have HT5 := Lib.hid ht5
            clear ht5 hf2e hcell
            have hd : (0 ≤ drop ∧ drop ≤ f2.length) ∨ (drop < 0 ∧ ¬ 0 ≤ drop) ∨ (0 ≤ drop ∧ ¬ drop ≤ f2.length ∧ f2.length < drop) := by omega
            rcases hd with ⟨hd1, hd2⟩ | ⟨hd1, hd2⟩ | ⟨hd1, hd2, hd3⟩
            · obtain ⟨n, rfl⟩ := Int.eq_ofNat_of_zero_le hd1
              have hn : n ≤ f2.length := by omega
              go_wp2_with fail
              refine (drop_yes w1.heap.size _ w1.heap.size f2 [] r fb5 none HT5.out n hn).mono ?_
              rintro e w6 ⟨rfl, fb6, ht6, hn6, hu6⟩
              have HT6 := Lib.hid ht6
              have HB6 := Lib.hid (HB5.out.trans ((HT5.out.step (Below.refl _ _) hu6).mono HW1.out))
              have hS6 : Hid (S2.extract n f2.length = ⟨(f2.drop n).toArray⟩) := by unfold Hid; rw [hS2.out, str_drop]
              have hl6 : Hid ((f2.drop n).length ≤ r) := by have := hfr2.out; unfold Hid; simp; omega
              have hm6 : (f2.drop n).length ≤ 20000 := by simp; omega
              clear ht6 hn6 hu6
              go_wp2_with fail
              rw [hS6.out]
              generalize f2.drop n = f6 at *
              refine (bytes_c w1.heap.size _ w1.heap.size f6 [] r fb6 none HT6.out).mono ?_
              rintro e w7 ⟨A7, c7, rfl, ho7, hb7⟩
              rw [List.append_nil] at ho7
              rw [List.append_nil]
              have HT7 := Lib.hid (HT6.out.below hb7)
              have HB7 := Lib.hid (HB6.out.trans (hb7.mono HB6.out.size))
              have e7 := str8 (n := f6.length) (c := c7) ho7.rd rfl
              clear ho7 hb7
              go_wp2_with fail
              go_roundw
              case rel => exact ⟨k + 1, by omega, by go_num, f6, ⟨f6.toArray⟩, fb6, rfl, rfl, str_size _, hm6, hl6, HT7, HB7⟩
              case measure => simp [intOf]; omega
            all_goals
              go_wp2_with fail
              refine (drop_no w1.heap.size _ w1.heap.size f2 [] r fb5 none HT5.out drop (by omega)).mono ?_
              rintro e w6 ⟨rfl, rfl⟩
              go_wp2_with fail
              rw [hS2.out]
              refine (bytes_c w1.heap.size _ w1.heap.size f2 [] r fb5 none HT5.out).mono ?_
              rintro e w7 ⟨A7, c7, rfl, ho7, hb7⟩
              rw [List.append_nil] at ho7
              rw [List.append_nil]
              have HT7 := Lib.hid (HT5.out.below hb7)
              have HB7 := Lib.hid (HB5.out.trans (hb7.mono HB5.out.size))
              have e7 := str8 (n := f2.length) (c := c7) ho7.rd rfl
              clear ho7 hb7
              go_wp2_with fail
              go_roundw
              case rel => exact ⟨k + 1, by omega, by go_num, f2, ⟨f2.toArray⟩, fb5, rfl, rfl, str_size _, hf2m, hfr2, HT7, HB7⟩
              case measure => simp [intOf]; omega
          · rcases hcase with ⟨h0, h2, h2', h3⟩ | ⟨h0, h2, h2', h3⟩
            all_goals
              have hz : ((p.length : Int) == 0) = false := by have := List.length_pos_iff.2 h0; simp; omega

              go_wp2_with (at_builtin; refine copy8 rfl _ _ rfl _ rfl p Bp cp HRW.out rfl rfl HNP.out (by first | omega | simp) ?_)
              intro A3 c3 w3 ho3 hb3
              have HO3 := Lib.hid ho3
              have HB3 := Lib.hid (hb.out.trans (hb3.mono hb.out.size))
              have HT3 := Lib.hid (ht.out.below hb3)
              clear ho3 hb3
              go_wp2_with fail

              refine (append_ok w1.heap.size w3 w1.heap.size f [] r fb none HT3.out A3 _ c3 HO3.out.rd HO3.out.nil_cap (by first | omega | simp) h3.out).mono ?_
              rintro e w4 ⟨rfl, lb4, ht4, hn4, hu4⟩
              simp only [List.nil_append] at ht4
              have HT4 := Lib.hid ht4
              have HB4 := Lib.hid (HB3.out.trans ((HT3.out.step (Below.refl _ _) hu4).mono HW1.out))
              have e4 := str8 (n := p.length) (c := cp) (HRP.out.below HB4.out) rfl
              clear ht4 hn4 hu4
              go_wp2_with fail
              refine (sync_c w1.heap.size _ w1.heap.size f _ r fb lb4 HT4.out).mono ?_
              rintro e w5 ⟨rfl, fb5, ht5, hn5, hu5⟩
              have HB5 := Lib.hid (HB4.out.trans ((HT4.out.step (Below.refl _ _) hu5).mono HW1.out))
              clear e4 hn5 hu5

              obtain ⟨f2, hf2e⟩ : ∃ f2, f ++ p = f2 := ⟨_, rfl⟩
              have hS2 : Hid (S ++ ⟨p.toArray⟩ = ⟨f2.toArray⟩) := by unfold Hid; rw [hS.out, str_add, hf2e]
              have hsz2 : (S ++ ⟨p.toArray⟩ : ByteArray).size = f2.length := by rw [hS2.out, str_size]
              have hfr2 : Hid (f2.length ≤ r) := by have := h3.out; have := hfr.out; rw [← hf2e]; unfold Hid; simp; omega
              rw [hf2e] at ht5
              have hf2m : f2.length ≤ 20000 := by have := ht5.many; simpa using this
              clear hsz hS
              generalize S ++ _ = S2 at *

              have HT5 := Lib.hid ht5
              clear ht5 hf2e hcell
              have hd : (0 ≤ drop ∧ drop ≤ f2.length) ∨ (drop < 0 ∧ ¬ 0 ≤ drop) ∨ (0 ≤ drop ∧ ¬ drop ≤ f2.length ∧ f2.length < drop) := by omega
              rcases hd with ⟨hd1, hd2⟩ | ⟨hd1, hd2⟩ | ⟨hd1, hd2, hd3⟩
              · obtain ⟨n, rfl⟩ := Int.eq_ofNat_of_zero_le hd1
                have hn : n ≤ f2.length := by omega
                go_wp2_with fail
                refine (drop_yes w1.heap.size _ w1.heap.size f2 [] r fb5 none HT5.out n hn).mono ?_
                rintro e w6 ⟨rfl, fb6, ht6, hn6, hu6⟩
                have HT6 := Lib.hid ht6
                have HB6 := Lib.hid (HB5.out.trans ((HT5.out.step (Below.refl _ _) hu6).mono HW1.out))
                have hS6 : Hid (S2.extract n f2.length = ⟨(f2.drop n).toArray⟩) := by unfold Hid; rw [hS2.out, str_drop]
                have hl6 : Hid ((f2.drop n).length ≤ r) := by have := hfr2.out; unfold Hid; simp; omega
                have hm6 : (f2.drop n).length ≤ 20000 := by simp; omega
                clear ht6 hn6 hu6
                go_wp2_with fail
                rw [hS6.out]
                generalize f2.drop n = f6 at *
                refine (bytes_c w1.heap.size _ w1.heap.size f6 [] r fb6 none HT6.out).mono ?_
                rintro e w7 ⟨A7, c7, rfl, ho7, hb7⟩
                rw [List.append_nil] at ho7
                rw [List.append_nil]
                have HT7 := Lib.hid (HT6.out.below hb7)
                have HB7 := Lib.hid (HB6.out.trans (hb7.mono HB6.out.size))
                have e7 := str8 (n := f6.length) (c := c7) ho7.rd rfl
                clear ho7 hb7
                go_wp2_with fail
                go_roundw
                case rel => exact ⟨k + 1, by omega, by go_num, f6, ⟨f6.toArray⟩, fb6, rfl, rfl, str_size _, hm6, hl6, HT7, HB7⟩
                case measure => simp [intOf]; omega
              all_goals
                go_wp2_with fail
                refine (drop_no w1.heap.size _ w1.heap.size f2 [] r fb5 none HT5.out drop (by omega)).mono ?_
                rintro e w6 ⟨rfl, rfl⟩
                go_wp2_with fail
                rw [hS2.out]
                refine (bytes_c w1.heap.size _ w1.heap.size f2 [] r fb5 none HT5.out).mono ?_
                rintro e w7 ⟨A7, c7, rfl, ho7, hb7⟩
                rw [List.append_nil] at ho7
                rw [List.append_nil]
                have HT7 := Lib.hid (HT5.out.below hb7)
                have HB7 := Lib.hid (HB5.out.trans (hb7.mono HB5.out.size))
                have e7 := str8 (n := f2.length) (c := c7) ho7.rd rfl
                clear ho7 hb7
                go_wp2_with fail
                go_roundw
                case rel => exact ⟨k + 1, by omega, by go_num, f2, ⟨f2.toArray⟩, fb5, rfl, rfl, str_size _, hf2m, hfr2, HT7, HB7⟩
                case measure => simp [intOf]; omega
          · rcases hcase with ⟨h0, h2, h2', h3⟩ | ⟨h0, h2, h2', h3⟩
            all_goals
              have hz : ((p.length : Int) == 0) = false := by have := List.length_pos_iff.2 h0; simp; omega

              have hz2 : decide ((f.length : Int) + (p.length : Int) ≤ 20000) = false ∨ decide ((f.length : Int) + (p.length : Int) ≤ room) = false := by simp; omega
              first
                | (have hz3 : decide ((f.length : Int) + (p.length : Int) ≤ 20000) = false := by (simp; omega))
                | (have hz3 : decide ((f.length : Int) + (p.length : Int) ≤ room) = false := by (simp; omega))
              clear hz2

              go_wp2_with (at_builtin; refine copy8 rfl _ _ rfl _ rfl p Bp cp HRW.out rfl rfl HNP.out (by first | omega | simp) ?_)
              intro A3 c3 w3 ho3 hb3
              have HO3 := Lib.hid ho3
              have HB3 := Lib.hid (hb.out.trans (hb3.mono hb.out.size))
              have HT3 := Lib.hid (ht.out.below hb3)
              clear ho3 hb3
              go_wp2_with fail

              refine (append_full w1.heap.size w3 w1.heap.size f [] r fb none HT3.out A3 _ c3 HO3.out.rd HO3.out.nil_cap (by omega) (by have := h3.out; simp; omega)).mono ?_
              rintro e w4 ⟨rfl, nq, rfl⟩
              have HT4 := Lib.hid (HT3.out.drewN nq)
              have HB4 := Lib.hid (below_drewN HB3.out nq)
              go_wp2_with fail
              refine (sync_c w1.heap.size _ w1.heap.size f _ r fb _ HT4.out).mono ?_
              rintro e w5 ⟨rfl, fb5, ht5, hn5, hu5⟩
              have HB5 := Lib.hid (HB4.out.trans ((HT4.out.step (Below.refl _ _) hu5).mono HW1.out))
              rw [List.append_nil] at ht5
              clear hn5 hu5

              obtain ⟨f2, hf2e⟩ : ∃ f2, f = f2 := ⟨_, rfl⟩
              rw [hf2e] at ht5
              have hsz2 : S.size = f2.length := by rw [← hf2e]; exact hsz
              have hfr2 : Hid (f2.length ≤ r) := by rw [← hf2e]; exact hfr
              have hS2 : Hid (S = ⟨f2.toArray⟩) := by rw [← hf2e]; exact hS
              have hf2m : f2.length ≤ 20000 := by have := ht5.many; simpa using this
              clear hsz hS
              generalize S = S2 at *

              have HT5 := Lib.hid ht5
              clear ht5 hf2e hcell
              have hd : (0 ≤ drop ∧ drop ≤ f2.length) ∨ (drop < 0 ∧ ¬ 0 ≤ drop) ∨ (0 ≤ drop ∧ ¬ drop ≤ f2.length ∧ f2.length < drop) := by omega
              rcases hd with ⟨hd1, hd2⟩ | ⟨hd1, hd2⟩ | ⟨hd1, hd2, hd3⟩
              · obtain ⟨n, rfl⟩ := Int.eq_ofNat_of_zero_le hd1
                have hn : n ≤ f2.length := by omega
                go_wp2_with fail
                refine (drop_yes w1.heap.size _ w1.heap.size f2 [] r fb5 none HT5.out n hn).mono ?_
                rintro e w6 ⟨rfl, fb6, ht6, hn6, hu6⟩
                have HT6 := Lib.hid ht6
                have HB6 := Lib.hid (HB5.out.trans ((HT5.out.step (Below.refl _ _) hu6).mono HW1.out))
                have hS6 : Hid (S2.extract n f2.length = ⟨(f2.drop n).toArray⟩) := by unfold Hid; rw [hS2.out, str_drop]
                have hl6 : Hid ((f2.drop n).length ≤ r) := by have := hfr2.out; unfold Hid; simp; omega
                have hm6 : (f2.drop n).length ≤ 20000 := by simp; omega
                clear ht6 hn6 hu6
                go_wp2_with fail
                rw [hS6.out]
                generalize f2.drop n = f6 at *
                refine (bytes_c w1.heap.size _ w1.heap.size f6 [] r fb6 none HT6.out).mono ?_
                rintro e w7 ⟨A7, c7, rfl, ho7, hb7⟩
                rw [List.append_nil] at ho7
                rw [List.append_nil]
                have HT7 := Lib.hid (HT6.out.below hb7)
                have HB7 := Lib.hid (HB6.out.trans (hb7.mono HB6.out.size))
                have e7 := str8 (n := f6.length) (c := c7) ho7.rd rfl
                clear ho7 hb7
                go_wp2_with fail
                go_roundw
                case rel => exact ⟨k + 1, by omega, by go_num, f6, ⟨f6.toArray⟩, fb6, rfl, rfl, str_size _, hm6, hl6, HT7, HB7⟩
                case measure => simp [intOf]; omega
              all_goals
                go_wp2_with fail
                refine (drop_no w1.heap.size _ w1.heap.size f2 [] r fb5 none HT5.out drop (by omega)).mono ?_
                rintro e w6 ⟨rfl, rfl⟩
                go_wp2_with fail
                rw [hS2.out]
                refine (bytes_c w1.heap.size _ w1.heap.size f2 [] r fb5 none HT5.out).mono ?_
                rintro e w7 ⟨A7, c7, rfl, ho7, hb7⟩
                rw [List.append_nil] at ho7
                rw [List.append_nil]
                have HT7 := Lib.hid (HT5.out.below hb7)
                have HB7 := Lib.hid (HB5.out.trans (hb7.mono HB5.out.size))
                have e7 := str8 (n := f2.length) (c := c7) ho7.rd rfl
                clear ho7 hb7
                go_wp2_with fail
                go_roundw
                case rel => exact ⟨k + 1, by omega, by go_num, f2, ⟨f2.toArray⟩, fb5, rfl, rfl, str_size _, hf2m, hfr2, HT7, HB7⟩
                case measure => simp [intOf]; omega
      · go_wp2_with fail
        go_ret
        exact ⟨rfl, hb.out⟩

end Go.Proofs.Yteabhokkiggcjaa
