import Derived.Test.YteabhokkiggcjaaOpen06
namespace Go.Proofs.Yteabhokkiggcjaa
open Go.RowKit

theorem take_min {α : Type} (l : List α) (k : Nat) : l.take (min k l.length) = l.take k := by
  rcases Nat.le_total k l.length with h | h
  · rw [Nat.min_eq_left h]
  · rw [Nat.min_eq_right h, List.take_length, List.take_of_length_le h]

set_option maxRecDepth 1000000 in
set_option maxHeartbeats 8000000 in
theorem keeps_c (A : Option Addr) (L : List (Int × Int × List UInt8)) (c : Nat) (k1 k2 : Int) (w : World) (h : RdA w A L) (hl : L.length ≤ 9223372036854775807)
    (ha1 : -9223372036854775808 ≤ k1) (ha2 : k1 ≤ 9223372036854775807) (hb1 : -9223372036854775808 ≤ k2) (hb2 : k2 ≤ 9223372036854775807) :
    Calls Try.prog 4 #[.slice A L.length c, .agg #[.int .i64 k1, .int .i64 k2]] w fun e w' => e = .returned (.bool true) ∧ Below w.heap.size w w' := by
  have H := Lib.hid h
  clear h
  have hwb : Below w.heap.size w (w.alloc (.cells #[.int .i64 k1, .int .i64 k2] 29)) := (Below.refl _ _).alloc (Nat.le_refl _) _
  have hbx := heap_alloc_new w (.cells #[.int .i64 k1, .int .i64 k2] 29)
  have HWB := Lib.hid hwb
  have HBX := Lib.hid hbx
  clear hwb hbx
  go_enter Try.func4, Try.ntmps4
  go_wp2_with fail
  have hs0 : (w.alloc (.cells #[.int .i64 k1, .int .i64 k2] 29)).heap.size = w.heap.size + 1 := by simp
  generalize w.alloc (.cells #[.int .i64 k1, .int .i64 k2] 29) = w0 at *
  have HS0 := Lib.hid hs0
  clear hs0
  refine (alive_c _).mono ?_; rintro e w1 ⟨rfl, hb1⟩
  have HB1 := Lib.hid hb1
  clear hb1
  by_cases hlen : 200 < L.length
  · go_wp2_with fail
    go_ret
    exact ⟨rfl, HWB.out.trans (HB1.out.mono (by have := HS0.out; omega))⟩
  · go_wp2_with fail
    refine (new_c w1 20000 (by decide) (by decide)).mono ?_; rintro e w2 ⟨rfl, ht2, hb2⟩
    have hrr : ((max 0 (min (20000 : Int) 20000)).toNat) = 20000 := by decide
    rw [hrr] at ht2
    clear hrr
    have HT2 := Lib.hid ht2
    have HB2 := Lib.hid (HB1.out.trans (hb2.mono HB1.out.size))
    have HW1 := Lib.hid HB1.out.size
    clear ht2 hb2
    go_wp2_with fail
    go_loopw [6, 7, 19] (fun s q i wr => ∃ k : Nat, k ≤ L.length ∧ i = .int .i64 k ∧ ∃ (f l : List UInt8) (S : ByteArray) (fb lb : Option Nat), s = .string S ∧ q = .int .i64 f.length ∧ Hid (S = ⟨(f ++ l).toArray⟩) ∧ S.size = f.length + l.length ∧ Hid (TapeAt wr w1.heap.size w1.heap.size f l 20000 fb lb) ∧ Hid (Below w0.heap.size w0 wr)) (fun _ _ i _ => L.length - (intOf i).toNat)
    case atStart => exact ⟨0, Nat.zero_le _, rfl, [], [], ⟨#[]⟩, none, none, rfl, rfl, rfl, rfl, HT2, HB2⟩
    case round =>
      obtain ⟨k, hk, rfl, f, l, S, fb, lb, rfl, rfl, hS, hsz, ht, hb⟩ := hrel
      by_cases hlt : k < L.length
      · obtain ⟨⟨kd, n, p⟩, hp⟩ := get_some L k hlt
        obtain ⟨a, Bp, cp, rfl, hc0, hc1, hc2, hnp, hlp, hrp, ⟨kl, ku⟩, ⟨nl, nu⟩⟩ := H.out k _ hp
        simp only at hc0 hc1 hc2 hlp hrp kl ku nl nu
        have hbw := HWB.out.trans (hb.out.mono (by have := HS0.out; omega))
        have hd0 := (hbw.cell (World.block_lt_of_cell? w _ hc0)).trans hc0
        have hd1 := (hbw.cell (World.block_lt_of_cell? w _ hc1)).trans hc1
        have hd2 := (hbw.cell (World.block_lt_of_cell? w _ hc2)).trans hc2
        have HRP := Lib.hid hrp
        have HNP := Lib.hid hnp
        have HRW := Lib.hid (hrp.below hbw)
        have HBW := Lib.hid hbw
        rw [add_far a (k * 3) 1 (by omega)] at hd1
        rw [add_far a (k * 3) 2 (by omega)] at hd2
        clear hp hrp hnp hc0 hc1 hc2 hbw
        have hT0 := ht.out.alloc (.cells #[.int .i64 kd, .int .i64 n, .slice Bp p.length cp] 31)
        have hB0 := hb.out.alloc hb.out.size (.cells #[.int .i64 kd, .int .i64 n, .slice Bp p.length cp] 31)
        have HT0 := Lib.hid hT0
        have HB0 := Lib.hid hB0
        have htm := ht.out.many
        clear hT0 hB0
        by_cases hkd : kd = 1
        · subst hkd
          go_wp2_with fail
          refine (sync_c w1.heap.size _ w1.heap.size f l 20000 fb lb HT0.out).mono ?_
          rintro e w3 ⟨rfl, fb3, ht3, hn3, hu3⟩
          have HT3 := Lib.hid ht3
          have HB3 := Lib.hid (HB0.out.trans ((HT0.out.step (Below.refl _ _) hu3).mono HW1.out))
          clear ht3 hn3 hu3
          go_wp2_with fail
          go_roundw
          case rel => exact ⟨k + 1, by omega, by go_num, f ++ l, [], S, fb3, none, rfl, by simp, by rw [List.append_nil]; exact hS, by simpa using hsz, HT3, HB3⟩
          case measure => simp [intOf]; omega
        · have hkd2 : (kd == 1) = false := by simpa using hkd
          have hr9 := heap_alloc_new wr (.cells #[.int .i64 kd, .int .i64 n, .slice Bp p.length cp] 31)
          have HR9 := Lib.hid hr9
          have HRX := Lib.hid (HRW.out.below ((Below.refl _ _).alloc (Nat.le_refl _) (.cells #[.int .i64 kd, .int .i64 n, .slice Bp p.length cp] 31)))
          clear hr9 hkd
          go_wp2_with (at_builtin; refine copy8 rfl _ _ rfl _ (by simp) p Bp cp HRX.out rfl rfl HNP.out (by omega) ?_)
          intro A3 c3 w3 ho3 hb3
          have hr3 := (hb3.block wr.heap.size (by omega)).trans HR9.out
          have HR3 := Lib.hid hr3
          have HO3 := Lib.hid ho3
          have HB3 := Lib.hid (HB0.out.trans (hb3.mono (by have := HB0.out.size; simpa using this)))
          have HT3 := Lib.hid (HT0.out.below (hb3.mono (by simp)))
          have hsz3 : wr.heap.size + 1 ≤ w3.heap.size := by have := hb3.size; simp at this; omega
          have HZ3 := Lib.hid hsz3
          clear ho3 hb3 hr3 hsz3
          go_wp2_with fail
          by_cases hfit : p.length ≤ 20000 - (f.length + l.length)
          · have HFIT := Lib.hid hfit
            refine (append_ok w1.heap.size w3 w1.heap.size f l 20000 fb lb HT3.out A3 p c3 HO3.out.rd HO3.out.nil_cap hlp hfit).mono ?_
            rintro e w4 ⟨rfl, lb4, ht4, hn4, hu4⟩
            have hr4 := (hu4.block wr.heap.size (by have := HZ3.out; omega) (by intro e; rcases e with e | e; exact absurd e (by have := ht.out.lt; omega); exact absurd (ht.out.lb_lt _ e).2 (by omega))).trans HR3.out
            have g2 := cell_of_row w4 wr.heap.size 2 _ _ _ hr4
            simp at g2
            have HT4 := Lib.hid ht4
            have HB4 := Lib.hid (HB3.out.trans ((HT3.out.step (Below.refl _ _) hu4).mono HW1.out))
            have e4 := str8 (n := p.length) (c := cp) (HRP.out.below (HWB.out.trans (HB4.out.mono (by have := HS0.out; omega)))) rfl
            have hq1 : (f.length : Int) + l.length ≤ 20000 := by omega
            have hq2 : (p.length : Int) ≤ 8388608 := by omega
            have hq3 : ((f.length + l.length : Nat) : Int) ≤ 8388608 := by omega
            have hq4 : (f.length : Int) + l.length ≤ 8388608 := by omega
            clear ht4 hn4 hu4 hr4 hd0 hd1 hd2
            go_wp2_with fail
            have hS2 : Hid (S ++ ⟨p.toArray⟩ = ⟨(f ++ (l ++ p)).toArray⟩) := by unfold Hid; rw [hS.out, str_add, List.append_assoc]
            have hsz2 : (S ++ ⟨p.toArray⟩ : ByteArray).size = f.length + (l ++ p).length := by rw [hS2.out, str_size, List.length_append]
            clear e4
            generalize S ++ _ = S2 at *
            go_roundw
            case rel => exact ⟨k + 1, by omega, by go_num, f, l ++ p, S2, fb, lb4, rfl, rfl, hS2, hsz2, HT4, HB4⟩
            case measure => simp [intOf]; omega
          · refine (append_full w1.heap.size w3 w1.heap.size f l 20000 fb lb HT3.out A3 p c3 HO3.out.rd HO3.out.nil_cap hlp (by omega)).mono ?_
            rintro e w4 ⟨rfl, nq, rfl⟩
            have HT4 := Lib.hid (HT3.out.drewN nq)
            have HB4 := Lib.hid (below_drewN HB3.out nq)
            go_wp2_with fail
            go_roundw
            case rel => exact ⟨k + 1, by omega, by go_num, f, l, S, fb, lb, rfl, rfl, hS, hsz, HT4, HB4⟩
            case measure => simp [intOf]; omega
      · have hbox : ∀ w', Below w0.heap.size w0 w' → w'.cell? ⟨w.heap.size, 0, none⟩ = some (.int .i64 k1) ∧ w'.cell? ⟨w.heap.size, 1, none⟩ = some (.int .i64 k2) := fun w' hw => by
          have hr := (hw.block w.heap.size (by have := HS0.out; omega)).trans HBX.out
          exact ⟨(cell_of_row w' w.heap.size 0 _ _ _ hr).trans rfl, (cell_of_row w' w.heap.size 1 _ _ _ hr).trans rfl⟩
        have HBOX := Lib.hid hbox
        obtain ⟨g0, -⟩ := hbox wr hb.out
        have htm := ht.out.many
        have HTM := Lib.hid htm
        clear hbox htm
        go_wp2_with fail
        refine (crash_c w1.heap.size wr w1.heap.size f l 20000 fb lb ht.out k1 ha1 ha2).mono ?_
        rintro e w3 ⟨rfl, fb3, ht3, hn3, hu3⟩
        have HT3 := Lib.hid ht3
        have HB3 := Lib.hid (hb.out.trans ((ht.out.step (Below.refl _ _) hu3).mono HW1.out))
        obtain ⟨N, hN⟩ : ∃ N : ByteArray, N = ⟨(f ++ l.take k1.toNat).toArray⟩ := ⟨_, rfl⟩
        have hN2 : S.extract 0 (f ++ l.take k1.toNat).length = N := by
          rw [hS.out, str_take _ _ (by simp; omega), hN]
          congr 2
          rw [List.length_append, List.take_append]
          simp
          rw [List.take_of_length_le (by omega), take_min]
        have hNs : N.size = (f ++ l.take k1.toNat).length := by rw [hN, str_size]
        have hg1 : f.length ≤ (f ++ l.take k1.toNat).length := by simp
        have hg2 : (f ++ l.take k1.toNat).length ≤ f.length + l.length := by simp; omega
        have HN := Lib.hid hN
        clear ht3 hn3 hu3 g0 hN
        generalize f ++ l.take k1.toNat = g at *
        go_wp2_with fail
        refine (bytes_c w1.heap.size _ w1.heap.size g [] 20000 fb3 none HT3.out).mono ?_
        rintro e w4 ⟨A4, c4, rfl, ho4, hb4⟩
        rw [List.append_nil] at ho4
        rw [List.append_nil]
        have HT4 := Lib.hid (HT3.out.below hb4)
        have HB4 := Lib.hid (HB3.out.trans (hb4.mono HB3.out.size))
        have e4 := str8 (n := g.length) (c := c4) ho4.rd rfl
        rw [← HN.out] at e4
        obtain ⟨-, g1⟩ := HBOX.out w4 HB4.out
        clear ho4 hb4
        go_wp2_with fail
        refine (crash_c w1.heap.size w4 w1.heap.size g [] 20000 fb3 none HT4.out k2 hb1 hb2).mono ?_
        rintro e w5 ⟨rfl, fb5, ht5, hn5, hu5⟩
        rw [List.take_nil, List.append_nil] at ht5
        have HT5 := Lib.hid ht5
        have HB5 := Lib.hid (HB4.out.trans ((HT4.out.step (Below.refl _ _) hu5).mono HW1.out))
        clear ht5 hn5 hu5 e4 g1
        go_wp2_with fail
        refine (safe_c w1.heap.size _ w1.heap.size g [] 20000 fb5 none HT5.out).mono ?_
        rintro e w6 ⟨rfl, rfl⟩
        go_wp2_with fail
        refine (bytes_c w1.heap.size _ w1.heap.size g [] 20000 fb5 none HT5.out).mono ?_
        rintro e w7 ⟨A7, c7, rfl, ho7, hb7⟩
        rw [List.append_nil] at ho7
        rw [List.append_nil]
        have HB7 := Lib.hid (HB5.out.trans (hb7.mono HB5.out.size))
        have e7 := str8 (n := g.length) (c := c7) ho7.rd rfl
        rw [← HN.out] at e7
        clear ho7 hb7
        go_wp2_with fail
        go_ret
        exact ⟨ret_bool (by simp), HWB.out.trans (HB7.out.mono (by have := HS0.out; omega))⟩

end Go.Proofs.Yteabhokkiggcjaa
