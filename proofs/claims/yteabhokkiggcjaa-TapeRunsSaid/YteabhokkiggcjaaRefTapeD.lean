import Derived.Test.YteabhokkiggcjaaRefTapeC
namespace Go.Proofs.Yteabhokkiggcjaa
open Go.RowKit

set_option maxHeartbeats 4000000 in
theorem refCrash_c (D : Option Addr) (d : List UInt8) (c s : Nat) (r keep : Int) (w : World) (hD : Rd g8 w D d) (hDn : D = none → c = 0) (hc : d.length ≤ c) (hs : s ≤ d.length) (hd : d.length ≤ 20000)
    (hk1 : -9223372036854775808 ≤ keep) (hk2 : keep ≤ 9223372036854775807) :
    Calls Try.prog 19 #[.agg #[.slice D d.length c, .int .i64 s, .int .i64 r], .int .i64 keep] w fun e w' => ∃ D' c', e = .returned (.agg #[.slice D' (d.take (s + keep.toNat)).length c', .int .i64 (d.take (s + keep.toNat)).length, .int .i64 r]) ∧ Ow 5 g8 w' w.heap.size D' (d.take (s + keep.toNat)) c' ∧ Below w.heap.size w w' := by
  have hb := (below2 w (.cells #[.slice D d.length c, .int .i64 s, .int .i64 r] 40) (.cells #[.slice none 0 0, .int .i64 0, .int .i64 0] 40))
  have HD := Lib.hid (hD.below hb)
  have HDX := Lib.hid ((hD.below hb).take s)
  have HDN := Lib.hid hDn
  have HN := Lib.hid hd
  have HB00 := Lib.hid hb
  obtain ⟨N, hN⟩ : ∃ N : Int, N = s + max 0 keep := ⟨_, rfl⟩
  have hNt : N.toNat = s + keep.toNat := by omega
  have HNE := Lib.hid hN
  obtain ⟨W0, hW0⟩ : ∃ W0, ((w.alloc (.cells #[.slice D d.length c, .int .i64 s, .int .i64 r] 40)).alloc (.cells #[.slice none 0 0, .int .i64 0, .int .i64 0] 40)) = W0 := ⟨_, rfl⟩
  have hsz : W0.heap.size = w.heap.size + 1 + 1 := by rw [← hW0]; simp
  have hbox : ∀ w', Below (w.heap.size + 1 + 1) W0 w' → w'.heap[w.heap.size]? = _ ∧ w'.heap[w.heap.size + 1]? = _ ∧ Below w.heap.size w w' := fun w' h => by
    rw [← hW0] at h; exact box_in (B := 0) h
  have HBOX := Lib.hid hbox
  have HW0 := Lib.hid hW0
  have HSZ := Lib.hid hsz
  have q1 : (s : Int) ≤ (c : Int) := by omega
  have q2 : (0 : Int) ≤ (s : Int) := by omega
  have hts : (d.take s).length = s := by simp; omega
  have HTS := Lib.hid hts
  have hst : d.take s = (d.take s).take N.toNat := by rw [List.take_take, Nat.min_eq_right (by omega)]
  have HST := Lib.hid hst
  rw [← hNt]
  clear hb hD hDn hbox hsz hW0 hN hNt hts hst
  go_enter Try.func19, Try.ntmps19
  go_wp2_with (at_builtin; refine copy8 rfl _ _ rfl _ (by simp) (d.take s) D c HDX.out rfl (by rw [HTS.out]; rfl) HDN.out (by rw [HTS.out]; omega) ?_)
  intro A0 c0 w1 ho1 hb1
  replace ho1 : Ow 5 g8 w1 (w.heap.size + 1 + 1) A0 (d.take s) c0 := by first | exact ho1 | simpa using ho1
  replace hb1 : Below (w.heap.size + 1 + 1) W0 w1 := by rw [← HW0.out]; first | exact hb1 | simpa using hb1
  obtain ⟨q1, q2, q3⟩ := HBOX.out w1 hb1
  obtain ⟨b0, b1, b2, bz⟩ := row3 q1
  have HO1 := Lib.hid ho1
  have HB1 := Lib.hid hb1
  clear q1 q2 q3 ho1 hb1
  go_wp2_with fail
  clear b0 b1 b2 bz
  have HD0 : Hid (Rd g8 W0 D d) := by unfold Hid; rw [← HW0.out]; exact HD.out
  go_loopw [5, 6] (fun q i wr => ∃ (k : Nat) (A' : Option Addr) (c' : Nat), s ≤ k ∧ k ≤ d.length ∧ i = .int .i64 k ∧ q = .slice A' ((d.take k).take N.toNat).length c' ∧ Hid (Ow 5 g8 wr (w.heap.size + 1 + 1) A' ((d.take k).take N.toNat) c') ∧ Hid (Below (w.heap.size + 1 + 1) W0 wr)) (fun _ i _ => d.length - (intOf i).toNat)
  case atStart => exact ⟨s, A0, c0, Nat.le_refl _, hs, rfl, by rw [← HST.out, HTS.out], by rw [← HST.out]; exact HO1, HB1⟩
  case round =>
    obtain ⟨k, A1, c1, hsk, hk, rfl, rfl, ho1, hb1⟩ := hrel
    obtain ⟨q1, q2, q3⟩ := HBOX.out wr hb1.out
    obtain ⟨b0, b1, b2, bz⟩ := row3 q1
    obtain ⟨r0, r1, r2, rz⟩ := row3 q2
    have HQ3 := Lib.hid q3
    clear q1 q2 q3
    by_cases hlt : k < d.length
    · obtain ⟨x, hx⟩ := get_some d k hlt
      have HRw := Lib.hid (HD0.out.below (hb1.out.mono (Nat.le_of_eq HSZ.out)))
      obtain ⟨a, rfl, hcx⟩ := HRw.out k x hx
      have HX := Lib.hid hx
      clear hx
      have hsub : wrap64 ((k : Int) - (s : Int)) = (k : Int) - (s : Int) := by unfold wrap64; omega
      by_cases hn : (k : Int) < N
      · have hkk : (k : Int) - (s : Int) < keep := by have := HNE.out; omega
        have HT := Lib.hid (take_int_lt HX.out hn)
        have HO1 := Lib.hid (ho1.out.below ((Below.refl _ _).alloc (Nat.le_refl _) (.cells #[.int .u8 (x.toNat : Int)] 5)))
        have HB1 := Lib.hid (hb1.out.alloc (by have := hb1.out.size; have := HSZ.out; omega) (.cells #[.int .u8 (x.toNat : Int)] 5))
        have HX1 := Lib.hid (Rd.row_of (g := g8) (E := 5) wr [x] (cs := #[.int .u8 (x.toNat : Int)]) rfl)
        have HLL : Hid (((d.take k).take N.toNat).length ≤ 20000) := by have := HN.out; unfold Hid; simp; omega
        have HSB : Hid (w.heap.size + 1 + 1 ≤ (wr.alloc (.cells #[.int .u8 (x.toNat : Int)] 5)).heap.size) := by have := HB1.out.size; have := HSZ.out; unfold Hid; omega
        generalize hl : (d.take k).take N.toNat = l1 at *
        go_wp2_with (at_builtin; refine app8 rfl _ _ rfl l1 [x] HO1.out rfl _ 1 HX1.out rfl (by intro h; cases h) (by have := HLL.out; simp; omega) HSB.out ?_)
        intro A2 c2 w2 ho2 hg2
        have HO2 := Lib.hid ho2
        have HB2 := Lib.hid (HB1.out.grown hg2 HSB.out (fun j hj => (HO1.out.block j hj).1))
        clear ho2 hg2
        go_wp2_with fail
        have hN := HN.out
        go_roundw
        case rel => exact ⟨k + 1, A2, c2, by omega, by omega, by go_num, by rw [HT.out]; simp, by rw [HT.out]; exact HO2, HB2⟩
        case measure => simp [intOf]; omega
      · have hkk : keep ≤ (k : Int) - (s : Int) := by have := HNE.out; omega
        have HT := Lib.hid (take_int_ge (d := d) hn)
        go_wp2_with fail
        have hN := HN.out
        go_roundw
        case rel => exact ⟨k + 1, A1, c1, by omega, by omega, by go_num, by rw [HT.out], by rw [HT.out]; exact ho1, hb1⟩
        case measure => simp [intOf]; omega
    · have he : d.take k = d := List.take_of_length_le (by omega)
      rw [he] at ho1
      rw [he]
      obtain ⟨l1, hl1⟩ : ∃ l1, d.take N.toNat = l1 := ⟨_, rfl⟩
      rw [hl1] at ho1
      rw [hl1]
      have HL1 := Lib.hid hl1
      have HO1 := Lib.hid (ho1.out.low (B' := w.heap.size) (by omega))
      have HB3 : Hid (∀ a, A1 = some a → w.heap.size + 1 + 1 ≤ a.block) := fun a e => (ho1.out.lt a e).1
      have HUP := Lib.hid (cut_end (K := fun k => k = w.heap.size ∨ k = w.heap.size + 1) HO1.out (fun a e e2 => by have := HB3.out a e; omega))
      clear ho1 hb1 he hl1
      have s3 := fun v => World.cell?_setCell_same wr ⟨w.heap.size + 1, 0, none⟩ v r0
      have s4 := fun v => World.cell?_setCell_same wr ⟨w.heap.size + 1, 1, none⟩ v r1
      have s5 := fun v => World.cell?_setCell_same wr ⟨w.heap.size + 1, 2, none⟩ v r2
      go_wp2_with fail
      refine bodyPost_ret (by simp [results, Try.results19, go_sem, b0, b1, b2, r0, r1, r2]; try rfl) rfl ?_
      rw [HL1.out]
      refine ⟨A1, c1, rfl, HUP.out _ ?_, ?_⟩
      · exact (((Upto.refl (fun k => k = w.heap.size ∨ k = w.heap.size + 1) wr).setCell (p := ⟨w.heap.size + 1, 0, none⟩) (.inr rfl) _).setCell (p := ⟨w.heap.size + 1, 1, none⟩) (.inr rfl) _).setCell (p := ⟨w.heap.size + 1, 2, none⟩) (.inr rfl) _
      · exact ((HQ3.out.setCell (p := ⟨w.heap.size + 1, 0, none⟩) (Nat.le_succ _) _).setCell (p := ⟨w.heap.size + 1, 1, none⟩) (Nat.le_succ _) _).setCell (p := ⟨w.heap.size + 1, 2, none⟩) (Nat.le_succ _) _

end Go.Proofs.Yteabhokkiggcjaa
