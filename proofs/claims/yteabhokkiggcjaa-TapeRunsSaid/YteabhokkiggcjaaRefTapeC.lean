import Derived.Test.YteabhokkiggcjaaRefTapeB
namespace Go.Proofs.Yteabhokkiggcjaa
open Go.RowKit

set_option maxHeartbeats 2000000 in
theorem refDrop_no (D : Option Addr) (d c : Nat) (s r n : Int) (w : World) (hno : n < 0 ∨ s < n) :
    Calls Try.prog 24 #[.agg #[.slice D d c, .int .i64 s, .int .i64 r], .int .i64 n] w fun e w' => e = .returned (.tuple #[.agg #[.slice D d c, .int .i64 s, .int .i64 r], .bool false]) ∧ Below w.heap.size w w' := by
  have h3 : n < 0 ∨ (¬ n < 0 ∧ s < n) := by omega
  rcases h3 with h1 | ⟨h1, h2⟩
  all_goals
    go_enter Try.func24, Try.ntmps24
    go_wp2_with fail
    go_returns
    exact ⟨rfl, below2 _ _ _⟩

set_option maxHeartbeats 2000000 in
theorem refDrop_yes (D : Option Addr) (d : List UInt8) (c : Nat) (s r : Int) (n : Nat) (w : World) (hD : Rd g8 w D d) (hDn : D = none → c = 0) (hDc : d.length ≤ c) (hn : (n : Int) ≤ s) (hs : s ≤ d.length) (hd : d.length ≤ 20000) :
    Calls Try.prog 24 #[.agg #[.slice D d.length c, .int .i64 s, .int .i64 r], .int .i64 n] w fun e w' => ∃ D' c', e = .returned (.tuple #[.agg #[.slice D' (d.drop n).length c', .int .i64 (s - n), .int .i64 r], .bool true]) ∧ Ow 5 g8 w' w.heap.size D' (d.drop n) c' ∧ Below w.heap.size w w' := by
  have hw : IntKind.i64.wrap (s - (n : Int)) = s - n := by rw [IntKind.wrap_i64]; omega
  have hw2 : wrap64 (s - (n : Int)) = s - n := by unfold wrap64; omega
  have hb := below2 w (.cells #[.slice D d.length c, .int .i64 s, .int .i64 r] 40) (.cells #[.slice none 0 0, .int .i64 0, .int .i64 0] 40)
  have ht := fun W => run_tail W D d.length c n (by omega)
  have HD := Lib.hid ((hD.below hb).tail n hDc)
  have HDN := Lib.hid (tailA_nil (n := n) hDn)
  have HN := Lib.hid hd
  have hneg : ¬ ((n : Int) < 0) := by omega
  have hgt : ¬ (s < (n : Int)) := by omega
  have hl : (d.drop n).length = d.length - n := by simp
  have HLN := Lib.hid hl
  clear hb hD hDn hDc hd hs hn hl
  go_enter Try.func24, Try.ntmps24
  go_wp2_with (at_builtin; refine copy8 rfl _ _ rfl _ (by simp) (d.drop n) (tailA D c n) (c - n) HD.out rfl (by rw [HLN.out]; rfl) HDN.out (by have := HN.out; rw [HLN.out]; omega) ?_)
  intro D2 c2 w2 ho2 hb2
  obtain ⟨q1, q2, q3⟩ := box_in (B := 0) hb2
  obtain ⟨b0, b1, b2, bz⟩ := row3 q1
  obtain ⟨r0, r1, r2, rz⟩ := row3 q2
  have HB3 : Hid (∀ a, D2 = some a → w.heap.size + 1 + 1 ≤ a.block) := fun a e => (ho2.lt a e).1
  have HO2 := Lib.hid (ho2.low (B' := w.heap.size) (by omega))
  have HQ3 := Lib.hid q3
  clear q1 q2 q3 hb2 ho2
  have s0 := fun v => World.cell?_setCell_same w2 ⟨w.heap.size, 0, none⟩ v b0
  have s1 := fun v => World.cell?_setCell_same w2 ⟨w.heap.size, 1, none⟩ v b1
  have s3 := fun v => World.cell?_setCell_same w2 ⟨w.heap.size + 1, 0, none⟩ v r0
  have s4 := fun v => World.cell?_setCell_same w2 ⟨w.heap.size + 1, 1, none⟩ v r1
  have s5 := fun v => World.cell?_setCell_same w2 ⟨w.heap.size + 1, 2, none⟩ v r2
  go_wp2_with fail
  refine bodyPost_ret (by simp [results, Try.results24, go_sem, b0, b1, b2, r0, r1, r2]; try rfl) rfl ?_
  exact ⟨D2, c2, ret_eq (by simp), HO2.out.upto (K := fun k => k = w.heap.size ∨ k = w.heap.size + 1) ((((((Upto.refl (fun k => k = w.heap.size ∨ k = w.heap.size + 1) w2).setCell (p := ⟨w.heap.size, 0, none⟩) (.inl rfl) _).setCell (p := ⟨w.heap.size, 1, none⟩) (.inl rfl) _).setCell (p := ⟨w.heap.size + 1, 0, none⟩) (.inr rfl) _).setCell (p := ⟨w.heap.size + 1, 1, none⟩) (.inr rfl) _).setCell (p := ⟨w.heap.size + 1, 2, none⟩) (.inr rfl) _) (fun a e e2 => by have := HB3.out a e; omega),
    ((((HQ3.out.setCell (p := ⟨w.heap.size, 0, none⟩) (Nat.le_refl _) _).setCell (p := ⟨w.heap.size, 1, none⟩) (Nat.le_refl _) _).setCell (p := ⟨w.heap.size + 1, 0, none⟩) (Nat.le_succ _) _).setCell (p := ⟨w.heap.size + 1, 1, none⟩) (Nat.le_succ _) _).setCell (p := ⟨w.heap.size + 1, 2, none⟩) (Nat.le_succ _) _⟩

/-- cloakroomref06.Cut's bytes: the first n. -/
theorem take_int_lt {d : List UInt8} {n : Int} {k : Nat} {x : UInt8} (hx : d[k]? = some x) (h : (k : Int) < n) : (d.take (k + 1)).take n.toNat = (d.take k).take n.toNat ++ [x] := by
  rw [List.take_take, List.take_take, Nat.min_eq_right (by omega), Nat.min_eq_right (by omega), List.take_add_one, hx]; rfl

theorem take_int_ge {d : List UInt8} {n : Int} {k : Nat} (h : ¬ (k : Int) < n) : (d.take (k + 1)).take n.toNat = (d.take k).take n.toNat := by
  rw [List.take_take, List.take_take, Nat.min_eq_left (by omega), Nat.min_eq_left (by omega)]

theorem cut_end {K : Nat → Prop} {wr : World} {B : Nat} {A : Option Addr} {l : List UInt8} {c : Nat} (h : Ow 5 g8 wr B A l c) (hn : ∀ a, A = some a → ¬ K a.block) : ∀ w', Upto K wr w' → Ow 5 g8 w' B A l c := fun _ u => h.upto u hn

set_option maxHeartbeats 4000000 in
theorem refCut_c (D : Option Addr) (d : List UInt8) (c : Nat) (s r : Int) (n : Int) (w : World) (hD : Rd g8 w D d) (hd : d.length ≤ 20000) :
    Calls Try.prog 23 #[.agg #[.slice D d.length c, .int .i64 s, .int .i64 r], .int .i64 n] w fun e w' => ∃ D' c', e = .returned (.agg #[.slice D' (d.take n.toNat).length c', .int .i64 (min s (d.take n.toNat).length), .int .i64 r]) ∧ Ow 5 g8 w' w.heap.size D' (d.take n.toNat) c' ∧ Below w.heap.size w w' := by
  have hb := (below2 w (.cells #[.slice D d.length c, .int .i64 s, .int .i64 r] 40) (.cells #[.slice none 0 0, .int .i64 0, .int .i64 0] 40))
  have HD := Lib.hid (hD.below hb)
  have HN := Lib.hid hd
  generalize hW0 : ((w.alloc (.cells #[.slice D d.length c, .int .i64 s, .int .i64 r] 40)).alloc (.cells #[.slice none 0 0, .int .i64 0, .int .i64 0] 40)) = W0 at *
  have hsz : W0.heap.size = w.heap.size + 1 + 1 := by rw [← hW0]; simp
  have ho := Ow.new (g := g8) (E := 5) (w := W0) (B := w.heap.size + 1 + 1) (by omega)
  rw [hsz] at ho
  have hbox : ∀ w', Below (w.heap.size + 1 + 1) W0 w' → w'.heap[w.heap.size]? = _ ∧ w'.heap[w.heap.size + 1]? = _ ∧ Below w.heap.size w w' := fun w' h => by
    rw [← hW0] at h; exact box_in (B := 0) h
  have HO := Lib.hid ho
  have HBOX := Lib.hid hbox
  have HW0 := Lib.hid hW0
  have HSZ := Lib.hid hsz
  have hb0 : Below (w.heap.size + 1 + 1) W0 (W0.alloc (.cells #[] 5)) := (Below.refl _ _).alloc (by omega) _
  have HB0 := Lib.hid hb0
  clear hb hD ho hbox hsz hb0 hW0
  go_enter Try.func23, Try.ntmps23
  go_wp2_with fail
  rw [HW0.out]
  go_loopw [11, 5] (fun i q wr => ∃ (k : Nat) (A' : Option Addr) (c' : Nat), k ≤ d.length ∧ i = .int .i64 k ∧ q = .slice A' ((d.take k).take n.toNat).length c' ∧ Hid (Ow 5 g8 wr (w.heap.size + 1 + 1) A' ((d.take k).take n.toNat) c') ∧ Hid (Below (w.heap.size + 1 + 1) W0 wr)) (fun i _ _ => d.length - (intOf i).toNat)
  case atStart => exact ⟨0, some ⟨w.heap.size + 1 + 1, 0, none⟩, 0, Nat.zero_le _, rfl, by simp, by simpa using HO, HB0⟩
  case round =>
    obtain ⟨k, A1, c1, hk, rfl, rfl, ho1, hb1⟩ := hrel
    obtain ⟨q1, q2, q3⟩ := HBOX.out wr hb1.out
    obtain ⟨b0, b1, b2, bz⟩ := row3 q1
    obtain ⟨r0, r1, r2, rz⟩ := row3 q2
    have HQ3 := Lib.hid q3
    clear q1 q2 q3
    by_cases hlt : k < d.length
    · obtain ⟨x, hx⟩ := get_some d k hlt
      have HRw := Lib.hid (HD.out.below (hb1.out.mono (Nat.le_of_eq HSZ.out)))
      obtain ⟨a, rfl, hcx⟩ := HRw.out k x hx
      have HX := Lib.hid hx
      clear hx
      by_cases hn : (k : Int) < n
      · have HT := Lib.hid (take_int_lt HX.out hn)
        have HO1 := Lib.hid (ho1.out.below ((Below.refl _ _).alloc (Nat.le_refl _) (.cells #[.int .u8 (x.toNat : Int)] 5)))
        have HB1 := Lib.hid (hb1.out.alloc (by have := hb1.out.size; have := HSZ.out; omega) (.cells #[.int .u8 (x.toNat : Int)] 5))
        have HX1 := Lib.hid (Rd.row_of (g := g8) (E := 5) wr [x] (cs := #[.int .u8 (x.toNat : Int)]) rfl)
        have HLL : Hid (((d.take k).take n.toNat).length ≤ 20000) := by have := HN.out; unfold Hid; simp; omega
        have HSB : Hid (w.heap.size + 1 + 1 ≤ (wr.alloc (.cells #[.int .u8 (x.toNat : Int)] 5)).heap.size) := by have := HB1.out.size; have := HSZ.out; unfold Hid; omega
        generalize hl : (d.take k).take n.toNat = l1 at *
        go_wp2_with (at_builtin; refine app8 rfl _ _ rfl l1 [x] HO1.out rfl _ 1 HX1.out rfl (by intro h; cases h) (by have := HLL.out; simp; omega) HSB.out ?_)
        intro A2 c2 w2 ho2 hg2
        have HO2 := Lib.hid ho2
        have HB2 := Lib.hid (HB1.out.grown hg2 HSB.out (fun j hj => (HO1.out.block j hj).1))
        clear ho2 hg2
        go_wp2_with fail
        have hN := HN.out
        go_roundw
        case rel => exact ⟨k + 1, A2, c2, by omega, by go_num, by rw [HT.out]; simp, by rw [HT.out]; exact HO2, HB2⟩
        case measure => simp [intOf]; omega
      · have HT := Lib.hid (take_int_ge (d := d) hn)
        have hn2 : n ≤ (k : Int) := by omega
        go_wp2_with fail
        have hN := HN.out
        go_roundw
        case rel => exact ⟨k + 1, A1, c1, by omega, by go_num, by rw [HT.out], by rw [HT.out]; exact ho1, hb1⟩
        case measure => simp [intOf]; omega
    · have he : d.take k = d := List.take_of_length_le (by omega)
      rw [he] at ho1
      rw [he]
      obtain ⟨l1, hl1⟩ : ∃ l1, d.take n.toNat = l1 := ⟨_, rfl⟩
      rw [hl1] at ho1
      rw [hl1]
      have HL1 := Lib.hid hl1
      have HO1 := Lib.hid (ho1.out.low (B' := w.heap.size) (by omega))
      have HB3 : Hid (∀ a, A1 = some a → w.heap.size + 1 + 1 ≤ a.block) := fun a e => (ho1.out.lt a e).1
      have HUP := Lib.hid (cut_end (K := fun k => k = w.heap.size ∨ k = w.heap.size + 1) HO1.out (fun a e e2 => by have := HB3.out a e; omega))
      clear ho1 hb1 he hl1
      have s0 := fun v => World.cell?_setCell_same wr ⟨w.heap.size, 0, none⟩ v b0
      have s1 := fun v => World.cell?_setCell_same wr ⟨w.heap.size, 1, none⟩ v b1
      have s3 := fun v => World.cell?_setCell_same wr ⟨w.heap.size + 1, 0, none⟩ v r0
      have s4 := fun v => World.cell?_setCell_same wr ⟨w.heap.size + 1, 1, none⟩ v r1
      have s5 := fun v => World.cell?_setCell_same wr ⟨w.heap.size + 1, 2, none⟩ v r2
      by_cases hs : (l1.length : Int) < s
      · have hmin : min s (l1.length : Int) = l1.length := by omega
        have HMIN := Lib.hid hmin
        clear hmin
        go_wp2_with fail
        refine bodyPost_ret (by simp [results, Try.results23, go_sem, b0, b1, b2, r0, r1, r2]; try rfl) rfl ?_
        rw [HL1.out]
        refine ⟨A1, c1, ret_eq (by first | rw [HMIN.out] | (rw [show min n.toNat d.length = l1.length from by rw [← HL1.out, List.length_take], HMIN.out])), HUP.out _ ?_, ?_⟩
        · exact ((((((Upto.refl (fun k => k = w.heap.size ∨ k = w.heap.size + 1) wr).setCell (p := ⟨w.heap.size, 0, none⟩) (.inl rfl) _).setCell (p := ⟨w.heap.size, 1, none⟩) (.inl rfl) _).setCell (p := ⟨w.heap.size + 1, 0, none⟩) (.inr rfl) _).setCell (p := ⟨w.heap.size + 1, 1, none⟩) (.inr rfl) _).setCell (p := ⟨w.heap.size + 1, 2, none⟩) (.inr rfl) _)
        · exact (((((HQ3.out.setCell (p := ⟨w.heap.size, 0, none⟩) (Nat.le_refl _) _).setCell (p := ⟨w.heap.size, 1, none⟩) (Nat.le_refl _) _).setCell (p := ⟨w.heap.size + 1, 0, none⟩) (Nat.le_succ _) _).setCell (p := ⟨w.heap.size + 1, 1, none⟩) (Nat.le_succ _) _).setCell (p := ⟨w.heap.size + 1, 2, none⟩) (Nat.le_succ _) _)
      · have hmin : min s (l1.length : Int) = s := by omega
        have HMIN := Lib.hid hmin
        clear hmin
        go_wp2_with fail
        refine bodyPost_ret (by simp [results, Try.results23, go_sem, b0, b1, b2, r0, r1, r2]; try rfl) rfl ?_
        rw [HL1.out]
        refine ⟨A1, c1, ret_eq (by first | rw [HMIN.out] | (rw [show min n.toNat d.length = l1.length from by rw [← HL1.out, List.length_take], HMIN.out])), HUP.out _ ?_, ?_⟩
        · exact (((((Upto.refl (fun k => k = w.heap.size ∨ k = w.heap.size + 1) wr).setCell (p := ⟨w.heap.size, 0, none⟩) (.inl rfl) _).setCell (p := ⟨w.heap.size + 1, 0, none⟩) (.inr rfl) _).setCell (p := ⟨w.heap.size + 1, 1, none⟩) (.inr rfl) _).setCell (p := ⟨w.heap.size + 1, 2, none⟩) (.inr rfl) _)
        · exact ((((HQ3.out.setCell (p := ⟨w.heap.size, 0, none⟩) (Nat.le_refl _) _).setCell (p := ⟨w.heap.size + 1, 0, none⟩) (Nat.le_succ _) _).setCell (p := ⟨w.heap.size + 1, 1, none⟩) (Nat.le_succ _) _).setCell (p := ⟨w.heap.size + 1, 2, none⟩) (Nat.le_succ _) _)

end Go.Proofs.Yteabhokkiggcjaa
