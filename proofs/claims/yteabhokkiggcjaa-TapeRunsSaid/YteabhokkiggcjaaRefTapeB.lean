import Derived.Test.YteabhokkiggcjaaRefTape
namespace Go.Proofs.Yteabhokkiggcjaa
open Go.RowKit

theorem box_in {w w' : World} {B : Nat} {o o2 : Obj} (hb : Below (w.heap.size + 2) ((w.alloc o).alloc o2) w') : w'.heap[w.heap.size]? = some o ∧ w'.heap[w.heap.size + 1]? = some o2 ∧ Below w.heap.size w w' := by
  refine ⟨(hb.block _ (by omega)).trans (heap_alloc2_old w o o2), (hb.block _ (by omega)).trans (heap_alloc2_new w o o2), (below2 w o o2).trans (hb.mono (by omega))⟩

set_option maxHeartbeats 2000000 in
theorem refAppend_ok (D : Option Addr) (d : List UInt8) (c : Nat) (s r : Int) (X : Option Addr) (b : List UInt8) (cx : Nat) (w : World) (hD : Rd g8 w D d) (hDn : D = none → c = 0) (hX : Rd g8 w X b) (hXn : X = none → cx = 0)
    (h2 : b.length = 0 ∨ (d.length : Int) + b.length ≤ r) (hn : d.length ≤ 20000) (hm : b.length ≤ 140737488351232 - 20000) :
    Calls Try.prog 17 #[.agg #[.slice D d.length c, .int .i64 s, .int .i64 r], .slice X b.length cx] w fun e w' => ∃ D' c', e = .returned (.tuple #[.agg #[.slice D' (d ++ b).length c', .int .i64 s, .int .i64 r], .int .i64 0]) ∧ Ow 5 g8 w' w.heap.size D' (d ++ b) c' ∧ Below w.heap.size w w' := by
  have hw : IntKind.i64.wrap ((d.length : Int) + b.length) = (d.length : Int) + b.length := by rw [IntKind.wrap_i64]; omega
  have hb := below2 w (.cells #[.slice D d.length c, .int .i64 s, .int .i64 r] 40) (.cells #[.slice none 0 0, .int .i64 0, .int .i64 0] 40)
  have HD := Lib.hid (hD.below hb)
  have HX := Lib.hid (hX.below hb)
  have HDN := Lib.hid hDn
  have HXN := Lib.hid hXn
  have HN := Lib.hid hn
  have HM := Lib.hid hm
  clear hb hD hX hDn hXn hn hm
  have h3 : b.length = 0 ∨ (0 < (b.length : Int) ∧ ¬ (r < (d.length : Int) + b.length)) := by omega
  clear h2
  rcases h3 with h2 | ⟨h2, h4⟩
  · have hnil := List.eq_nil_of_length_eq_zero h2
    subst hnil
    clear h2
    go_enter Try.func17, Try.ntmps17
    go_wp2_with (at_builtin; refine copy8 rfl _ _ rfl _ (by simp) d D c HD.out rfl rfl HDN.out (by have := HN.out; omega) ?_)
    intro D1 c1 w1 ho1 hb1
    have HO1 := Lib.hid ho1
    have HB1 := Lib.hid hb1
    have HX1 := Lib.hid (HX.out.below (by simpa using hb1))
    have HS1 : Hid (w.heap.size + 1 + 1 ≤ w1.heap.size) := by have := hb1.size; simp at this; exact this
    clear ho1 hb1
    go_wp2_with (at_builtin; refine app8 rfl _ _ rfl d _ HO1.out rfl _ _ HX1.out rfl HXN.out (by have := HN.out; have := HM.out; simp at *; omega) HS1.out ?_)
    intro D2 c2 w2 ho2 hg2
    have hb2 := HB1.out.grown hg2 HS1.out (fun k hk => (HO1.out.block k hk).1)
    obtain ⟨q1, q2, q3⟩ := box_in (B := 0) hb2
    obtain ⟨b0, b1, b2, bz⟩ := row3 q1
    obtain ⟨r0, r1, r2, rz⟩ := row3 q2
    have HB3 : Hid (∀ a, D2 = some a → w.heap.size + 1 + 1 ≤ a.block) := fun a e => (ho2.lt a e).1
    have HO2 := Lib.hid (ho2.low (B' := w.heap.size) (by omega))
    have HQ3 := Lib.hid q3
    clear q1 q2 q3 hb2 ho2 hg2
    go_wp2_with fail
    have s0 := fun v => World.cell?_setCell_same w2 ⟨w.heap.size, 0, none⟩ v b0
    have s3 := fun v => World.cell?_setCell_same w2 ⟨w.heap.size + 1, 0, none⟩ v r0
    have s4 := fun v => World.cell?_setCell_same w2 ⟨w.heap.size + 1, 1, none⟩ v r1
    have s5 := fun v => World.cell?_setCell_same w2 ⟨w.heap.size + 1, 2, none⟩ v r2
    refine bodyPost_ret (by simp [results, Try.results17, go_sem, b0, b1, b2, r0, r1, r2]; try rfl) rfl ?_
    try simp only [List.append_nil]
    exact ⟨D2, c2, ret_eq (by simp), HO2.out.upto (K := fun k => k = w.heap.size ∨ k = w.heap.size + 1) (((((Upto.refl (fun k => k = w.heap.size ∨ k = w.heap.size + 1) w2).setCell (p := ⟨w.heap.size, 0, none⟩) (.inl rfl) _).setCell (p := ⟨w.heap.size + 1, 0, none⟩) (.inr rfl) _).setCell (p := ⟨w.heap.size + 1, 1, none⟩) (.inr rfl) _).setCell (p := ⟨w.heap.size + 1, 2, none⟩) (.inr rfl) _) (fun a e e2 => by have := HB3.out a e; omega),
      (((HQ3.out.setCell (p := ⟨w.heap.size, 0, none⟩) (Nat.le_refl _) _).setCell (p := ⟨w.heap.size + 1, 0, none⟩) (Nat.le_succ _) _).setCell (p := ⟨w.heap.size + 1, 1, none⟩) (Nat.le_succ _) _).setCell (p := ⟨w.heap.size + 1, 2, none⟩) (Nat.le_succ _) _⟩

  · skip
    go_enter Try.func17, Try.ntmps17
    go_wp2_with (at_builtin; refine copy8 rfl _ _ rfl _ (by simp) d D c HD.out rfl rfl HDN.out (by have := HN.out; omega) ?_)
    intro D1 c1 w1 ho1 hb1
    have HO1 := Lib.hid ho1
    have HB1 := Lib.hid hb1
    have HX1 := Lib.hid (HX.out.below (by simpa using hb1))
    have HS1 : Hid (w.heap.size + 1 + 1 ≤ w1.heap.size) := by have := hb1.size; simp at this; exact this
    clear ho1 hb1
    go_wp2_with (at_builtin; refine app8 rfl _ _ rfl d _ HO1.out rfl _ _ HX1.out rfl HXN.out (by have := HN.out; have := HM.out; simp at *; omega) HS1.out ?_)
    intro D2 c2 w2 ho2 hg2
    have hb2 := HB1.out.grown hg2 HS1.out (fun k hk => (HO1.out.block k hk).1)
    obtain ⟨q1, q2, q3⟩ := box_in (B := 0) hb2
    obtain ⟨b0, b1, b2, bz⟩ := row3 q1
    obtain ⟨r0, r1, r2, rz⟩ := row3 q2
    have HB3 : Hid (∀ a, D2 = some a → w.heap.size + 1 + 1 ≤ a.block) := fun a e => (ho2.lt a e).1
    have HO2 := Lib.hid (ho2.low (B' := w.heap.size) (by omega))
    have HQ3 := Lib.hid q3
    clear q1 q2 q3 hb2 ho2 hg2
    go_wp2_with fail
    have s0 := fun v => World.cell?_setCell_same w2 ⟨w.heap.size, 0, none⟩ v b0
    have s3 := fun v => World.cell?_setCell_same w2 ⟨w.heap.size + 1, 0, none⟩ v r0
    have s4 := fun v => World.cell?_setCell_same w2 ⟨w.heap.size + 1, 1, none⟩ v r1
    have s5 := fun v => World.cell?_setCell_same w2 ⟨w.heap.size + 1, 2, none⟩ v r2
    refine bodyPost_ret (by simp [results, Try.results17, go_sem, b0, b1, b2, r0, r1, r2]; try rfl) rfl ?_
    try simp only [List.append_nil]
    exact ⟨D2, c2, ret_eq (by simp), HO2.out.upto (K := fun k => k = w.heap.size ∨ k = w.heap.size + 1) (((((Upto.refl (fun k => k = w.heap.size ∨ k = w.heap.size + 1) w2).setCell (p := ⟨w.heap.size, 0, none⟩) (.inl rfl) _).setCell (p := ⟨w.heap.size + 1, 0, none⟩) (.inr rfl) _).setCell (p := ⟨w.heap.size + 1, 1, none⟩) (.inr rfl) _).setCell (p := ⟨w.heap.size + 1, 2, none⟩) (.inr rfl) _) (fun a e e2 => by have := HB3.out a e; omega),
      (((HQ3.out.setCell (p := ⟨w.heap.size, 0, none⟩) (Nat.le_refl _) _).setCell (p := ⟨w.heap.size + 1, 0, none⟩) (Nat.le_succ _) _).setCell (p := ⟨w.heap.size + 1, 1, none⟩) (Nat.le_succ _) _).setCell (p := ⟨w.heap.size + 1, 2, none⟩) (Nat.le_succ _) _⟩

end Go.Proofs.Yteabhokkiggcjaa
