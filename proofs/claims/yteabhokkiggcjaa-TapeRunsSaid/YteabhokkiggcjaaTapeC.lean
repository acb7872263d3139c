import Derived.Test.YteabhokkiggcjaaTail
namespace Go.Proofs.Yteabhokkiggcjaa
open Go.RowKit

theorem Upto.alloc {K : Nat → Prop} {a w : World} (h : Upto K a w) (o : Obj) : Upto K a (w.alloc o) := h.then ((Below.refl _ _).alloc (Nat.le_refl _) o)

set_option maxHeartbeats 2000000 in
theorem drop_no (t : Nat) (w : World) (B : Nat) (f l : List UInt8) (r : Nat) (fb lb : Option Nat) (h : TapeAt w B t f l r fb lb) (n : Int) (hno : n < 0 ∨ (f.length : Int) < n) :
    Calls Try.prog 15 #[.pointer (some ⟨t, 0, none⟩), .int .i64 n] w fun e w' => e = .returned (.bool false) ∧ w = w' := by
  obtain ⟨Af, cf, Al, cl, hc, -, -, -, -⟩ := h.cells
  have h0 := cell_of_row w t 0 _ _ _ hc
  simp at h0
  clear hc h
  rcases hno with hno | hno
  all_goals
    by_cases hneg : n < 0
    all_goals
      go_enter Try.func15, Try.ntmps15
      go_wp2_with fail
      try (go_ret; exact ⟨rfl, rfl⟩)

set_option maxHeartbeats 2000000 in
theorem drop_yes (t : Nat) (w : World) (B : Nat) (f l : List UInt8) (r : Nat) (fb lb : Option Nat) (h : TapeAt w B t f l r fb lb) (n : Nat) (hn : n ≤ f.length) :
    Calls Try.prog 15 #[.pointer (some ⟨t, 0, none⟩), .int .i64 n] w fun e w' => e = .returned (.bool true) ∧ ∃ fb', TapeAt w' B t (f.drop n) l r fb' lb ∧ (∀ b, fb' = some b → w.heap.size ≤ b) ∧ Upto (Own t lb) w w' := by
  obtain ⟨Af, cf, Al, cl, hc, hf, -, -, -⟩ := h.cells
  have h0 := cell_of_row w t 0 _ _ _ hc
  have z0 := row_thawed hc 0
  simp at h0
  have hm := h.many
  have hd : (f.length : Int) - (n : Int) = ((f.length - n : Nat) : Int) := by omega
  have hw : IntKind.i64.wrap ((f.length : Int) - (n : Int)) = ((f.length - n : Nat) : Int) := by rw [IntKind.wrap_i64]; omega
  have hw2 : wrap64 ((f.length - n : Nat) : Int) = ((f.length - n : Nat) : Int) := by unfold wrap64; omega
  have hmk := run_make_row' (P := Try.prog) 27 5 (.int .u8 0) 1 Try.underlying27 info8 rfl .i64 .i64 (f.length - n) (by omega) (by omega) w
  have ht := fun W => run_tail W Af f.length cf n hn
  have hneg : ¬ ((n : Int) < 0) := by omega
  have hgt : ¬ ((f.length : Int) < (n : Int)) := by omega
  obtain ⟨i0, hi, hz0, hz1, hz2⟩ := info_parts info8
  have hb1 : Below w.heap.size w (w.alloc (.cells (madeCells #[.int .u8 0] (f.length - n)) 5)) := (Below.refl _ _).alloc (Nat.le_refl _) _
  have hcp := fun ty => run_copy_new (w.alloc (.cells (madeCells #[.int .u8 0] (f.length - n)) 5)) ty w.heap.size w.heap.size (f.length - n) _ (heap_alloc_new w _) (Nat.le_refl _) (size_madeCells _ _) (by omega) (tailA Af cf n) (f.drop n) (cf - n) ((hf.rd.below hb1).tail n hf.le) (by simp) (tailA_nil hf.nil_cap)
  obtain ⟨w2, hr2, ho2, hu2⟩ := hcp 3
  have hc1 := (hb1.block t h.lt).trans hc
  have k0 := cell_of_row _ t 0 _ _ _ hc1
  simp at k0
  have hU := (Upto.of_below (K := fun k => k = w.heap.size) hb1).trans hu2 (fun _ _ e => e)
  have hb2 : Below w.heap.size w w2 := hU.below (Nat.le_refl _) (fun k hk e => by omega)
  have hc2 := (hb2.block t h.lt).trans hc
  have j0 := cell_of_row _ t 0 _ _ _ hc2
  have x0 := row_thawed hc2 0
  simp at j0
  have hne : (some (⟨w.heap.size, 0, none⟩ : Addr)).map (·.block) ≠ some t := fun e => by
    have := h.lt; simp at e; omega
  have hap : ∀ b, (some (⟨w.heap.size, 0, none⟩ : Addr)).map (·.block) = some b → lb ≠ some b := fun b e e2 => by
    have := (h.lb_lt b e2).2; simp at e; omega
  have hfin := (h.below hb2).set_firm (n := f.length - n) (ho2.low (B' := B) (by have := h.lt; have := h.base; omega)) (by simp) hne hap (by simp; omega)
  have hub := ((Upto.of_below (K := Own t lb) hb2).setCell (p := ⟨t, 0, none⟩) (.inl rfl) (.slice (some ⟨w.heap.size, 0, none⟩) (f.length - n) (f.length - n)))
  have HF := Lib.hid hfin
  have HU := Lib.hid hub
  clear hc h hf hm hb1 hcp hc1 hU hb2 hc2 ho2 hu2 hne hap hfin hub hi hz0 hz1 hz2
  go_enter Try.func15, Try.ntmps15
  go_wp2_with fail
  all_goals
    go_ret
    exact ⟨rfl, _, HF.out, fun b e => by simp at e; omega, HU.out⟩

set_option maxHeartbeats 2000000 in
theorem cut_c (t : Nat) (w : World) (B : Nat) (f l : List UInt8) (r : Nat) (fb lb : Option Nat) (h : TapeAt w B t f l r fb lb) (n : Int) (hn1 : -9223372036854775808 ≤ n) (hn2 : n ≤ 9223372036854775807) :
    Calls Try.prog 22 #[.pointer (some ⟨t, 0, none⟩), .int .i64 n] w fun e w' => e = .returned (.tuple #[]) ∧ TapeAt w' B t (f.take n.toNat) (l.take (n.toNat - f.length)) r fb lb ∧ Upto (Own t lb) w w' := by
  obtain ⟨Af, cf, Al, cl, hc, hf, hl, e1, e2⟩ := h.cells
  have hm := h.many
  have h0 := cell_of_row w t 0 _ _ _ hc
  have h1 := cell_of_row w t 1 _ _ _ hc
  have z0 := row_thawed hc 0
  have z1 := row_thawed hc 1
  simp at h0 h1
  have HT := Lib.hid h
  have HC := Lib.hid hc
  have HF := Lib.hid hf
  have HL := Lib.hid hl
  have E1 := Lib.hid e1
  have E2 := Lib.hid e2
  have hcf := hf.le
  have hcl := hl.le
  have hw1 : IntKind.i64.wrap ((f.length : Int) + (l.length : Int) - (f.length : Int)) = l.length := by rw [IntKind.wrap_i64]; omega
  have hw3 : IntKind.i64.wrap (0 - (f.length : Int)) = 0 - f.length := by rw [IntKind.wrap_i64]; omega
  have hw2 : n < 0 ∨ IntKind.i64.wrap (n - (f.length : Int)) = n - f.length := by
    by_cases hneg : n < 0
    · exact .inl hneg
    · right; rw [IntKind.wrap_i64]; omega
  have key1 : ∀ k a b, (f.take n.toNat).length = a → (l.take (n.toNat - f.length)).length = b → TapeAt (((w.drewN k).setCell ⟨t, 1, none⟩ (.slice Al b cl)).setCell ⟨t, 0, none⟩ (.slice Af a cf)).drew B t (f.take n.toNat) (l.take (n.toNat - f.length)) r fb lb := fun k a b ha hb => by
    have u : Upto (fun x => x = t) (w.drewN k) ((w.drewN k).setCell ⟨t, 1, none⟩ (.slice Al b cl)) := (Upto.refl (fun x => x = t) (w.drewN k)).setCell (p := ⟨t, 1, none⟩) rfl _
    have q := (h.drewN k).set_loose ((hl.drewN k).take (n.toNat - f.length)) hb (by rw [← e2]; exact h.lb_t) (by rw [← e2]; exact h.apart) (by simp; omega)
    have hf2 := ((hf.drewN k).upto u (fun a e e3 => h.fb_t (by rw [e1, e]; exact congrArg some e3))).take n.toNat
    have q2 := q.set_firm hf2 ha (by rw [← e1]; exact h.fb_t) (by rw [← e1, ← e2]; exact h.apart) (by simp; omega)
    rw [← e1, ← e2] at q2
    exact q2.drew
  have key2 : ∀ k a b, Upto (Own t lb) w (((w.drewN k).setCell ⟨t, 1, none⟩ (.slice Al b cl)).setCell ⟨t, 0, none⟩ (.slice Af a cf)).drew := fun k a b =>
    (((Upto.of_below (below_drewN (Below.refl _ _) k)).setCell (p := ⟨t, 1, none⟩) (.inl rfl) _).setCell (p := ⟨t, 0, none⟩) (.inl rfl) _).drew
  have K1 := Lib.hid key1
  have K2 := Lib.hid key2
  have hmc := many_c t w B f l r fb lb h
  have HMC := Lib.hid hmc
  clear hmc key1 key2 hc h hf hl e1 e2
  rcases hw2 with hw2 | hw2
  all_goals
    go_enter Try.func22, Try.ntmps22
    go_wp2_with fail
    refine HMC.out.mono ?_; rintro e w1 ⟨rfl, nq, rfl⟩
    go_wp2_with fail
  all_goals go_region
  all_goals go_wp2_with fail
  all_goals go_region
  all_goals go_wp2_with fail
  all_goals
    go_end0
    refine ⟨rfl, K1.out _ _ _ ?_ ?_, K2.out _ _ _⟩
    all_goals rw [List.length_take]
    all_goals first | omega | (split at * <;> omega)

set_option maxHeartbeats 2000000 in
theorem new_c (w : World) (n : Int) (hn1 : -9223372036854775808 ≤ n) (hn2 : n ≤ 9223372036854775807) :
    Calls Try.prog 9 #[.int .i64 n] w fun e w' => e = .returned (.pointer (some ⟨w.heap.size, 0, none⟩)) ∧ TapeAt w' w.heap.size w.heap.size [] [] (max 0 (min n 20000)).toNat none none ∧ Below w.heap.size w w' := by
  have hb : Below w.heap.size w (w.alloc (.cells #[.slice none 0 0, .slice none 0 0, .int .i64 0] 52)) := (Below.refl _ _).alloc (Nat.le_refl _) _
  have h : TapeAt (w.alloc (.cells #[.slice none 0 0, .slice none 0 0, .int .i64 0] 52)) w.heap.size w.heap.size [] [] 0 none none :=
    ⟨⟨none, 0, none, 0, heap_alloc_new w _, Ow.nil, Ow.nil, rfl, rfl⟩, Nat.le_refl _, by simp, by simp, by simp, by decide, by decide⟩
  have hli := limit_c w.heap.size _ w.heap.size [] [] 0 none none h n hn1 hn2
  have HB := Lib.hid hb
  have HLI := Lib.hid hli
  clear hb h hli
  go_enter Try.func9, Try.ntmps9
  go_wp2_with fail
  refine HLI.out.mono ?_; rintro e w1 ⟨rfl, ht1, hu1⟩
  have HT := Lib.hid ht1
  have HB1 := Lib.hid (HB.out.trans (hu1.below (B := w.heap.size) (by simp) (fun k hk e => by rcases e with e | e <;> first | omega | cases e)))
  clear ht1 hu1
  go_wp2_with fail
  go_ret
  exact ⟨rfl, HT.out, HB1.out⟩

end Go.Proofs.Yteabhokkiggcjaa
