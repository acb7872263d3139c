import Derived.Test.YteoafaofiohefaaNetV
import Derived.Lib.SmallJoins
namespace Go.Proofs.Yteoafaofiohefaa
open Go.RowKit

/-! The chapter's example: netAlive. -/

theorem NetS.alloc {w : World} {B nb : Nat} {S : Nat → List Fr} (h : NetS B w nb S) (o : Obj) : NetS B (w.alloc o) nb S := h.below ((Below.refl _ _).alloc (Nat.le_refl _) _)

theorem Stp.on {W w w' : World} (h : Stp W.heap.size w w') (hb : Below W.heap.size W w) : Below W.heap.size W w' := hb.trans (h.below hb.size)

/-- Something on one lane alone. -/
def one (k : Nat) (L : List Fr) : Nat → List Fr := upd (fun _ => []) k L
theorem one_same (k : Nat) (L : List Fr) : one k L k = L := upd_same _ _ _
theorem one_ne {j k : Nat} (L : List Fr) (h : j ≠ k) : one k L j = [] := upd_ne _ _ _ h
theorem upd_one (k : Nat) (L M : List Fr) : upd (one k L) k M = one k M := upd_upd _ _ _ _
theorem one_nil (k : Nat) : (fun _ => []) = one k [] := by funext j; unfold one upd; split <;> rfl

theorem turned : burstN [98] 0 1 = [99] := by decide +kernel
theorem spoils_b : spoils ([98], false) 0 1 = true := by unfold spoils; rw [turned]; rfl
theorem spoils_c : spoils ([99], true) 0 1 = false := rfl

set_option maxRecDepth 100000 in
set_option maxHeartbeats 4000000 in
theorem alive_c (w : World) : Calls Try.prog 9 #[] w fun e w' => e = .returned (.bool true) ∧ Below w.heap.size w w' := by
  have kc := fun (w : World) (C : Array Value) (n c : Nat) => Lib.run_convert_bytes_const (P := Try.prog) w 29 5 C n c Try.underlying29 Try.underlying5
  go_enter Try.func9, Try.ntmps9
  go_wp2_with fail
  (with_reducible refine (new_s w).mono ?_); rintro e w1 ⟨rfl, ht1, hb1⟩
  rw [one_nil 3] at ht1
  have HT1 := Lib.hid (ht1.alloc (.cells #[.int .u8 97] 5 (1, 2)))
  have HB1 := Lib.hid (hb1.alloc hb1.size (.cells #[.int .u8 97] 5 (1, 2)))
  have HX1 := Lib.hid (Rd.row_mark (g := g8) (E := 5) w1 [97] (cs := #[.int .u8 97]) (1, 2) rfl)
  clear ht1 hb1
  go_wp2_with fail
  refine (Put_s _ _ _ _ 3 HT1.out (by decide) _ [97] 1 1 HX1.out (by intro h; cases h) (by decide) rfl).mono ?_; rintro e w2 ⟨rfl, ht2, hs2⟩
  simp only [one_same, upd_one, List.length_nil, List.nil_append, Nat.zero_lt_succ, if_pos, decide_true] at ht2 ⊢
  have HT2 := Lib.hid (ht2.alloc (.cells #[.int .u8 98] 5 (1, 2)))
  have hb2 := hs2.on HB1.out
  have HB2 := Lib.hid (hb2.alloc hb2.size (.cells #[.int .u8 98] 5 (1, 2)))
  have HX2 := Lib.hid (Rd.row_mark (g := g8) (E := 5) w2 [98] (cs := #[.int .u8 98]) (1, 2) rfl)
  clear ht2 hs2 hb2
  go_wp2_with fail
  refine (Put_s _ _ _ _ 3 HT2.out (by decide) _ [98] 1 1 HX2.out (by intro h; cases h) (by decide) rfl).mono ?_; rintro e w3 ⟨rfl, ht3, hs3⟩
  simp [one_same, upd_one] at ht3 ⊢
  have HT3 := Lib.hid ht3
  have HB3 := Lib.hid (hs3.on HB2.out)
  clear ht3 hs3
  go_wp2_with fail
  refine (Late_s_yes _ _ _ _ 3 HT3.out (by decide) 0 ([97], false) rfl).mono ?_; rintro e w4 ⟨rfl, ht4, hs4⟩
  simp [one_same, upd_one] at ht4
  have HT4 := Lib.hid ht4
  have HB4 := Lib.hid (hs4.on HB3.out)
  clear ht4 hs4
  go_wp2_with fail
  refine (Spoil_s_yes _ _ _ _ 3 HT4.out (by decide) 0 ([98], false) rfl 0 1 (by decide) (by decide) (by decide)).mono ?_; rintro e w5 ⟨rfl, ht5, hs5⟩
  simp [one_same, upd_one, spoils_b, turned] at ht5
  rw [spoils_b]
  have HT5 := Lib.hid ht5
  have HB5 := Lib.hid (hs5.on HB4.out)
  clear ht5 hs5
  go_wp2_with fail
  refine (Spoil_s_yes _ _ _ _ 3 HT5.out (by decide) 0 ([99], true) rfl 0 1 (by decide) (by decide) (by decide)).mono ?_; rintro e w6 ⟨rfl, ht6, hs6⟩
  simp [spoils_c] at ht6
  rw [spoils_c]
  have HT6 := Lib.hid ht6
  have HB6 := Lib.hid (hs6.on HB5.out)
  clear ht6 hs6
  go_wp2_with fail
  refine (Take_s_yes _ _ _ _ 3 HT6.out (by decide) 0 ([99], true) rfl).mono ?_; rintro e w7 ⟨A7, c7, rfl, ht7, hs7, ho7⟩
  simp [one_same, upd_one] at ht7
  have HT7 := Lib.hid ht7
  have HB7 := Lib.hid (hs7.on HB6.out)
  have HO7 := Lib.hid ho7
  clear ht7 hs7 ho7
  go_wp2_with fail
  refine (Take_s_yes _ _ _ _ 3 HT7.out (by decide) 0 ([97], false) rfl).mono ?_; rintro e w8 ⟨A8, c8, rfl, ht8, hs8, ho8⟩
  simp [one_same, upd_one] at ht8
  have HT8 := Lib.hid ht8
  have HB8 := Lib.hid (hs8.on HB7.out)
  have e8 := str8 (n := 1) (c := c8) ho8.rd rfl
  have e7 := str8 (n := 1) (c := c7) (hs8.ow HO7.out (by decide) (by decide)).rd rfl
  clear ht8 hs8 ho8
  go_wp2_with fail
  refine (Len_s _ _ _ _ 3 HT8.out (by decide)).mono ?_; rintro e w9 ⟨rfl, m, rfl⟩
  rw [one_same]
  go_wp2_with fail
  refine (Lane_at 1 (by decide) true _).mono ?_; rintro e w9 ⟨rfl, rfl⟩
  go_wp2_with fail
  go_ret
  exact ⟨rfl, below_drewN HB8.out m⟩

end Go.Proofs.Yteoafaofiohefaa
