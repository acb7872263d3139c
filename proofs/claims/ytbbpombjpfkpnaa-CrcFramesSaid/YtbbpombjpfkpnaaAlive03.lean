import Derived.Test.YtbbpombjpfkpnaaRefBurst
import Derived.Lib.SlBytesConst
namespace Go.Proofs.Ytbbpombjpfkpnaa
open Go.RowKit

/-! The chapter's example. -/

theorem al_sum : sumN [49, 50, 51, 52, 53, 54, 55, 56, 57] = 36974 := by decide +kernel
theorem al_open : openL (sealN [120]) = [120] := by decide +kernel
theorem al_err : openE (sealN [120]) = 0 := by decide +kernel
theorem al_nil : sealN [] = [0, 0] := by decide +kernel

set_option maxRecDepth 1000000 in
set_option maxHeartbeats 1000000 in
theorem alive_c (w : World) : Calls Try.prog 11 #[] w fun e w' => e = .returned (.bool true) ∧ Below w.heap.size w w' := by
  have kc := fun (w : World) (C : Array Value) (n c : Nat) => Lib.run_convert_bytes_const (P := Try.prog) w 22 5 C n c Try.underlying22 Try.underlying5
  have h0 : Below w.heap.size w (w.alloc (.cells #[.int .u8 120] 5 (1, 2))) := (Below.refl _ _).alloc (Nat.le_refl _) _
  have H0 := Lib.hid h0
  clear h0
  go_enter Try.func11, Try.ntmps11
  go_wp2_with fail
  refine (seal_c _ [120] 1 _ (Rd.row_mark w [120] (1, 2) rfl) (by intro h; cases h) (by decide)).mono ?_; rintro e w1 ⟨A1, c1, rfl, ho1, hb1⟩
  have HB1 := Lib.hid (H0.out.trans (hb1.mono H0.out.size))
  have HO1 := Lib.hid ho1
  clear ho1 hb1
  go_wp2_with fail
  refine (open_c A1 (sealN [120]) c1 w1 HO1.out.rd HO1.out.nil_cap HO1.out.le (by decide)).mono ?_; rintro e w2 ⟨A2, c2, rfl, ho2, hb2⟩
  rw [al_open] at ho2
  rw [al_open, al_err]
  have HB2 := Lib.hid (HB1.out.trans (hb2.mono HB1.out.size))
  have HO2 := Lib.hid ho2
  clear ho2 hb2
  have hr9 : Rd g8 (w2.alloc (.cells #[.int .u8 49, .int .u8 50, .int .u8 51, .int .u8 52, .int .u8 53, .int .u8 54, .int .u8 55, .int .u8 56, .int .u8 57] 5 (9, 10))) (some ⟨w2.heap.size, 0, none⟩) [49, 50, 51, 52, 53, 54, 55, 56, 57] := Rd.row_mark w2 _ _ rfl
  have hS := RdS.one _ _ [49, 50, 51, 52, 53, 54, 55, 56, 57] 9 22 hr9 (by intro h; cases h) (by decide)
  have hO := of_c _ [[49, 50, 51, 52, 53, 54, 55, 56, 57]] 1 _ hS (by decide)
  rw [show [[49, 50, 51, 52, 53, 54, 55, 56, 57]].flatten = ([49, 50, 51, 52, 53, 54, 55, 56, 57] : List UInt8) from rfl, al_sum, show (w2.alloc (.cells #[.int .u8 49, .int .u8 50, .int .u8 51, .int .u8 52, .int .u8 53, .int .u8 54, .int .u8 55, .int .u8 56, .int .u8 57] 5 (9, 10))).heap.size = w2.heap.size + 1 from by simp] at hO
  have HOF := Lib.hid hO
  have hb3 : Below w2.heap.size w2 ((w2.alloc (.cells #[.int .u8 49, .int .u8 50, .int .u8 51, .int .u8 52, .int .u8 53, .int .u8 54, .int .u8 55, .int .u8 56, .int .u8 57] 5 (9, 10))).alloc (.cells #[.slice (some ⟨w2.heap.size, 0, none⟩) 9 9] 22)) := ((Below.refl _ _).alloc (Nat.le_refl _) _).alloc (by simp) _
  have HB3 := Lib.hid (HB2.out.trans (hb3.mono HB2.out.size))
  have e1 := str8 (n := 1) (c := c2) (HO2.out.rd.below hb3) rfl
  clear hr9 hS hO hb3
  go_wp2_with fail
  refine HOF.out.mono ?_; rintro e w' ⟨rfl, rfl⟩
  go_wp2_with fail
  refine (seal_c none [] 0 _ Rd.nil (fun _ => rfl) (by decide)).mono ?_; rintro e w3 ⟨A3, c3, rfl, ho3, hb3⟩
  rw [al_nil] at ho3
  rw [al_nil]
  have HB4 := Lib.hid (HB3.out.trans (hb3.mono HB3.out.size))
  have e2 := str8 (n := 2) (c := c3) ho3.rd rfl
  clear ho3 hb3
  go_wp2_with fail
  go_ret
  exact ⟨rfl, HB4.out⟩

end Go.Proofs.Ytbbpombjpfkpnaa
