import Derived.Test.YtbbpombjpfkpnaaAlive03
import Derived.Test.YtbbpombjpfkpnaaCrcPlain
import Derived.Deep.RegionLaw
namespace Go.Proofs.Ytbbpombjpfkpnaa
open Go.RowKit

theorem sum_seal (l : List UInt8) : sumN (sealN l) = 65535 - steps 16 65535 := by unfold sumN; rw [run_seal]

set_option maxRecDepth 1000000 in
set_option maxHeartbeats 8000000 in
theorem parts_c (A : Option Addr) (L : List (List UInt8)) (c : Nat) (w : World) (h : RdS w A L) (hl : L.length ≤ 9223372036854775807) :
    Calls Try.prog 4 #[.slice A L.length c] w fun e w' => e = .returned (.bool true) ∧ Below w.heap.size w w' := by
  have H := Lib.hid h
  clear h
  go_enter Try.func4, Try.ntmps4
  go_wp2_with fail
  refine (alive_c _).mono ?_; rintro e w1 ⟨rfl, hb1⟩
  have HB1 := Lib.hid hb1
  clear hb1
  have HO0 := Lib.hid (Ow.new (E := 5) (g := g8) (w := w1) (B := w.heap.size) HB1.out.size)
  have HB0 := Lib.hid (HB1.out.alloc HB1.out.size (.cells #[] 5))
  go_wp2_with fail
  go_loopw [13, 3] (fun i v wr => ∃ k : Nat, k ≤ L.length ∧ i = .int .i64 k ∧ ∃ A' c', v = .slice A' (L.take k).flatten.length c' ∧ (L.take k).flatten.length ≤ 7000 ∧ Hid (Ow 5 g8 wr w.heap.size A' (L.take k).flatten c') ∧ Hid (Below w.heap.size w wr)) (fun i _ _ => L.length - (intOf i).toNat)
  case atStart => exact ⟨0, Nat.zero_le _, rfl, _, _, rfl, by simp, HO0.out, HB0.out⟩
  case round =>
    obtain ⟨k, hk, rfl, A', c', rfl, hfl, hoK, hbK⟩ := hrel
    by_cases hlt : k < L.length
    · obtain ⟨p, hp⟩ := get_some L k hlt
      obtain ⟨a, Bp, cp, rfl, hcell, hnp, hlp, hrp⟩ := (H.out.below hbK.out) k p hp
      have HP := Lib.hid (flatten_snoc hp)
      have HRP := Lib.hid hrp
      have HNP := Lib.hid hnp
      clear hp hrp hnp
      generalize hF : (L.take k).flatten = F at *
      clear hF
      by_cases h1 : 2000 < p.length
      · go_wp2_with fail
        go_ret
        exact ⟨rfl, hbK.out⟩
      · by_cases h2 : 5000 < F.length
        · go_wp2_with fail
          go_ret
          exact ⟨rfl, hbK.out⟩
        · go_wp2_with (at_builtin; refine app8 rfl _ _ rfl F p hoK.out rfl Bp cp HRP.out rfl HNP.out (by omega) hbK.out.size ?_)
          intro A2 c2 w2 ho hg
          have HO2 := Lib.hid ho
          have HB2 := Lib.hid (hbK.out.grown hg hbK.out.size (fun j hj => (hoK.out.block j hj).1))
          clear ho hg
          go_wp2_with fail
          go_roundw
          case rel => exact ⟨k + 1, by omega, by go_num, A2, c2, by rw [HP.out, List.length_append], by rw [HP.out, List.length_append]; omega, by rw [HP.out]; exact HO2.out, HB2.out⟩
          case measure => simp [intOf]; omega
    · have he : L.take k = L := List.take_of_length_le (by omega)
      rw [he] at hoK hfl
      rw [he]
      clear he
      generalize hF : L.flatten = F at *
      have HF := Lib.hid hF
      clear hF
      go_wp2_with fail
      refine (seal_c A' F c' _ hoK.out.rd hoK.out.nil_cap (by omega)).mono ?_; rintro e w2 ⟨A2, c2, rfl, ho2, hb2⟩
      have HO2 := Lib.hid ho2
      have K2 := Lib.hid hb2
      have HB2 := Lib.hid (hbK.out.trans (hb2.mono hbK.out.size))
      have HSL := Lib.hid (show (sealN F).length ≤ 140737488355328 by simp [sealN]; omega)
      clear ho2 hb2
      go_wp2_with fail
      refine (open_c A2 (sealN F) c2 w2 HO2.out.rd HO2.out.nil_cap HO2.out.le HSL.out).mono ?_; rintro e w3 ⟨A3, c3, rfl, ho3, hb3⟩
      have hoL : openL (sealN F) = F := by unfold openL; rw [open_seal]; rfl
      have hoE : openE (sealN F) = 0 := by unfold openE; rw [open_seal]; rfl
      rw [hoL] at ho3
      rw [hoL, hoE]
      have HO3 := Lib.hid ho3
      have K3 := Lib.hid (K2.out.trans (hb3.mono K2.out.size))
      have HB3 := Lib.hid (HB2.out.trans (hb3.mono HB2.out.size))
      clear ho3 hb3 hoL hoE
      go_wp2_with fail
      refine (of_c _ L c w3 (H.out.below HB3.out) hl).mono ?_; rintro e w' ⟨rfl, rfl⟩
      rw [HF.out]
      go_wp2_with fail
      refine (of1_c w3 A' F c' _ _ rfl rfl (hoK.out.below K3.out).rd hoK.out.nil_cap (by omega)).mono ?_; rintro e w' ⟨rfl, rfl⟩
      have hk4 := K3.out.alloc K3.out.size (.cells #[.slice A' F.length c'] 22)
      have K4 := Lib.hid hk4
      have HB4 := Lib.hid (HB3.out.alloc HB3.out.size (.cells #[.slice A' F.length c'] 22))
      have e1 := str8 (n := F.length) (c := c3) (HO3.out.below ((Below.refl _ _).alloc (Nat.le_refl _) (.cells #[.slice A' F.length c'] 22))).rd rfl
      have e2 := str8 (n := F.length) (c := c') (hoK.out.below hk4).rd rfl
      clear hk4
      go_wp2_with fail
      refine (seal_c A' F c' _ (hoK.out.below K4.out).rd hoK.out.nil_cap (by omega)).mono ?_; rintro e w5 ⟨A5, c5, rfl, ho5, hb5⟩
      have HO5 := Lib.hid ho5
      have HB5 := Lib.hid (HB4.out.trans (hb5.mono HB4.out.size))
      clear ho5 hb5 e1 e2
      go_wp2_with fail
      refine (of1_c w5 A5 (sealN F) c5 _ _ rfl rfl HO5.out.rd HO5.out.nil_cap HSL.out).mono ?_; rintro e w' ⟨rfl, rfl⟩
      rw [sum_seal]
      have HB6 := Lib.hid (HB5.out.alloc HB5.out.size (.cells #[.slice A5 (sealN F).length c5] 22))
      go_wp2_with fail
      refine (seal_c none [] 0 _ Rd.nil (fun _ => rfl) (by decide)).mono ?_; rintro e w7 ⟨A7, c7, rfl, ho7, hb7⟩
      have HO7 := Lib.hid ho7
      have HB7 := Lib.hid (HB6.out.trans (hb7.mono HB6.out.size))
      clear ho7 hb7
      go_wp2_with fail
      refine (of1_c w7 A7 (sealN []) c7 _ _ rfl rfl HO7.out.rd HO7.out.nil_cap (by decide)).mono ?_; rintro e w' ⟨rfl, rfl⟩
      rw [sum_seal]
      have HB8 := Lib.hid (HB7.out.alloc HB7.out.size (.cells #[.slice A7 (sealN []).length c7] 22))
      go_wp2_with fail
      go_ret
      exact ⟨ret_bool (by first | rfl | (simp; done)), HB8.out⟩

end Go.Proofs.Ytbbpombjpfkpnaa
