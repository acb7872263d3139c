import Derived.Test.YtbbpombjpfkpnaaAlive03
import Derived.Test.YtbbpombjpfkpnaaCrcPlain
import Derived.Deep.RegionWith
namespace Go.Proofs.Ytbbpombjpfkpnaa
open Go.RowKit

theorem sealN_length (l : List UInt8) : (sealN l).length = l.length + 2 := by simp [sealN]

set_option maxRecDepth 1000000 in
set_option maxHeartbeats 8000000 in
theorem finds_c (A : Option Addr) (l : List UInt8) (c : Nat) (at_ : Int) (m : Nat) (w : World) (h : Rd g8 w A l) (hn : A = none → c = 0) (hl : l.length ≤ 140737488351232) (hm : m < 65536) (ha1 : -9223372036854775808 ≤ at_) (ha2 : at_ ≤ 9223372036854775807) :
    Calls Try.prog 8 #[.slice A l.length c, .int .i64 at_, .int .u16 m] w fun e w' => e = .returned (.bool true) ∧ Below w.heap.size w w' := by
  have H := Lib.hid h
  have N := Lib.hid hn
  have HA1 := Lib.hid ha1
  have HA2 := Lib.hid ha2
  have HF := Lib.hid (finds_law l at_ m hm)
  have HT := Lib.hid (burst_twice (sealN l) at_ m)
  have HS := Lib.hid (sealN_length l)
  clear h hn ha1 ha2
  go_enter Try.func8, Try.ntmps8
  go_wp2_with fail
  refine (alive_c _).mono ?_; rintro e w1 ⟨rfl, hb1⟩
  have HB1 := Lib.hid hb1
  clear hb1
  by_cases hlen : 3000 < l.length
  · go_wp2_with fail
    go_ret
    exact ⟨rfl, HB1.out⟩
  · go_wp2_with fail
    refine (seal_c A l c w1 (H.out.below HB1.out) N.out (by omega)).mono ?_; rintro e w2 ⟨A2, c2, rfl, ho2, hb2⟩
    have HO2 := Lib.hid ho2
    have HB2 := Lib.hid (HB1.out.trans (hb2.mono HB1.out.size))
    clear ho2 hb2
    go_wp2_with fail
    refine (burst_c A2 (sealN l) c2 at_ m w2 HO2.out.rd HO2.out.nil_cap (by have := HS.out; omega) hm HA1.out HA2.out).mono ?_; rintro e w3 ⟨A3, c3, rfl, ho3, hb3⟩
    have HO3 := Lib.hid ho3
    have HO23 := Lib.hid (HO2.out.below hb3)
    have HB3 := Lib.hid (HB2.out.trans (hb3.mono HB2.out.size))
    clear ho3 hb3
    obtain ⟨x, hx⟩ : ∃ x, x = burstN (sealN l) at_ m := ⟨_, rfl⟩
    rw [← hx] at HO3 HF HT
    have hxl : x.length = (sealN l).length := by rw [hx, burstN_length]
    rw [← hxl]
    have HXL := Lib.hid hxl
    clear hx hxl
    have ef3 := str8 (n := x.length) (c := c2) (HO23.out.rd.below (Below.refl _ w3).drew) HXL.out.symm
    go_wp2_with fail
    go_region_with (go_at_call 16; refine (burst_c A3 x c3 at_ m _ (HO3.out.rd.drewN 1) HO3.out.nil_cap (by have := HXL.out; have := HS.out; omega) hm HA1.out HA2.out).mono ?_; rintro e w4 ⟨A4, c4, rfl, ho4, hb4⟩; rw [HT.out] at ho4; have HB4 := Lib.hid (HB3.out.drew.trans (hb4.mono HB3.out.size)); have K4 := Lib.hid ((Below.refl w3.heap.size w3).drew.trans hb4); have e1 := str8 (n := x.length) (c := c4) ho4.rd HXL.out.symm; have e2 := str8 (n := x.length) (c := c2) (HO23.out.below K4.out).rd HXL.out.symm; clear ho4 hb4)
    all_goals
      go_wp2_with fail
      refine (open_c A3 x c3 w4 (HO3.out.below K4.out).rd HO3.out.nil_cap HO3.out.le (by have := HXL.out; have := HS.out; omega)).mono ?_; rintro e w5 ⟨A5, c5, rfl, ho5, hb5⟩
      have HO5 := Lib.hid ho5
      have HB5 := Lib.hid (HB4.out.trans (hb5.mono HB4.out.size))
      have K5 := Lib.hid (K4.out.trans (hb5.mono K4.out.size))
      clear ho5 hb5 e1 e2
      have e3 := str8 (n := x.length) (c := c3) (HO3.out.below K5.out).rd rfl
      have e4 := str8 (n := x.length) (c := c2) (HO23.out.below K5.out).rd HXL.out.symm
      rcases HF.out with ⟨hx1, hx2⟩ | ⟨hx1, hx2⟩
      · have hL : openL x = l := by unfold openL; rw [hx2]; rfl
        have hE : openE x = 0 := by unfold openE; rw [hx2]; rfl
        rw [hL] at HO5
        rw [hL, hE]
        have e5 := str8 (n := l.length) (c := c5) HO5.out.rd rfl
        have e6 := str8 (n := l.length) (c := c) (H.out.below HB5.out) rfl
        have HX1 := Lib.hid hx1
        clear hx1 hx2 hL hE
        have e7 : (x == sealN l) = true := by rw [← HX1.out]; simp
        go_wp2_with fail
        go_ret
        exact ⟨rfl, HB5.out⟩
      · have hL : openL x = [] := by unfold openL; rw [hx2]; rfl
        have hE : openE x = 31 := by unfold openE; rw [hx2]; rfl
        rw [hL, hE]
        clear HO5
        have e7 : (x == sealN l) = false := by rw [Bool.eq_false_iff]; intro h; exact hx1 (by simpa using h)
        clear hx1 hx2 hL hE
        go_wp2_with fail
        go_ret
        exact ⟨rfl, HB5.out⟩

end Go.Proofs.Ytbbpombjpfkpnaa
