import Derived.Test.YtbbpombjpfkpnaaAlive03
import Derived.Deep.RegionWith
namespace Go.Proofs.Ytbbpombjpfkpnaa
open Go.RowKit

set_option maxRecDepth 1000000 in
set_option maxHeartbeats 4000000 in
theorem bursts_c (A : Option Addr) (l : List UInt8) (c : Nat) (at_ : Int) (m : Nat) (w : World) (h : Rd g8 w A l) (hn : A = none → c = 0) (hl : l.length ≤ 140737488351232) (hm : m < 65536) (ha1 : -9223372036854775808 ≤ at_) (ha2 : at_ ≤ 9223372036854775807) :
    Calls Try.prog 7 #[.slice A l.length c, .int .i64 at_, .int .u16 m] w fun e w' => e = .returned (.bool true) ∧ Below w.heap.size w w' := by
  have H := Lib.hid h
  have N := Lib.hid hn
  have HA1 := Lib.hid ha1
  have HA2 := Lib.hid ha2
  clear h hn ha1 ha2
  go_enter Try.func7, Try.ntmps7
  go_wp2_with (at_builtin; refine copy8 rfl _ _ rfl _ rfl l A c H.out rfl rfl N.out (by omega) ?_)
  intro A3 c3 w3 ho3 hb3
  have HO3 := Lib.hid ho3
  have HB3 := Lib.hid hb3
  clear ho3 hb3
  go_wp2_with fail
  refine (burst_c A3 l c3 at_ m w3 HO3.out.rd HO3.out.nil_cap (by omega) hm HA1.out HA2.out).mono ?_; rintro e w4 ⟨A4, c4, rfl, ho4, hb4⟩
  have HO4 := Lib.hid ho4
  have HO34 := Lib.hid (HO3.out.below hb4)
  have HB4 := Lib.hid (HB3.out.trans (hb4.mono HB3.out.size))
  clear ho4 hb4
  go_wp2_with fail
  go_region_with (first
    | (go_at_call 11; refine (alive_c _).mono ?_; rintro e w5 ⟨rfl, hb5⟩; have HB5 := Lib.hid (HB4.out.drew.trans (hb5.mono HB4.out.size)); have K5 := Lib.hid ((Below.refl w4.heap.size w4).drew.trans hb5); have e1 := str8 (n := l.length) (c := c4) (HO4.out.below K5.out).rd (burstN_length _ _ _); clear hb5)
    | (go_at_call 17; refine (refBurst_c A l c at_ m w5 (H.out.below HB5.out) N.out (by omega) hm HA1.out HA2.out).mono ?_; rintro e w6 ⟨A6, c6, rfl, ho6, hb6⟩; have HB6 := Lib.hid (HB5.out.trans (hb6.mono HB5.out.size)); have K6 := Lib.hid (K5.out.trans (hb6.mono K5.out.size)); have e2 := str8 (n := l.length) (c := c4) (HO4.out.below K6.out).rd (burstN_length _ _ _); have e3 := str8 (n := l.length) (c := c6) ho6.rd (burstN_length _ _ _); have e4 := str8 (c := c3) (HO34.out.below K6.out).rd rfl; have e5 := str8 (c := c) (H.out.below HB6.out) rfl; clear ho6 hb6))
  all_goals
    go_wp2_with fail
    go_ret
    exact ⟨ret_bool (by first | rfl | (simp; done)), HB6.out⟩

end Go.Proofs.Ytbbpombjpfkpnaa
