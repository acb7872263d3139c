import Derived.Test.YtbbpombjpfkpnaaAlive03
import Derived.Deep.RegionHeldLaw
import Derived.Deep.DrawnRows
namespace Go.Proofs.Ytbbpombjpfkpnaa
open Go.RowKit

attribute [local go_sem ↓] Go.wp_at_zero Go.wp_at_succ

set_option maxRecDepth 1000000 in
set_option maxHeartbeats 20000000 in
theorem frames_c (A1 A2 : Option Addr) (l1 l2 : List UInt8) (c1 c2 : Nat) (w : World) (h1 : Rd g8 w A1 l1) (hn1 : A1 = none → c1 = 0) (hl1 : l1.length ≤ 140737488351232)
    (h2 : Rd g8 w A2 l2) (hn2 : A2 = none → c2 = 0) (hc2 : l2.length ≤ c2) (hl2 : l2.length ≤ 140737488351232) :
    Calls Try.prog 3 #[.slice A1 l1.length c1, .slice A2 l2.length c2] w fun e w' => e = .returned (.bool true) ∧ Below w.heap.size w w' := by
  have H1 := Lib.hid h1
  have H2 := Lib.hid h2
  have N1 := Lib.hid hn1
  have N2 := Lib.hid hn2
  clear h1 h2 hn1 hn2
  go_enter Try.func3, Try.ntmps3
  go_wp2_with (at_builtin; refine copy8 rfl _ _ rfl _ rfl l2 A2 c2 H2.out rfl rfl N2.out (by omega) ?_)
  intro A3 c3 w3 ho3 hb3
  have HO3 := Lib.hid ho3
  have HB3 := Lib.hid hb3
  clear ho3 hb3
  go_wp2_with fail
  refine (open_c A3 l2 c3 w3 HO3.out.rd HO3.out.nil_cap HO3.out.le (by omega)).mono ?_; rintro e w4 ⟨A4, c4, rfl, ho4, hb4⟩
  have HO4 := Lib.hid ho4
  have HB4 := Lib.hid (HB3.out.trans (hb4.mono HB3.out.size))
  clear ho4 hb4
  go_wp2_with fail
  refine (refOpen_c A2 l2 c2 w4 (H2.out.below HB4.out) N2.out hc2 (by omega)).mono ?_; rintro e w5 ⟨A5, c5, rfl, ho5, hb5⟩
  have HO5 := Lib.hid ho5
  have HO45 := Lib.hid (HO4.out.below hb5)
  have HB5 := Lib.hid (HB4.out.trans (hb5.mono HB4.out.size))
  clear ho5 hb5
  go_wp2_with fail
  go_region_held_law (fun _ => True) (exact trivial)
    (first
      | (go_at_call 11; refine (alive_c _).mono ?_; rintro e w6 ⟨rfl, hb6⟩; have HB6 := Lib.hid (HB5.out.drew.trans (hb6.mono HB5.out.size)); have K6 := Lib.hid ((Below.refl w5.heap.size w5).drew.trans hb6); clear hb6)
      | (have tok := K6; refine step_copy8 (by rfl) _ _ rfl _ rfl l1 A1 c1 (H1.out.below HB6.out) rfl rfl N1.out (by omega) ?_; intro A7 c7 w7 ho7 hb7; have HO7 := Lib.hid ho7; have K7 := Lib.hid (K6.out.trans (hb7.mono K6.out.size)); have HB7 := Lib.hid (HB6.out.trans (hb7.mono HB6.out.size)); clear ho7 hb7 tok K6 HB6)
      | (go_at_call 12; refine (of1_c w7 A7 l1 c7 _ _ rfl rfl HO7.out.rd HO7.out.nil_cap (by omega)).mono ?_; rintro e w' ⟨rfl, rfl⟩; have K8 := Lib.hid (K7.out.alloc K7.out.size (.cells #[.slice A7 l1.length c7] 22)); have HB8 := Lib.hid (HB7.out.alloc HB7.out.size (.cells #[.slice A7 l1.length c7] 22)))
      | (go_at_call 13; refine (refOf_s A1 l1 c1 _ (H1.out.below HB8.out) (by omega)).mono ?_; rintro e w' ⟨rfl, rfl⟩)
      | (have tok := K8; refine step_copy8 (by rfl) _ _ rfl _ (by simp) l1 A1 c1 (H1.out.below HB8.out) rfl rfl N1.out (by omega) ?_; intro A9 c9 w9 ho9 hb9; have HO9 := Lib.hid ho9; have K9 := Lib.hid (K8.out.trans (hb9.mono K8.out.size)); have HB9 := Lib.hid (HB8.out.trans (hb9.mono HB8.out.size)); clear ho9 hb9 tok)
      | (go_at_call 14; refine (seal_c A9 l1 c9 _ HO9.out.rd HO9.out.nil_cap (by omega)).mono ?_; rintro e wa ⟨Aa, ca, rfl, hoa, hba⟩; have ea := str8 (c := ca) hoa.rd rfl; have HOa := Lib.hid hoa; have Ka := Lib.hid (K9.out.trans (hba.mono K9.out.size)); have HBa := Lib.hid (HB9.out.trans (hba.mono HB9.out.size)); clear hoa hba)
      | (go_at_call 15; refine (refSeal_c A1 l1 c1 _ (H1.out.below HBa.out) N1.out (by omega)).mono ?_; rintro e wb ⟨Ab, cb, rfl, hob, hbb⟩; have eb := str8 (c := cb) hob.rd rfl; have ea' := str8 (c := ca) (HOa.out.below hbb).rd rfl; have Kb := Lib.hid (Ka.out.trans (hbb.mono Ka.out.size)); have ex := str8 (c := c4) (HO45.out.below Kb.out).rd rfl; have ey := str8 (c := c5) (HO5.out.below Kb.out).rd rfl; have HBb := Lib.hid (HBa.out.trans (hbb.mono HBa.out.size)); clear hob hbb))
  all_goals
    go_wp2_with fail
    go_ret
    exact ⟨rfl, HBb.out⟩

end Go.Proofs.Ytbbpombjpfkpnaa
