import Derived.Test.YtbhjdapkhcgmlaaMrC
import Derived.Handy
import Derived.Deep.Cut
import Derived.Deep.RegionHeldLaw

set_option linter.unusedSimpArgs false
set_option linter.unusedVariables false
set_option linter.unnecessarySimpa false

namespace Go.Proofs.Ytbhjdapkhcgmlaa
open Go.RowKit

attribute [local go_sem] run_store_complex

/-! The reference's Take. -/

theorem putB_inj (a b : Nat) (ha : a < 18446744073709551616) (hb : b < 18446744073709551616) (h : putB a 8 = putB b 8) : a = b := by
  have h1 := congrArg getN h
  rw [getN_putB, getN_putB] at h1
  rw [Nat.mod_eq_of_lt (by simpa using ha), Nat.mod_eq_of_lt (by simpa using hb)] at h1
  exact h1

theorem getN_inj : ∀ (l m : List UInt8), l.length = m.length → getN l = getN m → l = m
  | [], [], _, _ => rfl
  | x :: l, y :: m, hl, h => by
    rw [getN_cons, getN_cons] at h
    have hl' : l.length = m.length := by simpa using hl
    have h1 := getN_lt l
    have h2 := getN_lt m
    rw [hl'] at h h1
    have hx : x.toNat = y.toNat := by
      have e1 : (x.toNat * 256 ^ m.length + getN l) / 256 ^ m.length = x.toNat := by
        rw [Nat.mul_comm, Nat.mul_add_div (Nat.pow_pos (by decide)), Nat.div_eq_of_lt h1]; omega
      have e2 : (y.toNat * 256 ^ m.length + getN m) / 256 ^ m.length = y.toNat := by
        rw [Nat.mul_comm, Nat.mul_add_div (Nat.pow_pos (by decide)), Nat.div_eq_of_lt h2]; omega
      rw [← e1, h, e2]
    have hxy : x = y := UInt8.toNat_inj.1 hx
    subst hxy
    rw [getN_inj l m hl' (by omega)]
  | [], _ :: _, h, _ => by simp at h
  | _ :: _, [], h, _ => by simp at h

theorem putB_getN8 (l : List UInt8) (h : l.length = 8) : putB (getN l) 8 = l := by
  refine getN_inj _ _ (by rw [putB_length, h]) ?_
  rw [getN_putB]
  have := getN_lt l
  rw [h] at this
  exact Nat.mod_eq_of_lt (by simpa using this)

theorem re_lt (l : List UInt8) : reB l < 18446744073709551616 := getN_lt64 _ (by simp; omega)
theorem im_lt (l : List UInt8) : imB l < 18446744073709551616 := getN_lt64 _ (by simp; omega)

/-- Bytes are a value where both parts are in their one form. -/
theorem valOk_form (l : List UInt8) (h : 16 ≤ l.length) : valOk l = (decide (reB l = formF (reB l)) && decide (imB l = formF (imB l))) := by
  have h8 : (l.take 8).length = 8 := by simp; omega
  have h16 : ((l.take 16).drop 8).length = 8 := by simp; omega
  have hs : l.take 16 = l.take 8 ++ (l.take 16).drop 8 := by
    conv => lhs; rw [← List.take_append_drop 8 (l.take 16)]
    rw [List.take_take]
    rfl
  have e1 : putB (reB l) 8 = l.take 8 := putB_getN8 _ h8
  have e2 : putB (imB l) 8 = (l.take 16).drop 8 := putB_getN8 _ h16
  unfold valOk valB
  rw [hs, ← e1, ← e2]
  have hr := re_lt l
  have hi := im_lt l
  have hfr := formF_lt _ hr
  have hfi := formF_lt _ hi
  rw [← Bool.decide_and]
  refine decide_eq_decide.2 ⟨fun q => ?_, fun q => by rw [← q.1, ← q.2]⟩
  have q' := List.append_inj q (by rw [putB_length, putB_length])
  exact ⟨(putB_inj _ _ hfr hr q'.1).symm, (putB_inj _ _ hfi hi q'.2).symm⟩

theorem rtake_short (A : Option Addr) (n c : Nat) (w : World) (h : n < 16) : Calls Try.prog 26 #[.slice A n c] w fun e w' => e = .returned (.tuple #[.complex .f64 0 0, .slice none 0 0, .int .i64 21]) ∧ w = w' := by
  have q1 : (n : Int) < 16 := by omega
  go_enter Try.func26, Try.ntmps26
  go_wp2_with fail
  go_ret3
  exact ⟨rfl, rfl⟩

set_option maxHeartbeats 4000000 in
theorem rtake_c (A : Option Addr) (l : List UInt8) (n c : Nat) (w : World) (h : Rd g8 w A l) (hn : A = none → c = 0) (he : l.length = n) (hc : n ≤ c) (hc2 : c ≤ 9223372036854775807) (hl : 16 ≤ n) (hl2 : n ≤ 140737488355328) :
    Calls Try.prog 26 #[.slice A n c] w fun e w' => ∃ A2 c2, e = .returned (cond (valOk l) (.tuple #[.complex .f64 (reB l) (imB l), .slice A2 (n - 16) c2, .int .i64 0]) (.tuple #[.complex .f64 0 0, .slice none 0 0, .int .i64 21])) ∧
      Ow 5 g8 w' w.heap.size A2 (cond (valOk l) (l.drop 16) []) c2 ∧ Below w.heap.size w w' := by
  subst he
  have HR8 := Lib.hid (h.take 8)
  have HR16 := Lib.hid (h.mid 8 16 hc)
  have HRT := Lib.hid (h.tail 16 hc)
  have HN := Lib.hid (tailA_nil (n := 16) hn)
  have L8 : Hid ((l.take 8).length = 8) := by unfold Hid; simp; omega
  have L16 : Hid (((l.take 16).drop 8).length = 8) := by unfold Hid; simp; omega
  have LT : Hid ((l.drop 16).length = l.length - 16) := by unfold Hid; simp
  have hmid := fun W => run_mid W A l.length c 8 16 8 16 (by decide) (by decide) (by decide) (by omega)
  have htail := fun W => run_tail W A l.length c 16 16 (by decide) hl
  have hs8 : 16 - 8 = 8 := rfl
  rw [hs8] at hmid
  clear hs8
  have q1 : ¬ ((l.length : Int) < 16) := by omega
  have q2 : (8 : Int) ≤ (c : Int) := by omega
  have q3 : (16 : Int) ≤ (c : Int) := by omega
  have q5 : (16 : Int) ≤ (l.length : Int) := by omega
  have HL2 := Lib.hid hl2
  have hvo := valOk_form l hl
  have hrl := re_lt l
  have hil := im_lt l
  have hre : reB l = getN (l.take 8) := rfl
  have him : imB l = getN ((l.take 16).drop 8) := rfl
  rw [hre, him] at hvo
  rw [hre] at hrl
  rw [him] at hil
  rw [hre, him, hvo]
  clear hre him hvo
  generalize l.take 8 = p at *
  generalize (l.take 16).drop 8 = q at *
  obtain ⟨T, hT⟩ : ∃ T, tailA A c 8 = T := ⟨_, rfl⟩
  rw [hT] at HR16
  simp only [hT] at hmid
  have HFR := Lib.hid (refForm_c (getN p) hrl)
  have HFI := Lib.hid (refForm_c (getN q) hil)
  have fr1 := frombits_run (getN p : Int)
  have fr2 := frombits_run (getN q : Int)
  clear h hn hc hT hrl hil
  by_cases g1 : getN p = formF (getN p)
  · by_cases g2 : getN q = formF (getN q)
    · have HV : Hid ((decide (getN p = formF (getN p)) && decide (getN q = formF (getN q))) = true) := by unfold Hid; simp [← g1, ← g2]
      rw [HV.out]
      rw [← g1] at HFR
      rw [← g2] at HFI
      clear g1 g2
      go_enter Try.func26, Try.ntmps26
      go_wp2_with fail
      go_quiet ((go_at_call 49; first | (with_reducible exact quiet_left (rbits_c A p 8 c _ (HR8.out.drewN _) L8.out (by decide))) | (with_reducible exact quiet_left (rbits_c T q 8 _ _ (HR16.out.drewN _) L16.out (by decide)))))
      have HW2 := Lib.hid (below_drewN (Below.refl w.heap.size w) nq)
      have hz2 : (w.drewN nq).heap.size = w.heap.size := rfl
      have HZ2 := Lib.hid hz2
      generalize w.drewN nq = w2 at *
      clear hz2
      generalize hgx : getN p = x at *
      generalize hgy : getN q = y at *
      have HGX := Lib.hid hgx
      have HGY := Lib.hid hgy
      clear hgx hgy
      go_wp2_with fail
      refine (HFR.out _).mono ?_; rintro e w' ⟨rfl, rfl⟩
      go_wp2_with fail
      refine (HFI.out _).mono ?_; rintro e w' ⟨rfl, rfl⟩
      have HX := Lib.hid ((HRT.out.below HW2.out).below (Below.refl _ _).drew)
      go_wp2_with fail
      go_region_held_law (fun _ => True) (exact trivial)
        ((refine step_copy8 (w0 := w2.drew) (by rfl) _ _ (by rfl) _ rfl (l.drop 16) (tailA A c 16) (c - 16) HX.out (by rfl) (by rw [LT.out]; rfl) HN.out (by rw [LT.out]; have := HL2.out; omega) ?_; intro A6 c6 w6 ho6 hb6; have HO6 := Lib.hid ho6; have HB6 := Lib.hid hb6; clear ho6 hb6; (try simp only [Act.put, List.getElem_toArray, List.getElem_cons_succ, List.getElem_cons_zero, List.setIfInBounds_toArray, List.set_cons_zero, List.set_cons_succ])))
      all_goals
        go_wp2_with fail
        go_ret3
        refine ⟨A6, c6, ?_, HO6.out.low (Nat.le_of_eq HZ2.out.symm), HW2.out.trans ((((Below.refl w2.heap.size w2).drew).trans HB6.out).mono HW2.out.size)⟩
        rw [HGX.out, HGY.out]
        first
          | rfl
          | exact congrArg (fun k => Ending.returned (.tuple #[.complex .f64 x y, .slice A6 k c6, .int .i64 0])) LT.out
    · have HV : Hid ((decide (getN p = formF (getN p)) && decide (getN q = formF (getN q))) = false) := by unfold Hid; simp [g2]
      rw [HV.out]
      rw [← g1] at HFR
      clear g1 HV
      have g3 : ((getN q : Int) == (formF (getN q) : Int)) = false := by simp; omega
      clear g2
      generalize formF (getN q) = fy at *
      go_enter Try.func26, Try.ntmps26
      go_wp2_with fail
      go_quiet ((go_at_call 49; first | (with_reducible exact quiet_left (rbits_c A p 8 c _ (HR8.out.drewN _) L8.out (by decide))) | (with_reducible exact quiet_left (rbits_c T q 8 _ _ (HR16.out.drewN _) L16.out (by decide)))))
      have HW2 := Lib.hid (below_drewN (Below.refl w.heap.size w) nq)
      generalize w.drewN nq = w2 at *
      generalize getN p = x at *
      generalize getN q = y at *
      go_wp2_with fail
      refine (HFR.out _).mono ?_; rintro e w' ⟨rfl, rfl⟩
      go_wp2_with fail
      refine (HFI.out _).mono ?_; rintro e w' ⟨rfl, rfl⟩
      go_wp2_with fail
      go_ret3
      exact ⟨none, 0, rfl, Ow.nil, HW2.out⟩
  · have HV : Hid ((decide (getN p = formF (getN p)) && decide (getN q = formF (getN q))) = false) := by unfold Hid; simp [g1]
    rw [HV.out]
    clear HV
    have g4 : ((getN p : Int) != (formF (getN p) : Int)) = true := by simp; omega
    clear g1
    generalize formF (getN p) = fx at *
    go_enter Try.func26, Try.ntmps26
    go_wp2_with fail
    go_quiet ((go_at_call 49; first | (with_reducible exact quiet_left (rbits_c A p 8 c _ (HR8.out.drewN _) L8.out (by decide))) | (with_reducible exact quiet_left (rbits_c T q 8 _ _ (HR16.out.drewN _) L16.out (by decide)))))
    have HW2 := Lib.hid (below_drewN (Below.refl w.heap.size w) nq)
    generalize w.drewN nq = w2 at *
    generalize getN p = x at *
    generalize getN q = y at *
    go_wp2_with fail
    refine (HFR.out _).mono ?_; rintro e w' ⟨rfl, rfl⟩
    go_wp2_with fail
    go_ret3
    exact ⟨none, 0, rfl, Ow.nil, HW2.out⟩

end Go.Proofs.Ytbhjdapkhcgmlaa
