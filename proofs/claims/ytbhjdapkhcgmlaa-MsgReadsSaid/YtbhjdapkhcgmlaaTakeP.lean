import Derived.Test.YtbhjdapkhcgmlaaCuttP
import Derived.Deep.RegionHeld3
import Derived.Test.YtbhjdapkhcgmlaaCnumP

set_option linter.unusedSimpArgs false
set_option linter.unusedVariables false
set_option linter.unnecessarySimpa false

namespace Go.Proofs.Ytbhjdapkhcgmlaa
open Go.RowKit


/-- A complex number's bytes. -/
def valB (a b : Nat) : List UInt8 := putB (formF a) 8 ++ putB (formF b) 8

theorem valB_length (a b : Nat) : (valB a b).length = 16 := by simp [valB, putB_length]

set_option maxHeartbeats 2000000 in
theorem value_c (a b : Nat) (w : World) :
    Calls Try.prog 20 #[.complex .f64 a b] w fun e w' => ∃ A' c', e = .returned (.slice A' 16 c') ∧ Ow 5 g8 w' w.heap.size A' (valB a b) c' ∧ Below w.heap.size w w' := by
  have hp := putB_length (formF a) 8
  have hv := valB_length a b
  have HV := Lib.hid hv
  have HP := Lib.hid hp
  clear hv hp
  go_enter Try.func20, Try.ntmps20
  go_wp2_with fail
  refine (cbits_c a b w).mono ?_; rintro e w' ⟨rfl, rfl⟩
  go_wp2_with fail
  refine (put_c none [] 0 (formF a) 8 w w.heap.size Ow.nil (Nat.le_refl _) (by decide) (by decide)).mono ?_
  rintro e w1 ⟨A1, c1, rfl, ho1, hb1⟩
  rw [List.nil_append] at ho1
  rw [List.nil_append]
  have HO1 := Lib.hid ho1
  have HB1 := Lib.hid hb1
  clear ho1 hb1
  go_wp2_with fail
  refine (put_c A1 (putB (formF a) 8) c1 (formF b) 8 w1 w.heap.size HO1.out HB1.out.size (by decide) (by rw [HP.out]; decide)).mono ?_
  rintro e w2 ⟨A2, c2, rfl, ho2, hb2⟩
  have HO2 := Lib.hid ho2
  have HB2 := Lib.hid (HB1.out.trans hb2)
  clear ho2 hb2
  have hl : (putB (formF a) 8 ++ putB (formF b) 8).length = 16 := HV.out
  rw [hl]
  clear hl
  go_wp2_with fail
  go_ret
  exact ⟨A2, c2, rfl, HO2.out, HB2.out⟩

set_option maxHeartbeats 2000000 in
theorem take_short (A : Option Addr) (n c : Nat) (w : World) (h : n < 16) :
    Calls Try.prog 48 #[.slice A n c] w fun e w' => e = .returned (.tuple #[.complex .f64 0 0, .slice none 0 0, .int .i64 21]) ∧ w = w' := by
  have h' : (n : Int) < 16 := by omega
  clear h
  go_enter Try.func48, Try.ntmps48
  go_wp2_with fail
  go_ret3
  exact ⟨rfl, rfl⟩

/-- The two parts with which bytes begin. -/
def reB (l : List UInt8) : Nat := getN (l.take 8)
def imB (l : List UInt8) : Nat := getN ((l.take 16).drop 8)
/-- Are sixteen bytes those of a number? -/
def valOk (l : List UInt8) : Bool := decide (valB (reB l) (imB l) = l.take 16)

theorem equal_n (A1 A2 : Option Addr) (l1 l2 : List UInt8) (n1 n2 c1 c2 : Nat) (w : World) (h1 : Rd g8 w A1 l1) (h2 : Rd g8 w A2 l2) (e1 : l1.length = n1) (e2 : l2.length = n2) (hl1 : n1 ≤ 9223372036854775807) :
    Calls Try.prog 57 #[.slice A1 n1 c1, .slice A2 n2 c2] w fun e w' => e = .returned (.bool (decide (l1 = l2))) ∧ ∃ n, w' = w.drewN n := by
  subst e1 e2
  exact equal_c A1 A2 l1 l2 c1 c2 w h1 h2 hl1

set_option maxHeartbeats 8000000 in
theorem take_v (v : Bool) (A : Option Addr) (l : List UInt8) (c : Nat) (w : World) (hv : valOk l = v) (h : Rd g8 w A l) (hn : A = none → c = 0) (hc : l.length ≤ c) (hc2 : c ≤ 9223372036854775807) (hl : 16 ≤ l.length) (hl2 : l.length ≤ 140737488355328) :
    Calls Try.prog 48 #[.slice A l.length c] w fun e w' => ∃ A2 c2, e = .returned (cond v (.tuple #[.complex .f64 (reB l) (imB l), .slice A2 (l.drop 16).length c2, .int .i64 0]) (.tuple #[.complex .f64 0 0, .slice A2 0 c2, .int .i64 21])) ∧
      Ow 5 g8 w' w.heap.size A2 (cond v (l.drop 16) []) c2 ∧ Below w.heap.size w w' := by
  have HR8 := Lib.hid (h.take 8)
  have HR16 := Lib.hid (h.mid 8 16 hc)
  have HRA := Lib.hid (h.take 16)
  have HRT := Lib.hid (h.tail 16 hc)
  have HN := Lib.hid (tailA_nil (n := 16) hn)
  have L8 : Hid ((l.take 8).length = 8) := by unfold Hid; simp; omega
  have L16 : Hid (((l.take 16).drop 8).length = 8) := by unfold Hid; simp; omega
  have LA : Hid ((l.take 16).length = 16) := by unfold Hid; simp; omega
  have LT : Hid ((l.drop 16).length = l.length - 16) := by unfold Hid; simp
  have hmid := fun W => run_mid W A l.length c 8 16 8 16 (by decide) (by decide) (by decide) (by omega)
  have htail := fun W => run_tail W A l.length c 16 16 (by decide) hl
  have hs8 : 16 - 8 = 8 := rfl
  rw [hs8] at hmid
  clear hs8
  have q1 : ¬ ((l.length : Int) < 16) := by omega
  have q2 : (8 : Int) ≤ (c : Int) := by omega
  have q3 : (16 : Int) ≤ (c : Int) := by omega
  have q5 : (16 : Int) ≤ (l.length : Int) := by omega
  have HL2 := Lib.hid hl2
  have hvo : decide (valB (getN (l.take 8)) (getN ((l.take 16).drop 8)) = l.take 16) = v := hv
  have hre : reB l = getN (l.take 8) := rfl
  have him : imB l = getN ((l.take 16).drop 8) := rfl
  rw [hre, him]
  clear hre him hv
  generalize l.take 8 = p at *
  generalize (l.take 16).drop 8 = q at *
  generalize l.take 16 = pq at *
  obtain ⟨T, hT⟩ : ∃ T, tailA A c 8 = T := ⟨_, rfl⟩
  rw [hT] at HR16
  simp only [hT] at hmid
  have hVL := valB_length (getN p) (getN q)
  have HVL := Lib.hid hVL
  have HVO := Lib.hid hvo
  clear h hn hc hT hVL hvo
  go_enter Try.func48, Try.ntmps48
  go_wp2_with fail
  go_quiet ((first | (go_at_call 65; first | (with_reducible exact quiet_left (get_n A p c 8 _ (HR8.out.drewN _) L8.out (by decide))) | (with_reducible exact quiet_left (get_n T q _ 8 _ (HR16.out.drewN _) L16.out (by decide)))) | (go_at_call 66; exact quiet_left (cof_c _ _ _))))
  have HW2 := Lib.hid (below_drewN (Below.refl w.heap.size w) nq)
  have hz2 : (w.drewN nq).heap.size = w.heap.size := rfl
  have HZ2 := Lib.hid hz2
  generalize w.drewN nq = w2 at *
  clear hz2
  go_wp2_with fail
  go_region_held3 (fun _ => True) (exact trivial)
    (first
      | (go_at_call 20; refine (value_c (getN p) (getN q) _).mono ?_; rintro e w3 ⟨A3, c3, rfl, ho3, hb3⟩; have HO3 := Lib.hid ho3; have HB3 := Lib.hid (HW2.out.drew.trans (hb3.mono HW2.out.size)); clear ho3 hb3)
      | (go_at_call 57; refine (equal_n A3 A (valB (getN p) (getN q)) pq 16 16 c3 c _ HO3.out.rd (HRA.out.below HB3.out) HVL.out LA.out (by decide)).mono ?_; rw [HVO.out]; rintro e w4 ⟨rfl, nq2, rfl⟩))
  all_goals
    cases v
    · go_wp2_with fail
      go_ret3
      exact ⟨none, 0, rfl, Ow.nil, below_drewN HB3.out _⟩
    · have HB4 := Lib.hid (below_drewN HB3.out nq2)
      generalize w3.drewN nq2 = w5 at *
      go_wp2_with fail
      have hcl := clone_c (tailA A c 16) (l.drop 16) (c - 16) w5 (HRT.out.below HB4.out) HN.out (by rw [LT.out]; have := HL2.out; omega)
      rw [LT.out] at hcl
      refine hcl.mono ?_
      rintro e w6 ⟨A6, c6, rfl, ho6, hb6⟩
      have HO6 := Lib.hid (ho6.low (B' := w.heap.size) HB4.out.size)
      have HB6 := Lib.hid (HB4.out.trans (hb6.mono HB4.out.size))
      clear ho6 hb6 hcl
      go_wp2_with fail
      go_ret3
      exact ⟨A6, c6, by rw [LT.out]; rfl, HO6.out, HB6.out⟩

theorem take_yes (A : Option Addr) (l : List UInt8) (c n : Nat) (w : World) (hv : valOk l = true) (h : Rd g8 w A l) (hn : A = none → c = 0) (hc : l.length ≤ c) (hc2 : c ≤ 9223372036854775807) (hl : 16 ≤ l.length) (hl2 : l.length ≤ 140737488355328) (hnn : l.length = n) :
    Calls Try.prog 48 #[.slice A n c] w fun e w' => ∃ A2 c2, e = .returned (.tuple #[.complex .f64 (reB l) (imB l), .slice A2 (l.drop 16).length c2, .int .i64 0]) ∧ Ow 5 g8 w' w.heap.size A2 (l.drop 16) c2 ∧ Below w.heap.size w w' := by
  subst hnn
  exact take_v true A l c w hv h hn hc hc2 hl hl2

theorem take_bad (A : Option Addr) (l : List UInt8) (c n : Nat) (w : World) (hv : valOk l = false) (h : Rd g8 w A l) (hn : A = none → c = 0) (hc : l.length ≤ c) (hc2 : c ≤ 9223372036854775807) (hl : 16 ≤ l.length) (hl2 : l.length ≤ 140737488355328) (hnn : l.length = n) :
    Calls Try.prog 48 #[.slice A n c] w fun e w' => ∃ A2 c2, e = .returned (.tuple #[.complex .f64 0 0, .slice A2 0 c2, .int .i64 21]) ∧ Ow 5 g8 w' w.heap.size A2 ([] : List UInt8) c2 ∧ Below w.heap.size w w' := by
  subst hnn
  exact take_v false A l c w hv h hn hc hc2 hl hl2

theorem Ow.cap {α : Type} {g : α → Value} {E : TypeId} {w : World} {B : Nat} {A : Option Addr} {l : List α} {c : Nat} (h : Ow E g w B A l c) : c ≤ 9223372036854775807 := by
  rcases h.2 with ⟨e, _⟩ | ⟨_, _, _, e, _, _, _, hm, _⟩
  · injection e with _ _ e3; omega
  · injection e with _ _ e3; unfold maxLen at hm; omega

end Go.Proofs.Ytbhjdapkhcgmlaa
