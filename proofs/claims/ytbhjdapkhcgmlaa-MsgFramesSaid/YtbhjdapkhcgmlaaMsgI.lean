import Derived.Test.YtbhjdapkhcgmlaaMsgH
import Derived.Handy
import Derived.Deep.Cut
namespace Go.Proofs.Ytbhjdapkhcgmlaa
open Go.RowKit

attribute [local go_sem] run_store_complex

/-! msg's reader: a value. -/

theorem open_sealed (l : List UInt8) : openL (sealN l) = l ∧ openE (sealN l) = 0 := by
  have hl : (sealN l).length = l.length + 2 := by simp [sealN]
  have ht : (sealN l).take (l.length + 2 - 2) = l := by rw [Nat.add_sub_cancel]; simp [sealN]
  have ho : openO (sealN l) = some l := by
    unfold openO
    rw [hl, if_neg (by omega), ht, if_pos rfl]
  unfold openL openE
  rw [ho]
  exact ⟨rfl, rfl⟩

/-- Two parts that have their one form. -/
def Good (a b : Nat) : Prop := formF a = a ∧ formF b = b ∧ a < 18446744073709551616 ∧ b < 18446744073709551616

theorem val_ok {a b : Nat} (h : Good a b) (r : List UInt8) : valOk (valB a b ++ r) = true ∧ reB (valB a b ++ r) = a ∧ imB (valB a b ++ r) = b ∧ (valB a b ++ r).drop 16 = r ∧ (valB a b ++ r).take 16 = valB a b := by
  obtain ⟨h1, h2, h3, h4⟩ := h
  have hv : valB a b = putB a 8 ++ putB b 8 := by unfold valB; rw [h1, h2]
  have l1 := putB_length a 8
  have l2 := putB_length b 8
  have t16 : (valB a b ++ r).take 16 = valB a b := by rw [List.take_append, valB_length, Nat.sub_self, List.take_zero, List.append_nil, List.take_of_length_le (by rw [valB_length]; omega)]
  have hre : reB (valB a b ++ r) = a := by
    unfold reB
    rw [hv, List.append_assoc, List.take_append, l1, List.take_of_length_le (by omega), Nat.sub_self, List.take_zero, List.append_nil, getN_putB]
    omega
  have him : imB (valB a b ++ r) = b := by
    unfold imB
    rw [t16, hv, List.drop_append, l1, List.drop_eq_nil_of_le (by omega), Nat.sub_self, List.drop_zero, List.nil_append, getN_putB]
    omega
  refine ⟨?_, hre, him, ?_, t16⟩
  · unfold valOk
    rw [hre, him, t16]
    simp
  · rw [List.drop_append, valB_length, List.drop_eq_nil_of_le (by rw [valB_length]; omega)]; rfl

set_option maxRecDepth 100000 in
set_option maxHeartbeats 8000000 in
theorem rval_ok (rb : Nat) (A : Option Addr) (a b : Nat) (g : Good a b) (r : List UInt8) (n c : Nat) (w : World) (hr : w.heap[rb]? = some (.cells #[.slice A n c, .bool false] 60 (0, 0))) (h : Rd g8 w A (valB a b ++ r)) (hn : A = none → c = 0) (he : r.length + 16 = n) (hc : n ≤ c) (hc2 : c ≤ 9223372036854775807) (hl2 : n ≤ 140737488355328) :
    Calls Try.prog 24 #[.pointer (some ⟨rb, 0, none⟩)] w fun e w' => ∃ A2 c2, e = .returned (.complex .f64 a b) ∧ Ow 5 g8 w' w.heap.size A2 r c2 ∧
      w'.heap[rb]? = some (.cells #[.slice A2 r.length c2, .bool false] 60 (0, 0)) ∧ Upto (fun j => j = rb) w w' := by
  obtain ⟨x0, x1, xz⟩ := row2' hr
  have hv := val_ok g r
  have hlen : (valB a b ++ r).length = n := by rw [List.length_append, valB_length]; omega
  have htk := take_yes A (valB a b ++ r) c n w hv.1 h hn (by omega) hc2 (by omega) (by omega) hlen
  rw [hv.2.1, hv.2.2.1, hv.2.2.2.1] at htk
  have HTK := Lib.hid htk
  have HR := Lib.hid hr
  clear h hn he hc hc2 hl2 hr hv htk hlen
  go_enter Try.func24, Try.ntmps24
  go_wp2_with fail
  refine HTK.out.mono ?_; rintro e w1 ⟨A2, c2, rfl, ho2, hb⟩
  have hrw := (hb.block rb (Array.getElem?_eq_some_iff.1 HR.out).1).trans HR.out
  have HRW := Lib.hid hrw
  have HO2 := Lib.hid ho2
  have HB := Lib.hid hb
  clear x0 x1 xz ho2 hb
  obtain ⟨x0, x1, xz⟩ := row2' hrw
  clear hrw
  go_wp2_with fail
  go_ret
  have hu := (Upto.refl (fun j => j = rb) w1).setCell (p := ⟨rb, 0, none⟩) rfl (.slice A2 r.length c2)
  have hlt := (Array.getElem?_eq_some_iff.1 HR.out).1
  refine ⟨A2, c2, rfl, HO2.out.upto hu (fun a e e2 => by have := (HO2.out.lt a e).1; omega), row_set HRW.out 0 _, (Upto.of_below HB.out).trans hu (fun _ _ e => e)⟩

end Go.Proofs.Ytbhjdapkhcgmlaa
