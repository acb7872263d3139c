import Derived.Test.YtbhjdapkhcgmlaaBurst
import Derived.Deep.RegionWith

set_option linter.unusedSimpArgs false
set_option linter.unusedVariables false
set_option linter.unnecessarySimpa false

namespace Go.Proofs.Ytbhjdapkhcgmlaa
open Go.RowKit

/-! The reference of crc. -/

/-- The register behind so many bits, as the reference has it. -/
def refB (l : List UInt8) : Nat → Nat
  | 0 => 65535
  | n + 1 => if (refB l n % 2 ^^^ (l.getD (n / 8) 0).toNat / 2 ^ (n % 8) % 2) = 1 then refB l n / 2 ^^^ 33800 else refB l n / 2

theorem refB_lt (l : List UInt8) : ∀ n, refB l n < 65536
  | 0 => by show 65535 < 65536; omega
  | n + 1 => by
    have := refB_lt l n
    unfold refB
    split
    · exact Nat.xor_lt_two_pow (n := 16) (by omega) (by omega)
    · omega

theorem ref_test (c : Nat) (x : UInt8) (s : Nat) (hc : c < 65536) :
    bits .xor .u16 (bits .and .u16 (c : Int) 1) (bits .and .u16 (IntKind.u16.wrap ((x.toNat : Int) / 2 ^ s)) 1) = ((c % 2 ^^^ x.toNat / 2 ^ s % 2 : Nat) : Int) := by
  have hx := UInt8.toNat_lt x
  have h1 : ((x.toNat : Int) / 2 ^ s) = ((x.toNat / 2 ^ s : Nat) : Int) := by simp
  have hlt : x.toNat / 2 ^ s < 256 := Nat.lt_of_le_of_lt (Nat.div_le_self _ _) hx
  rw [h1]
  generalize x.toNat / 2 ^ s = y at *
  have h2 : IntKind.u16.wrap (y : Int) = (y : Int) := by rw [IntKind.wrap_u16]; omega
  have h3 := u16_and_nat y 1 (by omega) (by omega)
  have h4 := u16_and_nat c 1 hc (by omega)
  rw [nat_mask1] at h3 h4
  have h3' : bits .and .u16 (y : Int) 1 = ((y % 2 : Nat) : Int) := h3
  have h4' : bits .and .u16 (c : Int) 1 = ((c % 2 : Nat) : Int) := h4
  rw [h2, h3', h4', u16_xor_nat (c % 2) (y % 2) (by omega) (by omega)]

theorem ref_yes (l : List UInt8) (k : Nat) (x : UInt8) (hx : l[k / 8]? = some x)
    (h : (bits .xor .u16 (bits .and .u16 ((refB l k : Nat) : Int) 1) (bits .and .u16 (IntKind.u16.wrap ((x.toNat : Int) / 2 ^ (k % 8))) 1) == 1) = true) :
    bits .xor .u16 (((refB l k : Nat) : Int) / 2) 33800 = ((refB l (k + 1) : Nat) : Int) := by
  have hl := refB_lt l k
  rw [ref_test _ _ _ hl] at h
  have h' : (refB l k % 2 ^^^ x.toNat / 2 ^ (k % 8) % 2) = 1 := by simp at h; omega
  have e : refB l (k + 1) = refB l k / 2 ^^^ 33800 := by
    show (if _ then _ else _) = _
    rw [List.getD_eq_getElem?_getD, hx]
    exact if_pos h'
  rw [e]
  have h2 : ((refB l k : Nat) : Int) / 2 = ((refB l k / 2 : Nat) : Int) := by omega
  rw [h2]
  exact u16_xor_nat (refB l k / 2) 33800 (by omega) (by omega)

theorem ref_no (l : List UInt8) (k : Nat) (x : UInt8) (hx : l[k / 8]? = some x)
    (h : (bits .xor .u16 (bits .and .u16 ((refB l k : Nat) : Int) 1) (bits .and .u16 (IntKind.u16.wrap ((x.toNat : Int) / 2 ^ (k % 8))) 1) == 1) = false) :
    ((refB l k : Nat) : Int) / 2 = ((refB l (k + 1) : Nat) : Int) := by
  have hl := refB_lt l k
  rw [ref_test _ _ _ hl] at h
  have h' : ¬ (refB l k % 2 ^^^ x.toNat / 2 ^ (k % 8) % 2) = 1 := by simp at h; omega
  have e : refB l (k + 1) = refB l k / 2 := by
    show (if _ then _ else _) = _
    rw [List.getD_eq_getElem?_getD, hx]
    exact if_neg h'
  rw [e]
  omega

set_option maxHeartbeats 1000000 in
theorem refOf_c (A : Option Addr) (l : List UInt8) (c : Nat) (w : World) (h : Rd g8 w A l) (hlen : l.length ≤ 140737488355328) :
    Calls Try.prog 56 #[.slice A l.length c] w fun e w' => e = .returned (.int .u16 ((65535 - refB l (8 * l.length) : Nat))) ∧ w = w' := by
  have H := Lib.hid h
  clear h
  go_enter Try.func56, Try.ntmps56
  go_wp2_with fail
  go_loop [3, 4] (fun c i => ∃ k : Nat, k ≤ 8 * l.length ∧ i = .int .i64 k ∧ c = .int .u16 (refB l k : Nat)) (fun _ i => 8 * l.length - (intOf i).toNat)
  case atStart => exact ⟨0, Nat.zero_le _, rfl, rfl⟩
  case round =>
    obtain ⟨k, hk, rfl, rfl⟩ := hrel
    by_cases hlt : k < 8 * l.length
    · obtain ⟨x, hx⟩ := get_some l (k / 8) (by omega)
      obtain ⟨a, rfl, hc⟩ := H.out (k / 8) x hx
      have HX := Lib.hid hx
      have hql : k / 8 < l.length := by omega
      clear hx
      go_wp2_with fail
      · go_round
        case rel => exact ⟨k + 1, by omega, by go_num, by rw [← ref_yes l k x HX.out ‹_›]⟩
        case measure => simp [intOf]; omega
      · go_round
        case rel => exact ⟨k + 1, by omega, by go_num, by rw [← ref_no l k x HX.out ‹_›]⟩
        case measure => simp [intOf]; omega
    · have hkw : k = 8 * l.length := by omega
      have hr := refB_lt l k
      have HK := Lib.hid hkw
      clear hkw
      go_wp2_with fail
      go_ret
      refine ⟨ret_int ?_, rfl⟩
      rw [← HK.out]
      omega

theorem steps_succ : ∀ (k c : Nat), steps (k + 1) c = stepB (steps k c)
  | 0, _ => rfl
  | k + 1, c => by
    show steps (k + 1) (stepB c) = stepB (steps k (stepB c))
    exact steps_succ k (stepB c)

theorem xor_mod2 (a b : Nat) : (a ^^^ b) % 2 = (a % 2 ^^^ b % 2) := Nat.xor_mod_two_pow (a := a) (b := b) (n := 1)
theorem xor_div2 (a b : Nat) : (a ^^^ b) / 2 = (a / 2 ^^^ b / 2) := by
  have := Nat.shiftRight_xor_distrib (a := a) (b := b) (i := 1)
  simpa [Nat.shiftRight_eq_div_pow] using this

theorem ref_bit (l : List UInt8) (i : Nat) (x : UInt8) (hx : l[i]? = some x) : ∀ j, j ≤ 8 → (refB l (8 * i + j) ^^^ x.toNat / 2 ^ j) = steps j (refB l (8 * i) ^^^ x.toNat)
  | 0, _ => by simp [steps]
  | j + 1, hj => by
    have ih := ref_bit l i x hx j (by omega)
    rw [steps_succ, ← ih]
    have e1 : (8 * i + j) / 8 = i := by omega
    have e2 : (8 * i + j) % 8 = j := by omega
    have e : refB l (8 * i + (j + 1)) = if (refB l (8 * i + j) % 2 ^^^ x.toNat / 2 ^ j % 2) = 1 then refB l (8 * i + j) / 2 ^^^ 33800 else refB l (8 * i + j) / 2 := by
      show (if (refB l (8 * i + j) % 2 ^^^ (l.getD ((8 * i + j) / 8) 0).toNat / 2 ^ ((8 * i + j) % 8) % 2) = 1 then _ else _) = _
      rw [e1, e2, List.getD_eq_getElem?_getD, hx]; rfl
    have hd : x.toNat / 2 ^ (j + 1) = x.toNat / 2 ^ j / 2 := by rw [Nat.pow_succ, Nat.div_div_eq_div_mul]
    rw [e, hd]
    unfold stepB
    rw [xor_mod2, xor_div2]
    generalize refB l (8 * i + j) = c
    generalize x.toNat / 2 ^ j = y
    split
    · rw [Nat.xor_assoc, Nat.xor_assoc, Nat.xor_comm 33800]
    · rfl

/-- The reference's register is the program's. -/
theorem ref_run (l : List UInt8) : ∀ i, i ≤ l.length → refB l (8 * i) = runN 65535 (l.take i)
  | 0, _ => by simp [refB, runN]
  | i + 1, h => by
    obtain ⟨x, hx⟩ := get_some l i (by omega)
    have ih := ref_run l i (by omega)
    have hb := ref_bit l i x hx 8 (Nat.le_refl _)
    have h0 : x.toNat / 2 ^ 8 = 0 := Nat.div_eq_of_lt (UInt8.toNat_lt x)
    rw [h0, Nat.xor_zero, ih] at hb
    rw [show 8 * (i + 1) = 8 * i + 8 from by omega, hb, take_snoc hx, runN_snoc]
    rfl

theorem ref_sum (l : List UInt8) : 65535 - refB l (8 * l.length) = sumN l := by
  rw [ref_run l l.length (Nat.le_refl _), List.take_length]; rfl

theorem refOf_s (A : Option Addr) (l : List UInt8) (c : Nat) (w : World) (h : Rd g8 w A l) (hlen : l.length ≤ 140737488355328) :
    Calls Try.prog 56 #[.slice A l.length c] w fun e w' => e = .returned (.int .u16 (sumN l : Nat)) ∧ w = w' := by
  have := refOf_c A l c w h hlen
  rwa [ref_sum] at this

set_option maxHeartbeats 1000000 in
theorem refSeal_c (A : Option Addr) (l : List UInt8) (c : Nat) (w : World) (h : Rd g8 w A l) (hn : A = none → c = 0) (hlen : l.length ≤ 140737488355326) :
    Calls Try.prog 34 #[.slice A l.length c] w fun e w' => ∃ A' c', e = .returned (.slice A' (sealN l).length c') ∧ Ow 5 g8 w' w.heap.size A' (sealN l) c' ∧ Below w.heap.size w w' := by
  have hrs := ref_sum l
  have HS := Lib.hid hrs
  have hs := sumN_lt l
  have hx := h.below (w' := w.alloc (.cells #[] 5)) ((Below.refl _ _).alloc (Nat.le_refl _) _)
  have HX := Lib.hid hx
  have H := Lib.hid h
  have HN := Lib.hid hn
  clear h hn hrs hx
  have hown : Ow 5 g8 (w.alloc (.cells #[] 5)) w.heap.size (some ⟨w.heap.size, 0, none⟩) ([] : List UInt8) 0 := Ow.new (Nat.le_refl _)
  have HO := Lib.hid hown
  clear hown
  go_enter Try.func34, Try.ntmps34
  go_wp2_with fail
  refine (refOf_c A l _ _ H.out (by omega)).mono ?_; rintro e w' ⟨rfl, rfl⟩
  rw [HS.out]
  generalize sumN l = s at *
  go_wp2_with (at_builtin; refine app8 rfl _ _ rfl [] l HO.out rfl A c HX.out rfl HN.out (by simp; omega) (by simp) ?_)
  intro A1 c1 w1 ho hg
  have HO1 := Lib.hid ho
  have hb1 : Below w.heap.size w w1 := ((Below.refl _ _).alloc (Nat.le_refl _) _).grown hg (by simp) (fun k hk => (HO.out.block k hk).1)
  have HB1 := Lib.hid hb1
  have hsz := hb1.size
  clear ho hg hb1
  go_wp2_with (at_builtin; refine app8 rfl _ _ rfl l [UInt8.ofNat s, UInt8.ofNat (s / 256)] (HO1.out.below ((Below.refl _ _).alloc (Nat.le_refl _) _)) rfl _ 2 (Rd.row_of w1 _ ?hcs) rfl ?hn ?hl ?hb ?_)
  case hcs =>
    show #[Value.int .u8 _, Value.int .u8 _] = #[g8 (UInt8.ofNat s), g8 (UInt8.ofNat (s / 256))]
    rw [← byte_cell, ← byte_cell]
    congr 3
    all_goals (first | rfl | omega | (congr 1; omega))
  case hn => intro h; cases h
  case hl => simp; omega
  case hb => simp; omega
  intro A' c' w2 ho hg
  have HO2 := Lib.hid ho
  have HG := Lib.hid hg
  clear ho hg
  go_wp2_with fail
  go_ret
  have hsl : sealN l = l ++ [UInt8.ofNat s, UInt8.ofNat (s / 256)] := by unfold sealN; rw [← HS.out, ref_sum]
  refine ⟨A', c', ret_slice (by rw [hsl]; simp), ?_, ?_⟩
  · rw [hsl]; exact HO2.out
  · exact (HB1.out.alloc hsz _).grown HG.out (by simp; omega) (fun k hk => (HO1.out.block k hk).1)

set_option maxHeartbeats 1000000 in
set_option maxRecDepth 100000 in
theorem refOpen_c (A : Option Addr) (l : List UInt8) (c : Nat) (w : World) (h : Rd g8 w A l) (hn : A = none → c = 0) (hle : l.length ≤ c) (hlen : l.length ≤ 140737488355328) :
    Calls Try.prog 36 #[.slice A l.length c] w fun e w' => ∃ A' c', e = .returned (.tuple #[.slice A' (openL l).length c', .int .i64 (openE l)]) ∧ Ow 5 g8 w' w.heap.size A' (openL l) c' ∧ Below w.heap.size w w' := by
  have H := Lib.hid h
  have HN := Lib.hid hn
  clear h hn
  by_cases hs : l.length < 2
  · have ho : openO l = none := by unfold openO; rw [if_pos hs]
    have HO := Lib.hid ho
    clear ho
    go_enter Try.func36, Try.ntmps36
    go_wp2_with fail
    go_ret2
    refine ⟨none, 0, ?_, ?_, Below.refl _ _⟩
    · unfold openL openE; rw [HO.out]; rfl
    · unfold openL; rw [HO.out]; exact Ow.nil
  · obtain ⟨p, s, rfl, hs2⟩ : ∃ p s, l = p ++ s ∧ s.length = 2 := ⟨l.take (l.length - 2), l.drop (l.length - 2), (List.take_append_drop _ _).symm, by simp; omega⟩
    have hlp : (p ++ s).length = p.length + 2 := by simp [hs2]
    have hto : (p ++ s).take ((p ++ s).length - 2) = p := by rw [hlp]; simp
    have hP := H.out.take p.length
    rw [List.take_left] at hP
    have HP := Lib.hid (hP.below (w' := w.alloc (.cells #[] 5)) ((Below.refl _ _).alloc (Nat.le_refl _) _))
    have hpc : p.length ≤ c := by omega
    have hpl : p.length ≤ 140737488355326 := by omega
    have hoo : openO (p ++ s) = if sealN p = p ++ s then some p else none := by unfold openO; rw [if_neg hs, hto]
    have HOO := Lib.hid hoo
    have HLP := Lib.hid hlp
    rw [hlp]
    have hown : Ow 5 g8 (w.alloc (.cells #[] 5)) w.heap.size (some ⟨w.heap.size, 0, none⟩) ([] : List UInt8) 0 := Ow.new (Nat.le_refl _)
    have HO := Lib.hid hown
    clear hP hto hoo hs hs2 hle hlp hlen hown
    go_enter Try.func36, Try.ntmps36
    go_wp2_with (at_builtin; refine app8 rfl _ _ rfl [] p HO.out rfl A c HP.out rfl HN.out (by simp; omega) (by simp) ?_)
    intro A1 c1 w1 ho hg
    have HO1 := Lib.hid ho
    have hb1 : Below w.heap.size w w1 := ((Below.refl _ _).alloc (Nat.le_refl _) _).grown hg (by simp) (fun k hk => (HO.out.block k hk).1)
    have HB1 := Lib.hid hb1
    have hsz := hb1.size
    clear ho hg hb1
    have hf := fun (W : World) (hb : Below w.heap.size w W) => str8 (c := c) (H.out.below hb) HLP.out
    have HF := Lib.hid hf
    have hf1 := hf _ HB1.out
    have hf2 := hf _ HB1.out.drew
    clear hf
    go_wp2_with fail
    go_region_with (go_at_call 34; refine (refSeal_c A1 p c1 _ ((HO1.out.drewN 1).rd) HO1.out.nil_cap (by omega)).mono ?_; rintro e w2 ⟨A2, c2, rfl, ho2, hb2⟩; have e17 := str8 (c := c2) ho2.rd rfl; have hB2 := HB1.out.drew.trans (hb2.mono hsz); have e19 := HF.out _ hB2; have HB2 := Lib.hid hB2; have HO2 := Lib.hid (Ow.below (HO1.out.drewN 1) hb2); clear ho2 hb2 hB2)
    all_goals go_wp2_with fail
    all_goals first
      | (have ht : (!sealN p == p ++ s) = true := by assumption
         have hoe : openO (p ++ s) = none := by rw [HOO.out, if_neg (by simpa using ht)]
         have hoe := Lib.hid hoe
         clear ht
         go_ret2
         refine ⟨none, 0, ?_, ?_, HB2.out⟩
         · unfold openL openE; rw [hoe.out]; rfl
         · unfold openL; rw [hoe.out]; exact Ow.nil)
      | (have ht : (!sealN p == p ++ s) = false := by assumption
         have hoe : openO (p ++ s) = some p := by rw [HOO.out, if_pos (by simpa using ht)]
         have hlo : openL (p ++ s) = p := by unfold openL; rw [hoe]; rfl
         have hoe := Lib.hid hoe
         have hlo := Lib.hid hlo
         clear ht
         go_ret2
         refine ⟨A1, c1, ?_, ?_, HB2.out⟩
         · rw [hlo.out]; unfold openE; rw [hoe.out]; rfl
         · rw [hlo.out]; exact HO2.out)

end Go.Proofs.Ytbhjdapkhcgmlaa
