import Derived.Test.YtbhjdapkhcgmlaaMrB
import Derived.Test.YtbhjdapkhcgmlaaNumsR
import Derived.Test.YtbhjdapkhcgmlaaRefGetR
import Derived.Handy
import Derived.Deep.Cut

set_option linter.unusedSimpArgs false
set_option linter.unusedVariables false
set_option linter.unnecessarySimpa false

namespace Go.Proofs.Ytbhjdapkhcgmlaa
open Go.RowKit

/-! The reference's Value and Take. -/

set_option maxHeartbeats 2000000 in
theorem rbits_c (A : Option Addr) (l : List UInt8) (n c : Nat) (w : World) (h : Rd g8 w A l) (he : l.length = n) (hl : n ≤ 8) :
    Calls Try.prog 49 #[.slice A n c] w fun e w' => e = .returned (.int .u64 (getN l : Nat)) ∧ w = w' := by
  have H := Lib.hid h
  clear h
  go_enter Try.func49, Try.ntmps49
  go_wp2_with fail
  go_loop [3, 8] (fun m i => ∃ k : Nat, k ≤ n ∧ i = .int .i64 k ∧ m = .int .u64 (getN (l.take k) : Nat)) (fun _ i => n - (intOf i).toNat)
  case atStart => exact ⟨0, Nat.zero_le _, rfl, rfl⟩
  case round =>
    obtain ⟨k, hk, rfl, rfl⟩ := hrel
    by_cases hlt : k < n
    · obtain ⟨x, hx⟩ := get_some l k (by omega)
      obtain ⟨a, rfl, hc⟩ := H.out k x hx
      have hb := getN_lt56 (l.take k) (by simp; omega)
      have hs : getN (l.take (k + 1)) = 256 * getN (l.take k) + x.toNat := by rw [take_snoc hx, getN_snoc]
      have HS := Lib.hid hs
      have hxl := UInt8.toNat_lt x
      have hw : IntKind.u64.wrap (256 * ((getN (l.take k) : Nat) : Int)) = 256 * ((getN (l.take k) : Nat) : Int) := by simp [IntKind.wrap, IntKind.bits, IntKind.signed]; omega
      have hw2 : IntKind.u64.wrap (256 * ((getN (l.take k) : Nat) : Int) + (x.toNat : Int)) = 256 * ((getN (l.take k) : Nat) : Int) + (x.toNat : Int) := by simp [IntKind.wrap, IntKind.bits, IntKind.signed]; omega
      have hw3 := wrap_byte x
      clear hx hs hxl hb
      generalize getN (l.take k) = m at *
      go_wp2_with fail
      go_round
      case rel => exact ⟨k + 1, by omega, by go_num, by rw [HS.out]; simp⟩
      case measure => simp [intOf]; omega
    · have he2 : l.take k = l := List.take_of_length_le (by omega)
      rw [he2]
      clear he2
      go_wp2_with fail
      go_ret
      exact ⟨rfl, rfl⟩

theorem Ow.made {w : World} {B : Nat} (l : List UInt8) (hB : B ≤ w.heap.size) (hl : l.length ≤ 140737488355328) {cs : Array Value} (e : cs = (l.map g8).toArray) : Ow 5 g8 (w.alloc (.cells cs 5)) B (some ⟨w.heap.size, 0, none⟩) l l.length := by
  subst e
  refine ⟨by simp, .inr ⟨w.heap.size, l.length, _, rfl, hB, heap_alloc_new w _, Nat.le_refl _, by simp only [maxLen]; omega, by simp, List.take_of_length_le (by simp)⟩⟩

set_option maxHeartbeats 4000000 in
theorem rpart_c (n : Nat) (hn : n < 18446744073709551616) (w : World) :
    Calls Try.prog 70 #[.int .u64 n] w fun e w' => ∃ A' c', e = .returned (.slice A' 8 c') ∧ Ow 5 g8 w' w.heap.size A' (putB n 8) c' ∧ Below w.heap.size w w' := by
  go_enter Try.func70, Try.ntmps70
  go_wp2_with fail
  have hb0 := (Below.refl w.heap.size w).alloc (Nat.le_refl _) (.cells #[] 5)
  have ho0 : Ow 5 g8 (w.alloc (.cells #[] 5)) w.heap.size (some ⟨w.heap.size, 0, none⟩) ([] : List UInt8) 0 := Ow.new (Nat.le_refl _)
  have HB0 := Lib.hid hb0
  have HO0 := Lib.hid ho0
  clear hb0 ho0
  go_loopw [0, 3, 4] (fun m b i wr => ∃ (k : Nat) (A' : Option Addr) (c' : Nat), k ≤ 8 ∧ i = .int .i64 k ∧ m = .int .u64 ((n / 2 ^ (8 * k) : Nat) : Int) ∧ b = .slice A' k c' ∧ Hid (Ow 5 g8 wr w.heap.size A' (putB n k) c') ∧ Hid (Below w.heap.size w wr)) (fun _ _ i _ => 8 - (intOf i).toNat)
  case atStart => exact ⟨0, some ⟨w.heap.size, 0, none⟩, 0, Nat.zero_le _, rfl, by simp, rfl, HO0, HB0⟩
  case round =>
    clear HB0 HO0
    obtain ⟨k, A1, c1, hk, rfl, rfl, rfl, ho1, hb1⟩ := hrel
    by_cases hlt : k < 8
    · have hpw : putB n (k + 1) = [UInt8.ofNat (n / 2 ^ (8 * k))] ++ putB n k := rfl
      have HPW := Lib.hid hpw
      have hdv : n / 2 ^ (8 * (k + 1)) = n / 2 ^ (8 * k) / 256 := by rw [Nat.div_div_eq_div_mul, show 8 * (k + 1) = 8 * k + 8 by omega, Nat.pow_add]
      have HDV := Lib.hid hdv
      have hle : n / 2 ^ (8 * k) ≤ n := Nat.div_le_self _ _
      have HL1 := Lib.hid (putB_length n k)
      clear hpw hdv
      generalize n / 2 ^ (8 * k) = m at *
      have hm : m < 18446744073709551616 := by omega
      clear hle
      have hcell := byte_cell m
      have hc2 : #[Value.int .u8 ((m : Int) % 256)] = ([UInt8.ofNat m].map g8).toArray := by rw [hcell]; rfl
      have hr1 : IntKind.u8.wrap ((m : Int) % 256) = (m : Int) % 256 := by simp [IntKind.wrap, IntKind.bits, IntKind.signed]
      have hr2 : IntKind.u64.wrap ((m : Int) / 256) = (m : Int) / 256 := by simp [IntKind.wrap, IntKind.bits, IntKind.signed]; omega
      have hr3 : IntKind.u64.wrap ((m : Int) % 256) = (m : Int) % 256 := by simp [IntKind.wrap, IntKind.bits, IntKind.signed]; omega
      have HBB := Lib.hid (hb1.out.alloc hb1.out.size (.cells #[Value.int .u8 ((m : Int) % 256)] 5))
      have HOO : Hid (Ow 5 g8 (wr.alloc (.cells #[Value.int .u8 ((m : Int) % 256)] 5)) w.heap.size (some ⟨wr.heap.size, 0, none⟩) [UInt8.ofNat m] 1) := Ow.made (w := wr) [UInt8.ofNat m] hb1.out.size (by simp) hc2
      have HX := Lib.hid (ho1.out.rd.below ((Below.refl _ _).alloc (Nat.le_refl _) (.cells #[Value.int .u8 ((m : Int) % 256)] 5)))
      have HNX := Lib.hid ho1.out.nil_cap
      clear hcell hc2
      go_wp2_with (at_builtin; refine app8 rfl _ _ rfl [UInt8.ofNat m] (putB n k) HOO.out rfl A1 c1 HX.out (by rw [HL1.out]; rfl) HNX.out (by rw [HL1.out]; simp; omega) HBB.out.size ?_)
      intro A3 c3 w3 ho3 hg3
      have HO3 := Lib.hid ho3
      have HB3 := Lib.hid (HBB.out.grown hg3 HBB.out.size (fun k hk => (HOO.out.block k hk).1))
      clear ho3 hg3
      go_wp2_with fail
      go_roundw
      case rel => exact ⟨k + 1, A3, c3, by omega, by simp, by rw [HDV.out]; simp, congrArg (fun q => Value.slice A3 q c3) (by simp [putB_length]; omega), by rw [HPW.out]; exact HO3, HB3⟩
      case measure => simp [intOf]; omega
    · have he : k = 8 := by omega
      subst he
      go_wp2_with fail
      go_ret
      exact ⟨A1, c1, rfl, ho1.out, hb1.out⟩

theorem rvalue_c (a b : Nat) (ha : a < 18446744073709551616) (hb : b < 18446744073709551616) (w : World) :
    Calls Try.prog 53 #[.complex .f64 a b] w fun e w' => ∃ A' c', e = .returned (.slice A' 16 c') ∧ Ow 5 g8 w' w.heap.size A' (valB a b) c' ∧ Below w.heap.size w w' := by
  have hB := refBits_c a b ha hb
  have hv : valB a b = putB (formF a) 8 ++ putB (formF b) 8 := rfl
  have HPA := Lib.hid (rpart_c (formF a) (formF_lt a ha))
  have HPB := Lib.hid (rpart_c (formF b) (formF_lt b hb))
  have HLA := Lib.hid (putB_length (formF a) 8)
  have HLB := Lib.hid (putB_length (formF b) 8)
  rw [hv]
  clear ha hb hv
  generalize putB (formF a) 8 = pa at *
  generalize putB (formF b) 8 = pb at *
  generalize formF a = x at *
  generalize formF b = y at *
  go_enter Try.func53, Try.ntmps53
  go_wp2_with fail
  refine (hB _).mono ?_; rintro e w1 ⟨rfl, rfl⟩
  clear hB
  go_wp2_with fail
  refine (HPA.out _).mono ?_; rintro e w1 ⟨A1, c1, rfl, ho1, hb1⟩
  have HO1 := Lib.hid ho1
  have HB1 := Lib.hid hb1
  clear ho1 hb1
  go_wp2_with fail
  refine (HPB.out _).mono ?_; rintro e w2 ⟨A2, c2, rfl, ho2, hb2⟩
  have HX2 := Lib.hid ho2.rd
  have HN2 := Lib.hid ho2.nil_cap
  have HO2 := Lib.hid (HO1.out.below hb2)
  have HB2 := Lib.hid (HB1.out.trans (hb2.mono HB1.out.size))
  clear ho2 hb2
  go_wp2_with (at_builtin; refine app8 rfl _ _ rfl pa pb HO2.out (by rw [HLA.out]; rfl) A2 c2 HX2.out (by rw [HLB.out]; rfl) HN2.out (by rw [HLA.out, HLB.out]; decide) HB2.out.size ?_)
  intro A3 c3 w3 ho3 hg3
  have HO3 := Lib.hid ho3
  have HB3 := Lib.hid (HB2.out.grown hg3 HB2.out.size (fun k hk => (HO2.out.block k hk).1))
  have hlen : pa.length + pb.length = 16 := by rw [HLA.out, HLB.out]
  rw [hlen]
  clear ho3 hg3 hlen
  go_wp2_with fail
  go_ret
  exact ⟨A3, c3, rfl, HO3.out, HB3.out⟩

end Go.Proofs.Ytbhjdapkhcgmlaa
