import Derived.Test.YtbhjdapkhcgmlaaPut

set_option linter.unusedSimpArgs false
set_option linter.unusedVariables false
set_option linter.unnecessarySimpa false

namespace Go.Proofs.Ytbhjdapkhcgmlaa
open Go.RowKit

/-! The reference's Nums. -/

set_option maxHeartbeats 4000000 in
theorem refNums_c (A : Option Addr) (l : List Int) (c : Nat) (w : World) (h : Rd g64 w A l) (hl : l.length ≤ 17592186044415) :
    Calls Try.prog 32 #[.slice A l.length c] w fun e w' => ∃ A' c', e = .returned (.tuple #[.slice A' (numsR l).length c', .int .i64 (numsE l)]) ∧ Ow 5 g8 w' w.heap.size A' (numsR l) c' ∧ Below w.heap.size w w' := by
  have H := Lib.hid h
  have HLL := Lib.hid hl
  have HO0 := Lib.hid (Ow.new (E := 5) (g := g8) (w := w) (B := w.heap.size) (Nat.le_refl _))
  have HB0 := Lib.hid ((Below.refl w.heap.size w).alloc (Nat.le_refl _) (.cells #[] 5))
  clear h hl
  have hl := HLL.out
  go_enter Try.func32, Try.ntmps32
  go_wp2_with fail
  go_loopw [4, 10] (fun b i wr => ∃ (k : Nat) (A' : Option Addr) (c' : Nat), k ≤ l.length ∧ i = .int .i64 k ∧ b = .slice A' (numsB (l.take k)).length c' ∧ Hid (okN (l.take k) = true) ∧ Hid (Ow 5 g8 wr w.heap.size A' (numsB (l.take k)) c') ∧ Hid (Below w.heap.size w wr)) (fun _ i _ => l.length - (intOf i).toNat)
  case atStart => exact ⟨0, some ⟨w.heap.size, 0, none⟩, 0, Nat.zero_le _, rfl, rfl, rfl, HO0, HB0⟩
  case round =>
    obtain ⟨k, A1, c1, hk, rfl, rfl, hok, ho1, hb1⟩ := hrel
    by_cases hlt : k < l.length
    · obtain ⟨n, hn⟩ := get_some l k hlt
      obtain ⟨a, rfl, hc⟩ := (H.out.below hb1.out) k n hn
      have HX := Lib.hid hn
      have HT := Lib.hid (take_snoc hn)
      have HNL := Lib.hid (numsB_length (l.take k))
      have HTL : Hid ((l.take k).length = k) := by unfold Hid; simp; omega
      clear hn
      by_cases h1 : n < 0
      · have HE := Lib.hid (numsR_no (okN_false HX.out (by omega)))
        go_wp2_with fail
        go_ret2
        exact ⟨none, 0, by rw [HE.out.1, HE.out.2]; rfl, by rw [HE.out.1]; exact Ow.nil, hb1.out⟩
      · by_cases h2 : 16777215 < n
        · have HE := Lib.hid (numsR_no (okN_false HX.out (by omega)))
          go_wp2_with fail
          go_ret2
          exact ⟨none, 0, by rw [HE.out.1, HE.out.2]; rfl, by rw [HE.out.1]; exact Ow.nil, hb1.out⟩
        · obtain ⟨m, rfl⟩ := Int.eq_ofNat_of_zero_le (show 0 ≤ n by omega)
          have hcs := ref3 m (by omega)
          have hb2 := hb1.out.alloc hb1.out.size (.cells #[.int .u8 ((m : Int) / 65536), .int .u8 ((m : Int) / 256 % 256), .int .u8 ((m : Int) % 256)] 5)
          have HB2 := Lib.hid hb2
          have HO2 := Lib.hid (ho1.out.below ((Below.refl _ _).alloc (Nat.le_refl _) (.cells #[.int .u8 ((m : Int) / 65536), .int .u8 ((m : Int) / 256 % 256), .int .u8 ((m : Int) % 256)] 5)))
          have HX2 := Lib.hid (Rd.row_of (g := g8) (E := 5) wr (putB m 3) hcs)
          have hp3 := putB_length m 3
          have HP3 := Lib.hid hp3
          have hsn : numsB (l.take k ++ [(m : Int)]) = numsB (l.take k) ++ putB m 3 := numsB_snoc _ _
          have HSN := Lib.hid hsn
          clear hb2 hcs hp3 hsn
          go_wp2_with (at_builtin; refine app8 rfl _ _ rfl (numsB (l.take k)) (putB m 3) HO2.out rfl _ 3 HX2.out (by rw [HP3.out]; rfl) (by intro h; cases h) (by rw [HP3.out]; have := HNL.out; have := HTL.out; omega) HB2.out.size ?_)
          intro A3 c3 w3 ho3 hg3
          have HO3 := Lib.hid ho3
          have HB3 := Lib.hid (HB2.out.grown hg3 HB2.out.size (fun k hk => (HO2.out.block k hk).1))
          clear ho3 hg3
          go_wp2_with fail
          go_roundw
          case rel => exact ⟨k + 1, A3, c3, by omega, by go_num, by rw [HT.out, HSN.out, List.length_append], by rw [HT.out]; unfold Hid; rw [okN_snoc, hok.out]; simp; omega, by rw [HT.out, HSN.out]; exact HO3, HB3⟩
          case measure => simp [intOf]; omega
    · have he : l.take k = l := List.take_of_length_le (by omega)
      rw [he] at ho1 hok
      rw [he]
      have HE := Lib.hid (numsR_yes hok.out)
      clear he hok
      go_wp2_with fail
      go_ret2
      exact ⟨A1, c1, by rw [HE.out.1, HE.out.2]; rfl, by rw [HE.out.1]; exact ho1.out, hb1.out⟩

end Go.Proofs.Ytbhjdapkhcgmlaa
