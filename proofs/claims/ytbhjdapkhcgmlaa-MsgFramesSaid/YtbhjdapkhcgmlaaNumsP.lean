import Derived.Test.YtbhjdapkhcgmlaaPut
namespace Go.Proofs.Ytbhjdapkhcgmlaa
open Go.RowKit

/-! pack.Nums, pack.Get and what the reference has of them. -/

def okN (l : List Int) : Bool := l.all fun n => decide (0 ≤ n) && decide (n ≤ 16777215)
def numsB (l : List Int) : List UInt8 := (l.map fun n => putB n.toNat 3).flatten
/-- The bytes of numbers, the error's number. -/
def numsR (l : List Int) : List UInt8 := if okN l then numsB l else []
def numsE (l : List Int) : Int := if okN l then 0 else 21

theorem okN_snoc (l : List Int) (n : Int) : okN (l ++ [n]) = (okN l && (decide (0 ≤ n) && decide (n ≤ 16777215))) := by unfold okN; simp
theorem numsB_snoc (l : List Int) (n : Int) : numsB (l ++ [n]) = numsB l ++ putB n.toNat 3 := by unfold numsB; simp
theorem numsB_length (l : List Int) : (numsB l).length = 3 * l.length := by
  unfold numsB
  induction l with
  | nil => rfl
  | cons n l ih => simp [putB_length] at ih ⊢; omega

theorem okN_false {l : List Int} {k : Nat} {n : Int} (h : l[k]? = some n) (hn : ¬ (0 ≤ n ∧ n ≤ 16777215)) : okN l = false := by
  rw [Bool.eq_false_iff]
  intro e
  unfold okN at e
  rw [List.all_eq_true] at e
  have := e n (List.mem_of_getElem? h)
  simp at this
  exact hn this

theorem numsR_yes {l : List Int} (h : okN l = true) : numsR l = numsB l ∧ numsE l = 0 := by unfold numsR numsE; simp [h]
theorem numsR_no {l : List Int} (h : okN l = false) : numsR l = [] ∧ numsE l = 21 := by unfold numsR numsE; simp [h]

set_option maxHeartbeats 4000000 in
theorem nums_c (A : Option Addr) (l : List Int) (c : Nat) (w : World) (h : Rd g64 w A l) (hl : l.length ≤ 17592186044415) :
    Calls Try.prog 17 #[.slice A l.length c] w fun e w' => ∃ A' c', e = .returned (.tuple #[.slice A' (numsR l).length c', .int .i64 (numsE l)]) ∧ Ow 5 g8 w' w.heap.size A' (numsR l) c' ∧ Below w.heap.size w w' := by
  have H := Lib.hid h
  have HLL := Lib.hid hl
  clear h hl
  have hl := HLL.out
  go_enter Try.func17, Try.ntmps17
  go_wp2_with fail
  go_loopw [4, 9] (fun b i wr => ∃ (k : Nat) (A' : Option Addr) (c' : Nat), k ≤ l.length ∧ i = .int .i64 k ∧ b = .slice A' (numsB (l.take k)).length c' ∧ Hid (okN (l.take k) = true) ∧ Hid (Ow 5 g8 wr w.heap.size A' (numsB (l.take k)) c') ∧ Hid (Below w.heap.size w wr)) (fun _ i _ => l.length - (intOf i).toNat)
  case atStart => exact ⟨0, none, 0, Nat.zero_le _, rfl, rfl, rfl, Ow.nil, Below.refl _ _⟩
  case round =>
    obtain ⟨k, A1, c1, hk, rfl, rfl, hok, ho1, hb1⟩ := hrel
    by_cases hlt : k < l.length
    · obtain ⟨n, hn⟩ := get_some l k hlt
      obtain ⟨a, rfl, hc⟩ := (H.out.below hb1.out) k n hn
      have HX := Lib.hid hn
      have HT := Lib.hid (take_snoc hn)
      have HNL := Lib.hid (numsB_length (l.take k))
      have HTL : Hid ((l.take k).length = k) := by unfold Hid; simp; omega
      clear hn
      by_cases h1 : n < 0
      · have HE := Lib.hid (numsR_no (okN_false HX.out (by omega)))
        go_wp2_with fail
        go_ret2
        exact ⟨none, 0, by rw [HE.out.1, HE.out.2]; rfl, by rw [HE.out.1]; exact Ow.nil, hb1.out⟩
      · by_cases h2 : 16777215 < n
        · have HE := Lib.hid (numsR_no (okN_false HX.out (by omega)))
          go_wp2_with fail
          go_ret2
          exact ⟨none, 0, by rw [HE.out.1, HE.out.2]; rfl, by rw [HE.out.1]; exact Ow.nil, hb1.out⟩
        · obtain ⟨m, rfl⟩ := Int.eq_ofNat_of_zero_le (show 0 ≤ n by omega)
          have hw64 : IntKind.u64.wrap (m : Int) = (m : Int) := by simp [IntKind.wrap, IntKind.bits, IntKind.signed]; omega
          go_wp2_with fail
          refine (put_c A1 _ c1 m 3 wr w.heap.size ho1.out hb1.out.size (by decide) (by have := HNL.out; have := HTL.out; omega)).mono ?_
          rintro e w2 ⟨A2, c2, rfl, ho2, hb2⟩
          have HO2 := Lib.hid ho2
          have HB2 := Lib.hid (hb1.out.trans hb2)
          have hsn : numsB (l.take k ++ [(m : Int)]) = numsB (l.take k) ++ putB m 3 := numsB_snoc _ _
          have HSN := Lib.hid hsn
          clear ho2 hb2 hsn
          go_wp2_with fail
          go_roundw
          case rel => exact ⟨k + 1, A2, c2, by omega, by go_num, by rw [HT.out, HSN.out, List.length_append], by rw [HT.out]; unfold Hid; rw [okN_snoc, hok.out]; simp; omega, by rw [HT.out, HSN.out]; exact HO2, HB2⟩
          case measure => simp [intOf]; omega
    · have he : l.take k = l := List.take_of_length_le (by omega)
      rw [he] at ho1 hok
      rw [he]
      have HE := Lib.hid (numsR_yes hok.out)
      clear he hok
      go_wp2_with fail
      go_ret2
      exact ⟨A1, c1, by rw [HE.out.1, HE.out.2]; rfl, by rw [HE.out.1]; exact ho1.out, hb1.out⟩

theorem put3 (m : Nat) : putB m 3 = [UInt8.ofNat (m / 65536), UInt8.ofNat (m / 256), UInt8.ofNat m] := by simp [putB]

theorem ref3 (m : Nat) (h : (m : Int) ≤ 16777215) : #[Value.int .u8 ((m : Int) / 65536), Value.int .u8 ((m : Int) / 256 % 256), Value.int .u8 ((m : Int) % 256)] = ((putB m 3).map g8).toArray := by
  rw [put3]
  have e1 : ((m : Int) / 65536) = ((m / 65536 : Nat) : Int) := by omega
  have e2 : ((m : Int) / 256) = ((m / 256 : Nat) : Int) := by omega
  have e3 : ((m / 65536 : Nat) : Int) = ((m / 65536 : Nat) : Int) % 256 := by omega
  rw [e1, e2, e3, byte_cell, byte_cell, byte_cell]
  rfl

end Go.Proofs.Ytbhjdapkhcgmlaa
