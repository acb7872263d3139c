import Derived.Test.YtbhjdapkhcgmlaaSlices

set_option linter.unusedSimpArgs false
set_option linter.unusedVariables false
set_option linter.unnecessarySimpa false

namespace Go.Proofs.Ytbhjdapkhcgmlaa
open Go.RowKit

/-! pack.put, pack.get: numbers as bytes, the highest first. -/

/-- The lowest 'size' bytes of n. -/
def putB (n : Nat) : Nat → List UInt8
  | 0 => []
  | k + 1 => UInt8.ofNat (n / 2 ^ (8 * k)) :: putB n k

theorem putB_length (n : Nat) : ∀ k, (putB n k).length = k
  | 0 => rfl
  | k + 1 => by simp [putB, putB_length n k]

/-- The number of bytes. -/
def getN (l : List UInt8) : Nat := l.foldl (fun n x => 256 * n + x.toNat) 0

theorem getN_snoc (l : List UInt8) (x : UInt8) : getN (l ++ [x]) = 256 * getN l + x.toNat := by unfold getN; rw [List.foldl_append]; rfl

theorem getN_lt (l : List UInt8) : getN l < 256 ^ l.length := by
  generalize hn : l.length = n
  induction n generalizing l with
  | zero => have := List.eq_nil_of_length_eq_zero hn; subst this; decide
  | succ n ih =>
    have hne : l ≠ [] := by intro e; subst e; simp at hn
    rw [← List.dropLast_concat_getLast hne, getN_snoc]
    have := ih l.dropLast (by simp; omega)
    have h2 := UInt8.toNat_lt (l.getLast hne)
    rw [Nat.pow_succ]
    omega

theorem getN_lt56 (l : List UInt8) (h : l.length ≤ 7) : getN l < 72057594037927936 := by
  have h1 := getN_lt l
  have h2 : 256 ^ l.length ≤ 256 ^ 7 := Nat.pow_le_pow_right (by decide) h
  have h3 : (256 : Nat) ^ 7 = 72057594037927936 := by decide
  omega

theorem getN_lt64 (l : List UInt8) (h : l.length ≤ 8) : getN l < 18446744073709551616 := by
  have h1 := getN_lt l
  have h2 : 256 ^ l.length ≤ 256 ^ 8 := Nat.pow_le_pow_right (by decide) h
  have h3 : (256 : Nat) ^ 8 = 18446744073709551616 := by decide
  omega

theorem join8 (n : Nat) (x : UInt8) (h : n < 72057594037927936) : bits .or .u64 ((n : Int) * 256) (x.toNat : Int) = ((256 * n + x.toNat : Nat) : Int) := by
  have hx := UInt8.toNat_lt x
  have h1 : ((n : Int) * 256) = ((256 * n : Nat) : Int) := by omega
  rw [h1, u64_or_nat (256 * n) x.toNat (by omega) (by omega), nat_join 8 (256 * n) x.toNat (by omega) (by omega)]

theorem wrap_byte (x : UInt8) : IntKind.u64.wrap (x.toNat : Int) = (x.toNat : Int) := by
  have := UInt8.toNat_lt x
  simp [IntKind.wrap, IntKind.bits, IntKind.signed]; omega

theorem shift_cell (n k : Nat) : Value.int .u8 ((n : Int) / 2 ^ k % 256) = g8 (UInt8.ofNat (n / 2 ^ k)) := by
  have e : ((n : Int) / 2 ^ k) = ((n / 2 ^ k : Nat) : Int) := by simp
  rw [e, byte_cell]

set_option maxHeartbeats 2000000 in
theorem get_c (A : Option Addr) (l : List UInt8) (c : Nat) (w : World) (h : Rd g8 w A l) (hl : l.length ≤ 8) :
    Calls Try.prog 65 #[.slice A l.length c] w fun e w' => e = .returned (.int .u64 (getN l : Nat)) ∧ w = w' := by
  have H := Lib.hid h
  clear h
  go_enter Try.func65, Try.ntmps65
  go_wp2_with fail
  go_loop [3, 8] (fun n i => ∃ k : Nat, k ≤ l.length ∧ i = .int .i64 k ∧ n = .int .u64 (getN (l.take k) : Nat)) (fun _ i => l.length - (intOf i).toNat)
  case atStart => exact ⟨0, Nat.zero_le _, rfl, rfl⟩
  case round =>
    obtain ⟨k, hk, rfl, rfl⟩ := hrel
    by_cases hlt : k < l.length
    · obtain ⟨x, hx⟩ := get_some l k hlt
      obtain ⟨a, rfl, hc⟩ := H.out k x hx
      have hb := getN_lt56 (l.take k) (by simp; omega)
      have hj := join8 (getN (l.take k)) x hb
      have HX := Lib.hid hx
      have hs : getN (l.take (k + 1)) = 256 * getN (l.take k) + x.toNat := by rw [take_snoc hx, getN_snoc]
      have HS := Lib.hid hs
      have h0 : (0 : Int) ≤ (getN (l.take k) : Nat) := by omega
      have hw : IntKind.u64.wrap (((getN (l.take k) : Nat) : Int) * 256) = ((getN (l.take k) : Nat) : Int) * 256 := by simp [IntKind.wrap, IntKind.bits, IntKind.signed]; omega
      clear hx hs
      generalize getN (l.take k) = n at *
      go_wp2_with fail
      go_round
      case rel => exact ⟨k + 1, by omega, by go_num, by rw [HS.out, wrap_byte, hj]⟩
      case measure => simp [intOf]; omega
    · have he : l.take k = l := List.take_of_length_le (by omega)
      rw [he]
      clear he
      go_wp2_with fail
      go_ret
      exact ⟨rfl, rfl⟩

set_option maxHeartbeats 4000000 in
theorem put_c (A : Option Addr) (l : List UInt8) (c n size : Nat) (w : World) (B : Nat) (ho : Ow 5 g8 w B A l c) (hB : B ≤ w.heap.size) (hs : size ≤ 8) (hl : l.length ≤ 140737488351232) :
    Calls Try.prog 40 #[.slice A l.length c, .int .u64 n, .int .i64 size] w fun e w' => ∃ A' c', e = .returned (.slice A' (l ++ putB n size).length c') ∧ Ow 5 g8 w' B A' (l ++ putB n size) c' ∧ Below B w w' := by
  have HO := Lib.hid ho
  have HB := Lib.hid hB
  clear ho hB
  go_enter Try.func40, Try.ntmps40
  go_wp2_with fail
  go_loopw [0, 7] (fun b i wr => ∃ (j : Nat) (A' : Option Addr) (l' : List UInt8) (c' : Nat), j ≤ size ∧ i = .int .i64 ((j : Int) - 1) ∧ b = .slice A' l'.length c' ∧ l'.length + j ≤ l.length + size ∧ Hid (l' ++ putB n j = l ++ putB n size) ∧ Hid (Ow 5 g8 wr B A' l' c') ∧ Hid (Below B w wr)) (fun _ i _ => (intOf i + 1).toNat)
  case atStart => exact ⟨size, A, l, c, Nat.le_refl _, rfl, rfl, by omega, rfl, HO, Below.refl _ _⟩
  case round =>
    obtain ⟨j, A1, l1, c1, hj, rfl, rfl, hl1, hr, ho1, hb1⟩ := hrel
    cases j with
    | zero =>
      go_wp2_with fail
      go_ret
      have e : l1 = l ++ putB n size := by have := hr.out; simpa [putB] using this
      subst e
      exact ⟨A1, c1, rfl, ho1.out, hb1.out⟩
    | succ j =>
      have e1 : (((j + 1 : Nat) : Int) - 1) = (j : Int) := by omega
      rw [e1]
      clear e1
      have hb2 := hb1.out.alloc (Nat.le_trans HB.out hb1.out.size) (.cells #[.int .u8 ((n : Int) / 2 ^ (8 * j) % 256)] 5)
      have HB2 := Lib.hid hb2
      have HO2 := Lib.hid (ho1.out.below ((Below.refl _ _).alloc (Nat.le_refl _) (.cells #[.int .u8 ((n : Int) / 2 ^ (8 * j) % 256)] 5)))
      have HX2 := Lib.hid (Rd.row_of (g := g8) (E := 5) wr [UInt8.ofNat (n / 2 ^ (8 * j))] (cs := #[.int .u8 ((n : Int) / 2 ^ (8 * j) % 256)]) (by rw [shift_cell]; rfl))
      have HS2 := Lib.hid (Nat.le_trans HB.out hb2.size)
      clear hb2
      go_wp2_with (at_builtin; refine app8 rfl _ _ rfl l1 _ HO2.out rfl _ 1 HX2.out rfl (by intro h; cases h) (by simp; omega) HS2.out ?_)
      intro A3 c3 w3 ho3 hg3
      have HO3 := Lib.hid ho3
      have HB3 := Lib.hid (HB2.out.grown hg3 HS2.out (fun k hk => (HO2.out.block k hk).1))
      clear ho3 hg3
      go_wp2_with fail
      go_roundw
      case rel => exact ⟨j, A3, l1 ++ [UInt8.ofNat (n / 2 ^ (8 * j))], c3, by omega, rfl, by simp, by simp; omega, by have := hr.out; unfold Hid; rw [← this]; simp [putB], HO3, HB3⟩
      case measure => simp [intOf]

end Go.Proofs.Ytbhjdapkhcgmlaa

namespace Go.Proofs.Ytbhjdapkhcgmlaa
open Go.RowKit

/-! pack.Nums, pack.Get and what the reference has of them. -/

def okN (l : List Int) : Bool := l.all fun n => decide (0 ≤ n) && decide (n ≤ 16777215)
def numsB (l : List Int) : List UInt8 := (l.map fun n => putB n.toNat 3).flatten
/-- The bytes of numbers, the error's number. -/
def numsR (l : List Int) : List UInt8 := if okN l then numsB l else []
def numsE (l : List Int) : Int := if okN l then 0 else 21

theorem okN_snoc (l : List Int) (n : Int) : okN (l ++ [n]) = (okN l && (decide (0 ≤ n) && decide (n ≤ 16777215))) := by unfold okN; simp
theorem numsB_snoc (l : List Int) (n : Int) : numsB (l ++ [n]) = numsB l ++ putB n.toNat 3 := by unfold numsB; simp
theorem numsB_length (l : List Int) : (numsB l).length = 3 * l.length := by
  unfold numsB
  induction l with
  | nil => rfl
  | cons n l ih => simp [putB_length] at ih ⊢; omega

theorem okN_false {l : List Int} {k : Nat} {n : Int} (h : l[k]? = some n) (hn : ¬ (0 ≤ n ∧ n ≤ 16777215)) : okN l = false := by
  rw [Bool.eq_false_iff]
  intro e
  unfold okN at e
  rw [List.all_eq_true] at e
  have := e n (List.mem_of_getElem? h)
  simp at this
  exact hn this

theorem numsR_yes {l : List Int} (h : okN l = true) : numsR l = numsB l ∧ numsE l = 0 := by unfold numsR numsE; simp [h]
theorem numsR_no {l : List Int} (h : okN l = false) : numsR l = [] ∧ numsE l = 21 := by unfold numsR numsE; simp [h]

set_option maxHeartbeats 4000000 in
theorem nums_c (A : Option Addr) (l : List Int) (c : Nat) (w : World) (h : Rd g64 w A l) (hl : l.length ≤ 17592186044415) :
    Calls Try.prog 17 #[.slice A l.length c] w fun e w' => ∃ A' c', e = .returned (.tuple #[.slice A' (numsR l).length c', .int .i64 (numsE l)]) ∧ Ow 5 g8 w' w.heap.size A' (numsR l) c' ∧ Below w.heap.size w w' := by
  have H := Lib.hid h
  have HLL := Lib.hid hl
  clear h hl
  have hl := HLL.out
  go_enter Try.func17, Try.ntmps17
  go_wp2_with fail
  go_loopw [4, 9] (fun b i wr => ∃ (k : Nat) (A' : Option Addr) (c' : Nat), k ≤ l.length ∧ i = .int .i64 k ∧ b = .slice A' (numsB (l.take k)).length c' ∧ Hid (okN (l.take k) = true) ∧ Hid (Ow 5 g8 wr w.heap.size A' (numsB (l.take k)) c') ∧ Hid (Below w.heap.size w wr)) (fun _ i _ => l.length - (intOf i).toNat)
  case atStart => exact ⟨0, none, 0, Nat.zero_le _, rfl, rfl, rfl, Ow.nil, Below.refl _ _⟩
  case round =>
    obtain ⟨k, A1, c1, hk, rfl, rfl, hok, ho1, hb1⟩ := hrel
    by_cases hlt : k < l.length
    · obtain ⟨n, hn⟩ := get_some l k hlt
      obtain ⟨a, rfl, hc⟩ := (H.out.below hb1.out) k n hn
      have HX := Lib.hid hn
      have HT := Lib.hid (take_snoc hn)
      have HNL := Lib.hid (numsB_length (l.take k))
      have HTL : Hid ((l.take k).length = k) := by unfold Hid; simp; omega
      clear hn
      by_cases h1 : n < 0
      · have HE := Lib.hid (numsR_no (okN_false HX.out (by omega)))
        go_wp2_with fail
        go_ret2
        exact ⟨none, 0, by rw [HE.out.1, HE.out.2]; rfl, by rw [HE.out.1]; exact Ow.nil, hb1.out⟩
      · by_cases h2 : 16777215 < n
        · have HE := Lib.hid (numsR_no (okN_false HX.out (by omega)))
          go_wp2_with fail
          go_ret2
          exact ⟨none, 0, by rw [HE.out.1, HE.out.2]; rfl, by rw [HE.out.1]; exact Ow.nil, hb1.out⟩
        · obtain ⟨m, rfl⟩ := Int.eq_ofNat_of_zero_le (show 0 ≤ n by omega)
          have hw64 : IntKind.u64.wrap (m : Int) = (m : Int) := by simp [IntKind.wrap, IntKind.bits, IntKind.signed]; omega
          go_wp2_with fail
          refine (put_c A1 _ c1 m 3 wr w.heap.size ho1.out hb1.out.size (by decide) (by have := HNL.out; have := HTL.out; omega)).mono ?_
          rintro e w2 ⟨A2, c2, rfl, ho2, hb2⟩
          have HO2 := Lib.hid ho2
          have HB2 := Lib.hid (hb1.out.trans hb2)
          have hsn : numsB (l.take k ++ [(m : Int)]) = numsB (l.take k) ++ putB m 3 := numsB_snoc _ _
          have HSN := Lib.hid hsn
          clear ho2 hb2 hsn
          go_wp2_with fail
          go_roundw
          case rel => exact ⟨k + 1, A2, c2, by omega, by go_num, by rw [HT.out, HSN.out, List.length_append], by rw [HT.out]; unfold Hid; rw [okN_snoc, hok.out]; simp; omega, by rw [HT.out, HSN.out]; exact HO2, HB2⟩
          case measure => simp [intOf]; omega
    · have he : l.take k = l := List.take_of_length_le (by omega)
      rw [he] at ho1 hok
      rw [he]
      have HE := Lib.hid (numsR_yes hok.out)
      clear he hok
      go_wp2_with fail
      go_ret2
      exact ⟨A1, c1, by rw [HE.out.1, HE.out.2]; rfl, by rw [HE.out.1]; exact ho1.out, hb1.out⟩

theorem put3 (m : Nat) : putB m 3 = [UInt8.ofNat (m / 65536), UInt8.ofNat (m / 256), UInt8.ofNat m] := by simp [putB]

theorem ref3 (m : Nat) (h : (m : Int) ≤ 16777215) : #[Value.int .u8 ((m : Int) / 65536), Value.int .u8 ((m : Int) / 256 % 256), Value.int .u8 ((m : Int) % 256)] = ((putB m 3).map g8).toArray := by
  rw [put3]
  have e1 : ((m : Int) / 65536) = ((m / 65536 : Nat) : Int) := by omega
  have e2 : ((m : Int) / 256) = ((m / 256 : Nat) : Int) := by omega
  have e3 : ((m / 65536 : Nat) : Int) = ((m / 65536 : Nat) : Int) % 256 := by omega
  rw [e1, e2, e3, byte_cell, byte_cell, byte_cell]
  rfl

end Go.Proofs.Ytbhjdapkhcgmlaa
