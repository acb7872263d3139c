import Derived.Test.YtbhjdapkhcgmlaaSlices
import Derived.Test.YtbhjdapkhcgmlaaCrcStep

set_option linter.unusedSimpArgs false
set_option linter.unusedVariables false
set_option linter.unnecessarySimpa false

namespace Go.Proofs.Ytbhjdapkhcgmlaa
open Go.RowKit

/-! crc.Of, crc.Seal, crc.Open. -/

/-- The register behind bytes. -/
def runN (c : Nat) (l : List UInt8) : Nat := l.foldl (fun c x => stepN c x.toNat) c

/-- The sum of bytes. -/
def sumN (l : List UInt8) : Nat := 65535 - runN 65535 l

theorem runN_lt {c : Nat} (h : c < 65536) (l : List UInt8) : runN c l < 65536 := by
  unfold runN
  induction l generalizing c with
  | nil => exact h
  | cons x l ih => exact ih (stepN_lt h (UInt8.toNat_lt x))

theorem runN_append (c : Nat) (l m : List UInt8) : runN c (l ++ m) = runN (runN c l) m := by unfold runN; rw [List.foldl_append]
theorem runN_snoc (c : Nat) (l : List UInt8) (x : UInt8) : runN c (l ++ [x]) = stepN (runN c l) x.toNat := by rw [runN_append]; rfl

theorem sumN_lt (l : List UInt8) : sumN l < 65536 := by unfold sumN; omega

theorem xor16 (b : Nat) (hb : b < 65536) : bits .xor .u16 IntKind.u16.max (b : Int) = ((65535 - b : Nat) : Int) := by
  have h0 : IntKind.u16.max = ((65535 : Nat) : Int) := by decide
  rw [h0, u16_xor_nat _ b (by omega) hb]
  congr 1
  have h1 : (65535 : Nat) = (BitVec.allOnes 16).toNat := by decide
  have h2 : b = (BitVec.ofNat 16 b).toNat := by simp; omega
  have h3 : 65535 ^^^ b = (BitVec.allOnes 16 ^^^ BitVec.ofNat 16 b).toNat := by
    rw [BitVec.toNat_xor, ← h1, ← h2]
  rw [h3, BitVec.allOnes_xor, BitVec.toNat_not, ← h2]

/-- The slice of slices at A reads as L. -/
def RdS (w : World) (A : Option Addr) (L : List (List UInt8)) : Prop :=
  ∀ (i : Nat) (p : List UInt8), L[i]? = some p → ∃ a B c, A = some a ∧ w.cell? (a.add i) = some (.slice B p.length c) ∧ (B = none → c = 0) ∧ p.length ≤ 9223372036854775807 ∧ Rd g8 w B p

theorem RdS.below {w w' : World} {A : Option Addr} {L : List (List UInt8)} (h : RdS w A L) (hb : Below w.heap.size w w') : RdS w' A L := fun i p hp => by
  obtain ⟨a, B, c, e, hc, hn, hl, hr⟩ := h i p hp
  exact ⟨a, B, c, e, (hb.cell (World.block_lt_of_cell? w _ hc)).trans hc, hn, hl, hr.below hb⟩

theorem flatten_snoc {L : List (List UInt8)} {k : Nat} {p : List UInt8} (h : L[k]? = some p) : (L.take (k + 1)).flatten = (L.take k).flatten ++ p := by
  rw [take_snoc h]; simp

set_option maxHeartbeats 1000000 in
theorem of_c (A : Option Addr) (L : List (List UInt8)) (c : Nat) (w : World) (h : RdS w A L) (hlen : L.length ≤ 9223372036854775807) :
    Calls Try.prog 55 #[.slice A L.length c] w fun e w' => e = .returned (.int .u16 (sumN L.flatten : Nat)) ∧ w = w' := by
  have H := Lib.hid h
  clear h
  go_enter Try.func55, Try.ntmps55
  go_wp2_with fail
  go_loop [10, 3] (fun i c => ∃ k : Nat, k ≤ L.length ∧ i = .int .i64 k ∧ c = .int .u16 (runN 65535 (L.take k).flatten : Nat)) (fun i _ => L.length - (intOf i).toNat)
  case atStart => exact ⟨0, Nat.zero_le _, rfl, rfl⟩
  case round =>
    obtain ⟨k, hk, rfl, rfl⟩ := hrel
    by_cases hlt : k < L.length
    · obtain ⟨p, hp⟩ := get_some L k hlt
      obtain ⟨a, B, cp, rfl, hc, _, hl, hr⟩ := H.out k p hp
      have HP := Lib.hid hp
      have HR := Lib.hid hr
      have hlt16 := runN_lt (c := 65535) (by omega) (L.take k).flatten
      have H16 := Lib.hid hlt16
      clear hp hr hlt16
      generalize hg : runN 65535 (L.take k).flatten = r at *
      have HG := Lib.hid hg
      clear hg
      go_wp2_with fail
      go_loop [16, 3] (fun i c => ∃ j : Nat, j ≤ p.length ∧ i = .int .i64 j ∧ c = .int .u16 (runN r (p.take j) : Nat)) (fun i _ => p.length - (intOf i).toNat)
      case atStart => exact ⟨0, Nat.zero_le _, rfl, rfl⟩
      case round =>
        obtain ⟨j, hj, rfl, rfl⟩ := hrel
        by_cases hjl : j < p.length
        · obtain ⟨x, hx⟩ := get_some p j hjl
          obtain ⟨b, rfl, hcb⟩ := HR.out j x hx
          have HX := Lib.hid hx
          have hs := Lib.hid (runN_lt H16.out (p.take j))
          clear hx
          go_wp2_with (go_at_call 71; refine (step_c _ _ hs.out (UInt8.toNat_lt x) _).mono ?_; rintro e w' ⟨rfl, rfl⟩)
          go_round
          case rel => exact ⟨j + 1, by omega, by go_num, by rw [take_snoc HX.out, runN_snoc]⟩
          case measure => simp [intOf]; omega
        · have he : p.take j = p := List.take_of_length_le (by omega)
          have HE := Lib.hid he
          clear he
          go_wp2_with fail
          go_round
          case rel => exact ⟨k + 1, by omega, by go_num, by rw [flatten_snoc HP.out, runN_append, HG.out, HE.out]⟩
          case measure => simp [intOf]; omega
    · have he : L.take k = L := List.take_of_length_le (by omega)
      have hx : bits .xor .u16 IntKind.u16.max ((runN 65535 (L.take k).flatten : Nat) : Int) = ((sumN L.flatten : Nat) : Int) := by
        rw [he]
        exact xor16 _ (runN_lt (by omega) _)
      clear he
      go_wp2_with fail
      go_ret
      exact ⟨rfl, rfl⟩

/-- Bytes with their sum. -/
def sealN (l : List UInt8) : List UInt8 := l ++ [UInt8.ofNat (sumN l), UInt8.ofNat (sumN l / 256)]

theorem RdS.one (w : World) (A : Option Addr) (l : List UInt8) (c : Nat) (E : TypeId) (h : Rd g8 w A l) (hn : A = none → c = 0) (hl : l.length ≤ 140737488355328) :
    RdS (w.alloc (.cells #[.slice A l.length c] E)) (some ⟨w.heap.size, 0, none⟩) [l] := fun i p hp => by
  have hi : i = 0 ∧ p = l := by
    cases i with
    | zero => simp at hp; exact ⟨rfl, hp.symm⟩
    | succ i => simp at hp
  obtain ⟨rfl, rfl⟩ := hi
  refine ⟨_, A, c, rfl, ?_, hn, by omega, h.below ((Below.refl _ _).alloc (Nat.le_refl _) _)⟩
  show (w.alloc (.cells #[.slice A p.length c] E)).cell? ⟨w.heap.size, 0, none⟩ = _
  rw [cell_of_row _ w.heap.size 0 _ E (0, 0) (heap_alloc_new w _)]
  rfl

theorem RdS.one_at (w : World) (A : Option Addr) (l : List UInt8) (c : Nat) (E : TypeId) (b : Nat) (hb : w.heap.size = b) (n : Nat) (hln : l.length = n) (h : Rd g8 w A l) (hn : A = none → c = 0) (hl : l.length ≤ 140737488355328) :
    RdS (w.alloc (.cells #[.slice A n c] E)) (some ⟨b, 0, none⟩) [l] := by
  subst hb hln; exact RdS.one w A l c E h hn hl

/-- The sum of one text. -/
theorem of1_c (w : World) (A : Option Addr) (l : List UInt8) (c n b : Nat) (hb : w.heap.size = b) (hln : l.length = n) (h : Rd g8 w A l) (hn : A = none → c = 0) (hl : l.length ≤ 140737488355328) :
    Calls Try.prog 55 #[.slice (some ⟨b, 0, none⟩) 1 1] (w.alloc (.cells #[.slice A n c] 22)) fun e w' => e = .returned (.int .u16 (sumN l : Nat)) ∧ w.alloc (.cells #[.slice A n c] 22) = w' := by
  have := of_c (some ⟨b, 0, none⟩) [l] 1 _ (RdS.one_at w A l c 22 b hb n hln h hn hl) (by simp)
  rwa [show [l].flatten = l from by simp] at this

set_option maxHeartbeats 1000000 in
theorem seal_c (A : Option Addr) (l : List UInt8) (c : Nat) (w : World) (h : Rd g8 w A l) (hn : A = none → c = 0) (hlen : l.length ≤ 140737488355326) :
    Calls Try.prog 30 #[.slice A l.length c] w fun e w' => ∃ A' c', e = .returned (.slice A' (sealN l).length c') ∧ Ow 5 g8 w' w.heap.size A' (sealN l) c' ∧ Below w.heap.size w w' := by
  have H := Lib.hid h
  have HN := Lib.hid hn
  have hb1 : Below w.heap.size w (w.alloc (.cells #[.slice A l.length c] 22)) := (Below.refl _ _).alloc (Nat.le_refl _) _
  have HB := Lib.hid hb1
  clear h hn hb1
  go_enter Try.func30, Try.ntmps30
  go_wp2_with fail
  refine (of_c _ [l] _ _ (RdS.one w A l c _ H.out HN.out (by omega)) (by simp)).mono ?_; rintro e w' ⟨rfl, rfl⟩
  rw [show [l].flatten = l from by simp]
  go_wp2_with fail
  refine (clone_c A l c _ (H.out.below HB.out) HN.out (by omega)).mono ?_; rintro e w1 ⟨A1, c1, rfl, ho, hb⟩
  have HO := Lib.hid ho
  have HB1 := Lib.hid hb
  clear ho hb
  go_wp2_with (at_builtin; refine app8 rfl _ _ rfl l [UInt8.ofNat (sumN l), UInt8.ofNat (sumN l / 256)] (HO.out.below ((Below.refl _ _).alloc (Nat.le_refl _) _)) rfl _ 2 (Rd.row_of w1 _ ?hcs) rfl ?hn ?hl ?hb ?_)
  case hcs => rw [byte_cell, show ((sumN l : Nat) : Int) / 256 = ((sumN l / 256 : Nat) : Int) from by omega, byte_cell]; rfl
  case hn => intro h; cases h
  case hl => simp; omega
  case hb => have := HB1.out.size; simp at this ⊢; omega
  intro A' c' w2 ho hg
  have HO2 := Lib.hid ho
  have HG := Lib.hid hg
  clear ho hg
  go_wp2_with fail
  go_ret
  refine ⟨A', c', ret_slice (by simp [sealN]), ?_, ?_⟩
  · exact HO2.out.low (by simp)
  · have h1 := HB.out.trans (HB1.out.mono (by simp))
    have hs := h1.size
    exact (h1.alloc hs _).grown HG.out (by simp; omega) (fun k hk => by have := (HO.out.block k hk).1; simp at this; omega)

end Go.Proofs.Ytbhjdapkhcgmlaa
