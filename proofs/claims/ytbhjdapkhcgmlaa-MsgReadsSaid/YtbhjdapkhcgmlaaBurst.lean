import Derived.Test.YtbhjdapkhcgmlaaCrcOpen
import Derived.StillTailTactics

set_option linter.unusedSimpArgs false
set_option linter.unusedVariables false
set_option linter.unnecessarySimpa false

namespace Go.Proofs.Ytbhjdapkhcgmlaa
open Go.RowKit

/-- How many bits a number has. -/
def wideN (m : Nat) : Nat := if m = 0 then 0 else m.log2 + 1

/-- The library's table of these. -/
def tab : ByteArray := ⟨#[0, 1, 2, 2, 3, 3, 3, 3, 4, 4, 4, 4, 4, 4, 4, 4, 5, 5, 5, 5, 5, 5, 5, 5, 5, 5, 5, 5, 5, 5, 5, 5, 6, 6, 6, 6, 6, 6, 6, 6, 6, 6, 6, 6, 6, 6, 6, 6, 6, 6, 6, 6, 6, 6, 6, 6, 6, 6, 6, 6, 6, 6, 6, 6, 7, 7, 7, 7, 7, 7, 7, 7, 7, 7, 7, 7, 7, 7, 7, 7, 7, 7, 7, 7, 7, 7, 7, 7, 7, 7, 7, 7, 7, 7, 7, 7, 7, 7, 7, 7, 7, 7, 7, 7, 7, 7, 7, 7, 7, 7, 7, 7, 7, 7, 7, 7, 7, 7, 7, 7, 7, 7, 7, 7, 7, 7, 7, 7, 8, 8, 8, 8, 8, 8, 8, 8, 8, 8, 8, 8, 8, 8, 8, 8, 8, 8, 8, 8, 8, 8, 8, 8, 8, 8, 8, 8, 8, 8, 8, 8, 8, 8, 8, 8, 8, 8, 8, 8, 8, 8, 8, 8, 8, 8, 8, 8, 8, 8, 8, 8, 8, 8, 8, 8, 8, 8, 8, 8, 8, 8, 8, 8, 8, 8, 8, 8, 8, 8, 8, 8, 8, 8, 8, 8, 8, 8, 8, 8, 8, 8, 8, 8, 8, 8, 8, 8, 8, 8, 8, 8, 8, 8, 8, 8, 8, 8, 8, 8, 8, 8, 8, 8, 8, 8, 8, 8, 8, 8, 8, 8, 8, 8, 8, 8, 8, 8, 8, 8, 8, 8, 8, 8, 8, 8, 8, 8]⟩

theorem tab_size : tab.size = 256 := by decide +kernel
theorem tab_all : ∀ i : Fin 256, (tab.data.toList.getD i.val 0).toNat = wideN i.val := by decide +kernel
theorem tab_at (i : Nat) (h : i < tab.size) : (tab[i]'h).toNat = wideN i := by
  have hs := tab_size
  have := tab_all ⟨i, by omega⟩
  rw [← this]
  have hl : i < tab.data.toList.length := by rw [Array.length_toList]; exact h
  show _ = (tab.data.toList.getD i 0).toNat
  rw [List.getD_eq_getElem?_getD, List.getElem?_eq_getElem hl]
  rfl

theorem wide_lt {m : Nat} (h : m < 65536) : wideN m ≤ 16 := by
  unfold wideN
  split
  · omega
  · have := (Nat.log2_lt (k := 16) ‹_›).2 (by omega)
    omega

theorem wide_half {m : Nat} (h : 256 ≤ m) : wideN m = 8 + wideN (m / 256) := by
  unfold wideN
  rw [if_neg (by omega), if_neg (by omega)]
  have h1 : m / 256 ≠ 0 := by omega
  have e : m.log2 = (m / 256).log2 + 8 := by
    rw [Nat.log2_eq_iff (by omega)]
    have := (Nat.log2_eq_iff (n := m / 256) (k := (m / 256).log2) h1).1 rfl
    rw [Nat.pow_add, Nat.pow_add, Nat.pow_add]
    rw [Nat.pow_add] at this
    omega
  omega

theorem len_low (m : Nat) (h : m < tab.size) : wrap64 (wrap64 ((tab[m]'h).toNat : Int)) = ((wideN m : Nat) : Int) := by
  rw [tab_at]
  have := wide_lt (m := m) (by have := tab_size; omega)
  unfold wrap64
  omega

theorem len_high (m : Nat) (hm : m < 65536) (hb : 256 ≤ m) (h : m / 256 < tab.size) : wrap64 (8 + wrap64 ((tab[m / 256]'h).toNat : Int)) = ((wideN m : Nat) : Int) := by
  rw [tab_at, wide_half hb]
  have := wide_lt (m := m / 256) (by omega)
  unfold wrap64
  omega

set_option maxRecDepth 1000000 in
set_option maxHeartbeats 1000000 in
theorem len16_c (m : Nat) (hm : m < 65536) (w : World) :
    Calls Try.prog 44 #[.int .u16 m] w fun e w' => e = .returned (.int .i64 (wideN m : Nat)) ∧ w = w' := by
  have hs := tab_size
  go_enter Try.func44, Try.ntmps44
  by_cases hb : 256 ≤ m
  · go_wp2_with fail
    go_ret
    exact ⟨ret_int (len_high m hm hb (by omega)), rfl⟩
  · go_wp2_with fail
    go_ret
    exact ⟨ret_int (len_low m (by omega)), rfl⟩

/-- Bytes of which the first bits of a mask, from a place on, are turned. -/
def turnN (l : List UInt8) (a m : Nat) : Nat → List UInt8
  | 0 => l
  | k + 1 => (turnN l a m k).set ((a + k) / 8) ((turnN l a m k).getD ((a + k) / 8) 0 ^^^ UInt8.ofNat (m / 2 ^ k % 2 * 2 ^ ((a + k) % 8)))

theorem turnN_length (l : List UInt8) (a m : Nat) : ∀ k, (turnN l a m k).length = l.length
  | 0 => rfl
  | k + 1 => by simp [turnN, turnN_length l a m k]

/-- Bytes of which a mask's bits, from a place on, are turned, where there are so many. -/
def burstN (l : List UInt8) (at_ : Int) (m : Nat) : List UInt8 :=
  if at_ < 0 ∨ 0 < wideN m ∧ 8 * (l.length : Int) - wideN m < at_ then l else turnN l at_.toNat m (wideN m)

theorem burstN_length (l : List UInt8) (at_ : Int) (m : Nat) : (burstN l at_ m).length = l.length := by
  unfold burstN; split
  · rfl
  · exact turnN_length _ _ _ _

theorem turn_cell (x : UInt8) (m k r : Nat) (hm : m < 65536) (hr : r < 8) :
    Value.int .u8 (bits .xor .u8 (x.toNat : Int) (IntKind.u16.wrap (bits .and .u16 ((m : Int) / 2 ^ k) 1 * 2 ^ r) % 256)) = g8 (x ^^^ UInt8.ofNat (m / 2 ^ k % 2 * 2 ^ r)) := by
  have h1 : ((m : Int) / 2 ^ k) = ((m / 2 ^ k : Nat) : Int) := by simp
  have hlt : m / 2 ^ k < 65536 := Nat.lt_of_le_of_lt (Nat.div_le_self _ _) hm
  have h2 : bits .and .u16 ((m / 2 ^ k : Nat) : Int) 1 = ((m / 2 ^ k % 2 : Nat) : Int) := by
    have := u16_and_nat (m / 2 ^ k) 1 hlt (by omega)
    rw [nat_mask1] at this
    exact this
  rw [h1, h2]
  have hB : m / 2 ^ k % 2 < 2 := Nat.mod_lt _ (by omega)
  generalize m / 2 ^ k % 2 = B at *
  have hp : 2 ^ r ≤ 128 := by
    have := Nat.pow_le_pow_right (n := 2) (by omega) (show r ≤ 7 by omega)
    simpa using this
  have hn : B * 2 ^ r ≤ 128 := by
    have := Nat.mul_le_mul (show B ≤ 1 by omega) hp
    omega
  have h3 : ((B : Nat) : Int) * 2 ^ r = ((B * 2 ^ r : Nat) : Int) := by simp
  rw [h3]
  generalize B * 2 ^ r = n at *
  have h4 : IntKind.u16.wrap (n : Int) % 256 = (n : Int) := by rw [IntKind.wrap_u16]; omega
  rw [h4, u8_xor_nat x.toNat n (UInt8.toNat_lt x) (by omega)]
  show Value.int .u8 _ = Value.int .u8 (((x ^^^ UInt8.ofNat n).toNat : Nat) : Int)
  rw [UInt8.toNat_xor, UInt8.toNat_ofNat', Nat.mod_eq_of_lt (by omega : n < 2 ^ 8)]

set_option maxRecDepth 1000000 in
set_option maxHeartbeats 1000000 in
theorem burst_c (A : Option Addr) (l : List UInt8) (c : Nat) (at_ : Int) (m : Nat) (w : World) (h : Rd g8 w A l) (hn : A = none → c = 0) (hlen : l.length ≤ 140737488355328) (hm : m < 65536) (ha1 : -9223372036854775808 ≤ at_) (ha2 : at_ ≤ 9223372036854775807) :
    Calls Try.prog 21 #[.slice A l.length c, .int .i64 at_, .int .u16 m] w fun e w' => ∃ A' c', e = .returned (.slice A' l.length c') ∧ Ow 5 g8 w' w.heap.size A' (burstN l at_ m) c' ∧ Below w.heap.size w w' := by
  have H := Lib.hid h
  have HN := Lib.hid hn
  have hw := wide_lt hm
  clear h hn
  by_cases h0 : at_ < 0
  · have hb : burstN l at_ m = l := by unfold burstN; rw [if_pos (.inl h0)]
    have HB := Lib.hid hb
    clear hb
    go_enter Try.func21, Try.ntmps21
    go_wp2_with fail
    refine (clone_c A l c _ H.out HN.out hlen).mono ?_; rintro e w1 ⟨A1, c1, rfl, ho, hb⟩
    go_wp2_with fail
    refine (len16_c m hm _).mono ?_; rintro e w' ⟨rfl, rfl⟩
    go_wp2_with fail
    go_ret
    exact ⟨A1, c1, rfl, by rw [HB.out]; exact ho, hb⟩
  · obtain ⟨a, rfl⟩ := Int.eq_ofNat_of_zero_le (a := at_) (by omega)
    by_cases h1 : 0 < wideN m
    · by_cases h2 : 8 * (l.length : Int) - wideN m < a
      · have hb : burstN l a m = l := by unfold burstN; rw [if_pos (.inr ⟨h1, h2⟩)]
        have HB := Lib.hid hb
        clear hb
        go_enter Try.func21, Try.ntmps21
        go_wp2_with fail
        refine (clone_c A l c _ H.out HN.out hlen).mono ?_; rintro e w1 ⟨A1, c1, rfl, ho, hb⟩
        go_wp2_with fail
        refine (len16_c m hm _).mono ?_; rintro e w' ⟨rfl, rfl⟩
        go_wp2_with fail
        go_ret
        exact ⟨A1, c1, rfl, by rw [HB.out]; exact ho, hb⟩
      · go_enter Try.func21, Try.ntmps21
        go_wp2_with fail
        refine (clone_c A l c _ H.out HN.out hlen).mono ?_; rintro e w1 ⟨A1, c1, rfl, ho, hb⟩
        obtain ⟨b, rfl, hbb⟩ := ho.at_some (by omega)
        have HO := Lib.hid ho
        have HB := Lib.hid hb
        clear ho hb
        go_wp2_with fail
        refine (len16_c m hm _).mono ?_; rintro e w' ⟨rfl, rfl⟩
        go_wp2_with fail
        go_loopw [31] (fun i wr => ∃ k : Nat, k ≤ wideN m ∧ i = .int .i64 k ∧ Hid (Ow 5 g8 wr w.heap.size (some ⟨b, 0, none⟩) (turnN l a m k) c1) ∧ Hid (Below w.heap.size w wr)) (fun i _ => wideN m - (intOf i).toNat)
        case atStart => exact ⟨0, Nat.zero_le _, rfl, HO.out, HB.out⟩
        case round =>
          obtain ⟨k, hk, rfl, hoK, hbK⟩ := hrel
          by_cases hlt : k < wideN m
          · obtain ⟨q, hq⟩ : ∃ q, q = (a + k) / 8 := ⟨_, rfl⟩
            obtain ⟨r, hr⟩ : ∃ r, r = (a + k) % 8 := ⟨_, rfl⟩
            have hr8 : r < 8 := by omega
            have hql : q < l.length := by omega
            obtain ⟨x, hx⟩ := get_some (turnN l a m k) q (by rw [turnN_length]; omega)
            have hc : wr.cell? ⟨b, q, none⟩ = some (.int .u8 (x.toNat : Int)) := Ow.cell hoK.out hx
            have hf := Ow.thawed hoK.out q
            have hx8 := UInt8.toNat_lt x
            have e1 : IntKind.i64.wrap ((a : Int) + (k : Int)) = ((a + k : Nat) : Int) := by rw [IntKind.wrap_i64]; omega
            have e2 : IntKind.i64.wrap (((a + k : Nat) : Int).tdiv 8) = (q : Int) := by rw [IntKind.wrap_i64, Int.tdiv_eq_ediv_of_nonneg (by omega)]; omega
            have e3 : ((a + k : Nat) : Int).tmod 8 = (r : Int) := by rw [Int.tmod_eq_emod_of_nonneg (by omega)]; omega
            have e4 : IntKind.i64.wrap (r : Int) = (r : Int) := by rw [IntKind.wrap_i64]; omega
            have HX := Lib.hid hx
            have HQ := Lib.hid hq
            have HR := Lib.hid hr
            clear hx hq hr
            generalize hS : ((a + k : Nat) : Int) = S at *
            clear hS
            go_wp2_with fail
            go_still_tail 19, (by kernel_rfl)
            change wpList _ _ _ _ _ wr.drew
            go_wp2_with fail
            go_roundw
            case rel =>
              rw [turn_cell x m k r hm hr8]
              refine ⟨k + 1, by omega, by go_num, ?_, ?_⟩
              · have h1 := (hoK.out.set q (x ^^^ UInt8.ofNat (m / 2 ^ k % 2 * 2 ^ r))).drewN 1
                have h2 : turnN l a m (k + 1) = (turnN l a m k).set q (x ^^^ UInt8.ofNat (m / 2 ^ k % 2 * 2 ^ r)) := by
                  show (turnN l a m k).set ((a + k) / 8) ((turnN l a m k).getD ((a + k) / 8) 0 ^^^ UInt8.ofNat (m / 2 ^ k % 2 * 2 ^ ((a + k) % 8))) = _
                  rw [← HQ.out, ← HR.out, List.getD_eq_getElem?_getD, HX.out]; rfl
                rw [h2]
                exact h1
              · exact below_drewN (hbK.out.setCell (p := ⟨b, q, none⟩) hbb _) 1
            case measure => simp [intOf]; omega
          · have hkw : k = wideN m := by omega
            have hb : burstN l a m = turnN l a m k := by unfold burstN; rw [if_neg (by omega), hkw]; rfl
            have HBU := Lib.hid hb
            clear hb hkw
            go_wp2_with fail
            go_ret
            exact ⟨some ⟨b, 0, none⟩, c1, rfl, by rw [HBU.out]; exact hoK.out, hbK.out⟩
    · have hw0 : wideN m = 0 := by omega
      have hb : burstN l a m = l := by unfold burstN; rw [hw0, if_neg (by omega)]; rfl
      have HBU := Lib.hid hb
      clear hb
      go_enter Try.func21, Try.ntmps21
      go_wp2_with fail
      refine (clone_c A l c _ H.out HN.out hlen).mono ?_; rintro e w1 ⟨A1, c1, rfl, ho, hb⟩
      have HO := Lib.hid ho
      have HB := Lib.hid hb
      clear ho hb
      go_wp2_with fail
      refine (len16_c m hm _).mono ?_; rintro e w' ⟨rfl, rfl⟩
      go_wp2_with fail
      refine wp_loop_rounds 1 ?_
      rw [rounds_succ]
      go_wp2_with fail
      go_ret
      exact ⟨A1, c1, rfl, by rw [HBU.out]; exact HO.out, HB.out⟩

end Go.Proofs.Ytbhjdapkhcgmlaa
