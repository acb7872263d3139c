import Derived.Test.YteoafaofiohefaaNetW
import Derived.Deep.RegionWith
namespace Go.Proofs.Yteoafaofiohefaa
open Go.RowKit

/-! The reference's Burst. -/

theorem turnN_zero (l : List UInt8) (a m k : Nat) (h : m / 2 ^ k % 2 = 0) : turnN l a m (k + 1) = turnN l a m k := by
  show (turnN l a m k).set _ _ = _
  rw [h]
  generalize turnN l a m k = t
  generalize (a + k) / 8 = i
  rw [Nat.zero_mul, show UInt8.ofNat 0 = 0 from rfl, UInt8.xor_zero]
  by_cases hi : i < t.length
  · rw [List.getD_eq_getElem?_getD, List.getElem?_eq_getElem hi, Option.getD_some]
    exact List.set_getElem_self hi
  · exact List.set_eq_of_length_le (by omega)

theorem turnN_const (l : List UInt8) (a m j : Nat) : ∀ d, (∀ i, j ≤ i → m / 2 ^ i % 2 = 0) → turnN l a m (j + d) = turnN l a m j
  | 0, _ => rfl
  | d + 1, h => by rw [← Nat.add_assoc, turnN_zero _ _ _ _ (h _ (by omega)), turnN_const l a m j d h]

theorem wide_above (m i : Nat) (h : wideN m ≤ i) : m / 2 ^ i % 2 = 0 := by
  have hlt : m < 2 ^ i := by
    unfold wideN at h
    split at h
    · subst_vars; exact Nat.two_pow_pos _
    · exact Nat.lt_of_lt_of_le Nat.lt_log2_self (Nat.pow_le_pow_right (by omega) h)
  rw [Nat.div_eq_of_lt hlt]

theorem wide_top (m : Nat) (h : 0 < wideN m) : m / 2 ^ (wideN m - 1) % 2 = 1 := by
  unfold wideN at h ⊢
  split at h
  · omega
  · rename_i hm
    rw [if_neg hm, Nat.add_sub_cancel]
    have h1 := Nat.log2_self_le hm
    have h2 : m < 2 ^ (m.log2 + 1) := Nat.lt_log2_self
    have h3 : m / 2 ^ m.log2 = 1 := by
      apply Nat.div_eq_of_lt_le
      · omega
      · rw [Nat.pow_succ] at h2; omega
    rw [h3]

theorem wide_bit (m k : Nat) (h : m / 2 ^ k % 2 = 1) : k < wideN m := by
  by_cases hk : k < wideN m
  · exact hk
  · have := wide_above m k (by omega); omega

/-- All the bits find room: they are turned. -/
theorem burst_all (l : List UInt8) (at_ : Int) (m : Nat) (hm : m < 65536) (h : ∀ j : Nat, j < 16 → m / 2 ^ j % 2 = 1 → 0 ≤ at_ ∧ at_ + j < 8 * (l.length : Int)) : burstN l at_ m = turnN l at_.toNat m 16 := by
  have hw := wide_lt hm
  have h16 : turnN l at_.toNat m 16 = turnN l at_.toNat m (wideN m) := by
    have := turnN_const l at_.toNat m (wideN m) (16 - wideN m) (fun i hi => wide_above m i hi)
    rwa [show wideN m + (16 - wideN m) = 16 from by omega] at this
  rw [h16]
  unfold burstN
  by_cases h0 : 0 < wideN m
  · have := h (wideN m - 1) (by omega) (wide_top m h0)
    rw [if_neg (by omega)]
  · have hz : wideN m = 0 := by omega
    rw [hz]
    split <;> rfl

/-- One bit finds none: nothing is turned. -/
theorem burst_none (l : List UInt8) (at_ : Int) (m k : Nat) (hb : m / 2 ^ k % 2 = 1) (h : at_ < 0 ∨ 8 * (l.length : Int) - k ≤ at_) : burstN l at_ m = l := by
  have := wide_bit m k hb
  unfold burstN
  rw [if_pos (by omega)]

theorem and_one (m k : Nat) (hm : m < 65536) : bits .and .u16 ((m : Int) / 2 ^ k) 1 = ((m / 2 ^ k % 2 : Nat) : Int) := by
  have h1 : ((m : Int) / 2 ^ k) = ((m / 2 ^ k : Nat) : Int) := by simp
  have hlt : m / 2 ^ k < 65536 := Nat.lt_of_le_of_lt (Nat.div_le_self _ _) hm
  have := u16_and_nat (m / 2 ^ k) 1 hlt (by omega)
  rw [nat_mask1] at this
  rw [h1]
  exact this

theorem set_cell (x : UInt8) (r : Nat) (hr : r < 8) : Value.int .u8 (bits .xor .u8 (x.toNat : Int) (2 ^ r % 256)) = g8 (x ^^^ UInt8.ofNat (1 * 2 ^ r)) := by
  have hp : 2 ^ r ≤ 128 := by
    have := Nat.pow_le_pow_right (n := 2) (by omega) (show r ≤ 7 by omega)
    simpa using this
  have h3 : (2 : Int) ^ r % 256 = ((2 ^ r : Nat) : Int) := by
    have : (2 : Int) ^ r = ((2 ^ r : Nat) : Int) := by simp
    rw [this]
    generalize 2 ^ r = n at *
    omega
  rw [h3, Nat.one_mul]
  generalize 2 ^ r = n at *
  rw [u8_xor_nat x.toNat n (UInt8.toNat_lt x) (by omega)]
  show Value.int .u8 _ = Value.int .u8 (((x ^^^ UInt8.ofNat n).toNat : Nat) : Int)
  rw [UInt8.toNat_xor, UInt8.toNat_ofNat', Nat.mod_eq_of_lt (by omega : n < 2 ^ 8)]

set_option maxRecDepth 1000000 in
set_option maxHeartbeats 2000000 in
theorem refBurst_c (A : Option Addr) (l : List UInt8) (c : Nat) (at_ : Int) (m : Nat) (w : World) (h : Rd g8 w A l) (hn : A = none → c = 0) (hlen : l.length ≤ 140737488355328) (hm : m < 65536) (ha1 : -9223372036854775808 ≤ at_) (ha2 : at_ ≤ 9223372036854775807) :
    Calls Try.prog 30 #[.slice A l.length c, .int .i64 at_, .int .u16 m] w fun e w' => ∃ A' c', e = .returned (.slice A' l.length c') ∧ Ow 5 g8 w' w.heap.size A' (burstN l at_ m) c' ∧ Below w.heap.size w w' := by
  have hx := h.below (w' := w.alloc (.cells #[] 5)) ((Below.refl _ _).alloc (Nat.le_refl _) _)
  have HX := Lib.hid hx
  have H := Lib.hid h
  have HN := Lib.hid hn
  have hown : Ow 5 g8 (w.alloc (.cells #[] 5)) w.heap.size (some ⟨w.heap.size, 0, none⟩) ([] : List UInt8) 0 := Ow.new (Nat.le_refl _)
  have HO := Lib.hid hown
  clear h hn hx hown
  go_enter Try.func30, Try.ntmps30
  go_wp2_with (at_builtin; refine app8 rfl _ _ rfl [] l HO.out rfl A c HX.out rfl HN.out (by simp; omega) (by simp) ?_)
  intro A1 c1 w1 ho hg
  have HO1 := Lib.hid ho
  have hb1 : Below w.heap.size w w1 := ((Below.refl _ _).alloc (Nat.le_refl _) _).grown hg (by simp) (fun k hk => (HO.out.block k hk).1)
  have HB1 := Lib.hid hb1
  clear ho hg hb1
  go_wp2_with fail
  go_loopw [8] (fun i wr => ∃ k : Nat, k ≤ 16 ∧ i = .int .i64 k ∧ Hid (∀ j : Nat, j < k → m / 2 ^ j % 2 = 1 → 0 ≤ at_ ∧ at_ + j < 8 * (l.length : Int)) ∧ Hid (Ow 5 g8 wr w.heap.size A1 (turnN l at_.toNat m k) c1) ∧ Hid (Below w.heap.size w wr)) (fun i _ => 16 - (intOf i).toNat)
  case atStart => exact ⟨0, Nat.zero_le _, rfl, fun j hj => absurd hj (by omega), HO1.out, HB1.out⟩
  case round =>
    obtain ⟨k, hk, rfl, hbits, hoK, hbK⟩ := hrel
    have hsz := hbK.out.size
    by_cases hlt : k < 16
    · have hand := and_one m k hm
      by_cases h1 : m / 2 ^ k % 2 = 1
      · rw [h1] at hand
        by_cases hroom : at_ < 0 ∨ 8 * (l.length : Int) - k ≤ at_
        · have hbn := Lib.hid (burst_none l at_ m k h1 hroom)
          have HXK := Lib.hid (H.out.below (hbK.out.alloc hsz (.cells #[] 5)))
          have hown := Ow.new (E := 5) (g := g8) (w := wr) (Nat.le_refl _)
          have HOW := Lib.hid hown
          have H1 := Lib.hid h1
          clear h1 hown
          have hways : at_ < 0 ∨ 0 ≤ at_ ∧ 8 * (l.length : Int) - k ≤ at_ := by omega
          clear hroom
          rcases hways with hneg | ⟨hpos, hfar⟩
          all_goals
            go_wp2_with (at_builtin; refine app8 rfl _ _ rfl [] l HOW.out rfl A c HXK.out rfl HN.out (by simp; omega) (by simp) ?_)
            intro A2 c2 w2 ho hg
            have HO2 := Lib.hid ho
            have HG := Lib.hid hg
            clear ho hg
            go_wp2_with fail
            go_ret
            refine ⟨A2, c2, rfl, ?_, ?_⟩
            · rw [hbn.out]; exact HO2.out.low hsz
            · exact (hbK.out.alloc hsz _).grown HG.out (by simp; omega) (fun j hj => by have := (HOW.out.block j hj).1; omega)
        · have hpos : 0 ≤ at_ := by omega
          obtain ⟨a, rfl⟩ := Int.eq_ofNat_of_zero_le hpos
          have hfar : (a : Int) < 8 * (l.length : Int) - k := by omega
          have hal : (a + k) / 8 < l.length := by omega
          obtain ⟨q, hq⟩ : ∃ q, q = (a + k) / 8 := ⟨_, rfl⟩
          obtain ⟨r, hr⟩ : ∃ r, r = (a + k) % 8 := ⟨_, rfl⟩
          have hr8 : r < 8 := by omega
          have hql : q < l.length := by omega
          obtain ⟨b, rfl, hbb⟩ := hoK.out.at_some (by rw [turnN_length]; omega)
          obtain ⟨x, hx⟩ := get_some (turnN l a m k) q (by rw [turnN_length]; omega)
          have hc : wr.cell? ⟨b, q, none⟩ = some (.int .u8 (x.toNat : Int)) := Ow.cell hoK.out hx
          have hf := Ow.thawed hoK.out q
          have hx8 := UInt8.toNat_lt x
          have e2 : IntKind.i64.wrap (((a : Int) + (k : Int)).tdiv 8) = (q : Int) := by rw [IntKind.wrap_i64, Int.tdiv_eq_ediv_of_nonneg (by omega)]; omega
          have e3 : ((a : Int) + (k : Int)).tmod 8 = (r : Int) := by rw [Int.tmod_eq_emod_of_nonneg (by omega)]; omega
          have e4 : IntKind.i64.wrap (r : Int) = (r : Int) := by rw [IntKind.wrap_i64]; omega
          have HX := Lib.hid hx
          have HQ := Lib.hid hq
          have HR := Lib.hid hr
          have H1 := Lib.hid h1
          clear hx hq hr h1 hroom
          go_wp2_with fail
          go_still_tail 13, (by kernel_rfl)
          change wpList _ _ _ _ _ wr.drew
          go_wp2_with fail
          go_roundw
          case rel =>
            rw [set_cell x r hr8]
            refine ⟨k + 1, by omega, by go_num, ?_, ?_, ?_⟩
            · intro j hj hb
              by_cases e : j = k
              · subst e; omega
              · exact hbits.out j (by omega) hb
            · have h1 := (hoK.out.set q (x ^^^ UInt8.ofNat (1 * 2 ^ r))).drewN 1
              have h2 : turnN l (a : Int).toNat m (k + 1) = (turnN l (a : Int).toNat m k).set q (x ^^^ UInt8.ofNat (1 * 2 ^ r)) := by
                show (turnN l a m k).set ((a + k) / 8) ((turnN l a m k).getD ((a + k) / 8) 0 ^^^ UInt8.ofNat (m / 2 ^ k % 2 * 2 ^ ((a + k) % 8))) = _
                have hx' : (turnN l a m k)[q]? = some x := HX.out
                rw [← HQ.out, ← HR.out, List.getD_eq_getElem?_getD, hx', H1.out]; rfl
              rw [h2]
              exact h1
            · exact below_drewN (hbK.out.setCell (p := ⟨b, q, none⟩) hbb _) 1
          case measure => simp [intOf]; omega
      · have h0 : m / 2 ^ k % 2 = 0 := by omega
        rw [h0] at hand
        have H0 := Lib.hid h0
        clear h1 h0
        go_wp2_with fail
        go_roundw
        case rel =>
          refine ⟨k + 1, by omega, by go_num, ?_, ?_, hbK.out⟩
          · intro j hj hb
            by_cases e : j = k
            · subst e; have := H0.out; omega
            · exact hbits.out j (by omega) hb
          · rw [turnN_zero _ _ _ _ H0.out]; exact hoK.out
        case measure => simp [intOf]; omega
    · have hk16 : k = 16 := by omega
      subst hk16
      have hbn := Lib.hid (burst_all l at_ m hm hbits.out)
      go_wp2_with fail
      go_ret
      exact ⟨A1, c1, rfl, by rw [hbn.out]; exact hoK.out, hbK.out⟩

end Go.Proofs.Yteoafaofiohefaa
