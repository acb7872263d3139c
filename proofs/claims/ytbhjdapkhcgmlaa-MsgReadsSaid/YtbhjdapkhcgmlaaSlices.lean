import Derived.Test.YtbhjdapkhcgmlaaByt

set_option linter.unusedSimpArgs false
set_option linter.unusedVariables false
set_option linter.unnecessarySimpa false

namespace Go.Proofs.Ytbhjdapkhcgmlaa
open Go.RowKit

/-! The library's slices.Clone and slices.Equal over bytes. -/

set_option maxHeartbeats 400000 in
theorem clone_c (A : Option Addr) (l : List UInt8) (c : Nat) (w : World) (h : Rd g8 w A l) (hn : A = none → c = 0) (hlen : l.length ≤ 140737488355328) :
    Calls Try.prog 43 #[.slice A l.length c] w fun e w' => ∃ A' c', e = .returned (.slice A' l.length c') ∧ Ow 5 g8 w' w.heap.size A' l c' ∧ Below w.heap.size w w' := by
  have hq := fun (a : Option Addr) (m k : Nat) (W : World) => Lib.run_eql_slice_nil (P := Try.prog) W 22 5 a m k 0 0 Try.underlying22
  go_enter Try.func43, Try.ntmps43
  cases A with
  | none =>
    have := h.empty
    subst this
    have hc := hn rfl
    subst hc
    go_wp2
    go_ret
    exact ⟨none, 0, rfl, Ow.nil, Below.refl _ _⟩
  | some a =>
    have hx := h.below (w' := w.alloc (.cells #[] 5)) ((Below.refl _ _).alloc (Nat.le_refl _) _)
    have hown : Ow 5 g8 (w.alloc (.cells #[] 5)) w.heap.size (some ⟨w.heap.size, 0, none⟩) ([] : List UInt8) 0 := Ow.new (Nat.le_refl _)
    go_wp2_with (at_builtin; refine app8 rfl _ _ rfl [] l hown rfl (some a) c hx rfl (by intro h; cases h) (by simpa using hlen) (by simp) ?_; intro A' c' w1 ho hg)
    go_ret
    refine ⟨A', c', by simp, by simpa using ho, ?_⟩
    exact ((Below.refl _ _).alloc (Nat.le_refl _) _).grown hg (by simp) (fun k hk => (hown.block k hk).1)


theorem take_snoc {α : Type} {l : List α} {k : Nat} {x : α} (h : l[k]? = some x) : l.take (k + 1) = l.take k ++ [x] := by
  rw [List.take_add_one, h]; rfl

theorem get_some {α : Type} (l : List α) (k : Nat) (h : k < l.length) : ∃ x, l[k]? = some x := ⟨_, List.getElem?_eq_getElem h⟩

set_option maxHeartbeats 1000000 in
theorem equal_c (A1 A2 : Option Addr) (l1 l2 : List UInt8) (c1 c2 : Nat) (w : World) (h1 : Rd g8 w A1 l1) (h2 : Rd g8 w A2 l2) (hl1 : l1.length ≤ 9223372036854775807) :
    Calls Try.prog 57 #[.slice A1 l1.length c1, .slice A2 l2.length c2] w fun e w' => e = .returned (.bool (decide (l1 = l2))) ∧ ∃ n, w' = w.drewN n := by
  have H1 := Lib.hid h1
  have H2 := Lib.hid h2
  clear h1 h2
  by_cases hl : l1.length = l2.length
  · have hd : ((l1.length : Int) != (l2.length : Int)) = false := by simp [hl]
    have HL := Lib.hid hl
    clear hl
    go_enter Try.func57, Try.ntmps57
    go_wp2_with fail
    go_loopw [13] (fun i wr => ∃ k : Nat, k ≤ l1.length ∧ i = .int .i64 k ∧ Hid (l1.take k = l2.take k) ∧ ∃ n, wr = w.drewN n) (fun i _ => l1.length - (intOf i).toNat)
    case atStart => exact ⟨0, Nat.zero_le _, rfl, rfl, 0, rfl⟩
    case round =>
      obtain ⟨k, hk, rfl, ht, n, rfl⟩ := hrel
      by_cases hlt : k < l1.length
      · obtain ⟨x, hx⟩ := get_some l1 k hlt
        obtain ⟨y, hy⟩ := get_some l2 k (by rw [← HL.out]; exact hlt)
        obtain ⟨a1, rfl, hc1⟩ := H1.out k x hx
        obtain ⟨a2, rfl, hc2⟩ := H2.out k y hy
        have HX := Lib.hid hx
        have HY := Lib.hid hy
        have hlt2 : k < l2.length := by rw [← HL.out]; exact hlt
        clear hx hy
        by_cases he : x = y
        · have hd2 : ((x.toNat : Int) != (y.toNat : Int)) = false := by rw [he]; simp
          have HE := Lib.hid he
          clear he
          go_wp2_with fail
          go_quiet (fail)
          go_wp2_with fail
          go_roundw
          case rel => exact ⟨k + 1, by omega, by go_num, by show l1.take (k + 1) = l2.take (k + 1); rw [take_snoc HX.out, take_snoc HY.out, ht.out, HE.out], _, rfl⟩
          case measure => simp [intOf]; omega
        · have hd2 : ((x.toNat : Int) != (y.toNat : Int)) = true := by
            simp only [bne_iff_ne, ne_eq]; intro h; exact he (UInt8.toNat_inj.1 (by omega))
          have hne : l1 ≠ l2 := by intro e; rw [e] at HX; exact he (Option.some.inj (HX.out.symm.trans HY.out))
          have HN := Lib.hid hne
          clear he hne
          go_wp2_with fail
          go_quiet (fail)
          go_wp2_with fail
          go_ret
          exact ⟨ret_bool (by rw [decide_eq_false HN.out]), n + nq, by rw [World.drewN_drewN]⟩
      · have he : l1 = l2 := by
          have := ht.out
          rw [List.take_of_length_le (by omega), List.take_of_length_le (by have := HL.out; omega)] at this
          exact this
        have HE := Lib.hid he
        clear he
        go_wp2_with fail
        go_ret
        exact ⟨ret_bool (by rw [decide_eq_true HE.out]), _, rfl⟩
  · have hd : ((l1.length : Int) != (l2.length : Int)) = true := by simp; omega
    have hne : l1 ≠ l2 := by intro e; exact hl (by rw [e])
    have HN := Lib.hid hne
    clear hl hne
    go_enter Try.func57, Try.ntmps57
    go_wp2_with fail
    go_ret
    exact ⟨ret_bool (by rw [decide_eq_false HN.out]), 0, rfl⟩

end Go.Proofs.Ytbhjdapkhcgmlaa
