import Derived.Test.YteoafaofiohefaaNetL
namespace Go.Proofs.Yteoafaofiohefaa
open Go.RowKit

/-! net.Double. -/

set_option maxHeartbeats 4000000 in
theorem Double_bad (n : Addr) (k i : Int) (hk : k < 0 ∨ 8 ≤ k) (w : World) :
    Calls Try.prog 17 #[.pointer (some n), .int .i64 k, .int .i64 i] w fun e w' => e = .returned (.bool false) ∧ w = w' := by
  go_enter Try.func17, Try.ntmps17
  go_wp2_with fail
  (with_reducible refine (at_no n k i hk w).mono ?_); rintro e w1 ⟨rfl, rfl⟩
  go_wp2_with fail
  go_ret
  exact ⟨rfl, rfl⟩

set_option maxHeartbeats 4000000 in
theorem Double_none (w : World) (B nb : Nat) (V : Nat → Value) (I : Nat → List It) (k : Nat) (h : NetAt w B nb V I) (hk : k < 8) (i : Int) (hi : ¬ (0 ≤ i ∧ i < (I k).length)) :
    Calls Try.prog 17 #[.pointer (some ⟨nb, 0, none⟩), .int .i64 k, .int .i64 i] w fun e w' => e = .returned (.bool false) ∧ ∃ q, w' = w.drewN q := by
  obtain ⟨A0, c0, hv⟩ := (h.lane k hk).slice
  have hc := h.cell k hk
  rw [hv] at hc
  have hat := at_yes nb k (I k).length c0 A0 i hk w hc
  rw [decide_eq_false hi] at hat
  have HAT := Lib.hid hat
  clear hat hv hc h hi
  go_enter Try.func17, Try.ntmps17
  go_wp2_with fail
  (with_reducible refine HAT.out.mono ?_); rintro e w1 ⟨rfl, q, rfl⟩
  go_wp2_with fail
  go_ret
  exact ⟨rfl, q, rfl⟩

set_option maxRecDepth 100000 in
set_option maxHeartbeats 8000000 in
theorem Double_of (w : World) (B nb : Nat) (V : Nat → Value) (I : Nat → List It) (k : Nat) (h : NetAt w B nb V I) (hk : k < 8) (i : Nat) (x : It) (hx : (I k)[i]? = some x) (b : Bool) (Q : World → Prop)
    (hp : ∀ w1, Below w.heap.size w w1 → Calls Try.prog 25 #[.pointer (some ⟨nb, k, none⟩), .agg #[.slice x.A x.l.length x.c, .bool x.s]] w1 fun e w' => e = .returned (.bool b) ∧ Q w') :
    Calls Try.prog 17 #[.pointer (some ⟨nb, 0, none⟩), .int .i64 k, .int .i64 i] w fun e w' => e = .returned (.bool b) ∧ Q w' := by
  have hi := (List.getElem?_eq_some_iff.1 hx).1
  obtain ⟨g, c, cur, hv, hB, hr, hs, hc, hm, ht⟩ := h.form hk (by omega)
  obtain ⟨m, hm1⟩ : ∃ m, (I k).length = m + 1 := ⟨(I k).length - 1, by omega⟩
  have hcell := h.cell k hk
  rw [hv, hm1] at hcell
  obtain ⟨y0, y1⟩ := NetAt.item hr ht hx
  have hat := at_yes nb k (m + 1) c (some ⟨g, 0, none⟩) i hk w hcell
  rw [decide_eq_true (by omega)] at hat
  have HAT := Lib.hid hat
  have HP := Lib.hid hp
  have hi0 : i < m + 1 := by omega
  clear hat hv hr hs hc hm ht hx h hB hi hm1 hp
  go_enter Try.func17, Try.ntmps17
  go_wp2_with fail
  (with_reducible refine HAT.out.mono ?_); rintro e w1 ⟨rfl, q, rfl⟩
  have HB := Lib.hid (drewN_below w q)
  go_wp2_with fail
  (with_reducible refine (HP.out _ HB.out).mono ?_); rintro e w2 ⟨rfl, hq⟩
  have HQ := Lib.hid hq
  clear hq
  go_wp2_with fail
  go_ret
  exact ⟨ret_bool (by cases b <;> rfl), HQ.out⟩

theorem Double_full (w : World) (B nb : Nat) (V : Nat → Value) (I : Nat → List It) (k : Nat) (h : NetAt w B nb V I) (hk : k < 8) (i : Nat) (x : It) (hx : (I k)[i]? = some x) (hf : 200 ≤ (I k).length) :
    Calls Try.prog 17 #[.pointer (some ⟨nb, 0, none⟩), .int .i64 k, .int .i64 i] w fun e w' => e = .returned (.bool false) ∧ Below w.heap.size w w' :=
  Double_of w B nb V I k h hk i x hx false _ fun w1 hb => (put_full w1 B nb V I k (h.below hb) hk hf _ _ _ _).mono fun _ _ ⟨e, h2⟩ => ⟨e, hb.trans (h2.mono hb.size)⟩

theorem Double_ok (w : World) (B nb : Nat) (V : Nat → Value) (I : Nat → List It) (k : Nat) (h : NetAt w B nb V I) (hk : k < 8) (i : Nat) (x : It) (hx : (I k)[i]? = some x) (hf : (I k).length < 200) :
    Calls Try.prog 17 #[.pointer (some ⟨nb, 0, none⟩), .int .i64 k, .int .i64 i] w fun e w' => e = .returned (.bool true) ∧ ∃ N y, y.l = x.l ∧ y.s = x.s ∧ NetAt w' B nb (upd V k N) (upd I k (I k ++ [y])) ∧ Upto (Turn nb (V k)) w w' :=
  Double_of w B nb V I k h hk i x hx true _ fun w1 hb => by
    have hm : x ∈ I k := List.mem_of_getElem? hx
    have hw := (h.frame k hk x hm).below hb
    exact (put_ok w1 B nb V I k (h.below hb) hk hf x.A x.l x.l.length x.c x.s hw.rd hw.nil_cap (h.short k hk x hm) rfl).mono fun _ _ ⟨e, N, y, h1, h2, h3, h4, _⟩ => ⟨e, N, y, h1, h2, h3, (Upto.of_below (K := Turn nb (V k)) hb).trans h4 (fun _ _ e => e)⟩

end Go.Proofs.Yteoafaofiohefaa
