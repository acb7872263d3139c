import Derived.Test.YteoafaofiohefaaNetD
namespace Go.Proofs.Yteoafaofiohefaa
open Go.RowKit

/-! net.New, net.Put, net.Len. -/

variable {w w' : World} {B nb : Nat} {V : Nat → Value} {I : Nat → List It}

theorem drewN_below (w : World) (m : Nat) : Below w.heap.size w (w.drewN m) := ⟨rfl, rfl, rfl, Nat.le_refl _, fun _ _ => rfl⟩

theorem NetAt.below (h : NetAt w B nb V I) (u : Below w.heap.size w w') : NetAt w' B nb V I :=
  ⟨(u.block nb h.lt).trans h.row, h.base, fun k hk => (h.lane k hk).upto (Upto.of_below (K := fun _ => False) u) (fun _ _ e => e), fun k hk x hx => (h.frame k hk x hx).below u, h.many, h.short, h.apart⟩

set_option maxHeartbeats 1000000 in
theorem new_c (w : World) : Calls Try.prog 8 #[] w fun e w' => e = .returned (.pointer (some ⟨w.heap.size, 0, none⟩)) ∧ NetAt w' w.heap.size w.heap.size (fun _ => .slice none 0 0) (fun _ => []) ∧ Below w.heap.size w w' := by
  go_enter Try.func8, Try.ntmps8
  go_wp2_with fail
  go_ret
  refine ⟨rfl, ⟨heap_alloc_new w _, Nat.le_refl _, fun _ _ => Lane.nil, (fun _ _ x hx => (by cases hx)), fun _ _ => Nat.zero_le _, (fun _ _ x hx => (by cases hx)), (fun _ _ _ _ _ b e => (by cases e))⟩, (Below.refl _ _).alloc (Nat.le_refl _) _⟩

set_option maxHeartbeats 2000000 in
theorem Put_no (n : Addr) (k : Int) (hk : k < 0 ∨ 8 ≤ k) (A : Option Addr) (m c : Nat) (w : World) : Calls Try.prog 11 #[.pointer (some n), .int .i64 k, .slice A m c] w fun e w' => e = .returned (.bool false) ∧ w = w' := by
  go_enter Try.func11, Try.ntmps11
  go_wp2_with fail
  (with_reducible refine (at_no n k 0 hk w).mono ?_); rintro e w1 ⟨rfl, rfl⟩
  go_wp2_with fail
  go_ret
  exact ⟨rfl, rfl⟩

set_option maxHeartbeats 2000000 in
theorem Put_full (w : World) (B nb : Nat) (V : Nat → Value) (I : Nat → List It) (k : Nat) (h : NetAt w B nb V I) (hk : k < 8) (hroom : 200 ≤ (I k).length) (A : Option Addr) (n c : Nat) :
    Calls Try.prog 11 #[.pointer (some ⟨nb, 0, none⟩), .int .i64 k, .slice A n c] w fun e w' => e = .returned (.bool false) ∧ Below w.heap.size w w' := by
  obtain ⟨A0, c0, hv⟩ := (h.lane k hk).slice
  have hc := h.cell k hk
  rw [hv] at hc
  have H := Lib.hid h
  have HC := Lib.hid hc
  clear h hv hc
  go_enter Try.func11, Try.ntmps11
  go_wp2_with fail
  (with_reducible refine (at_yes nb k (I k).length c0 A0 0 hk w HC.out).mono ?_); rintro e w1 ⟨rfl, m, rfl⟩
  go_wp2_with fail
  (with_reducible refine (put_full (w.drewN m) B nb V I k (H.out.below (drewN_below w m)) hk hroom A n c false).mono ?_); rintro e w2 ⟨rfl, hb⟩
  have HB := Lib.hid ((drewN_below w m).trans hb)
  clear hb
  go_wp2_with fail
  go_ret
  exact ⟨rfl, HB.out⟩

set_option maxHeartbeats 2000000 in
theorem Put_ok (w : World) (B nb : Nat) (V : Nat → Value) (I : Nat → List It) (k : Nat) (h : NetAt w B nb V I) (hk : k < 8) (hroom : (I k).length < 200) (A : Option Addr) (l : List UInt8) (n c : Nat) (hX : Rd g8 w A l) (hn : A = none → c = 0) (hlen : l.length ≤ 140737488355328) (he : l.length = n) :
    Calls Try.prog 11 #[.pointer (some ⟨nb, 0, none⟩), .int .i64 k, .slice A n c] w fun e w' => e = .returned (.bool true) ∧ ∃ N x, x.l = l ∧ x.s = false ∧ NetAt w' B nb (upd V k N) (upd I k (I k ++ [x])) ∧ Upto (Turn nb (V k)) w w' ∧ New w (V k) N x := by
  obtain ⟨A0, c0, hv⟩ := (h.lane k hk).slice
  have hc := h.cell k hk
  rw [hv] at hc
  have H := Lib.hid h
  have HC := Lib.hid hc
  have HX := Lib.hid hX
  have HE := Lib.hid he
  have HLEN := Lib.hid hlen
  clear h hv hc hX he hlen
  go_enter Try.func11, Try.ntmps11
  go_wp2_with fail
  (with_reducible refine (at_yes nb k (I k).length c0 A0 0 hk w HC.out).mono ?_); rintro e w1 ⟨rfl, m, rfl⟩
  go_wp2_with fail
  (with_reducible refine (put_ok (w.drewN m) B nb V I k (H.out.below (drewN_below w m)) hk hroom A l n c false (HX.out.below (drewN_below w m)) hn HLEN.out HE.out).mono ?_); rintro e w2 ⟨rfl, N, x, h1, h2, h3, h4, h5⟩
  have F : Hid (∃ N x, x.l = l ∧ x.s = false ∧ NetAt w2 B nb (upd V k N) (upd I k (I k ++ [x])) ∧ Upto (Turn nb (V k)) w w2 ∧ New w (V k) N x) := ⟨N, x, h1, h2, h3, (Upto.of_below (K := Turn nb (V k)) (drewN_below w m)).trans h4 (fun _ _ e => e), h5⟩
  clear h1 h2 h3 h4 h5
  go_wp2_with fail
  go_ret
  exact ⟨rfl, F.out⟩

set_option maxHeartbeats 2000000 in
theorem Len_no (n : Addr) (k : Int) (hk : k < 0 ∨ 8 ≤ k) (w : World) : Calls Try.prog 12 #[.pointer (some n), .int .i64 k] w fun e w' => e = .returned (.int .i64 0) ∧ w = w' := by
  go_enter Try.func12, Try.ntmps12
  go_wp2_with fail
  (with_reducible refine (at_no n k 0 hk w).mono ?_); rintro e w1 ⟨rfl, rfl⟩
  go_wp2_with fail
  go_ret
  exact ⟨rfl, rfl⟩

set_option maxHeartbeats 2000000 in
theorem Len_yes (w : World) (B nb : Nat) (V : Nat → Value) (I : Nat → List It) (k : Nat) (h : NetAt w B nb V I) (hk : k < 8) :
    Calls Try.prog 12 #[.pointer (some ⟨nb, 0, none⟩), .int .i64 k] w fun e w' => e = .returned (.int .i64 ((I k).length : Nat)) ∧ ∃ m, w' = w.drewN m := by
  obtain ⟨A0, c0, hv⟩ := (h.lane k hk).slice
  have hc := h.cell k hk
  rw [hv] at hc
  have hm := h.many k hk
  have HM := Lib.hid hm
  clear h hv hm
  generalize (I k).length = L at *
  go_enter Try.func12, Try.ntmps12
  go_wp2_with fail
  (with_reducible refine (at_yes nb k L c0 A0 0 hk w hc).mono ?_); rintro e w1 ⟨rfl, m, rfl⟩
  go_wp2_with fail
  go_ret
  exact ⟨rfl, m, rfl⟩

end Go.Proofs.Yteoafaofiohefaa
