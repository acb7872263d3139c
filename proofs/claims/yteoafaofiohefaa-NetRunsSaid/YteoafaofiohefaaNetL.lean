import Derived.Test.YteoafaofiohefaaNetK
namespace Go.Proofs.Yteoafaofiohefaa
open Go.RowKit

/-! net.Take; bytes.Equal; net.Double. -/

set_option maxHeartbeats 4000000 in
theorem Take_of (n : Addr) (k i : Int) (w : World) (p : Value) (A : Option Addr) (m c : Nat) (s b : Bool) (Q : World → Prop)
    (hc : Calls Try.prog 26 #[.pointer (some n), .int .i64 k, .int .i64 i] w fun e w' => e = .returned (.tuple #[p, .agg #[.slice A m c, .bool s], .bool b]) ∧ Q w') :
    Calls Try.prog 14 #[.pointer (some n), .int .i64 k, .int .i64 i] w fun e w' => e = .returned (.tuple #[.slice A m c, .bool b]) ∧ ∃ w1, Q w1 ∧ Below w1.heap.size w1 w' := by
  have HC := Lib.hid hc
  clear hc
  go_enter Try.func14, Try.ntmps14
  go_wp2_with fail
  (with_reducible refine HC.out.mono ?_); rintro e w1 ⟨rfl, hq⟩
  have HQ := Lib.hid hq
  obtain ⟨x0, x1, xz⟩ := row2 (heap_alloc_new w1 (.cells #[.slice A m c, .bool s] 65))
  clear hq
  go_wp2_with fail
  go_ret2
  exact ⟨rfl, w1, HQ.out, (Below.refl _ _).alloc (Nat.le_refl _) _⟩

theorem Take_bad (n : Addr) (k i : Int) (hk : k < 0 ∨ 8 ≤ k) (w : World) :
    Calls Try.prog 14 #[.pointer (some n), .int .i64 k, .int .i64 i] w fun e w' => e = .returned (.tuple #[.slice none 0 0, .bool false]) ∧ Below w.heap.size w w' :=
  (Take_of n k i w _ none 0 0 false false _ (take_bad n k i hk w)).mono fun _ _ ⟨e, _, h1, h2⟩ => ⟨e, h1.trans (h2.mono h1.size)⟩

theorem Take_none (w : World) (B nb : Nat) (V : Nat → Value) (I : Nat → List It) (k : Nat) (h : NetAt w B nb V I) (hk : k < 8) (i : Int) (hi : ¬ (0 ≤ i ∧ i < (I k).length)) :
    Calls Try.prog 14 #[.pointer (some ⟨nb, 0, none⟩), .int .i64 k, .int .i64 i] w fun e w' => e = .returned (.tuple #[.slice none 0 0, .bool false]) ∧ Below w.heap.size w w' :=
  (Take_of _ k i w _ none 0 0 false false _ (take_none w B nb V I k h hk i hi)).mono fun _ _ ⟨e, _, h1, h2⟩ => ⟨e, h1.trans (h2.mono h1.size)⟩

theorem Take_yes (w : World) (B nb : Nat) (V : Nat → Value) (I : Nat → List It) (k : Nat) (h : NetAt w B nb V I) (hk : k < 8) (i : Nat) (x : It) (hx : (I k)[i]? = some x) :
    Calls Try.prog 14 #[.pointer (some ⟨nb, 0, none⟩), .int .i64 k, .int .i64 i] w fun e w' => e = .returned (.tuple #[.slice x.A x.l.length x.c, .bool true]) ∧
      (∃ N, NetAt w' B nb (upd V k N) (upd I k ((I k).eraseIdx i)) ∧ Upto (Turn nb (V k)) w w') ∧ Ow 5 g8 w' B x.A x.l x.c :=
  (Take_of _ k i w _ x.A x.l.length x.c x.s true _ (take_yes w B nb V I k h hk i x hx)).mono fun _ _ ⟨e, _, ⟨N, _, h1, h2⟩, h3⟩ => by
    have u := h2.then h3
    have hm : x ∈ I k := List.mem_of_getElem? hx
    exact ⟨e, ⟨N, h1.below h3, u⟩, (h.frame k hk x hm).upto u (fun a e1 e2 => e2.elim (fun e3 => (h.fr hk hm e1).2 e3) (fun e3 => (h.own hk e3).2.2 k hk x hm a e1 rfl))⟩

set_option maxHeartbeats 1000000 in
theorem bequal_c (A1 A2 : Option Addr) (l1 l2 : List UInt8) (n1 n2 c1 c2 : Nat) (w : World) (h1 : Rd g8 w A1 l1) (h2 : Rd g8 w A2 l2) (e1 : l1.length = n1) (e2 : l2.length = n2) :
    Calls Try.prog 29 #[.slice A1 n1 c1, .slice A2 n2 c2] w fun e w' => e = .returned (.bool (decide (l1 = l2))) ∧ w = w' := by
  have y1 := str8 (c := c1) h1 e1
  have y2 := str8 (c := c2) h2 e2
  clear h1 h2 e1 e2
  go_enter Try.func29, Try.ntmps29
  go_wp2_with fail
  go_ret
  exact ⟨ret_bool (by by_cases e : l1 = l2 <;> simp [e]), rfl⟩

end Go.Proofs.Yteoafaofiohefaa
