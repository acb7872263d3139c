import Derived.Test.YteoafaofiohefaaNetU
namespace Go.Proofs.Yteoafaofiohefaa
open Go.RowKit

/-! A net without its addresses: the contracts over what lies on each lane. -/

/-- The blocks that a net's calls may write. -/
def NetK (B : Nat) (w : World) (j : Nat) : Prop := B ≤ j ∧ ∃ cur T, w.heap[j]? = some (.cells cur T (0, 0)) ∧ (T = 59 ∨ T = 65)

/-- Nothing but a net's blocks was written. -/
def Stp (B : Nat) (w w' : World) : Prop := Upto (NetK B w) w w'

theorem Stp.of_below {B : Nat} {w w' : World} (h : Below w.heap.size w w') : Stp B w w' := Upto.of_below h

theorem Stp.refl (B : Nat) (w : World) : Stp B w w := Upto.refl _ w

theorem Stp.trans {B : Nat} {a b c : World} (h : Stp B a b) (k : Stp B b c) : Stp B a c :=
  Upto.trans h k fun i hi hK => by
    apply Classical.byContradiction
    intro hn
    have e := Upto.block h i hi hn
    obtain ⟨h1, cur, T, h2, h3⟩ := hK
    exact hn ⟨h1, cur, T, by rw [← e]; exact h2, h3⟩

theorem Stp.size {B : Nat} {w w' : World} (h : Stp B w w') : w.heap.size ≤ w'.heap.size := Upto.size h

theorem Stp.below {B : Nat} {w w' : World} (h : Stp B w w') (hB : B ≤ w.heap.size) : Below B w w' := Upto.below h hB fun k hk hK => by have := hK.1; omega

theorem Stp.ow {α : Type} {g : α → Value} {E : TypeId} {B C : Nat} {w w' : World} {A : Option Addr} {l : List α} {c : Nat} (h : Ow E g w C A l c) (u : Stp B w w') (h1 : E ≠ 59) (h2 : E ≠ 65) : Ow E g w' C A l c :=
  Ow.upto h u fun a e hK => by
    obtain ⟨-, cur, T, hc, hT⟩ := hK
    obtain ⟨cur2, hc2⟩ := h.typed a e
    rw [hc2] at hc
    injection hc with hc; injection hc with _ e1 _
    rcases hT with e2 | e2
    · exact h1 (e1.trans e2)
    · exact h2 (e1.trans e2)

variable {w w' : World} {B nb : Nat} {V : Nat → Value} {I : Nat → List It}

theorem NetAt.stp (h : NetAt w B nb V I) {k : Nat} (hk : k < 8) (u : Upto (Turn nb (V k)) w w') : Stp B w w' :=
  Upto.mono u fun j _ hj => by
    rcases hj with e | e
    · subst e; exact ⟨h.base, _, _, h.row, .inl rfl⟩
    · obtain ⟨h1, cur, h2⟩ := (h.lane k hk).typed j e
      exact ⟨h1, cur, _, h2, .inr rfl⟩

abbrev Fr := List UInt8 × Bool
def It.fr (x : It) : Fr := (x.l, x.s)

/-- A net at a place, with what lies on its lanes. -/
def NetS (B : Nat) (w : World) (nb : Nat) (S : Nat → List Fr) : Prop := ∃ V I, NetAt w B nb V I ∧ S = fun k => (I k).map It.fr

theorem map_upd (I : Nat → List It) (k : Nat) (L : List It) : (fun j => (upd I k L j).map It.fr) = upd (fun j => (I j).map It.fr) k (L.map It.fr) := by
  funext j; unfold upd; split <;> rfl

variable {S : Nat → List Fr}

theorem NetS.below (h : NetS B w nb S) (u : Below w.heap.size w w') : NetS B w' nb S := by
  obtain ⟨V, I, h1, h2⟩ := h
  exact ⟨V, I, h1.below u, h2⟩

theorem NetS.base (h : NetS B w nb S) : B ≤ nb ∧ nb < w.heap.size := by
  obtain ⟨V, I, h1, h2⟩ := h
  exact ⟨h1.base, h1.lt⟩

theorem NetS.many (h : NetS B w nb S) {k : Nat} (hk : k < 8) : (S k).length ≤ 200 := by
  obtain ⟨V, I, h1, rfl⟩ := h
  simpa using h1.many k hk

theorem NetS.short (h : NetS B w nb S) {k : Nat} (hk : k < 8) {x : Fr} (hx : x ∈ S k) : x.1.length ≤ 140737488355328 := by
  obtain ⟨V, I, h1, rfl⟩ := h
  obtain ⟨y, hy, rfl⟩ := List.mem_map.1 hx
  exact h1.short k hk y hy

theorem new_s (w : World) : Calls Try.prog 8 #[] w fun e w' => e = .returned (.pointer (some ⟨w.heap.size, 0, none⟩)) ∧ NetS w.heap.size w' w.heap.size (fun _ => []) ∧ Below w.heap.size w w' :=
  (new_c w).mono fun _ _ ⟨h1, h2, h3⟩ => ⟨h1, ⟨_, _, h2, rfl⟩, h3⟩

theorem Put_s (w : World) (B nb : Nat) (S : Nat → List Fr) (k : Nat) (h : NetS B w nb S) (hk : k < 8) (A : Option Addr) (l : List UInt8) (n c : Nat) (hX : Rd g8 w A l) (hn : A = none → c = 0) (hlen : l.length ≤ 140737488355328) (he : l.length = n) :
    Calls Try.prog 11 #[.pointer (some ⟨nb, 0, none⟩), .int .i64 k, .slice A n c] w fun e w' => e = .returned (.bool (decide ((S k).length < 200))) ∧ NetS B w' nb (if (S k).length < 200 then upd S k (S k ++ [(l, false)]) else S) ∧ Stp B w w' := by
  obtain ⟨V, I, h1, rfl⟩ := h
  by_cases hr : (I k).length < 200
  · refine (Put_ok w B nb V I k h1 hk hr A l n c hX hn hlen he).mono ?_
    rintro e w' ⟨rfl, N, x, rfl, hs, h3, h4, _⟩
    refine ⟨by simp [hr], ⟨_, _, h3, ?_⟩, h1.stp hk h4⟩
    rw [map_upd, if_pos (by simpa using hr)]
    simp [It.fr, hs]
  · refine (Put_full w B nb V I k h1 hk (by omega) A n c).mono ?_
    rintro e w' ⟨rfl, h2⟩
    refine ⟨by simp; omega, ?_, Stp.of_below h2⟩
    rw [if_neg (by simpa using hr)]
    exact ⟨V, I, h1.below h2, rfl⟩

theorem Len_s (w : World) (B nb : Nat) (S : Nat → List Fr) (k : Nat) (h : NetS B w nb S) (hk : k < 8) :
    Calls Try.prog 12 #[.pointer (some ⟨nb, 0, none⟩), .int .i64 k] w fun e w' => e = .returned (.int .i64 ((S k).length : Nat)) ∧ ∃ m, w' = w.drewN m := by
  obtain ⟨V, I, h1, rfl⟩ := h
  have := Len_yes w B nb V I k h1 hk
  simpa using this

theorem Take_s_none (w : World) (B nb : Nat) (S : Nat → List Fr) (k : Nat) (h : NetS B w nb S) (hk : k < 8) (i : Int) (hi : ¬ (0 ≤ i ∧ i < (S k).length)) :
    Calls Try.prog 14 #[.pointer (some ⟨nb, 0, none⟩), .int .i64 k, .int .i64 i] w fun e w' => e = .returned (.tuple #[.slice none 0 0, .bool false]) ∧ Below w.heap.size w w' := by
  obtain ⟨V, I, h1, rfl⟩ := h
  exact Take_none w B nb V I k h1 hk i (by simpa using hi)

theorem map_get {k : Nat} {i : Nat} {x : Fr} (h : ((I k).map It.fr)[i]? = some x) : ∃ y, (I k)[i]? = some y ∧ y.l = x.1 ∧ y.s = x.2 := by
  rw [List.getElem?_map] at h
  cases e : (I k)[i]? with
  | none => rw [e] at h; cases h
  | some y => rw [e] at h; injection h with h; subst h; exact ⟨y, rfl, rfl, rfl⟩

theorem map_del (L : List It) (i : Nat) : (L.eraseIdx i).map It.fr = (L.map It.fr).eraseIdx i := by
  rw [List.eraseIdx_eq_take_drop_succ, List.eraseIdx_eq_take_drop_succ, List.map_append, List.map_take, List.map_drop]

theorem Take_s_yes (w : World) (B nb : Nat) (S : Nat → List Fr) (k : Nat) (h : NetS B w nb S) (hk : k < 8) (i : Nat) (x : Fr) (hx : (S k)[i]? = some x) :
    Calls Try.prog 14 #[.pointer (some ⟨nb, 0, none⟩), .int .i64 k, .int .i64 i] w fun e w' => ∃ A c, e = .returned (.tuple #[.slice A x.1.length c, .bool true]) ∧ NetS B w' nb (upd S k ((S k).eraseIdx i)) ∧ Stp B w w' ∧ Ow 5 g8 w' B A x.1 c := by
  obtain ⟨V, I, h1, rfl⟩ := h
  obtain ⟨y, hy, e1, e2⟩ := map_get hx
  refine (Take_yes w B nb V I k h1 hk i y hy).mono ?_
  rintro e w' ⟨rfl, ⟨N, h2, h3⟩, h4⟩
  rw [e1] at h4
  refine ⟨y.A, y.c, by rw [e1], ⟨_, _, h2, ?_⟩, h1.stp hk h3, h4⟩
  rw [map_upd, map_del]

theorem Double_s_none (w : World) (B nb : Nat) (S : Nat → List Fr) (k : Nat) (h : NetS B w nb S) (hk : k < 8) (i : Int) (hi : ¬ (0 ≤ i ∧ i < (S k).length)) :
    Calls Try.prog 17 #[.pointer (some ⟨nb, 0, none⟩), .int .i64 k, .int .i64 i] w fun e w' => e = .returned (.bool false) ∧ Below w.heap.size w w' := by
  obtain ⟨V, I, h1, rfl⟩ := h
  exact (Double_none w B nb V I k h1 hk i (by simpa using hi)).mono fun _ _ ⟨e, h2⟩ => ⟨e, below_of_draws h2⟩

theorem Double_s_yes (w : World) (B nb : Nat) (S : Nat → List Fr) (k : Nat) (h : NetS B w nb S) (hk : k < 8) (i : Nat) (x : Fr) (hx : (S k)[i]? = some x) :
    Calls Try.prog 17 #[.pointer (some ⟨nb, 0, none⟩), .int .i64 k, .int .i64 i] w fun e w' => e = .returned (.bool (decide ((S k).length < 200))) ∧ NetS B w' nb (if (S k).length < 200 then upd S k (S k ++ [x]) else S) ∧ Stp B w w' := by
  obtain ⟨V, I, h1, rfl⟩ := h
  obtain ⟨y, hy, e1, e2⟩ := map_get hx
  by_cases hr : (I k).length < 200
  · refine (Double_ok w B nb V I k h1 hk i y hy hr).mono ?_
    rintro e w' ⟨rfl, N, z, hl, hs, h3, h4⟩
    refine ⟨by simp [hr], ⟨_, _, h3, ?_⟩, h1.stp hk h4⟩
    rw [map_upd, if_pos (by simpa using hr)]
    simp [It.fr, hs, hl, e1, e2]
  · refine (Double_full w B nb V I k h1 hk i y hy (by omega)).mono ?_
    rintro e w' ⟨rfl, h2⟩
    refine ⟨by simp; omega, ?_, Stp.of_below h2⟩
    rw [if_neg (by simpa using hr)]
    exact ⟨V, I, h1.below h2, rfl⟩

theorem Late_s_none (w : World) (B nb : Nat) (S : Nat → List Fr) (k : Nat) (h : NetS B w nb S) (hk : k < 8) (i : Int) (hi : ¬ (0 ≤ i ∧ i < (S k).length)) :
    Calls Try.prog 13 #[.pointer (some ⟨nb, 0, none⟩), .int .i64 k, .int .i64 i] w fun e w' => e = .returned (.bool false) ∧ Below w.heap.size w w' := by
  obtain ⟨V, I, h1, rfl⟩ := h
  exact Late_not _ k i w (take_none w B nb V I k h1 hk i (by simpa using hi))

theorem Late_s_yes (w : World) (B nb : Nat) (S : Nat → List Fr) (k : Nat) (h : NetS B w nb S) (hk : k < 8) (i : Nat) (x : Fr) (hx : (S k)[i]? = some x) :
    Calls Try.prog 13 #[.pointer (some ⟨nb, 0, none⟩), .int .i64 k, .int .i64 i] w fun e w' => e = .returned (.bool true) ∧ NetS B w' nb (upd S k ((S k).eraseIdx i ++ [x])) ∧ Stp B w w' := by
  obtain ⟨V, I, h1, rfl⟩ := h
  obtain ⟨y, hy, e1, e2⟩ := map_get hx
  refine (Late_yes w B nb V I k h1 hk i y hy).mono ?_
  rintro e w' ⟨rfl, N, h2, h3⟩
  refine ⟨rfl, ⟨_, _, h2, ?_⟩, h1.stp hk h3⟩
  rw [map_upd, List.map_append, map_del]
  simp [It.fr, e1, e2]

theorem Spoil_s_none (w : World) (B nb : Nat) (S : Nat → List Fr) (k : Nat) (h : NetS B w nb S) (hk : k < 8) (i at_ : Int) (m : Nat) (hi : ¬ (0 ≤ i ∧ i < (S k).length)) :
    Calls Try.prog 20 #[.pointer (some ⟨nb, 0, none⟩), .int .i64 k, .int .i64 i, .int .i64 at_, .int .u16 m] w fun e w' => e = .returned (.bool false) ∧ Below w.heap.size w w' := by
  obtain ⟨V, I, h1, rfl⟩ := h
  exact (Spoil_none w B nb V I k h1 hk i at_ m (by simpa using hi)).mono fun _ _ ⟨e, h2⟩ => ⟨e, below_of_draws h2⟩

/-- May a frame's bits be turned? -/
def spoils (x : Fr) (at_ : Int) (m : Nat) : Bool := !x.2 && !decide (burstN x.1 at_ m = x.1)

theorem Spoil_s_yes (w : World) (B nb : Nat) (S : Nat → List Fr) (k : Nat) (h : NetS B w nb S) (hk : k < 8) (i : Nat) (x : Fr) (hx : (S k)[i]? = some x) (at_ : Int) (m : Nat) (hm : m < 65536) (ha1 : -9223372036854775808 ≤ at_) (ha2 : at_ ≤ 9223372036854775807) :
    Calls Try.prog 20 #[.pointer (some ⟨nb, 0, none⟩), .int .i64 k, .int .i64 i, .int .i64 at_, .int .u16 m] w fun e w' => e = .returned (.bool (spoils x at_ m)) ∧ NetS B w' nb (if spoils x at_ m then upd S k ((S k).set i (burstN x.1 at_ m, true)) else S) ∧ Stp B w w' := by
  obtain ⟨V, I, h1, rfl⟩ := h
  obtain ⟨y, hy, e1, e2⟩ := map_get hx
  cases hs : x.2 with
  | true =>
    refine (Spoil_twice w B nb V I k h1 hk i y hy (by rw [e2, hs]) at_ m).mono ?_
    rintro e w' ⟨rfl, h2⟩
    have hn : spoils x at_ m = false := by unfold spoils; rw [hs]; rfl
    rw [hn]
    exact ⟨rfl, ⟨V, I, h1.below (below_of_draws h2), rfl⟩, Stp.of_below (below_of_draws h2)⟩
  | false =>
    refine (Spoil_of w B nb V I k h1 hk i y hy (by rw [e2, hs]) at_ m hm ha1 ha2).mono ?_
    rintro e w' (⟨hb, rfl, h2⟩ | ⟨hb, rfl, z, hl, hz, h2, h3⟩)
    · have hn : spoils x at_ m = false := by unfold spoils; rw [← e1, decide_eq_true hb]; simp
      rw [hn]
      exact ⟨rfl, ⟨V, I, h1.below h2, rfl⟩, Stp.of_below h2⟩
    · have hn : spoils x at_ m = true := by unfold spoils; rw [← e1, decide_eq_false hb, hs]; rfl
      rw [hn]
      refine ⟨rfl, ⟨_, _, h2, ?_⟩, h1.stp hk h3⟩
      rw [if_pos rfl, map_upd]
      congr 1
      rw [List.map_set]
      simp [It.fr, hl, hz, e1]

end Go.Proofs.Yteoafaofiohefaa
