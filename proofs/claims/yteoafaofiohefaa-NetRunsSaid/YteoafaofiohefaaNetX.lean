import Derived.Test.YteoafaofiohefaaNetW
namespace Go.Proofs.Yteoafaofiohefaa
open Go.RowKit

/-! A net's calls at any lane and any place. -/

/-- The frame at a place, and whether there is one. -/
def atS (S : Nat → List Fr) (k i : Int) : Option Fr := if 0 ≤ k ∧ k < 8 ∧ 0 ≤ i then (S k.toNat)[i.toNat]? else none
def putS (S : Nat → List Fr) (k : Int) (x : Fr) : (Nat → List Fr) × Bool := if 0 ≤ k ∧ k < 8 ∧ (S k.toNat).length < 200 then (upd S k.toNat (S k.toNat ++ [x]), true) else (S, false)
def doubleS (S : Nat → List Fr) (k i : Int) : (Nat → List Fr) × Bool := match atS S k i with | some x => putS S k x | none => (S, false)
def lateS (S : Nat → List Fr) (k i : Int) : (Nat → List Fr) × Bool := match atS S k i with | some x => (upd S k.toNat ((S k.toNat).eraseIdx i.toNat ++ [x]), true) | none => (S, false)
def takeS (S : Nat → List Fr) (k i : Int) : (Nat → List Fr) × Option Fr := match atS S k i with | some x => (upd S k.toNat ((S k.toNat).eraseIdx i.toNat), some x) | none => (S, none)
def spoilS (S : Nat → List Fr) (k i at_ : Int) (m : Nat) : (Nat → List Fr) × Bool := match atS S k i with
  | some x => if spoils x at_ m then (upd S k.toNat ((S k.toNat).set i.toNat (burstN x.1 at_ m, true)), true) else (S, false)
  | none => (S, false)

variable {S : Nat → List Fr}

theorem atS_bad {k i : Int} (h : k < 0 ∨ 8 ≤ k) : atS S k i = none := by unfold atS; rw [if_neg (by omega)]
theorem atS_nat (k : Nat) (i : Int) (h : k < 8) : atS S k i = if 0 ≤ i then (S k)[i.toNat]? else none := by
  unfold atS
  by_cases hi : 0 ≤ i
  · rw [if_pos (by omega), if_pos hi]; rfl
  · rw [if_neg (by omega), if_neg hi]
/-- Is there a frame? -/
theorem atS_cases (S : Nat → List Fr) (k : Nat) (i : Int) (h : k < 8) : (atS S k i = none ∧ ¬ (0 ≤ i ∧ i < (S k).length)) ∨ ∃ (j : Nat) (x : Fr), i = j ∧ (S k)[j]? = some x ∧ atS S k i = some x := by
  rw [atS_nat k i h]
  by_cases hi : 0 ≤ i
  · obtain ⟨j, rfl⟩ := Int.eq_ofNat_of_zero_le hi
    rw [if_pos hi, Int.toNat_natCast]
    cases e : (S k)[j]? with
    | none =>
      have := List.getElem?_eq_none_iff.1 e
      exact .inl ⟨rfl, by omega⟩
    | some x => exact .inr ⟨j, x, rfl, e, rfl⟩
  · rw [if_neg hi]; exact .inl ⟨rfl, by omega⟩

theorem lane_cases (k : Int) : (k < 0 ∨ 8 ≤ k) ∨ ∃ n : Nat, k = n ∧ n < 8 := by
  by_cases h : k < 0 ∨ 8 ≤ k
  · exact .inl h
  · obtain ⟨n, rfl⟩ := Int.eq_ofNat_of_zero_le (a := k) (by omega)
    exact .inr ⟨n, rfl, by omega⟩

theorem Put_u (w : World) (B nb : Nat) (S : Nat → List Fr) (k : Int) (h : NetS B w nb S) (A : Option Addr) (l : List UInt8) (n c : Nat) (hX : Rd g8 w A l) (hn : A = none → c = 0) (hlen : l.length ≤ 140737488355328) (he : l.length = n) :
    Calls Try.prog 11 #[.pointer (some ⟨nb, 0, none⟩), .int .i64 k, .slice A n c] w fun e w' => e = .returned (.bool (putS S k (l, false)).2) ∧ NetS B w' nb (putS S k (l, false)).1 ∧ Stp B w w' := by
  rcases lane_cases k with hk | ⟨k, rfl, hk⟩
  · have e : putS S k (l, false) = (S, false) := by unfold putS; rw [if_neg (by omega)]
    rw [e]
    exact (Put_no _ k hk A n c w).mono fun _ _ ⟨e1, e2⟩ => ⟨e1, e2 ▸ h, e2 ▸ Stp.refl _ _⟩
  · refine (Put_s w B nb S k h hk A l n c hX hn hlen he).mono ?_
    rintro e w' ⟨rfl, h2, h3⟩
    by_cases hr : (S k).length < 200
    · have e : putS S k (l, false) = (upd S k (S k ++ [(l, false)]), true) := by unfold putS; rw [if_pos ⟨by omega, by omega, by simpa using hr⟩]; rfl
      rw [e]; rw [if_pos hr] at h2
      exact ⟨by simp [hr], h2, h3⟩
    · have e : putS S k (l, false) = (S, false) := by unfold putS; rw [if_neg (by rintro ⟨_, _, q⟩; exact hr (by simpa using q))]
      rw [e]; rw [if_neg hr] at h2
      exact ⟨by simp [hr], h2, h3⟩

theorem Double_u (w : World) (B nb : Nat) (S : Nat → List Fr) (k i : Int) (h : NetS B w nb S) :
    Calls Try.prog 17 #[.pointer (some ⟨nb, 0, none⟩), .int .i64 k, .int .i64 i] w fun e w' => e = .returned (.bool (doubleS S k i).2) ∧ NetS B w' nb (doubleS S k i).1 ∧ Stp B w w' := by
  rcases lane_cases k with hk | ⟨k, rfl, hk⟩
  · have e : doubleS S k i = (S, false) := by unfold doubleS; rw [atS_bad hk]
    rw [e]
    exact (Double_bad _ k i hk w).mono fun _ _ ⟨e1, e2⟩ => ⟨e1, e2 ▸ h, e2 ▸ Stp.refl _ _⟩
  · rcases atS_cases S k i hk with ⟨e0, hi⟩ | ⟨j, x, rfl, hx, e0⟩
    · have e : doubleS S k i = (S, false) := by unfold doubleS; rw [e0]
      rw [e]
      exact (Double_s_none w B nb S k h hk i hi).mono fun _ _ ⟨e1, e2⟩ => ⟨e1, h.below e2, Stp.of_below e2⟩
    · refine (Double_s_yes w B nb S k h hk j x hx).mono ?_
      rintro e w' ⟨rfl, h2, h3⟩
      by_cases hr : (S k).length < 200
      · have e : doubleS S k j = (upd S k (S k ++ [x]), true) := by unfold doubleS; rw [e0]; simp only; unfold putS; rw [if_pos ⟨by omega, by omega, by simpa using hr⟩]; rfl
        rw [e]; rw [if_pos hr] at h2
        exact ⟨by simp [hr], h2, h3⟩
      · have e : doubleS S k j = (S, false) := by unfold doubleS; rw [e0]; simp only; unfold putS; rw [if_neg (by rintro ⟨_, _, q⟩; exact hr (by simpa using q))]
        rw [e]; rw [if_neg hr] at h2
        exact ⟨by simp [hr], h2, h3⟩

theorem Late_u (w : World) (B nb : Nat) (S : Nat → List Fr) (k i : Int) (h : NetS B w nb S) :
    Calls Try.prog 13 #[.pointer (some ⟨nb, 0, none⟩), .int .i64 k, .int .i64 i] w fun e w' => e = .returned (.bool (lateS S k i).2) ∧ NetS B w' nb (lateS S k i).1 ∧ Stp B w w' := by
  rcases lane_cases k with hk | ⟨k, rfl, hk⟩
  · have e : lateS S k i = (S, false) := by unfold lateS; rw [atS_bad hk]
    rw [e]
    exact (Late_not _ k i w (take_bad _ k i hk w)).mono fun _ _ ⟨e1, e2⟩ => ⟨e1, h.below e2, Stp.of_below e2⟩
  · rcases atS_cases S k i hk with ⟨e0, hi⟩ | ⟨j, x, rfl, hx, e0⟩
    · have e : lateS S k i = (S, false) := by unfold lateS; rw [e0]
      rw [e]
      exact (Late_s_none w B nb S k h hk i hi).mono fun _ _ ⟨e1, e2⟩ => ⟨e1, h.below e2, Stp.of_below e2⟩
    · have e : lateS S k j = (upd S k ((S k).eraseIdx j ++ [x]), true) := by unfold lateS; rw [e0]; rfl
      rw [e]
      exact Late_s_yes w B nb S k h hk j x hx

theorem Spoil_u (w : World) (B nb : Nat) (S : Nat → List Fr) (k i at_ : Int) (m : Nat) (h : NetS B w nb S) (hm : m < 65536) (ha1 : -9223372036854775808 ≤ at_) (ha2 : at_ ≤ 9223372036854775807) :
    Calls Try.prog 20 #[.pointer (some ⟨nb, 0, none⟩), .int .i64 k, .int .i64 i, .int .i64 at_, .int .u16 m] w fun e w' => e = .returned (.bool (spoilS S k i at_ m).2) ∧ NetS B w' nb (spoilS S k i at_ m).1 ∧ Stp B w w' := by
  rcases lane_cases k with hk | ⟨k, rfl, hk⟩
  · have e : spoilS S k i at_ m = (S, false) := by unfold spoilS; rw [atS_bad hk]
    rw [e]
    exact (Spoil_bad _ k i at_ m hk w).mono fun _ _ ⟨e1, e2⟩ => ⟨e1, e2 ▸ h, e2 ▸ Stp.refl _ _⟩
  · rcases atS_cases S k i hk with ⟨e0, hi⟩ | ⟨j, x, rfl, hx, e0⟩
    · have e : spoilS S k i at_ m = (S, false) := by unfold spoilS; rw [e0]
      rw [e]
      exact (Spoil_s_none w B nb S k h hk i at_ m hi).mono fun _ _ ⟨e1, e2⟩ => ⟨e1, h.below e2, Stp.of_below e2⟩
    · refine (Spoil_s_yes w B nb S k h hk j x hx at_ m hm ha1 ha2).mono ?_
      rintro e w' ⟨rfl, h2, h3⟩
      cases hr : spoils x at_ m with
      | true =>
        have e : spoilS S k j at_ m = (upd S k ((S k).set j (burstN x.1 at_ m, true)), true) := by unfold spoilS; rw [e0]; simp only; rw [if_pos hr]; rfl
        rw [e]; rw [if_pos hr] at h2
        exact ⟨rfl, h2, h3⟩
      | false =>
        have e : spoilS S k j at_ m = (S, false) := by unfold spoilS; rw [e0]; simp only; rw [if_neg (by rw [hr]; decide)]
        rw [e]; rw [if_neg (by rw [hr]; decide)] at h2
        exact ⟨rfl, h2, h3⟩

theorem Take_u (w : World) (B nb : Nat) (S : Nat → List Fr) (k i : Int) (h : NetS B w nb S) :
    Calls Try.prog 14 #[.pointer (some ⟨nb, 0, none⟩), .int .i64 k, .int .i64 i] w fun e w' => ∃ A n c l, e = .returned (.tuple #[.slice A n c, .bool (takeS S k i).2.isSome]) ∧ l.length = n ∧ l = ((takeS S k i).2.map Prod.fst).getD [] ∧ NetS B w' nb (takeS S k i).1 ∧ Stp B w w' ∧ Ow 5 g8 w' B A l c := by
  rcases lane_cases k with hk | ⟨k, rfl, hk⟩
  · have e : takeS S k i = (S, none) := by unfold takeS; rw [atS_bad hk]
    rw [e]
    exact (Take_bad _ k i hk w).mono fun _ _ ⟨e1, e2⟩ => ⟨none, 0, 0, [], e1, rfl, rfl, h.below e2, Stp.of_below e2, Ow.nil⟩
  · rcases atS_cases S k i hk with ⟨e0, hi⟩ | ⟨j, x, rfl, hx, e0⟩
    · have e : takeS S k i = (S, none) := by unfold takeS; rw [e0]
      rw [e]
      exact (Take_s_none w B nb S k h hk i hi).mono fun _ _ ⟨e1, e2⟩ => ⟨none, 0, 0, [], e1, rfl, rfl, h.below e2, Stp.of_below e2, Ow.nil⟩
    · have e : takeS S k j = (upd S k ((S k).eraseIdx j), some x) := by unfold takeS; rw [e0]; rfl
      rw [e]
      exact (Take_s_yes w B nb S k h hk j x hx).mono fun _ _ ⟨A, c, e1, h2, h3, h4⟩ => ⟨A, _, c, x.1, e1, rfl, rfl, h2, h3, h4⟩

end Go.Proofs.Yteoafaofiohefaa
