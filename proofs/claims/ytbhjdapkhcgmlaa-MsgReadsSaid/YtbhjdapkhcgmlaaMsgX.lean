import Derived.Test.YtbhjdapkhcgmlaaMsgW
import Derived.Deep.AppendLies
import Derived.Handy

set_option linter.unusedSimpArgs false
set_option linter.unusedVariables false
set_option linter.unnecessarySimpa false

namespace Go.Proofs.Ytbhjdapkhcgmlaa
open Go.RowKit

/-! The reader, the puts that are the call's own, and what a message of any bytes is. -/

theorem numsX_length (s : List UInt8 × Bool) (m : Nat) : (numsX s m).1.length = m := by
  unfold numsX; split <;> simp [ints3]

/-- A reader at rb that has these bytes left; its bytes lie in a block that is there, and in none of the blocks K. -/
structure RdQ (K : Nat → Prop) (w : World) (rb : Nat) (s : List UInt8 × Bool) : Prop where
  ex : ∃ A c, w.heap[rb]? = some (.cells #[.slice A s.1.length c, .bool s.2] 60 (0, 0)) ∧ Rd g8 w A s.1 ∧ (A = none → c = 0) ∧ s.1.length ≤ c ∧ c ≤ 9223372036854775807 ∧ s.1.length ≤ 140737488355328 ∧ ∀ a, A = some a → ¬ K a.block ∧ a.block ≠ rb ∧ a.block < w.heap.size

theorem RdQ.lt {K : Nat → Prop} {w : World} {rb : Nat} {s : List UInt8 × Bool} (h : RdQ K w rb s) : rb < w.heap.size := by
  obtain ⟨A, c, hr, -⟩ := h.ex
  exact (Array.getElem?_eq_some_iff.1 hr).1

theorem RdQ.upto {K K' : Nat → Prop} {w w' : World} {rb : Nat} {s : List UInt8 × Bool} (h : RdQ K w rb s) (u : Upto K' w w') (hK : ∀ j, K' j → K j) (hr : ¬ K' rb) : RdQ K w' rb s := by
  obtain ⟨A, c, h1, h2, h3, h4, h5, h6, h7⟩ := h.ex
  exact ⟨A, c, (u.block rb h.lt hr).trans h1, h2.upto2 u (fun a e k => (h7 a e).1 (hK _ k)), h3, h4, h5, h6, fun a e => ⟨(h7 a e).1, (h7 a e).2.1, Nat.lt_of_lt_of_le (h7 a e).2.2 u.size⟩⟩

theorem RdQ.widen {K K' : Nat → Prop} {w : World} {rb : Nat} {s : List UInt8 × Bool} (h : RdQ K w rb s) (hK : ∀ j, j < w.heap.size → K' j → K j) : RdQ K' w rb s := by
  obtain ⟨A, c, h1, h2, h3, h4, h5, h6, h7⟩ := h.ex
  exact ⟨A, c, h1, h2, h3, h4, h5, h6, fun a e => ⟨fun k => (h7 a e).1 (hK _ (h7 a e).2.2 k), (h7 a e).2⟩⟩

theorem rnums_q (K : Nat → Prop) (rb : Nat) (s : List UInt8 × Bool) (many : Nat) (hm : many ≤ 1000) (w : World) (h : RdQ K w rb s) (hK : ∀ j, K j → j < w.heap.size) :
    Calls Try.prog 23 #[.pointer (some ⟨rb, 0, none⟩), .int .i64 many] w fun e w' => ∃ A1 c1, e = .returned (.slice A1 many c1) ∧ Ow 3 g64 w' w.heap.size A1 (numsX s many).1 c1 ∧ RdQ K w' rb (numsX s many).2 ∧ Upto (fun j => j = rb) w w' := by
  obtain ⟨A, c, hr, hx, hn, hc, hc2, hl, ha⟩ := h.ex
  have hrb := (Array.getElem?_eq_some_iff.1 hr).1
  obtain ⟨l, b⟩ := s
  by_cases h3 : 3 * many ≤ l.length
  · cases b with
    | false =>
      rw [numsX_yes rfl h3]
      refine (rnums_ok rb A l l.length c many w hr hx hn rfl hc hc2 hm h3 hl).mono ?_
      rintro e w' ⟨A1, c1, A2, c2, rfl, h1, h2, h4, h5⟩
      refine ⟨A1, c1, rfl, h1, ⟨A2, c2, by rw [List.length_drop]; exact h4, h2.rd, h2.nil_cap, h2.le, h2.cap, ?_, ?_⟩, h5⟩
      · show (l.drop (3 * many)).length ≤ _
        rw [List.length_drop]
        have : l.length ≤ 140737488355328 := hl
        omega
      · intro a e
        have h6 := (h2.lt a e).1
        exact ⟨fun hk => by have := hK _ hk; omega, by omega, (h2.lt a e).2.1⟩
    | true =>
      rw [numsX_no (by simp)]
      refine (rnums_bad rb A l l.length c many w hr hx hn rfl hc hc2 hm h3 hl).mono ?_
      rintro e w' ⟨A1, c1, rfl, h1, h4, h5⟩
      exact ⟨A1, c1, rfl, h1, ⟨A, c, h4, hx.upto2 h5 (fun a e => (ha a e).2.1), hn, hc, hc2, hl, fun a e => ⟨(ha a e).1, (ha a e).2.1, Nat.lt_of_lt_of_le (ha a e).2.2 h5.size⟩⟩, h5⟩
  · rw [numsX_no (fun q => h3 q.2)]
    refine (rnums_short rb A l.length c many b w hr hm (by omega)).mono ?_
    rintro e w' ⟨A1, c1, rfl, h1, h4, h5⟩
    exact ⟨A1, c1, rfl, h1, ⟨A, c, h4, hx.upto2 h5 (fun a e => (ha a e).2.1), hn, hc, hc2, hl, fun a e => ⟨(ha a e).1, (ha a e).2.1, Nat.lt_of_lt_of_le (ha a e).2.2 h5.size⟩⟩, h5⟩

theorem rval_q (K : Nat → Prop) (rb : Nat) (s : List UInt8 × Bool) (w : World) (h : RdQ K w rb s) (hK : ∀ j, K j → j < w.heap.size) :
    Calls Try.prog 24 #[.pointer (some ⟨rb, 0, none⟩)] w fun e w' => e = .returned (.complex .f64 (valX s).1.1 (valX s).1.2) ∧ RdQ K w' rb (valX s).2 ∧ Upto (fun j => j = rb) w w' := by
  obtain ⟨A, c, hr, hx, hn, hc, hc2, hl, ha⟩ := h.ex
  have hrb := (Array.getElem?_eq_some_iff.1 hr).1
  obtain ⟨l, b⟩ := s
  by_cases hy : b = false ∧ 16 ≤ l.length ∧ valOk l = true
  · obtain ⟨rfl, h16, hv⟩ := hy
    have h16' : 16 ≤ l.length := h16
    have hv' : valOk l = true := hv
    have e1 : valX (l, false) = ((reB l, imB l), l.drop 16, false) := valX_yes rfl h16' hv'
    have hr' : w.heap[rb]? = some (.cells #[.slice A l.length c, .bool false] 60 (0, 0)) := hr
    have hx' : Rd g8 w A l := hx
    have hc' : l.length ≤ c := hc
    have hl' : l.length ≤ 140737488355328 := hl
    have hq := rval_y rb A l l.length c w hr' hx' hn rfl hc' hc2 hl' h16' hv'
    rw [e1]
    generalize reB l = x at *
    generalize imB l = y at *
    refine hq.mono ?_
    rintro e w' ⟨A2, c2, rfl, h2, h4, h5⟩
    refine ⟨rfl, ⟨A2, c2, h4, h2.rd, h2.nil_cap, h2.le, h2.cap, ?_, ?_⟩, h5⟩
    · show (l.drop 16).length ≤ _
      rw [List.length_drop]
      have : l.length ≤ 140737488355328 := hl
      omega
    · intro a e
      have h6 := (h2.lt a e).1
      exact ⟨fun hk => by have := hK _ hk; omega, by omega, (h2.lt a e).2.1⟩
  · rw [valX_no hy]
    refine (rval_t rb A l.length c b w hr ?_).mono ?_
    · by_cases h16 : 16 ≤ l.length
      · cases hv : valOk l with
        | true =>
          have hb : b = true := by
            cases b
            · exact absurd ⟨rfl, h16, hv⟩ hy
            · rfl
          refine (take_yes A l c l.length w hv hx hn hc hc2 h16 hl rfl).mono ?_
          rintro e w' ⟨A2, c2, rfl, -, h5⟩
          exact ⟨_, _, _, _, _, _, rfl, h5, .inl hb⟩
        | false =>
          refine (take_bad A l c l.length w hv hx hn hc hc2 h16 hl rfl).mono ?_
          rintro e w' ⟨A2, c2, rfl, -, h5⟩
          exact ⟨_, _, _, _, _, _, rfl, h5, .inr (by decide)⟩
      · refine (take_short A l.length c w (by omega)).mono ?_
        rintro e w' ⟨rfl, rfl⟩
        exact ⟨_, _, _, _, _, _, rfl, Below.refl _ _, .inr (by decide)⟩
    · rintro e w' ⟨rfl, h4, h5⟩
      exact ⟨rfl, ⟨A, c, h4, hx.upto2 h5 (fun a e => (ha a e).2.1), hn, hc, hc2, hl, fun a e => ⟨(ha a e).1, (ha a e).2.1, Nat.lt_of_lt_of_le (ha a e).2.2 h5.size⟩⟩, h5⟩

/-! Puts that are the call's own. -/

def pcl (p : PutV) : List Value := [.int .i64 p.pg, .int .i64 p.ob, .complex .f64 p.re p.im]
def pcells (ps : List PutV) : List Value := (ps.map pcl).flatten
theorem pcells_snoc (ps : List PutV) (p : PutV) : pcells (ps ++ [p]) = pcells ps ++ pcl p := by unfold pcells; simp
theorem pcells_length (ps : List PutV) : (pcells ps).length = ps.length * 3 := by
  induction ps with
  | nil => rfl
  | cons p r ih => unfold pcells at *; simp [pcl] at *; omega
theorem pcells_at : ∀ (ps : List PutV) (i : Nat) (p : PutV), ps[i]? = some p → (pcells ps)[i * 3]? = some (.int .i64 p.pg) ∧ (pcells ps)[i * 3 + 1]? = some (.int .i64 p.ob) ∧ (pcells ps)[i * 3 + 2]? = some (.complex .f64 p.re p.im)
  | [], i, p, h => by simp at h
  | q :: r, 0, p, h => by simp at h; subst h; exact ⟨rfl, rfl, rfl⟩
  | q :: r, i + 1, p, h => by
    have ih := pcells_at r i p (by simpa using h)
    have e : pcells (q :: r) = .int .i64 q.pg :: .int .i64 q.ob :: .complex .f64 q.re q.im :: pcells r := by unfold pcells; simp [pcl]
    rw [e]
    have e1 : (i + 1) * 3 = i * 3 + 1 + 1 + 1 := by omega
    rw [e1]
    refine ⟨ih.1, ?_, ?_⟩
    · rw [show i * 3 + 1 + 1 + 1 + 1 = (i * 3 + 1) + 1 + 1 + 1 by omega]; exact ih.2.1
    · rw [show i * 3 + 1 + 1 + 1 + 2 = (i * 3 + 2) + 1 + 1 + 1 by omega]; exact ih.2.2

def OwP (w : World) (B : Nat) (A : Option Addr) (n : Nat) (ps : List PutV) (c : Nat) : Prop := w.ownsRow B 53 3 (.slice A n c) n (pcells ps)

theorem OwP.nil (w : World) (B : Nat) : OwP w B none 0 [] 0 := World.ownsRow_nil w B 53 3

theorem OwP.length {w : World} {B : Nat} {A : Option Addr} {n : Nat} {ps : List PutV} {c : Nat} (h : OwP w B A n ps c) : ps.length = n := by
  have h1 := h.1
  rw [pcells_length] at h1
  omega

theorem OwP.at {w : World} {B : Nat} {A : Option Addr} {n : Nat} {ps : List PutV} {c : Nat} (h : OwP w B A n ps c) (hn : n = 0 → A = none) : PutsAt w A c ps := by
  have hl := h.length
  rcases h.2 with ⟨e, h0⟩ | ⟨b, cap, cur, e, _⟩
  · injection e with e1 _ e3
    exact .inl ⟨e1, e3, List.eq_nil_of_length_eq_zero (by omega)⟩
  · injection e with e1 _ e3
    subst e1
    refine .inr ⟨b, rfl, fun e0 => ?_, fun i p hp => ?_⟩
    · subst e0
      simp at hl
      exact absurd (hn hl.symm) (by simp)
    · obtain ⟨t0, t1, t2⟩ := pcells_at ps i p hp
      have ha : ∀ j, (⟨b, 0, none⟩ : Addr).add j = ⟨b, j, none⟩ := fun j => by unfold Addr.add; split <;> simp_all
      have g := World.ownsRow.cells h (g := b) rfl
      exact ⟨by have := g _ _ t0; rwa [ha] at this, by have := g _ _ t1; rwa [ha] at this, by have := g _ _ t2; rwa [ha] at this⟩

theorem OwP.upto {K : Nat → Prop} {w w' : World} {B : Nat} {A : Option Addr} {n : Nat} {ps : List PutV} {c : Nat} (h : OwP w B A n ps c) (u : Upto K w w') (hK : ∀ k, (Value.slice A n c).ownBlock = some k → ¬ K k) : OwP w' B A n ps c := by
  refine ⟨h.1, ?_⟩
  rcases h.2 with hn | ⟨b, cap, cur, hv, hbg, hgg, rest⟩
  · exact .inl hn
  · have hk : (Value.slice A n c).ownBlock = some b := by rw [hv]; rfl
    exact .inr ⟨b, cap, cur, hv, hbg, by rw [u.block b (Array.getElem?_eq_some_iff.1 hgg).1 (hK b hk)]; exact hgg, rest⟩

theorem OwP.below {w w' : World} {B : Nat} {A : Option Addr} {n : Nat} {ps : List PutV} {c : Nat} (h : OwP w B A n ps c) (hb : Below w.heap.size w w') : OwP w' B A n ps c := h.upto (Upto.of_below (K := fun _ => False) hb) (fun _ _ e => e)

theorem OwP.lt {w : World} {B : Nat} {A : Option Addr} {n : Nat} {ps : List PutV} {c : Nat} (h : OwP w B A n ps c) : ∀ k, (Value.slice A n c).ownBlock = some k → B ≤ k ∧ k < w.heap.size := World.ownsRow.lt h

theorem infoP : (Try.prog.info? 53).map (fun i => (i.zero, i.size, i.bytes)) = some (some (.agg #[.int .i64 0, .int .i64 0, .complex .f64 0 0]), 3, 32) := by kernel_rfl
theorem one_put (p : PutV) : ∀ u ∈ pcl p, u.oneCell' = true := by
  intro u hu; simp [pcl] at hu; rcases hu with rfl | rfl | rfl <;> rfl

/-! What a message of any bytes is. -/

abbrev RState := List UInt8 × Bool
/-- The next put. -/
def stepX (s : RState) : PutV × RState := (⟨(numsX s 2).1.getD 0 0, (numsX s 2).1.getD 1 0, (valX (numsX s 2).2).1.1, (valX (numsX s 2).2).1.2⟩, (valX (numsX s 2).2).2)
/-- So many puts. -/
def putsX (s : RState) : Nat → List PutV × RState
  | 0 => ([], s)
  | k + 1 => ((putsX s k).1 ++ [(stepX (putsX s k).2).1], (stepX (putsX s k).2).2)
/-- The reader behind so many values. -/
def afterV (s : RState) : Nat → RState
  | 0 => s
  | k + 1 => (valX (afterV s k)).2
/-- The value at a place. -/
def atV (s : RState) (k : Nat) : Nat × Nat := (valX (afterV s k)).1

theorem putsX_length (s : RState) : ∀ k, (putsX s k).1.length = k
  | 0 => rfl
  | k + 1 => by unfold putsX; simp [putsX_length s k]

end Go.Proofs.Ytbhjdapkhcgmlaa
