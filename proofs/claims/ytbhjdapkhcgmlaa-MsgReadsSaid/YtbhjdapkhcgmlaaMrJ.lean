import Derived.Test.YtbhjdapkhcgmlaaMsgY
import Derived.Test.YtbhjdapkhcgmlaaNumsR
import Derived.Handy

set_option linter.unusedSimpArgs false
set_option linter.unusedVariables false
set_option linter.unnecessarySimpa false

namespace Go.Proofs.Ytbhjdapkhcgmlaa
open Go.RowKit

/-! The reference's Read: what it has left; one more put; plain facts. -/

/-- Bytes in a block that is there, and in none of the blocks K. -/
structure RdB (K : Nat → Prop) (w : World) (A : Option Addr) (c : Nat) (l : List UInt8) : Prop where
  rd : Rd g8 w A l
  nil_cap : A = none → c = 0
  le : l.length ≤ c
  cap : c ≤ 9223372036854775807
  len : l.length ≤ 140737488355328
  out : ∀ a, A = some a → ¬ K a.block ∧ a.block < w.heap.size

theorem RdB.upto {K K' : Nat → Prop} {w w' : World} {A : Option Addr} {c : Nat} {l : List UInt8} (h : RdB K w A c l) (u : Upto K' w w') (hK : ∀ j, K' j → K j) : RdB K w' A c l :=
  ⟨h.rd.upto2 u (fun a e k => (h.out a e).1 (hK _ k)), h.nil_cap, h.le, h.cap, h.len, fun a e => ⟨(h.out a e).1, Nat.lt_of_lt_of_le (h.out a e).2 u.size⟩⟩
theorem RdB.below {K : Nat → Prop} {w w' : World} {A : Option Addr} {c : Nat} {l : List UInt8} (h : RdB K w A c l) (hb : Below w.heap.size w w') : RdB K w' A c l :=
  h.upto (Upto.of_below (K := fun _ => False) hb) (fun _ e => e.elim)
theorem RdB.widen {K K' : Nat → Prop} {w : World} {A : Option Addr} {c : Nat} {l : List UInt8} (h : RdB K w A c l) (hK : ∀ j, j < w.heap.size → K' j → K j) : RdB K' w A c l :=
  ⟨h.rd, h.nil_cap, h.le, h.cap, h.len, fun a e => ⟨fun k => (h.out a e).1 (hK _ (h.out a e).2 k), (h.out a e).2⟩⟩
theorem RdB.of_ow {K : Nat → Prop} {w : World} {B : Nat} {A : Option Addr} {c : Nat} {l : List UInt8} (h : Ow 5 g8 w B A l c) (hl : l.length ≤ 140737488355328) (hK : ∀ j, B ≤ j → ¬ K j) : RdB K w A c l :=
  ⟨h.rd, h.nil_cap, h.le, h.cap, hl, fun a e => ⟨hK _ (h.lt a e).1, (h.lt a e).2.1⟩⟩

/-- What the reference's Read's puts may lie in. -/
def KR (R P : Nat) (v : Value) : Nat → Prop := fun j => j = R ∨ j = P ∨ v.ownBlock = some j

theorem put_finR {w w5 w7 : World} {P : Nat} {A' : Option Addr} {k c' g cap : Nat} {ps : List PutV} {p : PutV} {Ar : Option Addr} {cr : Nat} {l : List UInt8} {zr : Array Value} {T : TypeId} {v0 v1 v2 v3 v4 v5 v6 v8 v9 v10 v11 : Value}
    (hRP : w.heap.size < P) (hb5 : Below w.heap.size w w5) (hq5 : RdB (KR w.heap.size P (.slice A' k c')) w5 Ar cr l)
    (hp5 : w5.heap[P]? = some (.cells #[v0, v1, v2, v3, v4, v5, v6, .slice A' k c', v8, v9, v10, v11] T (0, 0))) (hz5 : w5.heap[w.heap.size]? = some (.cells zr T (0, 0)))
    (ho5 : OwP w5 (P + 1) A' k ps c')
    (ho7 : w7.ownsRow (P + 1) 53 3 (.slice (some ⟨g, 0, none⟩) (k + 1) cap) (k + 1) (pcells ps ++ pcl p))
    (hg7 : (w5.alloc (.cells (pcl p).toArray 53)).grownBy w7 (Value.slice A' k c').ownBlock)
    (hat7 : (Value.slice A' k c').ownBlock = some g ∨ g = (w5.alloc (.cells (pcl p).toArray 53)).heap.size) :
    RdB (KR w.heap.size P (.slice (some ⟨g, 0, none⟩) (k + 1) cap)) (w7.setCell ⟨P, 7, none⟩ (.slice (some ⟨g, 0, none⟩) (k + 1) cap)) Ar cr l ∧
    (w7.setCell ⟨P, 7, none⟩ (.slice (some ⟨g, 0, none⟩) (k + 1) cap)).heap[P]? = some (.cells #[v0, v1, v2, v3, v4, v5, v6, .slice (some ⟨g, 0, none⟩) (k + 1) cap, v8, v9, v10, v11] T (0, 0)) ∧
    OwP (w7.setCell ⟨P, 7, none⟩ (.slice (some ⟨g, 0, none⟩) (k + 1) cap)) (P + 1) (some ⟨g, 0, none⟩) (k + 1) (ps ++ [p]) cap ∧
    (w7.setCell ⟨P, 7, none⟩ (.slice (some ⟨g, 0, none⟩) (k + 1) cap)).heap[w.heap.size]? = some (.cells zr T (0, 0)) ∧
    Below w.heap.size w (w7.setCell ⟨P, 7, none⟩ (.slice (some ⟨g, 0, none⟩) (k + 1) cap)) := by
  have hP5 := (Array.getElem?_eq_some_iff.1 hp5).1
  have ha := (Below.refl w5.heap.size w5).alloc (Nat.le_refl _) (.cells (pcl p).toArray 53)
  have hsz : (w5.alloc (.cells (pcl p).toArray 53)).heap.size = w5.heap.size + 1 := by simp
  generalize w5.alloc (.cells (pcl p).toArray 53) = w6 at *
  have hown : ∀ j, (Value.slice A' k c').ownBlock = some j → P + 1 ≤ j ∧ j < w5.heap.size := ho5.lt
  have hg1 : P + 1 ≤ g := by
    rcases hat7 with e | e
    · exact (hown g e).1
    · omega
  have u6 : Upto (fun j => (Value.slice A' k c').ownBlock = some j) w6 w7 := (Upto.refl _ w6).grown hg7 (fun j e _ => e)
  have u7 : Upto (fun j => (Value.slice A' k c').ownBlock = some j) w5 w7 := ((Upto.of_below (K := fun j => (Value.slice A' k c').ownBlock = some j) ha).grown hg7 (fun j e _ => e))
  have us : Upto (fun j => j = P) w7 (w7.setCell ⟨P, 7, none⟩ (.slice (some ⟨g, 0, none⟩) (k + 1) cap)) := (Upto.refl (fun j => j = P) w7).setCell (p := ⟨P, 7, none⟩) rfl _
  have hs7 := u7.size
  refine ⟨?_, ?_, ?_, ?_, ?_⟩
  · have q6 : RdB (KR w.heap.size P (.slice A' k c')) w6 Ar cr l := hq5.below ha
    have q6' : RdB (fun j => KR w.heap.size P (.slice A' k c') j ∨ j = w5.heap.size + 1) w6 Ar cr l := q6.widen (fun j hj hk => hk.elim id (fun e => by omega))
    have q7 : RdB (fun j => KR w.heap.size P (.slice A' k c') j ∨ j = w5.heap.size + 1) w7 Ar cr l := q6'.upto u6 (fun j e => .inl (.inr (.inr e)))
    have q8 : RdB (KR w.heap.size P (.slice (some ⟨g, 0, none⟩) (k + 1) cap)) w7 Ar cr l := q7.widen (fun j _ hk => by
      rcases hk with e | e | e
      · exact .inl (.inl e)
      · exact .inl (.inr (.inl e))
      · have e2 : some g = some j := e
        injection e2 with e2
        subst e2
        rcases hat7 with e3 | e3
        · exact .inl (.inr (.inr e3))
        · exact .inr (by omega))
    exact q8.upto us (fun j e => .inr (.inl e))
  · have h7 := (u7.block P hP5 (fun e => by have := (hown _ e).1; omega)).trans hp5
    exact row_set h7 7 _
  · have h := ho7
    rw [← pcells_snoc] at h
    exact OwP.upto h us (fun j e => by have e2 : some g = some j := e; injection e2 with e2; omega)
  · exact (us.block w.heap.size (by omega) (by omega)).trans ((u7.block w.heap.size (by omega) (fun e => by have := (hown _ e).1; omega)).trans hz5)
  · exact (hb5.trans (u7.below hb5.size (fun j hj e => by have := (hown _ e).1; omega))).trans (us.below (by have := hb5.size; omega) (fun j hj e => by omega))

/-! A reader that is bad stays bad. -/
theorem numsX_badS (s : RState) (m : Nat) (h : s.2 = true) : (numsX s m).2.2 = true := by
  rw [numsX_no (by rw [h]; simp)]
theorem valX_badS (s : RState) (h : s.2 = true) : (valX s).2.2 = true := by
  rw [valX_no (by rw [h]; simp)]
theorem putsX_badS (s : RState) (k : Nat) (h : (putsX s k).2.2 = true) : ∀ j, (putsX s (k + j)).2.2 = true
  | 0 => h
  | j + 1 => by
    have ih := putsX_badS s k h j
    show (stepX (putsX s (k + j)).2).2.2 = true
    exact valX_badS _ (numsX_badS _ 2 ih)
theorem afterV_badS (s : RState) (k : Nat) (h : (afterV s k).2 = true) : ∀ j, (afterV s (k + j)).2 = true
  | 0 => h
  | j + 1 => valX_badS _ (afterV_badS s k h j)

/-- The next put, where there is one. -/
theorem step_good {l : List UInt8} (h6 : 6 ≤ l.length) (h16 : 16 ≤ (l.drop 6).length) (hv : valOk (l.drop 6) = true) :
    stepX (l, false) = (⟨(ints3 l 2).getD 0 0, (ints3 l 2).getD 1 0, reB (l.drop 6), imB (l.drop 6)⟩, ((l.drop 6).drop 16, false)) := by
  have e1 : numsX (l, false) 2 = (ints3 l 2, l.drop 6, false) := numsX_yes rfl (by show 3 * 2 ≤ l.length; omega)
  have e2 : valX (l.drop 6, false) = ((reB (l.drop 6), imB (l.drop 6)), (l.drop 6).drop 16, false) := valX_yes rfl h16 hv
  simp only [stepX, e1, e2]
theorem step_short {l : List UInt8} (h6 : l.length < 6) : (stepX (l, false)).2.2 = true := by
  have e1 : numsX (l, false) 2 = (List.replicate 2 0, l, true) := numsX_no (by intro q; have : 3 * 2 ≤ l.length := q.2; omega)
  simp only [stepX, e1]
  exact valX_badS _ rfl
theorem step_noval {l : List UInt8} (h6 : 6 ≤ l.length) (h : ¬ (16 ≤ (l.drop 6).length ∧ valOk (l.drop 6) = true)) : (stepX (l, false)).2.2 = true := by
  have e1 : numsX (l, false) 2 = (ints3 l 2, l.drop 6, false) := numsX_yes rfl (by show 3 * 2 ≤ l.length; omega)
  have e2 : valX (l.drop 6, false) = ((0, 0), l.drop 6, true) := valX_no (fun q => h q.2)
  simp only [stepX, e1, e2]

theorem valX_w (s : RState) : (valX s).1.1 < 18446744073709551616 ∧ (valX s).1.2 < 18446744073709551616 := by
  by_cases h : s.2 = false ∧ 16 ≤ s.1.length ∧ valOk s.1 = true
  · rw [valX_yes h.1 h.2.1 h.2.2]
    exact ⟨getN_lt64 _ (by simp; omega), getN_lt64 _ (by simp; omega)⟩
  · rw [valX_no h]
    exact ⟨Nat.zero_lt_succ _, Nat.zero_lt_succ _⟩

end Go.Proofs.Ytbhjdapkhcgmlaa
