import Derived.Test.YtbhjdapkhcgmlaaMsgX
import Derived.Handy
import Derived.Deep.Cut

set_option linter.unusedSimpArgs false
set_option linter.unusedVariables false
set_option linter.unnecessarySimpa false

namespace Go.Proofs.Ytbhjdapkhcgmlaa
open Go.RowKit

attribute [local go_sem] run_store_complex

/-! msg.Read of any bytes. -/

structure MsgM where
  k : Int
  pg : Int
  ob : Int
  tx : Int
  cp : Int
  ow : Int
  wr : Bool
  ps : List PutV
  v0 : Nat × Nat
  v1 : Nat × Nat
  v2 : Nat × Nat
  v3 : Nat × Nat

def noM : MsgM := ⟨0, 0, 0, 0, 0, 0, false, [], (0, 0), (0, 0), (0, 0), (0, 0)⟩
def mcells (m : MsgM) (A : Option Addr) (c : Nat) : Array Value := #[.int .i64 m.k, .int .i64 m.pg, .int .i64 m.ob, .int .i64 m.tx, .int .i64 m.cp, .int .i64 m.ow, .bool m.wr, .slice A m.ps.length c, .complex .f64 m.v0.1 m.v0.2, .complex .f64 m.v1.1 m.v1.2, .complex .f64 m.v2.1 m.v2.2, .complex .f64 m.v3.1 m.v3.2]
def mright (m : MsgM) : Bool := rightM m.k m.pg m.ob m.tx m.cp m.ow m.wr m.ps

/-- The message behind the numbers h, by the reader's state. -/
def bodyX (h : List Int) (s : RState) : MsgM × RState :=
  let p := putsX s (h.getD 7 0).toNat
  if h.getD 0 0 = 5 then (⟨h.getD 0 0, h.getD 1 0, h.getD 2 0, h.getD 3 0, h.getD 4 0, h.getD 5 0, h.getD 6 0 == 1, p.1, atV p.2 0, atV p.2 1, atV p.2 2, atV p.2 3⟩, afterV p.2 4)
  else (⟨h.getD 0 0, h.getD 1 0, h.getD 2 0, h.getD 3 0, h.getD 4 0, h.getD 5 0, h.getD 6 0 == 1, p.1, (0, 0), (0, 0), (0, 0), (0, 0)⟩, p.2)
def readO (b : List UInt8) : Option MsgM :=
  let h := numsX (b, false) 8
  if 1 < h.1.getD 6 0 ∨ 24 < h.1.getD 7 0 then none
  else if (bodyX h.1 h.2).2.2 = true ∨ 0 < (bodyX h.1 h.2).2.1.length ∨ mright (bodyX h.1 h.2).1 = false then none else some (bodyX h.1 h.2).1
def readM (b : List UInt8) : MsgM := (readO b).getD noM
def readE (b : List UInt8) : Int := if (readO b).isSome then 0 else 101
theorem read_no {b : List UInt8} (h : readO b = none) : readM b = noM ∧ readE b = 101 := by unfold readM readE; rw [h]; exact ⟨rfl, rfl⟩
theorem read_yes {b : List UInt8} {m : MsgM} (h : readO b = some m) : readM b = m ∧ readE b = 0 := by unfold readM readE; rw [h]; exact ⟨rfl, rfl⟩

theorem eight {l : List Int} (h : l.length = 8) : ∃ a b c d e f g i, l = [a, b, c, d, e, f, g, i] := by
  match l, h with
  | [a, b, c, d, e, f, g, i], _ => exact ⟨a, b, c, d, e, f, g, i, rfl⟩
theorem two {l : List Int} (h : l.length = 2) : ∃ a b, l = [a, b] := by
  match l, h with
  | [a, b], _ => exact ⟨a, b, rfl⟩

theorem numsX_bound (s : RState) (m : Nat) : ∀ x ∈ (numsX s m).1, 0 ≤ x ∧ x ≤ 16777215 := by
  unfold numsX
  split
  · rename_i h
    intro x hx
    simp only [ints3, List.mem_map, List.mem_range] at hx
    obtain ⟨k, hk, rfl⟩ := hx
    have := getN_lt24 _ (mid3 s.1 k (by omega))
    omega
  · intro x hx
    have := List.eq_of_mem_replicate hx
    omega

theorem putsX_small (s : RState) : ∀ k, Small (putsX s k).1
  | 0 => fun p hp => by simp [putsX] at hp
  | k + 1 => fun p hp => by
    simp only [putsX, List.mem_append, List.mem_singleton] at hp
    rcases hp with hp | rfl
    · exact putsX_small s k p hp
    · have hb := numsX_bound (putsX s k).2 2
      obtain ⟨x, y, e⟩ := two (numsX_length (putsX s k).2 2)
      rw [e] at hb
      have h1 := hb x (by simp)
      have h2 := hb y (by simp)
      simp only [stepX, e]
      exact ⟨h1.1, h1.2, h2.1, h2.2⟩

/-- What the Read's puts may lie in: the result's box, the message's, their own. -/
def KP (R P : Nat) (v : Value) : Nat → Prop := fun j => j = R ∨ j = P ∨ v.ownBlock = some j

theorem RdQ.grown {K K' : Nat → Prop} {w w' : World} {rb : Nat} {s : RState} {row : Option Nat} (h : RdQ K w rb s) (hg : w.grownBy w' row) (hr : ∀ k, row = some k → K k) (hrb : row ≠ some rb) (hK : ∀ j, j < w.heap.size → K' j → K j) : RdQ K' w' rb s := by
  have u : Upto (fun j => row = some j) w w' := (Upto.refl _ w).grown hg (fun k e _ => e)
  exact (h.widen (K' := fun j => K j ∨ K' j) (fun j hj hk => hk.elim id (hK j hj))).upto u (fun j e => .inl (hr j e)) hrb |>.ex.elim fun A h1 => h1.elim fun c h2 => ⟨A, c, h2.1, h2.2.1, h2.2.2.1, h2.2.2.2.1, h2.2.2.2.2.1, h2.2.2.2.2.2.1, fun a e => ⟨fun k => (h2.2.2.2.2.2.2 a e).1 (.inr k), (h2.2.2.2.2.2.2 a e).2⟩⟩

/-- One more put. -/
theorem put_fin {w w5 w7 : World} {P : Nat} {A' : Option Addr} {k c' g cap : Nat} {ps : List PutV} {p : PutV} {s : RState} {zr : Array Value} {T : TypeId} {v0 v1 v2 v3 v4 v5 v6 v8 v9 v10 v11 : Value}
    (hRP : w.heap.size + 1 < P) (hb5 : Below w.heap.size w w5) (hq5 : RdQ (KP w.heap.size P (.slice A' k c')) w5 (w.heap.size + 1) s)
    (hp5 : w5.heap[P]? = some (.cells #[v0, v1, v2, v3, v4, v5, v6, .slice A' k c', v8, v9, v10, v11] T (0, 0))) (hz5 : w5.heap[w.heap.size]? = some (.cells zr T (0, 0)))
    (ho5 : OwP w5 (P + 1) A' k ps c')
    (ho7 : w7.ownsRow (P + 1) 53 3 (.slice (some ⟨g, 0, none⟩) (k + 1) cap) (k + 1) (pcells ps ++ pcl p))
    (hg7 : (w5.alloc (.cells (pcl p).toArray 53)).grownBy w7 (Value.slice A' k c').ownBlock)
    (hat7 : (Value.slice A' k c').ownBlock = some g ∨ g = (w5.alloc (.cells (pcl p).toArray 53)).heap.size) :
    RdQ (KP w.heap.size P (.slice (some ⟨g, 0, none⟩) (k + 1) cap)) (w7.setCell ⟨P, 7, none⟩ (.slice (some ⟨g, 0, none⟩) (k + 1) cap)) (w.heap.size + 1) s ∧
    (w7.setCell ⟨P, 7, none⟩ (.slice (some ⟨g, 0, none⟩) (k + 1) cap)).heap[P]? = some (.cells #[v0, v1, v2, v3, v4, v5, v6, .slice (some ⟨g, 0, none⟩) (k + 1) cap, v8, v9, v10, v11] T (0, 0)) ∧
    OwP (w7.setCell ⟨P, 7, none⟩ (.slice (some ⟨g, 0, none⟩) (k + 1) cap)) (P + 1) (some ⟨g, 0, none⟩) (k + 1) (ps ++ [p]) cap ∧
    (w7.setCell ⟨P, 7, none⟩ (.slice (some ⟨g, 0, none⟩) (k + 1) cap)).heap[w.heap.size]? = some (.cells zr T (0, 0)) ∧
    Below w.heap.size w (w7.setCell ⟨P, 7, none⟩ (.slice (some ⟨g, 0, none⟩) (k + 1) cap)) := by
  have hP5 := (Array.getElem?_eq_some_iff.1 hp5).1
  have ha := (Below.refl w5.heap.size w5).alloc (Nat.le_refl _) (.cells (pcl p).toArray 53)
  have hsz : (w5.alloc (.cells (pcl p).toArray 53)).heap.size = w5.heap.size + 1 := by simp
  generalize w5.alloc (.cells (pcl p).toArray 53) = w6 at *
  have hown : ∀ j, (Value.slice A' k c').ownBlock = some j → P + 1 ≤ j ∧ j < w5.heap.size := ho5.lt
  have hg1 : P + 1 ≤ g := by
    rcases hat7 with e | e
    · exact (hown g e).1
    · omega
  have u7 : Upto (fun j => (Value.slice A' k c').ownBlock = some j) w5 w7 := ((Upto.of_below (K := fun j => (Value.slice A' k c').ownBlock = some j) ha).grown hg7 (fun j e _ => e))
  have us : Upto (fun j => j = P) w7 (w7.setCell ⟨P, 7, none⟩ (.slice (some ⟨g, 0, none⟩) (k + 1) cap)) := (Upto.refl (fun j => j = P) w7).setCell (p := ⟨P, 7, none⟩) rfl _
  have hs7 := u7.size
  refine ⟨?_, ?_, ?_, ?_, ?_⟩
  · have q6 : RdQ (KP w.heap.size P (.slice A' k c')) w6 (w.heap.size + 1) s := hq5.upto (Upto.of_below (K := fun _ => False) ha) (fun _ e => e.elim) id
    have q6' : RdQ (fun j => KP w.heap.size P (.slice A' k c') j ∨ j = w5.heap.size + 1) w6 (w.heap.size + 1) s := q6.widen (fun j hj hk => hk.elim id (fun e => by omega))
    have q7 : RdQ (KP w.heap.size P (.slice (some ⟨g, 0, none⟩) (k + 1) cap)) w7 (w.heap.size + 1) s := by
      refine q6'.grown hg7 (fun j e => .inl (.inr (.inr e))) (fun e => by have := (hown _ e).1; omega) ?_
      intro j _ hk
      rcases hk with e | e | e
      · exact .inl (.inl e)
      · exact .inl (.inr (.inl e))
      · have e2 : some g = some j := e
        injection e2 with e2
        subst e2
        rcases hat7 with e3 | e3
        · exact .inl (.inr (.inr e3))
        · exact .inr (by omega)
    exact q7.upto us (fun j e => .inr (.inl e)) (by omega)
  · have h7 := (u7.block P hP5 (fun e => by have := (hown _ e).1; omega)).trans hp5
    exact row_set h7 7 _
  · have h := ho7
    rw [← pcells_snoc] at h
    exact OwP.upto h us (fun j e => by have e2 : some g = some j := e; injection e2 with e2; omega)
  · exact (us.block w.heap.size (by omega) (by omega)).trans ((u7.block w.heap.size (by omega) (fun e => by have := (hown _ e).1; omega)).trans hz5)
  · exact (hb5.trans (u7.below hb5.size (fun j hj e => by have := (hown _ e).1; omega))).trans (us.below (by have := hb5.size; omega) (fun j hj e => by omega))

end Go.Proofs.Ytbhjdapkhcgmlaa

namespace Go.Proofs.Ytbhjdapkhcgmlaa
open Go.RowKit

/-! The row of a message with so many values. -/

def rowW (pre : List Value) (s2 : RState) (j : Nat) : Array Value := (pre ++ [if 0 < j then Value.complex .f64 (atV s2 0).1 (atV s2 0).2 else Value.complex .f64 0 0, if 1 < j then Value.complex .f64 (atV s2 1).1 (atV s2 1).2 else Value.complex .f64 0 0, if 2 < j then Value.complex .f64 (atV s2 2).1 (atV s2 2).2 else Value.complex .f64 0 0, if 3 < j then Value.complex .f64 (atV s2 3).1 (atV s2 3).2 else Value.complex .f64 0 0]).toArray
theorem rowW_set (v0 v1 v2 v3 v4 v5 v6 v7 : Value) (s2 : RState) (j : Nat) (hj : j < 4) : (rowW [v0, v1, v2, v3, v4, v5, v6, v7] s2 j).setIfInBounds (8 + j) (.complex .f64 (atV s2 j).1 (atV s2 j).2) = rowW [v0, v1, v2, v3, v4, v5, v6, v7] s2 (j + 1) := by
  obtain rfl | rfl | rfl | rfl : j = 0 ∨ j = 1 ∨ j = 2 ∨ j = 3 := by omega
  all_goals rfl
theorem rowW_at {w : World} {P : Nat} {T : TypeId} {v0 v1 v2 v3 v4 v5 v6 v7 : Value} {s2 : RState} {j i : Nat} (h : w.heap[P]? = some (.cells (rowW [v0, v1, v2, v3, v4, v5, v6, v7] s2 j) T (0, 0))) (hi : i < 4) : ∃ x y, w.cell? ⟨P, 8 + i, none⟩ = some (.complex .f64 x y) := by
  rw [cell_of_row w P (8 + i) _ _ _ h]
  obtain rfl | rfl | rfl | rfl : i = 0 ∨ i = 1 ∨ i = 2 ∨ i = 3 := by omega
  · by_cases hc : 0 < j
    · exact ⟨(atV s2 0).1, (atV s2 0).2, by simp [rowW, hc]⟩
    · exact ⟨0, 0, by simp [rowW, hc]⟩
  · by_cases hc : 1 < j
    · exact ⟨(atV s2 1).1, (atV s2 1).2, by simp [rowW, hc]⟩
    · exact ⟨0, 0, by simp [rowW, hc]⟩
  · by_cases hc : 2 < j
    · exact ⟨(atV s2 2).1, (atV s2 2).2, by simp [rowW, hc]⟩
    · exact ⟨0, 0, by simp [rowW, hc]⟩
  · by_cases hc : 3 < j
    · exact ⟨(atV s2 3).1, (atV s2 3).2, by simp [rowW, hc]⟩
    · exact ⟨0, 0, by simp [rowW, hc]⟩

end Go.Proofs.Ytbhjdapkhcgmlaa
