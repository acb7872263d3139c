import Derived.Test.YticnofemjnpjoaaPtQ

set_option linter.unusedSimpArgs false
set_option linter.unusedVariables false
set_option linter.unnecessarySimpa false

namespace Go.Proofs.Yticnofemjnpjoaa
open Go.RowKit

attribute [local go_sem] run_store_complex

/-! The law's own deal and commit. -/

set_option maxHeartbeats 4000000 in
theorem deal_c (tx bg en : Int) (A : Option Addr) (n c : Nat) (w : World) :
    Calls Try.prog 11 #[.int .i64 tx, .int .i64 bg, .int .i64 en, .slice A n c] w fun e w' => e = .returned (.agg #[.int .i64 1, .int .i64 1, .int .i64 tx, .int .i64 bg, .int .i64 en, .int .i64 1, .slice A n c]) ∧ Below w.heap.size w w' := by
  have hb := (Below.refl w.heap.size w).alloc (Nat.le_refl _) (.cells #[.int .i64 1, .int .i64 1, .int .i64 tx, .int .i64 bg, .int .i64 en, .int .i64 1, .slice A n c] 33)
  have hr := heap_alloc_new w (.cells #[.int .i64 1, .int .i64 1, .int .i64 tx, .int .i64 bg, .int .i64 en, .int .i64 1, .slice A n c] 33)
  go_enter Try.func11, Try.ntmps11
  go_wp2_with fail
  generalize w.alloc (.cells #[.int .i64 1, .int .i64 1, .int .i64 tx, .int .i64 bg, .int .i64 en, .int .i64 1, .slice A n c] 33) = W0 at *
  obtain ⟨x0, x1, x2, x3, x4, x5, x6, xz⟩ := row7' hr
  refine bodyPost_ret (by simp [results, Try.results11, go_sem, x0, x1, x2, x3, x4, x5, x6]; try rfl) rfl ?_
  exact ⟨rfl, hb⟩

set_option maxHeartbeats 4000000 in
theorem commit_c (ls tx : Int) (re im : Nat) (w : World) :
    Calls Try.prog 12 #[.int .i64 ls, .int .i64 tx, .complex .f64 re im] w fun e w' => ∃ B, e = .returned (.agg #[.int .i64 ls, .int .i64 1, .int .i64 1, .int .i64 tx, .slice (some ⟨B, 0, none⟩) 1 1]) ∧ w'.heap[B]? = some (.cells #[.int .i64 0, .int .i64 0, .complex .f64 re im] 62 (0, 0)) ∧ Below w.heap.size w w' := by
  have hb := below2 w (.cells #[.int .i64 ls, .int .i64 1, .int .i64 1, .int .i64 tx, .slice (some ⟨w.heap.size + 1, 0, none⟩) 1 1] 27) (.cells #[.int .i64 0, .int .i64 0, .complex .f64 re im] 62)
  have hr := (Below.heap_alloc (w.alloc (.cells #[.int .i64 ls, .int .i64 1, .int .i64 1, .int .i64 tx, .slice (some ⟨w.heap.size + 1, 0, none⟩) 1 1] 27)) (.cells #[.int .i64 0, .int .i64 0, .complex .f64 re im] 62) w.heap.size (by simp)).trans (heap_alloc_new w (.cells #[.int .i64 ls, .int .i64 1, .int .i64 1, .int .i64 tx, .slice (some ⟨w.heap.size + 1, 0, none⟩) 1 1] 27))
  have hp := heap_alloc2_new w (.cells #[.int .i64 ls, .int .i64 1, .int .i64 1, .int .i64 tx, .slice (some ⟨w.heap.size + 1, 0, none⟩) 1 1] 27) (.cells #[.int .i64 0, .int .i64 0, .complex .f64 re im] 62)
  go_enter Try.func12, Try.ntmps12
  go_wp2_with fail
  generalize (w.alloc (.cells #[.int .i64 ls, .int .i64 1, .int .i64 1, .int .i64 tx, .slice (some ⟨w.heap.size + 1, 0, none⟩) 1 1] 27)).alloc (.cells #[.int .i64 0, .int .i64 0, .complex .f64 re im] 62) = W0 at *
  obtain ⟨x0, x1, x2, x3, x4, xz⟩ := row5 hr
  refine bodyPost_ret (by simp [results, Try.results12, go_sem, x0, x1, x2, x3, x4]; try rfl) rfl ?_
  exact ⟨w.heap.size + 1, rfl, hp, hb⟩

def V5 : Nat := 4617315517961601024
def V6 : Nat := 4618441417868443648
def E1 : List DeedV := [⟨true, 0, 0, 4617315517961601024, 0⟩]
def E2 : List DeedV := [⟨false, 0, 0, 4617315517961601024, 0⟩, ⟨true, 0, 0, 4618441417868443648, 0⟩, ⟨false, 0, 0, 4618441417868443648, 0⟩]

theorem rdE1 {w : World} {b : Nat} (h : w.heap[b]? = some (.cells #[.bool true, .int .i64 0, .int .i64 0, .complex .f64 4617315517961601024 0] 37 (0, 0))) : RdE w b E1 := by
  intro i d hd
  match i with
  | 0 => simp [E1] at hd; subst hd; exact ⟨(cell_of_row w b 0 _ _ _ h).trans rfl, (cell_of_row w b 1 _ _ _ h).trans rfl, (cell_of_row w b 2 _ _ _ h).trans rfl, (cell_of_row w b 3 _ _ _ h).trans rfl⟩
  | i + 1 => simp [E1] at hd

theorem rdE2 {w : World} {b : Nat} (h : w.heap[b]? = some (.cells #[.bool false, .int .i64 0, .int .i64 0, .complex .f64 4617315517961601024 0, .bool true, .int .i64 0, .int .i64 0, .complex .f64 4618441417868443648 0, .bool false, .int .i64 0, .int .i64 0, .complex .f64 4618441417868443648 0] 37 (0, 0))) : RdE w b E2 := by
  intro i d hd
  match i with
  | 0 => simp [E2] at hd; subst hd; exact ⟨(cell_of_row w b 0 _ _ _ h).trans rfl, (cell_of_row w b 1 _ _ _ h).trans rfl, (cell_of_row w b 2 _ _ _ h).trans rfl, (cell_of_row w b 3 _ _ _ h).trans rfl⟩
  | 1 => simp [E2] at hd; subst hd; exact ⟨(cell_of_row w b 4 _ _ _ h).trans rfl, (cell_of_row w b 5 _ _ _ h).trans rfl, (cell_of_row w b 6 _ _ _ h).trans rfl, (cell_of_row w b 7 _ _ _ h).trans rfl⟩
  | 2 => simp [E2] at hd; subst hd; exact ⟨(cell_of_row w b 8 _ _ _ h).trans rfl, (cell_of_row w b 9 _ _ _ h).trans rfl, (cell_of_row w b 10 _ _ _ h).trans rfl, (cell_of_row w b 11 _ _ _ h).trans rfl⟩
  | i + 3 => simp [E2] at hd

def DL (e1 e2 : Nat) : List DealV := [⟨1, 1, 1, 1, 3, 1, some ⟨e1, 0, none⟩, 1, 1⟩, ⟨1, 1, 2, 4, 6, 1, some ⟨e2, 0, none⟩, 3, 3⟩]

theorem rdDL {w : World} {b e1 e2 : Nat} (h : w.heap[b]? = some (.cells #[.int .i64 1, .int .i64 1, .int .i64 1, .int .i64 1, .int .i64 3, .int .i64 1, .slice (some ⟨e1, 0, none⟩) 1 1, .int .i64 1, .int .i64 1, .int .i64 2, .int .i64 4, .int .i64 6, .int .i64 1, .slice (some ⟨e2, 0, none⟩) 3 3] 33 (0, 0))) : RdD w b (DL e1 e2) := by
  intro i d hd
  match i with
  | 0 => simp [DL] at hd; subst hd; exact ⟨(cell_of_row w b 0 _ _ _ h).trans rfl, (cell_of_row w b 1 _ _ _ h).trans rfl, (cell_of_row w b 2 _ _ _ h).trans rfl, (cell_of_row w b 3 _ _ _ h).trans rfl, (cell_of_row w b 4 _ _ _ h).trans rfl, (cell_of_row w b 5 _ _ _ h).trans rfl, (cell_of_row w b 6 _ _ _ h).trans rfl⟩
  | 1 => simp [DL] at hd; subst hd; exact ⟨(cell_of_row w b 7 _ _ _ h).trans rfl, (cell_of_row w b 8 _ _ _ h).trans rfl, (cell_of_row w b 9 _ _ _ h).trans rfl, (cell_of_row w b 10 _ _ _ h).trans rfl, (cell_of_row w b 11 _ _ _ h).trans rfl, (cell_of_row w b 12 _ _ _ h).trans rfl, (cell_of_row w b 13 _ _ _ h).trans rfl⟩
  | i + 2 => simp [DL] at hd

theorem rdPut {w : World} {b re : Nat} (h : w.heap[b]? = some (.cells #[.int .i64 0, .int .i64 0, .complex .f64 re 0] 62 (0, 0))) : RdP w b [⟨0, 0, re, 0⟩] := by
  intro i d hd
  match i with
  | 0 => simp at hd; subst hd; exact ⟨(cell_of_row w b 0 _ _ _ h).trans rfl, (cell_of_row w b 1 _ _ _ h).trans rfl, (cell_of_row w b 2 _ _ _ h).trans rfl⟩
  | i + 1 => simp at hd

theorem rdB2 {w : World} {b p1 p2 re1 re2 : Nat} {t1 t2 : Int} (h : w.heap[b]? = some (.cells #[.int .i64 1, .int .i64 1, .int .i64 1, .int .i64 t1, .slice (some ⟨p1, 0, none⟩) 1 1, .int .i64 2, .int .i64 1, .int .i64 1, .int .i64 t2, .slice (some ⟨p2, 0, none⟩) 1 1] 27 (0, 0)))
    (h1 : RdP w p1 [⟨0, 0, re1, 0⟩]) (h2 : RdP w p2 [⟨0, 0, re2, 0⟩]) : RdB w b [⟨1, t1, p1, 1, re1, 0⟩, ⟨2, t2, p2, 1, re2, 0⟩] := by
  intro i d hd
  match i with
  | 0 => simp at hd; subst hd; exact ⟨(cell_of_row w b 0 _ _ _ h).trans rfl, (cell_of_row w b 1 _ _ _ h).trans rfl, (cell_of_row w b 2 _ _ _ h).trans rfl, (cell_of_row w b 3 _ _ _ h).trans rfl, (cell_of_row w b 4 _ _ _ h).trans rfl, h1⟩
  | 1 => simp at hd; subst hd; exact ⟨(cell_of_row w b 5 _ _ _ h).trans rfl, (cell_of_row w b 6 _ _ _ h).trans rfl, (cell_of_row w b 7 _ _ _ h).trans rfl, (cell_of_row w b 8 _ _ _ h).trans rfl, (cell_of_row w b 9 _ _ _ h).trans rfl, h2⟩
  | i + 2 => simp at hd

theorem RdB.first {w : World} {b : Nat} {x : BatV} {r : List BatV} (h : RdB w b (x :: r)) : RdB w b [x] := by
  intro i d hd
  match i with
  | 0 => exact h 0 d (by simpa using hd)
  | i + 1 => simp at hd

/-- What stands ahead of the law's questions: the deals, the log, the log turned about, the deeds. -/
structure Start (w : World) (bD bL bK e1 e2 p1 p2 p3 p4 : Nat) : Prop where
  d : RdD w bD (DL e1 e2)
  l : RdB w bL [⟨1, 1, p1, 1, 4617315517961601024, 0⟩, ⟨2, 2, p2, 1, 4618441417868443648, 0⟩]
  k : RdB w bK [⟨1, 2, p3, 1, 4618441417868443648, 0⟩, ⟨2, 1, p4, 1, 4617315517961601024, 0⟩]
  e1 : RdE w e1 E1
  e2 : RdE w e2 E2

variable {w w' : World} {bD bL bK e1 e2 p1 p2 p3 p4 : Nat}

theorem Start.below (h : Start w bD bL bK e1 e2 p1 p2 p3 p4) (hb : Below w.heap.size w w') : Start w' bD bL bK e1 e2 p1 p2 p3 p4 := ⟨h.d.below hb, h.l.below hb, h.k.below hb, h.e1.below hb, h.e2.below hb⟩

theorem Start.fit1 (h : Start w bD bL bK e1 e2 p1 p2 p3 p4) (ls : Int) (p : Nat) : Fit w (DL e1 e2) ⟨ls, 1, p, 1, 4617315517961601024, 0⟩ E1 :=
  ⟨0, 1, 1, 1, 1, 3, 1, e1, 1, 1, rfl, rfl, h.e1, rfl, by omega, by
    intro k d hd hw
    match k with
    | 0 => simp [E1] at hd; subst hd; exact ⟨rfl, rfl, by simp⟩
    | k + 1 => simp [E1] at hd, by
    intro x hx; simp [E1] at hx; subst hx; exact ⟨rfl, rfl⟩, rfl⟩

theorem Start.fit2 (h : Start w bD bL bK e1 e2 p1 p2 p3 p4) (ls : Int) (p : Nat) : Fit w (DL e1 e2) ⟨ls, 2, p, 1, 4618441417868443648, 0⟩ E2 :=
  ⟨1, 1, 1, 2, 4, 6, 1, e2, 3, 3, rfl, rfl, h.e2, rfl, by omega, by
    intro k d hd hw
    match k with
    | 0 => simp [E2] at hd; subst hd; simp at hw
    | 1 => simp [E2] at hd; subst hd; exact ⟨rfl, rfl, by simp [E2]⟩
    | 2 => simp [E2] at hd; subst hd; simp at hw
    | k + 3 => simp [E2] at hd, by
    intro x hx; simp [E2] at hx; rcases hx with rfl | rfl | rfl <;> exact ⟨rfl, rfl⟩, rfl⟩

theorem same55 : sameV (4617315517961601024, 0) (4617315517961601024, 0) = true := by decide +kernel
theorem same66 : sameV (4618441417868443648, 0) (4618441417868443648, 0) = true := by decide +kernel
theorem same05 : sameV (0, 0) (4617315517961601024, 0) = false := by decide +kernel

theorem serial_yes : serialM (0, 0) [(⟨1, 1, p1, 1, 4617315517961601024, 0⟩, E1), (⟨2, 2, p2, 1, 4618441417868443648, 0⟩, E2)] = true := by
  simp [serialM, readsM, E1, E2, same55, same66]

theorem serial_no : serialM (0, 0) [(⟨1, 2, p3, 1, 4618441417868443648, 0⟩, E2), (⟨2, 1, p4, 1, 4617315517961601024, 0⟩, E1)] = false := by
  simp [serialM, readsM, E2, same05]

theorem done_DL : Done (DL e1 e2) := by
  intro d hd; simp [DL] at hd
  rcases hd with rfl | rfl
  · exact ⟨rfl, rfl, rfl, 1, by omega, rfl⟩
  · exact ⟨rfl, rfl, rfl, 2, by omega, rfl⟩

theorem txs_l : Txs [⟨1, 1, p1, 1, 4617315517961601024, 0⟩, ⟨2, 2, p2, 1, 4618441417868443648, 0⟩] [1, 2] := by
  refine ⟨rfl, by decide, by decide, fun i d hd => ?_⟩
  match i with
  | 0 => simp at hd; subst hd; exact ⟨1, rfl, rfl⟩
  | 1 => simp at hd; subst hd; exact ⟨2, rfl, rfl⟩
  | i + 2 => simp at hd

theorem txs_k : Txs [⟨1, 2, p3, 1, 4618441417868443648, 0⟩, ⟨2, 1, p4, 1, 4617315517961601024, 0⟩] [2, 1] := by
  refine ⟨rfl, by decide, by decide, fun i d hd => ?_⟩
  match i with
  | 0 => simp at hd; subst hd; exact ⟨2, rfl, rfl⟩
  | 1 => simp at hd; subst hd; exact ⟨1, rfl, rfl⟩
  | i + 2 => simp at hd

theorem txs_1 : Txs [⟨1, 1, p1, 1, 4617315517961601024, 0⟩] [1] := by
  refine ⟨rfl, by decide, by decide, fun i d hd => ?_⟩
  match i with
  | 0 => simp at hd; subst hd; exact ⟨1, rfl, rfl⟩
  | i + 1 => simp at hd

theorem told_yes : toldM [1, 2] (DL e1 e2) = true := by simp [toldM, DL]
theorem told_no : toldM [1] (DL e1 e2) = false := by simp [toldM, DL]
theorem order_yes : orderM (fun t => t - 1) (DL e1 e2) (DL e1 e2) = true := by simp [orderM, orderIn, DL]
theorem order_no : orderM (fun t => 2 - t) (DL e1 e2) (DL e1 e2) = false := by simp [orderM, orderIn, DL]
theorem find_yes : findFrom 1 1 2 0 (DL e1 e2) = 1 := by simp [findFrom, DL, ofB]
theorem pos_l : ∀ d ∈ DL e1 e2, ([1, 2] : List Nat)[(fun t => t - 1) d.tx.toNat]? = some d.tx.toNat := by
  intro d hd; simp [DL] at hd; rcases hd with rfl | rfl <;> rfl
theorem pos_k : ∀ d ∈ DL e1 e2, ([2, 1] : List Nat)[(fun t => 2 - t) d.tx.toNat]? = some d.tx.toNat := by
  intro d hd; simp [DL] at hd; rcases hd with rfl | rfl <;> rfl

end Go.Proofs.Yticnofemjnpjoaa
