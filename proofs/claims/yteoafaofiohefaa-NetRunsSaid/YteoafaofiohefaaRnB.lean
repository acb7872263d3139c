import Derived.Test.YteoafaofiohefaaRnA
namespace Go.Proofs.Yteoafaofiohefaa
open Go.RowKit

/-! The reference's At. -/

theorem box8 {w : World} {b : Nat} {V : Nat → Value} {T : TypeId} (h : w.heap[b]? = some (.cells (arr8 V) T (0, 0))) (k : Nat) (hk : k < 8) : w.cell? ⟨b, k, none⟩ = some (V k) ∧ w.frozen? ⟨b, k, none⟩ = false :=
  ⟨(cell_of_row w b k _ _ _ h).trans (arr8_get V k hk), row_thawed h k⟩

/-- The two boxes of At. -/
def atW (w : World) (V : Nat → Value) : World := (w.alloc (.cells #[V 0, V 1, V 2, V 3, V 4, V 5, V 6, V 7] 37)).alloc (.cells #[.slice none 0 0, .bool false] 44)

theorem atW_below (w : World) (V : Nat → Value) : Below w.heap.size w (atW w V) := ((Below.refl _ _).alloc (Nat.le_refl _) _).alloc (by simp) _

theorem atW_cell (w : World) (V : Nat → Value) (k : Nat) (hk : k < 8) : (atW w V).cell? ⟨w.heap.size, k, none⟩ = some (V k) :=
  (box8 (w := atW w V) (b := w.heap.size) (V := V) (((Below.refl _ _).alloc (Nat.le_refl _) _).block w.heap.size (by simp) |>.trans (heap_alloc_new w _)) k hk).1

theorem atW_item (w : World) (V : Nat → Value) : (atW w V).heap[w.heap.size + 1]? = some (.cells #[.slice none 0 0, .bool false] 44 (0, 0)) := by
  have := heap_alloc_new (w.alloc (.cells #[V 0, V 1, V 2, V 3, V 4, V 5, V 6, V 7] 37)) (.cells #[.slice none 0 0, .bool false] 44)
  rw [World.size_alloc] at this
  exact this

set_option maxRecDepth 100000 in
set_option maxHeartbeats 8000000 in
theorem At_bad (V : Nat → Value) (k i : Int) (hk : k < 0 ∨ 8 ≤ k) (w : World) :
    Calls Try.prog 27 #[.agg (arr8 V), .int .i64 k, .int .i64 i] w fun e w' => e = .returned (.tuple #[.agg #[.slice none 0 0, .bool false], .bool false]) ∧ Below w.heap.size w w' := by
  have HB := Lib.hid (atW_below w V)
  unfold arr8
  go_enter Try.func27, Try.ntmps27
  rcases hk with hk | hk
  all_goals
    go_wp2_with fail
    refine bodyPost_ret (by simp [results, Try.results27, go_sem]; try rfl) rfl ?_
    exact ⟨rfl, HB.out⟩

set_option maxRecDepth 100000 in
set_option maxHeartbeats 8000000 in
theorem At_none (V : Nat → Value) (k : Nat) (i : Int) (hk : k < 8) (A : Option Addr) (n c : Nat) (hv : V k = .slice A n c) (hi : i < 0 ∨ (¬ i < 0 ∧ (n : Int) ≤ i)) (w : World) :
    Calls Try.prog 27 #[.agg (arr8 V), .int .i64 k, .int .i64 i] w fun e w' => e = .returned (.tuple #[.agg #[.slice none 0 0, .bool false], .bool false]) ∧ Below w.heap.size w w' := by
  have hb := atW_below w V
  have hc := atW_cell w V k hk
  have hx := atW_item w V
  have h1 : ¬ ((k : Int) < 0) := by omega
  have h2 : ¬ (7 < (k : Int)) := by omega
  rw [hv] at hc
  clear hv
  unfold arr8
  go_enter Try.func27, Try.ntmps27
  unfold atW at hb hc hx
  rcases hi with hi | ⟨hi, hi2⟩
  · have HB := Lib.hid hb
    clear hb hc hx
    go_wp2_with fail
    refine bodyPost_ret (by simp [results, Try.results27, go_sem]; try rfl) rfl ?_
    exact ⟨rfl, HB.out⟩
  · go_wp2_with fail
    refine bodyPost_ret (by simp [results, Try.results27, go_sem]; try rfl) rfl ?_
    exact ⟨rfl, hb⟩

theorem RLane.item {w : World} {B : Nat} {A : Option Addr} {c : Nat} {L : List It} (h : RLane w B (.slice A L.length c) L) {i : Nat} {x : It} (hx : L[i]? = some x) : ∃ g, A = some ⟨g, 0, none⟩ ∧ B ≤ g ∧ g < w.heap.size ∧ w.cell? ⟨g, i * 2, none⟩ = some (.slice x.A x.l.length x.c) ∧ w.cell? ⟨g, i * 2 + 1, none⟩ = some (.bool x.s) := by
  rcases h.2 with ⟨e, hn⟩ | ⟨b, cap, cur, e, hB, hr, _⟩
  · have : L = [] := List.eq_nil_of_length_eq_zero hn
    subst this; simp at hx
  · injection e with e1 _ _
    subst e1
    have hl := lcells_at L i x hx
    have hi : i < L.length := (List.getElem?_eq_some_iff.1 hx).1
    refine ⟨b, rfl, hB, (Array.getElem?_eq_some_iff.1 hr).1, ?_, ?_⟩
    · rw [World.ownsRow.cellAt h (i * 2) (by omega)]; exact hl.1
    · rw [World.ownsRow.cellAt h (i * 2 + 1) (by omega)]; exact hl.2

set_option maxRecDepth 100000 in
set_option maxHeartbeats 8000000 in
theorem At_yes (V : Nat → Value) (k i : Nat) (hk : k < 8) (A : Option Addr) (n c B : Nat) (hv : V k = .slice A n c) (w : World) (L : List It) (hL : L.length = n) (h : RLane w B (.slice A n c) L) (x : It) (hx : L[i]? = some x) (hm : n ≤ 200) :
    Calls Try.prog 27 #[.agg (arr8 V), .int .i64 k, .int .i64 i] w fun e w' => e = .returned (.tuple #[.agg #[.slice x.A x.l.length x.c, .bool x.s], .bool true]) ∧ Below w.heap.size w w' := by
  have hb := atW_below w V
  have hc := atW_cell w V k hk
  have hxr := atW_item w V
  have h1 : ¬ ((k : Int) < 0) := by omega
  have h2 : ¬ (7 < (k : Int)) := by omega
  have hi := (List.getElem?_eq_some_iff.1 hx).1
  rw [← hL] at h
  obtain ⟨g, rfl, _, hg, y0, y1⟩ := h.item hx
  replace y0 := (hb.cell (p := ⟨g, i * 2, none⟩) hg).trans y0
  replace y1 := (hb.cell (p := ⟨g, i * 2 + 1, none⟩) hg).trans y1
  rw [hv] at hc
  have hi0 : i < n := by omega
  have h3 : ¬ ((i : Int) < 0) := by omega
  have h4 : ¬ ((n : Int) ≤ i) := by omega
  clear hv h hx hi hL
  unfold arr8
  go_enter Try.func27, Try.ntmps27
  obtain ⟨x0, x1, xz⟩ := row2 hxr
  have HB := Lib.hid hb
  have t0 := fun v => World.cell?_setCell_same (atW w V) ⟨w.heap.size + 1, 0, none⟩ v x0
  have t1 := fun v => World.cell?_setCell_same (atW w V) ⟨w.heap.size + 1, 1, none⟩ v x1
  unfold atW at HB hc y0 y1 x0 x1 xz t0 t1
  clear hb hxr
  go_wp2_with fail
  refine bodyPost_ret (by simp [results, Try.results27, go_sem]; try rfl) rfl ?_
  exact ⟨rfl, ((Below.refl _ _).alloc (Nat.le_refl _) _).alloc (by simp) _⟩

/-- The reference's net, without its addresses; none of its blocks is one of F's. -/
def RefS (B : Nat) (F : Nat → Prop) (w : World) (V : Nat → Value) (S : Nat → List Fr) : Prop := ∃ I, RefAt B F w V I ∧ S = fun k => (I k).map It.fr

variable {w w' : World} {B : Nat} {F : Nat → Prop} {V : Nat → Value} {I : Nat → List It} {S : Nat → List Fr}

theorem RefS.below (h : RefS B F w V S) (u : Below w.heap.size w w') : RefS B F w' V S := by
  obtain ⟨I, h1, h2⟩ := h
  exact ⟨I, h1.below u, h2⟩
theorem RefS.stp {C : Nat} (h : RefS B F w V S) (u : Stp C w w') : RefS B F w' V S := by
  obtain ⟨I, h1, h2⟩ := h
  exact ⟨I, h1.stp u, h2⟩
theorem RefS.later (h : RefS B F w V S) (G : Nat → Prop) (hG : ∀ b, G b → w.heap.size ≤ b) : RefS B G w V S := by
  obtain ⟨I, h1, h2⟩ := h
  exact ⟨I, h1.later G hG, h2⟩
theorem RefS.upto (h : RefS B F w V S) (u : Upto F w w') : RefS B F w' V S := by
  obtain ⟨I, h1, h2⟩ := h
  exact ⟨I, h1.upto u h1.laneF h1.frameF, h2⟩

/-- The frame at a place, by At. -/
theorem At_u (h : RefS B F w V S) (k i : Int) :
    (atS S k i = none ∧ Calls Try.prog 27 #[.agg (arr8 V), .int .i64 k, .int .i64 i] w fun e w' => e = .returned (.tuple #[.agg #[.slice none 0 0, .bool false], .bool false]) ∧ Below w.heap.size w w') ∨
    ∃ (n j : Nat) (y : It), k = n ∧ n < 8 ∧ i = j ∧ (S n)[j]? = some y.fr ∧ atS S k i = some y.fr ∧ Ow 5 g8 w B y.A y.l y.c ∧ y.l.length ≤ 140737488355328 ∧ (∀ a, y.A = some a → ¬ F a.block) ∧
      Calls Try.prog 27 #[.agg (arr8 V), .int .i64 k, .int .i64 i] w fun e w' => e = .returned (.tuple #[.agg #[.slice y.A y.l.length y.c, .bool y.s], .bool true]) ∧ Below w.heap.size w w' := by
  rcases lane_cases k with hk | ⟨k, rfl, hk⟩
  · exact .inl ⟨atS_bad hk, At_bad V k i hk w⟩
  · obtain ⟨I, h1, rfl⟩ := h
    obtain ⟨A, c, hv, hn, hle⟩ := (h1.lane k hk).slice
    rcases atS_cases (fun k => (I k).map It.fr) k i hk with ⟨e0, hi⟩ | ⟨j, x, rfl, hx, e0⟩
    · exact .inl ⟨e0, At_none V k i hk A (I k).length c hv (by simp at hi; omega) w⟩
    · obtain ⟨y, hy, e1, e2⟩ := map_get hx
      have hm := List.mem_of_getElem? hy
      obtain rfl : y.fr = x := by unfold It.fr; rw [e1, e2]
      exact .inr ⟨k, j, y, rfl, hk, rfl, hx, e0, h1.frame k hk y hm, h1.short k hk y hm, h1.frameF k hk y hm, At_yes V k j hk A (I k).length c B hv w (I k) rfl (by rw [← hv]; exact h1.lane k hk) y hy (h1.many k hk)⟩

end Go.Proofs.Yteoafaofiohefaa
