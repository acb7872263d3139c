import Derived.Test.YteoafaofiohefaaNetI
namespace Go.Proofs.Yteoafaofiohefaa
open Go.RowKit

/-! net.take: a place with no frame; a frame is taken. -/

set_option maxRecDepth 100000 in
set_option maxHeartbeats 8000000 in
theorem take_none (w : World) (B nb : Nat) (V : Nat → Value) (I : Nat → List It) (k : Nat) (h : NetAt w B nb V I) (hk : k < 8) (i : Int) (hi : ¬ (0 ≤ i ∧ i < (I k).length)) :
    Calls Try.prog 26 #[.pointer (some ⟨nb, 0, none⟩), .int .i64 k, .int .i64 i] w fun e w' => e = .returned (.tuple #[.pointer none, .agg #[.slice none 0 0, .bool false], .bool false]) ∧ Below w.heap.size w w' := by
  obtain ⟨A0, c0, hv⟩ := (h.lane k hk).slice
  have hc := h.cell k hk
  rw [hv] at hc
  have hb1 : Below w.heap.size w (w.alloc (.cells #[.slice none 0 0, .bool false] 65)) := (Below.refl _ _).alloc (Nat.le_refl _) _
  have hrow := heap_alloc_new w (.cells #[.slice none 0 0, .bool false] 65)
  have hc1 := (hb1.cell (p := ⟨nb, k, none⟩) h.lt).trans hc
  clear hv hc h
  go_enter Try.func26, Try.ntmps26
  go_wp2_with fail
  generalize w.alloc (.cells #[.slice none 0 0, .bool false] 65) = w1 at *
  obtain ⟨x0, x1, xz⟩ := row2 hrow
  have HB := Lib.hid hb1
  have hat := at_yes nb k (I k).length c0 A0 i hk w1 hc1
  rw [decide_eq_false hi] at hat
  have HAT := Lib.hid hat
  clear hb1 hrow hat hc1
  (with_reducible refine HAT.out.mono ?_); rintro e w2 ⟨rfl, m, rfl⟩
  have t0 := fun v => World.cell?_setCell_same (w1.drewN m) ⟨w.heap.size, 0, none⟩ v x0
  have t1 := fun v => World.cell?_setCell_same (w1.drewN m) ⟨w.heap.size, 1, none⟩ v x1
  have HB2 := Lib.hid (HB.out.trans ((drewN_below w1 m).mono HB.out.size))
  go_wp2_with fail
  refine bodyPost_ret (by simp [results, Try.results26, go_sem, x0, x1]; try rfl) rfl ?_
  exact ⟨rfl, (HB2.out.setCell (p := ⟨w.heap.size, 0, none⟩) (Nat.le_refl _) _).setCell (p := ⟨w.heap.size, 1, none⟩) (Nat.le_refl _) _⟩

theorem NetAt.form {w : World} {B nb : Nat} {V : Nat → Value} {I : Nat → List It} (h : NetAt w B nb V I) {k : Nat} (hk : k < 8) (hp : 0 < (I k).length) :
    ∃ g c cur, V k = .slice (some ⟨g, 0, none⟩) (I k).length c ∧ B ≤ g ∧ w.heap[g]? = some (.cells cur 65 (0, 0)) ∧ cur.size = c * 2 ∧ (I k).length ≤ c ∧ c ≤ maxLen ∧ cur.toList.take ((I k).length * 2) = lcells (I k) := by
  rcases (h.lane k hk).2 with ⟨_, h0⟩ | ⟨g, c, cur, hv, hb, hg, h1, h2, h3, h4⟩
  · omega
  · exact ⟨g, c, cur, hv, hb, hg, h3, h1, h2, h4⟩

theorem NetAt.item {w : World} {g : Nat} {cur : Array Value} {L : List It} (hr : w.heap[g]? = some (.cells cur 65 (0, 0))) (ht : cur.toList.take (L.length * 2) = lcells L) {i : Nat} {x : It} (hx : L[i]? = some x) :
    w.cell? ⟨g, i * 2, none⟩ = some (.slice x.A x.l.length x.c) ∧ w.cell? ⟨g, i * 2 + 1, none⟩ = some (.bool x.s) := by
  have hi := (List.getElem?_eq_some_iff.1 hx).1
  have := lcells_at L i x hx
  rw [← ht, List.getElem?_take_of_lt (by omega), List.getElem?_take_of_lt (by omega)] at this
  exact ⟨by rw [cell_of_row w g _ _ _ _ hr, ← Array.getElem?_toList]; exact this.1, by rw [cell_of_row w g _ _ _ _ hr, ← Array.getElem?_toList]; exact this.2⟩

end Go.Proofs.Yteoafaofiohefaa
