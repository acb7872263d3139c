import Derived.Test.YteoafaofiohefaaNetM
namespace Go.Proofs.Yteoafaofiohefaa
open Go.RowKit

/-! net.Late: no frame there; one more frame that lies already. -/

set_option maxHeartbeats 4000000 in
theorem Late_not (n : Addr) (k i : Int) (w : World) (hc : Calls Try.prog 26 #[.pointer (some n), .int .i64 k, .int .i64 i] w fun e w' => e = .returned (.tuple #[.pointer none, .agg #[.slice none 0 0, .bool false], .bool false]) ∧ Below w.heap.size w w') :
    Calls Try.prog 13 #[.pointer (some n), .int .i64 k, .int .i64 i] w fun e w' => e = .returned (.bool false) ∧ Below w.heap.size w w' := by
  have HC := Lib.hid hc
  clear hc
  go_enter Try.func13, Try.ntmps13
  go_wp2_with fail
  (with_reducible refine HC.out.mono ?_); rintro e w1 ⟨rfl, hq⟩
  have HQ := Lib.hid (hq.alloc hq.size (.cells #[.slice none 0 0, .bool false] 65))
  clear hq
  go_wp2_with fail
  go_ret
  exact ⟨rfl, HQ.out⟩

/-- One more item on lane k, whose frame lies already. -/
theorem NetAt.put2 {w w6 w7 : World} {B nb : Nat} {V : Nat → Value} {I : Nat → List It} (h : NetAt w B nb V I) {k : Nat} (hk : k < 8) (hroom : (I k).length < 200) (hb : Below w.heap.size w w6) (x : It) (hx : Ow 5 g8 w B x.A x.l x.c) (hxn : ∀ a, x.A = some a → a.block ≠ nb ∧ (V k).ownBlock ≠ some a.block) (hxs : x.l.length ≤ 140737488355328)
    {g cap : Nat} (ho : w7.ownsRow B 65 2 (.slice (some ⟨g, 0, none⟩) ((I k).length + 1) cap) ((I k).length + 1) (lcells (I k) ++ x.cells)) (hg : w6.grownBy w7 (V k).ownBlock) (hat : (V k).ownBlock = some g ∨ w.heap.size ≤ g) :
    NetAt (w7.setCell ⟨nb, k, none⟩ (.slice (some ⟨g, 0, none⟩) ((I k).length + 1) cap)) B nb (upd V k (.slice (some ⟨g, 0, none⟩) ((I k).length + 1) cap)) (upd I k (I k ++ [x])) ∧ Upto (Turn nb (V k)) w (w7.setCell ⟨nb, k, none⟩ (.slice (some ⟨g, 0, none⟩) ((I k).length + 1) cap)) := by
  have u : Upto (fun j => (V k).ownBlock = some j) w w7 := (Upto.of_below hb).grown hg (fun j e _ => e)
  refine h.turn hk u ?_ ?_ (by simp; omega) ?_
  · unfold Lane
    rw [lcells_append, List.length_append]
    simpa [lcells] using ho
  · intro y hy
    rcases List.mem_append.1 hy with hy | hy
    · exact ⟨(h.frame k hk y hy).upto u (fun a e1 e2 => (h.own hk e2).2.2 k hk y hy a e1 rfl), fun a e1 => (h.fr hk hy e1).2, h.short k hk y hy⟩
    · obtain rfl : y = x := by simpa using hy
      exact ⟨hx.upto u (fun a e1 e2 => (hxn a e1).2 e2), fun a e1 => (hxn a e1).1, hxs⟩
  · intro b e
    injection e with e; subst e; exact hat

end Go.Proofs.Yteoafaofiohefaa
