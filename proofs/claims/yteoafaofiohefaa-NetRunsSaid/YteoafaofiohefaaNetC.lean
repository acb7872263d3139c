import Derived.Test.YteoafaofiohefaaNetB
import Derived.Deep.AppendLies
namespace Go.Proofs.Yteoafaofiohefaa
open Go.RowKit

/-! A lane that is turned. -/

def upd {α : Type} (F : Nat → α) (k : Nat) (v : α) (j : Nat) : α := if j = k then v else F j
theorem upd_same {α : Type} (F : Nat → α) (k : Nat) (v : α) : upd F k v k = v := by unfold upd; simp
theorem upd_ne {α : Type} (F : Nat → α) (k : Nat) (v : α) {j : Nat} (h : j ≠ k) : upd F k v j = F j := by unfold upd; simp [h]

/-- What a turn of lane k may write. -/
def Turn (nb : Nat) (v : Value) (j : Nat) : Prop := j = nb ∨ v.ownBlock = some j

variable {w w' : World} {B nb : Nat} {V : Nat → Value} {I : Nat → List It}

theorem NetAt.lt (h : NetAt w B nb V I) : nb < w.heap.size := (Array.getElem?_eq_some_iff.1 h.row).1

/-- A lane's block is no frame's, and not the net's. -/
theorem NetAt.own (h : NetAt w B nb V I) {k : Nat} (hk : k < 8) {b : Nat} (e : (V k).ownBlock = some b) : b < w.heap.size ∧ b ≠ nb ∧ ∀ j, j < 8 → ∀ x ∈ I j, ∀ a, x.A = some a → a.block ≠ b := by
  obtain ⟨-, cur, hc⟩ := (h.lane k hk).typed b e
  refine ⟨(Array.getElem?_eq_some_iff.1 hc).1, ?_, ?_⟩
  · intro e2
    rw [e2, h.row] at hc
    injection hc with hc; injection hc with _ h2 _; exact absurd h2 (by decide)
  · intro j hj x hx a ea e2
    obtain ⟨cur2, hc2⟩ := (h.frame j hj x hx).typed a ea
    rw [e2, hc] at hc2
    injection hc2 with hc; injection hc with _ h2 _; exact absurd h2 (by decide)

theorem NetAt.fr (h : NetAt w B nb V I) {j : Nat} (hj : j < 8) {x : It} (hx : x ∈ I j) {a : Addr} (ea : x.A = some a) : a.block < w.heap.size ∧ a.block ≠ nb := by
  obtain ⟨cur2, hc2⟩ := (h.frame j hj x hx).typed a ea
  refine ⟨(Array.getElem?_eq_some_iff.1 hc2).1, ?_⟩
  intro e2
  rw [e2, h.row] at hc2
  injection hc2 with hc; injection hc with _ h2 _; exact absurd h2 (by decide)

theorem row8 (F : Nat → Value) (k : Nat) (hk : k < 8) (v : Value) : (#[F 0, F 1, F 2, F 3, F 4, F 5, F 6, F 7] : Array Value).setIfInBounds k v = #[upd F k v 0, upd F k v 1, upd F k v 2, upd F k v 3, upd F k v 4, upd F k v 5, upd F k v 6, upd F k v 7] := by
  obtain rfl | rfl | rfl | rfl | rfl | rfl | rfl | rfl : k = 0 ∨ k = 1 ∨ k = 2 ∨ k = 3 ∨ k = 4 ∨ k = 5 ∨ k = 6 ∨ k = 7 := by omega
  all_goals simp [upd]

/-- Lane k's block and its cell in the net are turned: w is what was, w1 behind all but the cell's store. -/
theorem NetAt.turn {w1 : World} (h : NetAt w B nb V I) {k : Nat} (hk : k < 8) (u : Upto (fun j => (V k).ownBlock = some j) w w1) {N : Value} {L : List It}
    (hl : Lane w1 B N L) (hf : ∀ x ∈ L, Ow 5 g8 w1 B x.A x.l x.c ∧ (∀ a, x.A = some a → a.block ≠ nb) ∧ x.l.length ≤ 140737488355328) (hm : L.length ≤ 200) (hat : ∀ b, N.ownBlock = some b → (V k).ownBlock = some b ∨ w.heap.size ≤ b) :
    NetAt (w1.setCell ⟨nb, k, none⟩ N) B nb (upd V k N) (upd I k L) ∧ Upto (Turn nb (V k)) w (w1.setCell ⟨nb, k, none⟩ N) := by
  have hlt := h.lt
  have hr := (u.block nb hlt (fun e => (h.own hk e).2.1 rfl)).trans h.row
  have u1 := (Upto.refl (fun j => j = nb) w1).setCell (p := ⟨nb, k, none⟩) rfl N
  have hNn : ∀ b, N.ownBlock = some b → b ≠ nb := fun b e => by
    rcases hat b e with e2 | e2
    · exact (h.own hk e2).2.1
    · omega
  have hNj : ∀ j, j < 8 → j ≠ k → ∀ b, N.ownBlock = some b → (V j).ownBlock ≠ some b := fun j hj hjk b e e3 => by
    rcases hat b e with e2 | e2
    · exact h.apart j k hj hk hjk b e3 e2
    · have := (h.own hj e3).1; omega
  refine ⟨⟨?_, h.base, ?_, ?_, ?_, ?_, ?_⟩, ?_⟩
  · rw [← row8 V k hk N]; exact row_set hr k N
  · intro j hj
    by_cases e : j = k
    · subst e; rw [upd_same, upd_same]; exact hl.upto u1 hNn
    · rw [upd_ne _ _ _ e, upd_ne _ _ _ e]
      exact ((h.lane j hj).upto u (fun b e1 e2 => h.apart j k hj hk e b e1 e2)).upto u1 (fun b e1 => (h.own hj e1).2.1)
  · intro j hj x hx
    by_cases e : j = k
    · subst e; rw [upd_same] at hx; exact (hf x hx).1.upto u1 (hf x hx).2.1
    · rw [upd_ne _ _ _ e] at hx
      exact ((h.frame j hj x hx).upto u (fun a e1 e2 => (h.own hk e2).2.2 j hj x hx a e1 rfl)).upto u1 (fun a e1 => (h.fr hj hx e1).2)
  · intro j hj
    by_cases e : j = k
    · subst e; rw [upd_same]; exact hm
    · rw [upd_ne _ _ _ e]; exact h.many j hj
  · intro j hj x hx
    by_cases e : j = k
    · subst e; rw [upd_same] at hx; exact (hf x hx).2.2
    · rw [upd_ne _ _ _ e] at hx; exact h.short j hj x hx
  · intro i j hi hj hij b e1 e2
    by_cases ei : i = k
    · subst ei
      rw [upd_same] at e1
      rw [upd_ne _ _ _ (fun e => hij e.symm)] at e2
      exact hNj j hj (fun e => hij e.symm) b e1 e2
    · rw [upd_ne _ _ _ ei] at e1
      by_cases ej : j = k
      · subst ej; rw [upd_same] at e2; exact hNj i hi ei b e2 e1
      · rw [upd_ne _ _ _ ej] at e2; exact h.apart i j hi hj hij b e1 e2
  · exact (u.mono (K' := Turn nb (V k)) (fun j _ e => .inr e)).setCell (.inl rfl) N

/-- One more frame on lane k. -/
theorem NetAt.put {w6 w7 : World} (h : NetAt w B nb V I) {k : Nat} (hk : k < 8) (hroom : (I k).length < 200) (hb : Below w.heap.size w w6) (x : It) (hx : Ow 5 g8 w6 w.heap.size x.A x.l x.c) (hxs : x.l.length ≤ 140737488355328)
    {g cap : Nat} (ho : w7.ownsRow B 65 2 (.slice (some ⟨g, 0, none⟩) ((I k).length + 1) cap) ((I k).length + 1) (lcells (I k) ++ x.cells)) (hg : w6.grownBy w7 (V k).ownBlock) (hat : (V k).ownBlock = some g ∨ w.heap.size ≤ g) :
    NetAt (w7.setCell ⟨nb, k, none⟩ (.slice (some ⟨g, 0, none⟩) ((I k).length + 1) cap)) B nb (upd V k (.slice (some ⟨g, 0, none⟩) ((I k).length + 1) cap)) (upd I k (I k ++ [x])) ∧ Upto (Turn nb (V k)) w (w7.setCell ⟨nb, k, none⟩ (.slice (some ⟨g, 0, none⟩) ((I k).length + 1) cap)) := by
  have u : Upto (fun j => (V k).ownBlock = some j) w w7 := (Upto.of_below hb).grown hg (fun j e _ => e)
  have hB : B ≤ w.heap.size := Nat.le_trans h.base (Nat.le_of_lt h.lt)
  refine h.turn hk u ?_ ?_ (by simp; omega) ?_
  · unfold Lane
    rw [lcells_append, List.length_append]
    simpa [lcells] using ho
  · intro y hy
    rcases List.mem_append.1 hy with hy | hy
    · exact ⟨(h.frame k hk y hy).upto u (fun a e1 e2 => (h.own hk e2).2.2 k hk y hy a e1 rfl), fun a e1 => (h.fr hk hy e1).2, h.short k hk y hy⟩
    · obtain rfl : y = x := by simpa using hy
      refine ⟨(hx.low hB).upto ((Upto.refl _ w6).grown (K := fun j => (V k).ownBlock = some j) hg (fun j e _ => e)) (fun a e1 e2 => ?_), fun a e1 e2 => ?_, hxs⟩
      · have := (hx.lt a e1).1; have := (h.own hk e2).1; omega
      · have := (hx.lt a e1).1; have := h.lt; omega
  · intro b e
    injection e with e; subst e; exact hat

end Go.Proofs.Yteoafaofiohefaa
