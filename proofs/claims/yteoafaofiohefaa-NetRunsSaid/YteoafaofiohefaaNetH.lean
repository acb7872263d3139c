import Derived.Test.YteoafaofiohefaaNetG
namespace Go.Proofs.Yteoafaofiohefaa
open Go.RowKit

/-! net.take, net.Take. -/

theorem NetAt.upto {w w' : World} {B nb : Nat} {V : Nat → Value} {I : Nat → List It} {K : Nat → Prop} (h : NetAt w B nb V I) (u : Upto K w w') (hn : ¬ K nb) (hl : ∀ j, j < 8 → ∀ b, (V j).ownBlock = some b → ¬ K b) (hf : ∀ j, j < 8 → ∀ x ∈ I j, ∀ a, x.A = some a → ¬ K a.block) : NetAt w' B nb V I :=
  ⟨(u.block nb h.lt hn).trans h.row, h.base, fun k hk => (h.lane k hk).upto u (hl k hk), fun k hk x hx => (h.frame k hk x hx).upto u (hf k hk x hx), h.many, h.short, h.apart⟩

theorem getDel {α : Type} {L : List α} {i : Nat} {x : α} (h : x ∈ L.eraseIdx i) : x ∈ L := List.mem_of_mem_eraseIdx h

/-- One item of lane k is out, the item's own block written beside. -/
theorem NetAt.out {w w2 w3 : World} {B nb g c : Nat} {V : Nat → Value} {I : Nat → List It} (h : NetAt w B nb V I) {k : Nat} (hk : k < 8) (hv : V k = .slice (some ⟨g, 0, none⟩) (I k).length c) (i : Nat) (hb : Below w.heap.size w w2) (u : Upto (fun j => j = g) w2 w3)
    (hl : Lane w3 B (.slice (some ⟨g, 0, none⟩) ((I k).length - 1) c) ((I k).eraseIdx i)) {w4 : World} (u4 : Upto (fun j => w.heap.size ≤ j) (w3.setCell ⟨nb, k, none⟩ (.slice (some ⟨g, 0, none⟩) ((I k).length - 1) c)) w4) :
    NetAt w4 B nb (upd V k (.slice (some ⟨g, 0, none⟩) ((I k).length - 1) c)) (upd I k ((I k).eraseIdx i)) ∧ Upto (Turn nb (V k)) w w4 := by
  have hg : (V k).ownBlock = some g := by rw [hv]; rfl
  have u0 : Upto (fun j => (V k).ownBlock = some j) w w3 := (Upto.of_below hb).trans u (fun j _ e => by rw [hg]; exact congrArg some e.symm)
  have hf : ∀ j, j < 8 → ∀ x ∈ upd I k ((I k).eraseIdx i) j, x ∈ I j := fun j hj x hx => by
    by_cases e : j = k
    · subst e; rw [upd_same] at hx; exact getDel hx
    · rw [upd_ne _ _ _ e] at hx; exact hx
  obtain ⟨t1, t2⟩ := h.turn hk u0 hl (fun x hx => ⟨(h.frame k hk x (getDel hx)).upto u0 (fun a e1 e2 => (h.own hk e2).2.2 k hk x (getDel hx) a e1 rfl), fun a e1 => (h.fr hk (getDel hx) e1).2, h.short k hk x (getDel hx)⟩)
    (Nat.le_trans (List.length_eraseIdx_le _ _) (h.many k hk)) (fun b e => .inl (by rw [hg]; exact e))
  refine ⟨t1.upto u4 (by have := h.lt; omega) ?_ ?_, t2.trans u4 (fun j hj e => by omega)⟩
  · intro j hj b e
    by_cases ej : j = k
    · subst ej; rw [upd_same] at e
      have := (h.own hj (b := b) (by rw [hg]; exact e)).1; omega
    · rw [upd_ne _ _ _ ej] at e
      have := (h.own hj e).1; omega
  · intro j hj x hx a e
    have := (h.fr hj (hf j hj x hx) e).1; omega

end Go.Proofs.Yteoafaofiohefaa
