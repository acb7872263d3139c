import Derived.Test.YteoafaofiohefaaNetQ
namespace Go.Proofs.Yteoafaofiohefaa
open Go.RowKit

theorem NetAt.set {w w2 : World} {B nb g c : Nat} {V : Nat → Value} {I : Nat → List It} (h : NetAt w B nb V I) {k : Nat} (hk : k < 8) (hv : V k = .slice (some ⟨g, 0, none⟩) (I k).length c) (hb : Below w.heap.size w w2) (i : Nat) (hi : i < (I k).length) (y : It) (hy : Ow 5 g8 w2 w.heap.size y.A y.l y.c) (hys : y.l.length ≤ 140737488355328) :
    NetAt ((w2.setCell ⟨g, i * 2, none⟩ (.slice y.A y.l.length y.c)).setCell ⟨g, i * 2 + 1, none⟩ (.bool y.s)) B nb V (upd I k ((I k).set i y)) ∧ Upto (Turn nb (V k)) w ((w2.setCell ⟨g, i * 2, none⟩ (.slice y.A y.l.length y.c)).setCell ⟨g, i * 2 + 1, none⟩ (.bool y.s)) := by
  have hg : (V k).ownBlock = some g := by rw [hv]; rfl
  have hgo := h.own hk hg
  have u1 := ((Upto.refl (fun j => j = g) w2).setCell (p := ⟨g, i * 2, none⟩) rfl (.slice y.A y.l.length y.c)).setCell (p := ⟨g, i * 2 + 1, none⟩) rfl (.bool y.s)
  have u : Upto (fun j => j = g) w _ := (Upto.of_below (K := fun j => j = g) hb).trans u1 (fun _ _ e => e)
  have hB : B ≤ w.heap.size := Nat.le_trans h.base (Nat.le_of_lt h.lt)
  refine ⟨⟨(u.block nb h.lt (fun e => hgo.2.1 e.symm)).trans h.row, h.base, ?_, ?_, ?_, ?_, h.apart⟩, u.mono (fun j _ e => .inr (by rw [hg, e]))⟩
  · intro j hj
    by_cases e : j = k
    · subst e
      rw [upd_same]
      refine ⟨lcells_length _, ?_⟩
      rcases (h.lane j hj).2 with ⟨_, h0⟩ | ⟨g2, c2, cur, hv2, hB2, hr, h1, h2, h3, h4⟩
      · omega
      · rw [hv] at hv2
        obtain ⟨rfl, rfl⟩ : g = g2 ∧ c = c2 := by injection hv2 with a1 a2 a3; injection a1 with a1; injection a1 with a1; exact ⟨a1, a3⟩
        refine .inr ⟨g, c, _, by rw [hv, List.length_set], hB2, row_set (row_set ((hb.block g hgo.1).trans hr) _ _) _ _, by rw [List.length_set]; exact h1, h2, by simpa using h3, ?_⟩
        rw [List.length_set, lcells_set, ← h4]
        simp [List.take_set]
    · rw [upd_ne _ _ _ e]
      exact (h.lane j hj).upto u (fun b e1 e2 => h.apart j k hj hk e b e1 (by rw [hg, e2]))
  · intro j hj x hx
    have old : x ∈ I j → Ow 5 g8 _ B x.A x.l x.c := fun hm => (h.frame j hj x hm).upto u (fun a e1 e2 => hgo.2.2 j hj x hm a e1 e2)
    by_cases e : j = k
    · subst e; rw [upd_same] at hx
      rcases List.mem_or_eq_of_mem_set hx with hm | rfl
      · exact old hm
      · exact (hy.low hB).upto u1 (fun a e1 e2 => by have := (hy.lt a e1).1; have := hgo.1; omega)
    · rw [upd_ne _ _ _ e] at hx; exact old hx
  · intro j hj
    by_cases e : j = k
    · subst e; rw [upd_same, List.length_set]; exact h.many j hj
    · rw [upd_ne _ _ _ e]; exact h.many j hj
  · intro j hj x hx
    by_cases e : j = k
    · subst e; rw [upd_same] at hx
      rcases List.mem_or_eq_of_mem_set hx with hm | rfl
      · exact h.short j hj x hm
      · exact hys
    · rw [upd_ne _ _ _ e] at hx; exact h.short j hj x hx

end Go.Proofs.Yteoafaofiohefaa
