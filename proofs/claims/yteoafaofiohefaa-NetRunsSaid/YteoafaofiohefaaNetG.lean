import Derived.Test.YteoafaofiohefaaNetF
namespace Go.Proofs.Yteoafaofiohefaa
open Go.RowKit

/-! slices.Delete(lane, i, i+1): the walk. -/

set_option maxRecDepth 100000 in
set_option maxHeartbeats 8000000 in
theorem del_c (w : World) (B g m c : Nat) (L : List It) (cur : Array Value) (hB : B ≤ g) (hr : w.heap[g]? = some (.cells cur 65 (0, 0))) (hs : cur.size = c * 2) (hc : L.length ≤ c) (hm : c ≤ maxLen) (ht : cur.toList.take (L.length * 2) = lcells L) (i : Nat) (hn : L.length = m + 1) (hi : i < m + 1) :
    Calls Try.prog 35 #[.slice (some ⟨g, 0, none⟩) (m + 1) c, .int .i64 i, .int .i64 ((i : Int) + 1)] w fun e w' => e = .returned (.slice (some ⟨g, 0, none⟩) m c) ∧ Lane w' B (.slice (some ⟨g, 0, none⟩) m c) (L.eraseIdx i) ∧ Upto (fun j => j = g) w w' := by
  obtain ⟨i0, hi0, hz0, hz1, hz2⟩ := info_parts infoI
  have hfin := lane_out (w := w.drew) hB hr hs hc hm ht i (by omega)
  rw [hn, Nat.add_sub_cancel] at hfin
  rw [hn] at hc ht
  obtain ⟨news, hnews⟩ : ∃ news, news = lcells (L.drop (i + 1)) := ⟨_, rfl⟩
  have hlen : news.length = (m - i) * 2 := by rw [hnews, lcells_length, List.length_drop, hn]; omega
  have hget : ∀ t u, news[t]? = some u → w.cell? ⟨g, (i + 1) * 2 + t, none⟩ = some u := by
    intro t u hu
    have htl : t < (m - i) * 2 := by rw [← hlen]; exact (List.getElem?_eq_some_iff.1 hu).1
    rw [cell_of_row w g _ _ _ _ hr, ← Array.getElem?_toList]
    rw [hnews, ← lcells_drop, ← ht, List.getElem?_drop, List.getElem?_take_of_lt (by omega)] at hu
    exact hu
  obtain ⟨A, hA, hsrc⟩ : ∃ A : Addr, (if c = i + 1 then some (⟨g, 0, none⟩ : Addr) else some ⟨g, (i + 1) * 2, none⟩) = some A ∧ Hid (∀ t u, news[t]? = some u → w.drew.cell? (A.add t) = some u) := by
    by_cases h : c = i + 1
    · refine ⟨⟨g, 0, none⟩, by simp [h], fun t u hu => ?_⟩
      have h0 : news.length = 0 := by rw [hlen]; omega
      rw [List.length_eq_zero_iff.1 h0] at hu
      simp at hu
    · refine ⟨⟨g, (i + 1) * 2, none⟩, by simp [h], fun t u hu => ?_⟩
      rw [Addr.add_lit]
      exact hget t u hu
  have hin : ∀ j, j < c * 2 → (w.cell? ⟨g, j, none⟩).isSome = true ∧ w.frozen? ⟨g, j, none⟩ = false := fun j hj => ⟨by rw [cell_of_row w g j _ _ _ hr, Array.getElem?_eq_getElem (by omega)]; rfl, row_thawed hr j⟩
  have s2 : Hid (∀ u ∈ news, u.oneCell' = true) := by
    intro u hu
    rw [hnews] at hu
    obtain ⟨x, _, hx⟩ := List.mem_flatMap.1 hu
    exact one_it _ _ _ _ u hx
  have hr1 := setCells_row news (i * 2) w.drew cur hr
  obtain ⟨W1, hW1⟩ : ∃ W1, W1 = w.drew.setCells g (i * 2) news := ⟨_, rfl⟩
  rw [← hW1] at hr1
  have hcl : ∀ ty, (Builtin.clear_ #[56] ty #[.slice (some ⟨g, m * 2, none⟩) 1 (c - m)]).run Try.prog W1 = .ok (.tuple #[]) (W1.setCells g (m * 2) [.slice none 0 0, .bool false]) := fun ty =>
    clear_one W1 ty g (m * 2) (c - m) (fun j hj => by rw [cell_of_row W1 g _ _ _ _ hr1, Array.getElem?_eq_getElem (by rw [over_size]; omega)]; rfl) (fun j _ => row_thawed hr1 _)
  have hup : Upto (fun j => j = g) w (W1.setCells g (m * 2) [.slice none 0 0, .bool false]) := Upto.setCells (K := fun j => j = g) rfl _ _ _ (by rw [hW1]; exact Upto.setCells (K := fun j => j = g) rfl _ _ _ (Upto.refl _ w).drew)
  rw [← hnews, ← hW1] at hfin
  have HFIN := Lib.hid hfin
  have HUP := Lib.hid hup
  have HW1 := Lib.hid hW1
  have HL := Lib.hid hlen
  have HIN := Lib.hid hin
  have HNEWS := Lib.hid hnews
  have HM : Hid (c ≤ 9223372036854775807) := by simp only [maxLen] at hm; unfold Hid; omega
  have hm' := HM.out
  clear hfin hup hW1 hr1 hr hs ht hlen hget hin hnews hm
  go_enter Try.func35, Try.ntmps35
  have hne : ((i : Int) == (i : Int) + 1) = false := by simp; omega
  have hi1 : ((i : Int) + 1) = ((i + 1 : Nat) : Int) := by omega
  rw [hi1] at *
  have hcm : ¬ (c = m) := by omega
  have hic : i ≤ c := by omega
  have hic1 : i + 1 ≤ c := by omega
  have him1 : i ≤ m := by omega
  have h0i : (0 : Int) ≤ (i : Int) + 1 := by omega
  have h0m : (0 : Int) ≤ (m : Int) + 1 := by omega
  have hroom : Hid (i + (m - i) ≤ c) := by unfold Hid; omega
  have him : i + (m - i) = m := by omega
  have hsp : Hid (∀ j, j < news.length → (w.drew.cell? ⟨g, 0 + i * 2 + j, none⟩).isSome = true ∧ w.drew.frozen? ⟨g, 0 + i * 2 + j, none⟩ = false) := fun j hj => HIN.out (0 + i * 2 + j) (by have := HL.out; omega)
  go_wp2_with fail
  go_region_law (refine step_append_room rfl (.tmp 22) (.tmp 25) 56 rfl 65 i0 2 Try.underlying56 hi0 hz1 g 0 i c (by simp [Act.eval, Act.put]) A (m - i) (c - (i + 1)) news (by simp [Act.eval, Act.put]) HL.out hsrc.out s2.out hroom.out hsp.out ?_; rw [him, Nat.zero_add, ← HW1.out])
  go_wp2_with fail
  go_ret
  exact ⟨rfl, HFIN.out, HUP.out⟩

end Go.Proofs.Yteoafaofiohefaa
