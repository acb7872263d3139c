import Derived.Test.YticnofemjnpjoaaPtN

set_option linter.unusedSimpArgs false
set_option linter.unusedVariables false
set_option linter.unnecessarySimpa false

namespace Go.Proofs.Yticnofemjnpjoaa
open Go.RowKit
open Go.ChangeMaps (setBlock)

/-! past.places. -/

/-- The names of a log, in its order. -/
def Txs (log : List BatV) (txs : List Nat) : Prop := txs.length = log.length ∧ (∀ t ∈ txs, t < 4) ∧ txs.Nodup ∧ ∀ (i : Nat) (d : BatV), log[i]? = some d → ∃ t : Nat, txs[i]? = some t ∧ d.tx = t

theorem not_taken {l : List Nat} {k t : Nat} (hd : l.Nodup) (h : l[k]? = some t) : t ∉ l.take k := by
  intro hm
  obtain ⟨i, hi⟩ := List.getElem?_of_mem hm
  rw [List.getElem?_take] at hi
  split at hi
  · rename_i hik
    obtain ⟨h1, h2⟩ := List.getElem?_eq_some_iff.1 hi
    obtain ⟨h3, h4⟩ := List.getElem?_eq_some_iff.1 h
    exact (List.pairwise_iff_getElem.1 hd) i k h1 h3 hik (by rw [h2, h4])
  · simp at hi

set_option maxHeartbeats 4000000 in
theorem places_c (b : Nat) (log : List BatV) (txs : List Nat) (n c : Nat) (hn : log.length = n) (hl : n ≤ 1000) (ht : Txs log txs) (w : World) (h : RdB w b log) :
    Calls Try.prog 16 #[.slice (some ⟨b, 0, none⟩) n c] w fun e w' => ∃ F M, e = .returned (.tuple #[.map (some F), .map (some M)]) ∧ w'.heap[F]? = some (.map (ents (fun i => (i : Int)) txs) n) ∧ w'.heap[M]? = some (.map (ents (fun _ => 1) txs) n) ∧ w.heap.size ≤ F ∧ w.heap.size ≤ M ∧ Below w.heap.size w w' := by
  have hmm := @run_makeMap Try.prog
  have hb := below2 w (.map #[] 0) (.map #[] 0)
  have hr1 := (Below.heap_alloc (w.alloc (.map #[] 0)) (.map #[] 0) w.heap.size (by simp)).trans (heap_alloc_new w (.map #[] 0))
  have hr2 := heap_alloc2_new w (.map #[] 0) (.map #[] 0)
  have HD := Lib.hid h
  have HT := Lib.hid ht
  clear h ht
  go_enter Try.func16, Try.ntmps16
  go_wp2_with fail
  generalize (w.alloc (.map #[] 0)).alloc (.map #[] 0) = W0 at *
  go_loopw [13] (fun i wr => ∃ k : Nat, k ≤ n ∧ i = .int .i64 k ∧ Hid (wr.heap[w.heap.size]? = some (.map (ents (fun i => (i : Int)) (txs.take k)) k)) ∧ Hid (wr.heap[w.heap.size + 1]? = some (.map (ents (fun _ => 1) (txs.take k)) k)) ∧ Hid (Below w.heap.size w wr)) (fun i _ => n - (intOf i).toNat)
  case atStart => exact ⟨0, Nat.zero_le _, rfl, hr1, hr2, hb⟩
  case round =>
    clear hr1 hr2 hb
    obtain ⟨k, hk, rfl, hf, hm, hbr⟩ := hrel
    by_cases hlt : k < n
    · obtain ⟨⟨ls, tx, B, cB, dr, di⟩, hd⟩ := get_some log k (by omega)
      obtain ⟨y0, y1, y2, y3, y4, -⟩ := HD.out.below hbr.out k _ hd
      obtain ⟨t, htk, htx⟩ := HT.out.2.2.2 k _ hd
      dsimp only at y0 y1 y2 y3 y4 htx
      subst htx
      have ht4 : t < 4 := HT.out.2.1 t (List.mem_of_getElem? htk)
      have HNT := Lib.hid (not_taken HT.out.2.2.1 htk)
      have HTK := Lib.hid (take_snoc htk)
      have h4 : Hid (∀ x ∈ txs.take k, x < 4) := fun x hx => HT.out.2.1 x (List.mem_of_mem_take hx)
      have HLE : Hid ((txs.take k).length = k) := by have := HT.out.1; unfold Hid; rw [List.length_take]; omega
      have hal := below2 wr (.cells #[.int .i64 ls, .int .i64 1, .int .i64 1, .int .i64 t, .slice (some ⟨B, 0, none⟩) 1 cB] 27) (.cells #[.int .i64 1, .int .i64 1, .int .i64 t] 51)
      have hq := heap_alloc2_new wr (.cells #[.int .i64 ls, .int .i64 1, .int .i64 1, .int .i64 t, .slice (some ⟨B, 0, none⟩) 1 cB] 27) (.cells #[.int .i64 1, .int .i64 1, .int .i64 t] 51)
      have hf1 := (hal.block _ (Array.getElem?_eq_some_iff.1 hf.out).1).trans hf.out
      have hm1 := (hal.block _ (Array.getElem?_eq_some_iff.1 hm.out).1).trans hm.out
      have HB1 := Lib.hid (hbr.out.trans (hal.mono hbr.out.size))
      have hqne : w.heap.size + 1 < wr.heap.size := (Array.getElem?_eq_some_iff.1 hm.out).1
      have HF1 := Lib.hid hf1
      have HM1 := Lib.hid hm1
      have HQ1 := Lib.hid hq
      have HQN := Lib.hid hqne
      clear hd hal hbr htk hf hm hf1 hm1 hq hqne
      go_upto_region 6 with fail
      generalize (wr.alloc (.cells #[.int .i64 ls, .int .i64 1, .int .i64 1, .int .i64 t, .slice (some ⟨B, 0, none⟩) 1 cB] 27)).alloc (.cells #[.int .i64 1, .int .i64 1, .int .i64 t] 51) = W2 at *
      have HQ2 : Hid (wr.heap.size + 1 ≠ w.heap.size ∧ wr.heap.size + 1 ≠ w.heap.size + 1) := ⟨by have := HQN.out; omega, by have := HQN.out; omega⟩
      generalize wr.heap.size + 1 = q at *
      clear y0 y1 y2 y3 y4
      have HF1 := HF1.out
      have HM1 := HM1.out
      have HQ1 := HQ1.out
      obtain ⟨z0, z1, z2, -⟩ := row3 HQ1
      have HK := name_key (c := 1) (e := 1) (t := t) (by omega) (by omega) ht4
      have HL2 : (Instr.lookup 47 (.map (some (w.heap.size + 1))) (.agg #[.int .i64 1, .int .i64 1, .int .i64 t]) false).run Try.prog W2 = .ok (.int .i64 0) W2 := names_miss HM1 h4.out ht4 HNT.out false
      obtain ⟨W3, hW3⟩ : ∃ W3, W3 = setBlock W2 w.heap.size (.map ((ents (fun i => (i : Int)) (txs.take k)).push ⟨.agg #[.int .i64 1, .int .i64 1, .int .i64 t], .int .i64 k, k⟩) (k + 1)) := ⟨_, rfl⟩
      have HU2 : (Instr.mapUpdate 47 (.map (some w.heap.size)) (.agg #[.int .i64 1, .int .i64 1, .int .i64 t]) (.int .i64 k)).run Try.prog W2 = .ok () W3 := by
        rw [hW3]; exact upd_new name_law Try.underlying47 HF1 HK.choose_spec (ents_keys h4.out) (ents_ne HNT.out) (.int .i64 k)
      have hf3 : W3.heap[w.heap.size]? = some (.map (ents (fun i => (i : Int)) (txs.take (k + 1))) (k + 1)) := by
        rw [HTK.out, ents_snoc, HLE.out, hW3]
        exact Go.ChangeMaps.heap_setBlock_same HF1 _
      have hm3 : W3.heap[w.heap.size + 1]? = some (.map (ents (fun _ => 1) (txs.take k)) k) := by
        rw [hW3]; exact (Go.ChangeMaps.heap_setBlock_other HF1 _ (by omega)).trans HM1
      have hqF : q ≠ w.heap.size := HQ2.out.1
      have hq3 : W3.heap[q]? = some (.cells #[.int .i64 1, .int .i64 1, .int .i64 t] 51) := by
        rw [hW3]; exact (Go.ChangeMaps.heap_setBlock_other HF1 _ hqF).trans HQ1
      have hb3 := below_setBlock HB1.out HF1 (Nat.le_refl _) (.map ((ents (fun i => (i : Int)) (txs.take k)).push ⟨.agg #[.int .i64 1, .int .i64 1, .int .i64 t], .int .i64 k, k⟩) (k + 1))
      rw [← hW3] at hb3
      have HF3 := Lib.hid hf3
      have HM3 := Lib.hid hm3
      have HQ3 := Lib.hid hq3
      have HB3 := Lib.hid hb3
      clear hf3 hm3 hq3 hb3 HF1 HM1 HQ1 HB1 hW3
      go_upto_region 8 with fail
      clear z0 z1 z2 HL2 HU2
      have HM3 := HM3.out
      have HQ3 := HQ3.out
      have hm3 : W3.drew.heap[w.heap.size + 1]? = some (.map (ents (fun _ => 1) (txs.take k)) k) := HM3
      have HL3 : (Instr.lookup 47 (.map (some (w.heap.size + 1))) (.agg #[.int .i64 1, .int .i64 1, .int .i64 t]) false).run Try.prog W3.drew = .ok (.int .i64 0) W3.drew := names_miss hm3 h4.out ht4 HNT.out false
      obtain ⟨W4, hW4⟩ : ∃ W4, W4 = setBlock W3.drew (w.heap.size + 1) (.map ((ents (fun _ => 1) (txs.take k)).push ⟨.agg #[.int .i64 1, .int .i64 1, .int .i64 t], .int .i64 0, k⟩) (k + 1)) := ⟨_, rfl⟩
      have HE3 : (Instr.mapEntry 47 (.map (some (w.heap.size + 1))) (.agg #[.int .i64 1, .int .i64 1, .int .i64 t])).run Try.prog W3.drew = .ok (.tuple #[.int .i64 0, .int .i64 k]) W4 := by
        rw [hW4]; exact entry_new name_law Try.underlying47 zero_i hm3 HK.choose_spec (ents_keys h4.out) (ents_ne HNT.out)
      have hm4 : W4.heap[w.heap.size + 1]? = some (.map ((ents (fun _ => 1) (txs.take k)).push ⟨.agg #[.int .i64 1, .int .i64 1, .int .i64 t], .int .i64 0, k⟩) (k + 1)) := by rw [hW4]; exact Go.ChangeMaps.heap_setBlock_same hm3 _
      have HL4 : (Instr.lookup 47 (.map (some (w.heap.size + 1))) (.agg #[.int .i64 1, .int .i64 1, .int .i64 t]) false).run Try.prog W4 = .ok (.int .i64 0) W4 := by
        refine look_hit name_law Try.underlying47 hm4 HK.choose_spec ?_ ?_ ?_ false
        · intro x hx
          rw [Array.toList_push] at hx
          rcases List.mem_append.1 hx with hx | hx
          · exact ents_keys h4.out x hx
          · rw [List.mem_singleton] at hx; subst hx; exact HK
        · intro x hx hk
          rw [Array.toList_push] at hx
          rcases List.mem_append.1 hx with hx | hx
          · exact absurd hk (ents_ne HNT.out x hx)
          · rw [List.mem_singleton] at hx; subst hx; rfl
        · exact ⟨⟨.agg #[.int .i64 1, .int .i64 1, .int .i64 t], .int .i64 0, k⟩, by rw [Array.toList_push]; exact List.mem_append_right _ (List.mem_singleton.2 rfl), rfl⟩
      obtain ⟨W5, hW5⟩ : ∃ W5, W5 = setBlock W4 (w.heap.size + 1) (.map ((ents (fun _ => 1) (txs.take k)).push ⟨.agg #[.int .i64 1, .int .i64 1, .int .i64 t], .int .i64 1, k⟩) (k + 1)) := ⟨_, rfl⟩
      have HS4 : (Instr.entryStore 47 (.map (some (w.heap.size + 1))) (.int .i64 k) (.int .i64 1)).run Try.prog W4 = .ok () W5 := by
        rw [hW5]; refine store_new ?_ ?_ hm4
        · rw [ents_born]; exact List.nodup_range
        · intro x hx
          have h1 : x.born ∈ (ents (fun _ => 1) (txs.take k)).toList.map (·.born) := List.mem_map_of_mem hx
          rw [ents_born, HLE.out] at h1
          exact List.mem_range.1 h1
      have HS4w : (Instr.entryStore 47 (.map (some (w.heap.size + 1))) (.int .i64 k) (.int .i64 (IntKind.i64.wrap 1))).run Try.prog W4 = .ok () W5 := HS4
      have hm5 : W5.heap[w.heap.size + 1]? = some (.map (ents (fun _ => 1) (txs.take (k + 1))) (k + 1)) := by
        rw [HTK.out, ents_snoc, HLE.out, hW5]; exact Go.ChangeMaps.heap_setBlock_same hm4 _
      have hb4 := below_setBlock (HB3.out.drew) hm3 (by omega) (.map ((ents (fun _ => 1) (txs.take k)).push ⟨.agg #[.int .i64 1, .int .i64 1, .int .i64 t], .int .i64 0, k⟩) (k + 1))
      rw [← hW4] at hb4
      have hb5 := below_setBlock hb4 hm4 (by omega) (.map ((ents (fun _ => 1) (txs.take k)).push ⟨.agg #[.int .i64 1, .int .i64 1, .int .i64 t], .int .i64 1, k⟩) (k + 1))
      rw [← hW5] at hb5
      have hf4 : W4.heap[w.heap.size]? = some (.map (ents (fun i => (i : Int)) (txs.take (k + 1))) (k + 1)) := by
        rw [hW4]; exact (Go.ChangeMaps.heap_setBlock_other hm3 _ (by omega)).trans HF3.out
      have hf5 : W5.heap[w.heap.size]? = some (.map (ents (fun i => (i : Int)) (txs.take (k + 1))) (k + 1)) := by
        rw [hW5]; exact (Go.ChangeMaps.heap_setBlock_other hm4 _ (by omega)).trans hf4
      have hq4 : W4.heap[q]? = some (.cells #[.int .i64 1, .int .i64 1, .int .i64 t] 51) := by
        rw [hW4]; exact (Go.ChangeMaps.heap_setBlock_other hm3 _ HQ2.out.2).trans HQ3
      have hq5 : W5.heap[q]? = some (.cells #[.int .i64 1, .int .i64 1, .int .i64 t] 51) := by
        rw [hW5]; exact (Go.ChangeMaps.heap_setBlock_other hm4 _ HQ2.out.2).trans hq4
      obtain ⟨z0, z1, z2, -⟩ := row3 HQ3
      have h3S : W3.drew.cell? ⟨q, 0, none⟩ = some (.int .i64 1) ∧ W3.drew.cell? ⟨q, 1, none⟩ = some (.int .i64 1) ∧ W3.drew.cell? ⟨q, 2, none⟩ = some (.int .i64 t) := ⟨z0, z1, z2⟩
      obtain ⟨z0, z1, z2, -⟩ := row3 hq4
      have h4S : W4.cell? ⟨q, 0, none⟩ = some (.int .i64 1) ∧ W4.cell? ⟨q, 1, none⟩ = some (.int .i64 1) ∧ W4.cell? ⟨q, 2, none⟩ = some (.int .i64 t) := ⟨z0, z1, z2⟩
      obtain ⟨z0, z1, z2, -⟩ := row3 hq5
      have h5S : W5.cell? ⟨q, 0, none⟩ = some (.int .i64 1) ∧ W5.cell? ⟨q, 1, none⟩ = some (.int .i64 1) ∧ W5.cell? ⟨q, 2, none⟩ = some (.int .i64 t) := ⟨z0, z1, z2⟩
      have H3S := Lib.hid h3S
      have H4S := Lib.hid h4S
      have H5S := Lib.hid h5S
      have HM5 := Lib.hid hm5
      have HF5 := Lib.hid hf5
      have HB5 := Lib.hid hb5
      clear h3S h4S h5S hm5 hf5 hb5 z0 z1 z2 hq4 hq5 hf4 hb4 hm4 hm3 HM3 HQ3 hW4 hW5 HF3 HB3
      go_region_held_law (fun W => W.cell? ⟨q, 0, none⟩ = some (.int .i64 1) ∧ W.cell? ⟨q, 1, none⟩ = some (.int .i64 1) ∧ W.cell? ⟨q, 2, none⟩ = some (.int .i64 t)) (first | exact H3S.out | exact H4S.out | exact H5S.out) (fail)
      all_goals
        go_wp2_with fail
        go_roundw
        case rel => exact ⟨k + 1, by omega, by simp, HF5, HM5, HB5⟩
        case measure => simp [intOf]; omega
    · have he : k = n := by omega
      subst he
      have HF : Hid (wr.heap[w.heap.size]? = some (.map (ents (fun i => (i : Int)) txs) k)) := by
        have := hf.out
        rwa [List.take_of_length_le (by have := HT.out.1; omega)] at this
      have HM : Hid (wr.heap[w.heap.size + 1]? = some (.map (ents (fun _ => 1) txs) k)) := by
        have := hm.out
        rwa [List.take_of_length_le (by have := HT.out.1; omega)] at this
      clear hf hm
      go_wp2_with fail
      go_ret2
      exact ⟨_, _, rfl, HF.out, HM.out, by omega, by omega, hbr.out⟩

end Go.Proofs.Yticnofemjnpjoaa
