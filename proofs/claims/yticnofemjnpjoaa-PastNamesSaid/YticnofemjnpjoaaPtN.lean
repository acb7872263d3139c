import Derived.Test.YticnofemjnpjoaaPtM
import Derived.WideKeyEntry

set_option linter.unusedSimpArgs false
set_option linter.unusedVariables false
set_option linter.unnecessarySimpa false

namespace Go.Proofs.Yticnofemjnpjoaa
open Go.RowKit
open Go.ChangeMaps (setBlock)

attribute [local go_sem] run_store_complex

/-! past.Serial of nothing; maps of names: laws. -/

set_option maxHeartbeats 4000000 in
theorem serial_nil (w : World) :
    Calls Try.prog 5 #[.slice none 0 0, .slice none 0 0] w fun e w' => e = .returned (.bool true) ∧ Below w.heap.size w w' := by
  have hmk := makeP
  have hb := (Below.refl w.heap.size w).alloc (Nat.le_refl _) (.cells (pg6 0 0 0) 43)
  go_enter Try.func5, Try.ntmps5
  go_wp2_with fail
  generalize w.alloc (.cells (pg6 0 0 0) 43) = W0 at *
  go_loopw [12] (fun i wr => i = .int .i64 0 ∧ Hid (Below w.heap.size w wr)) (fun i _ => 0)
  case atStart => exact ⟨rfl, hb⟩
  case round =>
    obtain ⟨rfl, hbr⟩ := hrel
    clear hb
    go_wp2_with fail
    go_ret
    exact ⟨rfl, hbr.out⟩

theorem store_new {P : Program} {t : TypeId} {w : World} {b : Nat} {es : Array MapEntry} {clk : Nat} {key z v : Value} (hn : (es.toList.map (·.born)).Nodup) (hlt : ∀ x ∈ es.toList, x.born < clk)
    (hb : w.heap[b]? = some (.map (es.push ⟨key, z, clk⟩) (clk + 1))) :
    (Instr.entryStore t (.map (some b)) (.int .i64 (clk : Int)) v).run P w = .ok () (setBlock w b (.map (es.push ⟨key, v, clk⟩) (clk + 1))) := by
  have hidx : (es.push ⟨key, z, clk⟩).findIdx? (fun e => ((e.born : Nat) : Int) == ((clk : Nat) : Int)) = some es.size := by
    rw [Go.WideElems.findIdx_arr]
    exact Go.WideElems.findIdx_born (l := (es.push ⟨key, z, clk⟩).toList) (j := es.size) (e0 := ⟨key, z, clk⟩) (by
      simp only [Array.toList_push, List.map_append, List.map_cons, List.map_nil]
      refine List.nodup_append.2 ⟨hn, by simp, fun a ha c hc e1 => ?_⟩
      simp only [List.mem_singleton] at hc
      obtain ⟨x, hx, rfl⟩ := List.mem_map.1 ha
      have := hlt x hx
      omega) (by simp)
  have hmod : (es.push ⟨key, z, clk⟩).modify es.size (fun e => { e with val := v }) = es.push ⟨key, v, clk⟩ := by
    apply Array.ext'
    rw [Array.toList_modify, Array.toList_push, Array.toList_push, ← Array.length_toList, Go.WideElems.modify_last]
  simp [Instr.entryStore, MapKept.run_getObj_map hb, asInt, asIntOf, hidx, hmod, MapKept.run_setObj_map _ hb, Result.andThen, setBlock]

/-- The entries of so many names. -/
def ents (v : Nat → Int) (l : List Nat) : Array MapEntry := (l.mapIdx fun i (t : Nat) => (⟨.agg #[.int .i64 1, .int .i64 1, .int .i64 (t : Int)], .int .i64 (v i), i⟩ : MapEntry)).toArray

theorem ents_snoc (v : Nat → Int) (l : List Nat) (t : Nat) : ents v (l ++ [t]) = (ents v l).push ⟨.agg #[.int .i64 1, .int .i64 1, .int .i64 t], .int .i64 (v l.length), l.length⟩ := by
  unfold ents
  simp [List.mapIdx_append]

theorem ents_size (v : Nat → Int) (l : List Nat) : (ents v l).size = l.length := by simp [ents]

theorem ents_mem {v : Nat → Int} {l : List Nat} {x : MapEntry} (h : x ∈ (ents v l).toList) : ∃ (i t : Nat), l[i]? = some t ∧ x = ⟨.agg #[.int .i64 1, .int .i64 1, .int .i64 t], .int .i64 (v i), i⟩ := by
  unfold ents at h
  simp only [List.mem_mapIdx] at h
  obtain ⟨i, hi, rfl⟩ := h
  exact ⟨i, l[i], by simp [hi], rfl⟩

theorem ents_born (v : Nat → Int) (l : List Nat) : (ents v l).toList.map (·.born) = List.range l.length := by
  apply List.ext_getElem?
  intro i
  simp [ents]
  by_cases h : i < l.length
  · simp [h]
  · simp [h]

theorem ents_keys {v : Nat → Int} {l : List Nat} (h4 : ∀ t ∈ l, t < 4) : ∀ x ∈ (ents v l).toList, ∃ k, keyOf Try.prog 51 x.key = some k := by
  intro x hx
  obtain ⟨i, t, ht, rfl⟩ := ents_mem hx
  exact name_key (c := 1) (e := 1) (by omega) (by omega) (h4 t (List.mem_of_getElem? ht))

theorem ents_ne {v : Nat → Int} {l : List Nat} {t : Nat} (h : t ∉ l) : ∀ x ∈ (ents v l).toList, x.key ≠ .agg #[.int .i64 1, .int .i64 1, .int .i64 t] := by
  intro x hx e
  obtain ⟨i, t', ht, rfl⟩ := ents_mem hx
  have e2 : t' = t := by simp at e; omega
  subst e2
  exact h (List.mem_of_getElem? ht)

theorem zero_i (w : World) : (zeroValue 3).run Try.prog w = .ok (.int .i64 0) w := by kernel_rfl

theorem names_miss {v : Nat → Int} {l : List Nat} {t clk B : Nat} {w : World} (hm : w.heap[B]? = some (.map (ents v l) clk)) (h4 : ∀ t ∈ l, t < 4) (ht : t < 4) (h : t ∉ l) (ok : Bool) :
    (Instr.lookup 47 (.map (some B)) (.agg #[.int .i64 1, .int .i64 1, .int .i64 t]) ok).run Try.prog w = .ok (if ok then .tuple #[.int .i64 0, .bool false] else .int .i64 0) w :=
  look_miss name_law Try.underlying47 (zero_i w) hm (name_key (c := 1) (e := 1) (by omega) (by omega) ht).choose_spec (ents_keys h4) (ents_ne h) ok

theorem names_hit {v : Nat → Int} {l : List Nat} {t clk B i : Nat} {w : World} (hm : w.heap[B]? = some (.map (ents v l) clk)) (h4 : ∀ t ∈ l, t < 4) (hi : l[i]? = some t) (hu : ∀ j, l[j]? = some t → v j = v i) (ok : Bool) :
    (Instr.lookup 47 (.map (some B)) (.agg #[.int .i64 1, .int .i64 1, .int .i64 t]) ok).run Try.prog w = .ok (if ok then .tuple #[.int .i64 (v i), .bool true] else .int .i64 (v i)) w := by
  refine look_hit name_law Try.underlying47 hm (name_key (c := 1) (e := 1) (by omega) (by omega) (h4 t (List.mem_of_getElem? hi))).choose_spec (ents_keys h4) ?_ ?_ ok
  · intro x hx e
    obtain ⟨j, t', ht, rfl⟩ := ents_mem hx
    have e2 : t' = t := by simp at e; omega
    subst e2
    rw [hu j ht]
  · refine ⟨⟨.agg #[.int .i64 1, .int .i64 1, .int .i64 t], .int .i64 (v i), i⟩, ?_, rfl⟩
    obtain ⟨hl, rfl⟩ := List.getElem?_eq_some_iff.1 hi
    unfold ents
    simp only [List.mem_mapIdx]
    exact ⟨i, hl, rfl⟩

end Go.Proofs.Yticnofemjnpjoaa
