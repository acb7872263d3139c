import Derived.Test.YticnofemjnpjoaaPtD
import Derived.Maps.Own
import Derived.DeepKeys4

set_option linter.unusedSimpArgs false
set_option linter.unusedVariables false
set_option linter.unnecessarySimpa false

namespace Go.Proofs.Yticnofemjnpjoaa
open Go.RowKit
open Go.ChangeMaps (setBlock)

/-! Maps: what an operation does on a map's block, by its entries. -/
section
variable {P : Program} {t k e : TypeId} {w : World} {b : Nat} {es : Array MapEntry} {clk : Nat} {key : Value} {kl : Lit}

theorem look_miss (K : Go.Maps.Keyed P k) (ht : P.underlying t = some (.map k e)) {z : Value} (hz : (zeroValue e).run P w = .ok z w) (hb : w.heap[b]? = some (.map es clk)) (hkey : keyOf P k key = some kl) (hes : ∀ x ∈ es.toList, ∃ l, keyOf P k x.key = some l) (hn : ∀ x ∈ es.toList, x.key ≠ key) (ok : Bool) :
    (Instr.lookup t (.map (some b)) key ok).run P w = .ok (if ok then .tuple #[z, .bool false] else z) w := by
  rcases K.find w hkey es.toList hes with ⟨h1, -⟩ | ⟨j, e0, h1, h2, h3⟩
  · cases ok <;> simp [Instr.lookup, run_underlying ht, MapKept.run_getObj_map hb, K.check w _ hkey, h1, hz, Result.andThen]
  · exact absurd h3 (hn e0 (List.mem_of_getElem? h2))

theorem look_hit (K : Go.Maps.Keyed P k) (ht : P.underlying t = some (.map k e)) {v : Value} (hb : w.heap[b]? = some (.map es clk)) (hkey : keyOf P k key = some kl) (hes : ∀ x ∈ es.toList, ∃ l, keyOf P k x.key = some l) (hu : ∀ x ∈ es.toList, x.key = key → x.val = v) (hm : ∃ x ∈ es.toList, x.key = key) (ok : Bool) :
    (Instr.lookup t (.map (some b)) key ok).run P w = .ok (if ok then .tuple #[v, .bool true] else v) w := by
  rcases K.find w hkey es.toList hes with ⟨h1, h2⟩ | ⟨j, e0, h1, h2, h3⟩
  · obtain ⟨x, hx, hk⟩ := hm
    exact absurd hk (h2 x hx)
  · have hv := hu e0 (List.mem_of_getElem? h2) h3
    cases ok <;> simp [Instr.lookup, run_underlying ht, MapKept.run_getObj_map hb, K.check w _ hkey, h1, hv, Result.andThen]

theorem upd_new (K : Go.Maps.Keyed P k) (ht : P.underlying t = some (.map k e)) (hb : w.heap[b]? = some (.map es clk)) (hkey : keyOf P k key = some kl) (hes : ∀ x ∈ es.toList, ∃ l, keyOf P k x.key = some l) (hn : ∀ x ∈ es.toList, x.key ≠ key) (v : Value) :
    (Instr.mapUpdate t (.map (some b)) key v).run P w = .ok () (setBlock w b (.map (es.push ⟨key, v, clk⟩) (clk + 1))) := by
  rcases K.find w hkey es.toList hes with ⟨h1, -⟩ | ⟨j, e0, h1, h2, h3⟩
  · simp [Instr.mapUpdate, run_underlying ht, MapKept.run_getObj_map hb, K.check w false hkey, h1, MapKept.run_setObj_map _ hb, Result.andThen, setBlock]
  · exact absurd h3 (hn e0 (List.mem_of_getElem? h2))

theorem entry_new (K : Go.Maps.Keyed P k) (ht : P.underlying t = some (.map k e)) {z : Value} (hz : ∀ w, (zeroValue e).run P w = .ok z w) (hb : w.heap[b]? = some (.map es clk)) (hkey : keyOf P k key = some kl) (hes : ∀ x ∈ es.toList, ∃ l, keyOf P k x.key = some l) (hn : ∀ x ∈ es.toList, x.key ≠ key) :
    (Instr.mapEntry t (.map (some b)) key).run P w = .ok (.tuple #[z, goInt clk]) (setBlock w b (.map (es.push ⟨key, z, clk⟩) (clk + 1))) := by
  rcases K.find w hkey es.toList hes with ⟨h1, -⟩ | ⟨j, e0, h1, h2, h3⟩
  · simp [Instr.mapEntry, run_underlying ht, MapKept.run_getObj_map hb, K.check w false hkey, h1, hz, MapKept.run_setObj_map _ hb, Result.andThen, setBlock]
  · exact absurd h3 (hn e0 (List.mem_of_getElem? h2))

end

theorem laid22 : laidOutB Try.prog = true := by kernel_rfl
theorem place_law : Go.Maps.Keyed Try.prog 60 := Go.Maps.Keyed.of_law (deep_law_laid laid22 (m := 2) (by omega) (of_decide_eq_true (by kernel_rfl)) (by kernel_rfl) (by kernel_rfl))
theorem name_law : Go.Maps.Keyed Try.prog 51 := Go.Maps.Keyed.of_law (deep_law_laid laid22 (m := 2) (by omega) (of_decide_eq_true (by kernel_rfl)) (by kernel_rfl) (by kernel_rfl))


theorem place_keys : ∀ p : Nat, p < 6 → ∀ o : Nat, o < 4 → (keyOf Try.prog 60 (.agg #[.int .i64 p, .int .i64 o])).isSome = true := by decide +kernel

theorem place_key {p o : Nat} (hp : p < 6) (ho : o < 4) : ∃ l, keyOf Try.prog 60 (.agg #[.int .i64 p, .int .i64 o]) = some l :=
  Option.isSome_iff_exists.1 (place_keys p hp o ho)

theorem name_keys : ∀ c : Nat, c < 2 → ∀ e : Nat, e < 2 → ∀ t : Nat, t < 4 → (keyOf Try.prog 51 (.agg #[.int .i64 c, .int .i64 e, .int .i64 t])).isSome = true := by decide +kernel

theorem name_key {c e t : Nat} (hc : c < 2) (he : e < 2) (ht : t < 4) : ∃ l, keyOf Try.prog 51 (.agg #[.int .i64 c, .int .i64 e, .int .i64 t]) = some l :=
  Option.isSome_iff_exists.1 (name_keys c hc e he t ht)

end Go.Proofs.Yticnofemjnpjoaa
