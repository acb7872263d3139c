import Derived.Test.YticnofemjnpjoaaPtG

set_option linter.unusedSimpArgs false
set_option linter.unusedVariables false
set_option linter.unnecessarySimpa false

namespace Go.Proofs.Yticnofemjnpjoaa
open Go.RowKit

/-! wrote and Puts of a deal without deeds. -/

set_option maxHeartbeats 4000000 in
theorem wrote_nil (cl ep tx bg en st : Int) (w : World) : Calls Try.prog 20 #[.agg #[.int .i64 cl, .int .i64 ep, .int .i64 tx, .int .i64 bg, .int .i64 en, .int .i64 st, .slice none 0 0]] w fun e w' => ∃ B, e = .returned (.map (some B)) ∧ w'.heap[B]? = some (.map #[] 0) ∧ w.heap.size ≤ B ∧ Below w.heap.size w w' := by
  have hmm := @run_makeMap Try.prog
  have hb := below2 w (.cells #[.int .i64 cl, .int .i64 ep, .int .i64 tx, .int .i64 bg, .int .i64 en, .int .i64 st, .slice none 0 0] 33) (.map #[] 0)
  have hr := heap_alloc2_new w (.cells #[.int .i64 cl, .int .i64 ep, .int .i64 tx, .int .i64 bg, .int .i64 en, .int .i64 st, .slice none 0 0] 33) (.map #[] 0)
  go_enter Try.func20, Try.ntmps20
  go_wp2_with fail
  generalize (w.alloc (.cells #[.int .i64 cl, .int .i64 ep, .int .i64 tx, .int .i64 bg, .int .i64 en, .int .i64 st, .slice none 0 0] 33)).alloc (.map #[] 0) = W0 at *
  go_loopw [10] (fun i wr => i = .int .i64 0 ∧ Hid (wr.heap[w.heap.size + 1]? = some (.map #[] 0)) ∧ Hid (Below w.heap.size w wr)) (fun i _ => 0)
  case atStart => exact ⟨rfl, hr, hb⟩
  case round =>
    obtain ⟨rfl, hm, hb2⟩ := hrel
    clear hb hr
    go_wp2_with fail
    go_ret
    exact ⟨_, rfl, hm.out, by omega, hb2.out⟩

theorem look_none {B k j : Nat} {w : World} (hm : w.heap[B]? = some (.map #[] 0)) (hk : k < 6) (hj : j < 4) : (Instr.lookup 56 (.map (some B)) (.agg #[.int .i64 k, .int .i64 j]) true).run Try.prog w = .ok (.tuple #[.complex .f64 0 0, .bool false]) w :=
  look_miss place_law Try.underlying56 (zero_c w) hm (place_key hk hj).choose_spec (by simp) (by simp) true

set_option maxHeartbeats 4000000 in
theorem puts_nil (cl ep tx bg en st : Int) (w : World) : Calls Try.prog 10 #[.agg #[.int .i64 cl, .int .i64 ep, .int .i64 tx, .int .i64 bg, .int .i64 en, .int .i64 st, .slice none 0 0]] w fun e w' => e = .returned (.slice none 0 0) ∧ Below w.heap.size w w' := by
  have hb := (Below.refl w.heap.size w).alloc (Nat.le_refl _) (.cells #[.int .i64 cl, .int .i64 ep, .int .i64 tx, .int .i64 bg, .int .i64 en, .int .i64 st, .slice none 0 0] 33)
  have hr := heap_alloc_new w (.cells #[.int .i64 cl, .int .i64 ep, .int .i64 tx, .int .i64 bg, .int .i64 en, .int .i64 st, .slice none 0 0] 33)
  have hsz := hb.size
  go_enter Try.func10, Try.ntmps10
  go_wp2_with fail
  generalize w.alloc (.cells #[.int .i64 cl, .int .i64 ep, .int .i64 tx, .int .i64 bg, .int .i64 en, .int .i64 st, .slice none 0 0] 33) = W0 at *
  obtain ⟨x0, x1, x2, x3, x4, x5, x6, xz⟩ := row7' hr
  go_wp2_with fail
  refine (wrote_nil cl ep tx bg en st W0).mono ?_; rintro e w1 ⟨B, rfl, hm, hB, hb1⟩
  have HB0 := Lib.hid (hb.trans (hb1.mono hsz))
  have HM0 := Lib.hid hm
  clear hb hr hb1 hm hB x0 x1 x2 x3 x4 x5 x6 xz hsz
  go_wp2_with fail
  go_loopw [4, 11] (fun o i wr => ∃ k : Nat, k ≤ 6 ∧ i = .int .i64 k ∧ o = .slice none 0 0 ∧ Hid (wr.heap[B]? = some (.map #[] 0)) ∧ Hid (Below w.heap.size w wr)) (fun _ i _ => 6 - (intOf i).toNat)
  case atStart => exact ⟨0, by omega, rfl, rfl, HM0.out, HB0.out⟩
  case round =>
    obtain ⟨k, hk, rfl, rfl, hm, hb⟩ := hrel
    by_cases hlt : k < 6
    · have hdk : decide ((k : Int) < 6) = true := by simp; omega
      go_wp2_with fail
      go_loopw [4, 14] (fun o i wr => ∃ j : Nat, j ≤ 4 ∧ i = .int .i64 j ∧ o = .slice none 0 0 ∧ Hid (wr.heap[B]? = some (.map #[] 0)) ∧ Hid (Below w.heap.size w wr)) (fun _ i _ => 4 - (intOf i).toNat)
      case atStart => exact ⟨0, by omega, rfl, rfl, hm, hb⟩
      case round =>
        clear hm hb
        obtain ⟨j, hj, rfl, rfl, hm, hb⟩ := hrel
        by_cases hjt : j < 4
        · have HL := look_none hm.out hlt hjt
          go_wp2_with fail
          go_roundw
          case rel => exact ⟨j + 1, by omega, by simp, rfl, hm, hb⟩
          case measure => simp [intOf]; omega
        · have hj4 : j = 4 := by omega
          subst hj4
          go_wp2_with fail
          go_roundw
          case rel => exact ⟨k + 1, by omega, by simp, rfl, hm, hb⟩
          case measure => simp [intOf]; omega
    · have hk6 : k = 6 := by omega
      subst hk6
      go_wp2_with fail
      go_ret
      exact ⟨rfl, hb.out⟩

end Go.Proofs.Yticnofemjnpjoaa
