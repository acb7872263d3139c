import Derived.Test.YticnofemjnpjoaaPtH

set_option linter.unusedSimpArgs false
set_option linter.unusedVariables false
set_option linter.unnecessarySimpa false

namespace Go.Proofs.Yticnofemjnpjoaa
open Go.RowKit

attribute [local go_sem] run_store_complex

/-! Two slices of the same puts. -/

set_option maxHeartbeats 4000000 in
theorem eqf_puts_two (b b2 : Nat) (ps : List PutV) (n c d : Nat) (hn : ps.length = n) (hl : n ≤ 1000) (w : World) (h : RdP w b ps) (h2 : RdP w b2 ps) (hr : ∀ p ∈ ps, 0 ≤ p.pg ∧ p.pg ≤ 16777215 ∧ 0 ≤ p.ob ∧ p.ob ≤ 16777215) :
    Calls Try.prog 25 #[.slice (some ⟨b, 0, none⟩) n c, .slice (some ⟨b2, 0, none⟩) n d, .func (.func 26) #[] #[]] w fun e w' => e = .returned (.bool true) ∧ Below w.heap.size w w' := by
  go_enter Try.func25, Try.ntmps25
  go_wp2_with fail
  go_loopw [17] (fun i wr => ∃ k : Nat, k ≤ n ∧ i = .int .i64 k ∧ Hid (Below w.heap.size w wr)) (fun i _ => n - (intOf i).toNat)
  case atStart => exact ⟨0, Nat.zero_le _, rfl, Below.refl _ _⟩
  case round =>
    obtain ⟨k, hk, rfl, hb⟩ := hrel
    by_cases hlt : k < n
    · obtain ⟨p, hp⟩ := get_some ps k (by omega)
      obtain ⟨y0, y1, y2⟩ := h.below hb.out k p hp
      obtain ⟨z0, z1, z2⟩ := h2.below hb.out k p hp
      obtain ⟨q1, q2, q3, q4⟩ := hr p (List.mem_of_getElem? hp)
      have HS := Lib.hid (wsame1_c p q1 q2 q3 q4)
      have y0a := fun o => cell_alloc o y0
      have y1a := fun o => cell_alloc o y1
      have y2a := fun o => cell_alloc o y2
      have z0a := fun o => cell_alloc o z0
      have z1a := fun o => cell_alloc o z1
      have z2a := fun o => cell_alloc o z2
      clear h h2 hr q1 q2 q3 q4
      go_wp2_with fail
      have hw := below2 wr (.cells #[.int .i64 p.pg, .int .i64 p.ob, .complex .f64 p.re p.im] 62) (.cells #[.int .i64 p.pg, .int .i64 p.ob, .complex .f64 p.re p.im] 62)
      generalize (wr.alloc (.cells #[.int .i64 p.pg, .int .i64 p.ob, .complex .f64 p.re p.im] 62)).alloc (.cells #[.int .i64 p.pg, .int .i64 p.ob, .complex .f64 p.re p.im] 62) = W2 at *
      refine (HS.out _).mono ?_; rintro e w3 ⟨rfl, hb3⟩
      have HB3 := Lib.hid (hb.out.trans ((hw.trans (hb3.mono hw.size)).mono hb.out.size))
      clear hw hb3 y0 y1 y2 y0a y1a y2a z0 z1 z2 z0a z1a z2a
      go_wp2_with fail
      go_roundw
      case rel => exact ⟨k + 1, by omega, by simp, HB3⟩
      case measure => simp [intOf]; omega
    · have he : k = n := by omega
      subst he
      go_wp2_with fail
      go_ret
      exact ⟨ret_bool (by simp), hb.out⟩

end Go.Proofs.Yticnofemjnpjoaa
