import Derived.Test.YticnofemjnpjoaaPtC

set_option linter.unusedSimpArgs false
set_option linter.unusedVariables false
set_option linter.unnecessarySimpa false

namespace Go.Proofs.Yticnofemjnpjoaa
open Go.RowKit

set_option maxHeartbeats 4000000 in
theorem find_c (b : Nat) (l : List DealV) (n c : Nat) (ls bcl bep btx : Int) (pv : Value) (hn : l.length = n) (hl : n ≤ 1000) (w : World) (h : RdD w b l) :
    Calls Try.prog 8 #[.slice (some ⟨b, 0, none⟩) n c, .agg #[.int .i64 ls, .int .i64 bcl, .int .i64 bep, .int .i64 btx, pv]] w fun e w' => e = .returned (.int .i64 (findFrom bcl bep btx 0 l)) ∧ Below w.heap.size w w' := by
  have hb := (Below.refl w.heap.size w).alloc (Nat.le_refl _) (.cells #[.int .i64 ls, .int .i64 bcl, .int .i64 bep, .int .i64 btx, pv] 27)
  have hr := heap_alloc_new w (.cells #[.int .i64 ls, .int .i64 bcl, .int .i64 bep, .int .i64 btx, pv] 27)
  have h1 := h.below hb
  clear h
  go_enter Try.func8, Try.ntmps8
  go_wp2_with fail
  generalize w.alloc (.cells #[.int .i64 ls, .int .i64 bcl, .int .i64 bep, .int .i64 btx, pv] 27) = W0 at *
  refine (indexfunc_c b w.heap.size l n c ls bcl bep btx pv hn hl W0 h1 hr).mono ?_; rintro e w1 ⟨rfl, hb1⟩
  have HB1 := Lib.hid (hb.trans (hb1.mono hb.size))
  clear hb1 hb hr h1
  go_wp2_with fail
  go_ret
  exact ⟨rfl, HB1.out⟩

set_option maxHeartbeats 4000000 in
theorem indexfunc_nil (c : Nat) (fv : Value) (w : World) :
    Calls Try.prog 18 #[.slice none 0 c, fv] w fun e w' => e = .returned (.int .i64 (-1)) ∧ Below w.heap.size w w' := by
  go_enter Try.func18, Try.ntmps18
  go_wp2_with fail
  go_loopw [8] (fun i wr => i = .int .i64 0 ∧ Hid (Below w.heap.size w wr)) (fun i _ => 0)
  case atStart => exact ⟨rfl, Below.refl _ _⟩
  case round =>
    obtain ⟨rfl, hb⟩ := hrel
    go_wp2_with fail
    go_ret
    exact ⟨rfl, hb.out⟩

set_option maxHeartbeats 4000000 in
theorem find_nil (c : Nat) (ls bcl bep btx : Int) (pv : Value) (w : World) :
    Calls Try.prog 8 #[.slice none 0 c, .agg #[.int .i64 ls, .int .i64 bcl, .int .i64 bep, .int .i64 btx, pv]] w fun e w' => e = .returned (.int .i64 (-1)) ∧ Below w.heap.size w w' := by
  have hb := (Below.refl w.heap.size w).alloc (Nat.le_refl _) (.cells #[.int .i64 ls, .int .i64 bcl, .int .i64 bep, .int .i64 btx, pv] 27)
  go_enter Try.func8, Try.ntmps8
  go_wp2_with fail
  generalize w.alloc (.cells #[.int .i64 ls, .int .i64 bcl, .int .i64 bep, .int .i64 btx, pv] 27) = W0 at *
  refine (indexfunc_nil c _ W0).mono ?_; rintro e w1 ⟨rfl, hb1⟩
  have HB1 := Lib.hid (hb.trans (hb1.mono hb.size))
  clear hb1 hb
  go_wp2_with fail
  go_ret
  exact ⟨rfl, HB1.out⟩

end Go.Proofs.Yticnofemjnpjoaa
