import Derived.Test.YtbhjdapkhcgmlaaMsgR
import Derived.Handy
import Derived.Deep.Cut

set_option linter.unusedSimpArgs false
set_option linter.unusedVariables false
set_option linter.unnecessarySimpa false

namespace Go.Proofs.Ytbhjdapkhcgmlaa
open Go.RowKit

attribute [local go_sem] run_store_complex

/-! wal.same, wal.Same, wal.Right, msg.Same over any puts, by what is known of the inner calls from a world on. -/

/-- From w on the call answers v, and leaves all that there was. -/
def From (w : World) (f : FuncId) (args : Array Value) (v : Value) : Prop := ∀ W, Below w.heap.size w W → Calls Try.prog f args W fun e w' => e = .returned v ∧ Below W.heap.size W w'

theorem From.on {w W : World} {f : FuncId} {args : Array Value} {v : Value} (h : From w f args v) (hb : Below w.heap.size w W) : From W f args v := fun W' h' => h W' (hb.trans (h'.mono hb.size))
theorem From.here {w : World} {f : FuncId} {args : Array Value} {v : Value} (h : From w f args v) : Calls Try.prog f args w fun e w' => e = .returned v ∧ Below w.heap.size w w' := h w (Below.refl _ _)

theorem wsame_h (A B : Option Addr) (n m c d : Nat) (r : Bool) (w : World) (hq : From w 76 #[.slice A n c, .slice B m d, .func (.func 77) #[] #[]] (.bool r)) :
    From w 64 #[.agg #[.int .i64 0, .int .i64 0, .int .i64 0, .int .i64 0, .slice A n c], .agg #[.int .i64 0, .int .i64 0, .int .i64 0, .int .i64 0, .slice B m d]] (.bool r) := by
  intro W hW
  replace hq := hq.on hW
  clear hW
  have hb := below2 W (.cells #[.int .i64 0, .int .i64 0, .int .i64 0, .int .i64 0, .slice A n c] 80) (.cells #[.int .i64 0, .int .i64 0, .int .i64 0, .int .i64 0, .slice B m d] 80)
  go_enter Try.func64, Try.ntmps64
  go_wp2_with fail
  have HQ := Lib.hid (hq.on hb)
  have HB := Lib.hid hb
  clear hq hb
  refine HQ.out.here.mono ?_; rintro e w1 ⟨rfl, hb1⟩
  have HB1 := Lib.hid (HB.out.trans (hb1.mono HB.out.size))
  clear hb1
  go_wp2_with fail
  go_ret
  exact ⟨ret_bool (by simp), HB1.out⟩

theorem eqf_bb_h (p q : Nat) (A B : Option Addr) (n m c d : Nat) (r : Bool) (w : World) (hq : From w 64 #[.agg #[.int .i64 0, .int .i64 0, .int .i64 0, .int .i64 0, .slice A n c], .agg #[.int .i64 0, .int .i64 0, .int .i64 0, .int .i64 0, .slice B m d]] (.bool r))
    (hp : w.heap[p]? = some (Obj.cells #[.int .i64 0, .int .i64 0, .int .i64 0, .int .i64 0, .slice A n c] 80)) (hqr : w.heap[q]? = some (Obj.cells #[.int .i64 0, .int .i64 0, .int .i64 0, .int .i64 0, .slice B m d] 80)) :
    Calls Try.prog 63 #[.slice (some ⟨p, 0, none⟩) 1 1, .slice (some ⟨q, 0, none⟩) 1 1, .func (.func 64) #[] #[]] w fun e w' => e = .returned (.bool r) ∧ Below w.heap.size w w' := by
  obtain ⟨x0, x1, x2, x3, x4, xz⟩ := row5 hp
  obtain ⟨y0, y1, y2, y3, y4, yz⟩ := row5 hqr
  clear hp hqr
  have HQ := Lib.hid hq
  clear hq
  cases r
  · go_enter Try.func63, Try.ntmps63
    go_wp2_with fail
    go_loopw [17] (fun i wr => ∃ k : Nat, k ≤ 1 ∧ i = .int .i64 k ∧ Hid (Below w.heap.size w wr) ∧ (k = 0 → wr = w) ∧ (k = 1 → false = true)) (fun i _ => 1 - (intOf i).toNat)
    case atStart => exact ⟨0, Nat.zero_le _, rfl, Below.refl _ _, fun _ => rfl, fun e => absurd e (by omega)⟩
    case round =>
      obtain ⟨k, hk, rfl, hb, hz, ht⟩ := hrel
      by_cases h0 : k = 0
      · subst h0
        obtain rfl := hz rfl
        clear hb hz hk ht
        have y0a := fun o => cell_alloc o y0
        have y1a := fun o => cell_alloc o y1
        have y2a := fun o => cell_alloc o y2
        have y3a := fun o => cell_alloc o y3
        have y4a := fun o => cell_alloc o y4
        go_wp2_with fail
        have hw := below2 wr (Obj.cells #[.int .i64 0, .int .i64 0, .int .i64 0, .int .i64 0, .slice A n c] 80) (Obj.cells #[.int .i64 0, .int .i64 0, .int .i64 0, .int .i64 0, .slice B m d] 80)
        generalize (wr.alloc (Obj.cells #[.int .i64 0, .int .i64 0, .int .i64 0, .int .i64 0, .slice A n c] 80)).alloc (Obj.cells #[.int .i64 0, .int .i64 0, .int .i64 0, .int .i64 0, .slice B m d] 80) = W2 at *
        refine (HQ.out W2 hw).mono ?_; rintro e w3 ⟨rfl, hb3⟩
        have HB3 := Lib.hid (hw.trans (hb3.mono hw.size))
        clear hw hb3 x0 x1 x2 x3 x4 y0 y1 y2 y3 y4 y0a y1a y2a y3a y4a
        go_wp2_with fail
        first
          | (go_ret
             exact ⟨ret_bool (by simp), HB3.out⟩)
          | (go_roundw
             case rel => exact ⟨0 + 1, by omega, rfl, HB3, fun e => absurd e (by omega), fun _ => (by first | trivial | rfl)⟩
             case measure => simp [intOf])
      · have h1 : k = 1 := by omega
        subst h1
        clear hz
        first
          | exact absurd (ht rfl) (by decide)
          | (clear ht
             go_wp2_with fail
             go_ret
             exact ⟨ret_bool (by simp), hb.out⟩)
  · go_enter Try.func63, Try.ntmps63
    go_wp2_with fail
    go_loopw [17] (fun i wr => ∃ k : Nat, k ≤ 1 ∧ i = .int .i64 k ∧ Hid (Below w.heap.size w wr) ∧ (k = 0 → wr = w) ∧ (k = 1 → true = true)) (fun i _ => 1 - (intOf i).toNat)
    case atStart => exact ⟨0, Nat.zero_le _, rfl, Below.refl _ _, fun _ => rfl, fun e => absurd e (by omega)⟩
    case round =>
      obtain ⟨k, hk, rfl, hb, hz, ht⟩ := hrel
      by_cases h0 : k = 0
      · subst h0
        obtain rfl := hz rfl
        clear hb hz hk ht
        have y0a := fun o => cell_alloc o y0
        have y1a := fun o => cell_alloc o y1
        have y2a := fun o => cell_alloc o y2
        have y3a := fun o => cell_alloc o y3
        have y4a := fun o => cell_alloc o y4
        go_wp2_with fail
        have hw := below2 wr (Obj.cells #[.int .i64 0, .int .i64 0, .int .i64 0, .int .i64 0, .slice A n c] 80) (Obj.cells #[.int .i64 0, .int .i64 0, .int .i64 0, .int .i64 0, .slice B m d] 80)
        generalize (wr.alloc (Obj.cells #[.int .i64 0, .int .i64 0, .int .i64 0, .int .i64 0, .slice A n c] 80)).alloc (Obj.cells #[.int .i64 0, .int .i64 0, .int .i64 0, .int .i64 0, .slice B m d] 80) = W2 at *
        refine (HQ.out W2 hw).mono ?_; rintro e w3 ⟨rfl, hb3⟩
        have HB3 := Lib.hid (hw.trans (hb3.mono hw.size))
        clear hw hb3 x0 x1 x2 x3 x4 y0 y1 y2 y3 y4 y0a y1a y2a y3a y4a
        go_wp2_with fail
        first
          | (go_ret
             exact ⟨ret_bool (by simp), HB3.out⟩)
          | (go_roundw
             case rel => exact ⟨0 + 1, by omega, rfl, HB3, fun e => absurd e (by omega), fun _ => (by first | trivial | rfl)⟩
             case measure => simp [intOf])
      · have h1 : k = 1 := by omega
        subst h1
        clear hz
        first
          | exact absurd (ht rfl) (by decide)
          | (clear ht
             go_wp2_with fail
             go_ret
             exact ⟨ret_bool (by simp), hb.out⟩)

theorem wsames_h (p q : Nat) (A B : Option Addr) (n m c d : Nat) (r : Bool) (w : World) (hq : From w 76 #[.slice A n c, .slice B m d, .func (.func 77) #[] #[]] (.bool r))
    (hp : w.heap[p]? = some (Obj.cells #[.int .i64 0, .int .i64 0, .int .i64 0, .int .i64 0, .slice A n c] 80)) (hqr : w.heap[q]? = some (Obj.cells #[.int .i64 0, .int .i64 0, .int .i64 0, .int .i64 0, .slice B m d] 80)) :
    Calls Try.prog 46 #[.slice (some ⟨p, 0, none⟩) 1 1, .slice (some ⟨q, 0, none⟩) 1 1] w fun e w' => e = .returned (.bool r) ∧ Below w.heap.size w w' := by
  have H := eqf_bb_h p q A B n m c d r w (wsame_h A B n m c d r w hq) hp hqr
  clear hq hp hqr
  go_enter Try.func46, Try.ntmps46
  go_wp2_with fail
  refine H.mono ?_; rintro e w1 ⟨rfl, hb⟩
  go_wp2_with fail
  go_ret
  exact ⟨ret_bool (by simp), hb⟩

theorem wcommit_h (A : Option Addr) (n c : Nat) (r : Bool) (w : World) (hq : From w 73 #[.slice A n c] (.bool r)) :
    From w 58 #[.agg #[.int .i64 1, .int .i64 0, .int .i64 1, .int .i64 1, .slice A n c]] (.bool r) := by
  intro W hW
  replace hq := hq.on hW
  clear hW
  have hb := (Below.refl W.heap.size W).alloc (Nat.le_refl _) (.cells #[.int .i64 1, .int .i64 0, .int .i64 1, .int .i64 1, .slice A n c] 80)
  have HQ := Lib.hid (hq.on hb)
  have HB := Lib.hid hb
  clear hq hb
  go_enter Try.func58, Try.ntmps58
  go_wp2_with (go_at_call 72; refine (wbetween_c _ _ _ _).mono ?_; rintro e w' ⟨rfl, rfl⟩)
  refine HQ.out.here.mono ?_; rintro e w1 ⟨rfl, hb1⟩
  have HB1 := Lib.hid (HB.out.trans (hb1.mono HB.out.size))
  clear hb1
  go_wp2_with fail
  go_ret
  exact ⟨ret_bool (by simp), HB1.out⟩

theorem wmark_c (A : Option Addr) (n c : Nat) (w : World) : Calls Try.prog 59 #[.agg #[.int .i64 1, .int .i64 0, .int .i64 1, .int .i64 1, .slice A n c]] w fun e w' => e = .returned (.bool false) ∧ Below w.heap.size w w' := by
  have hb := (Below.refl w.heap.size w).alloc (Nat.le_refl _) (.cells #[.int .i64 1, .int .i64 0, .int .i64 1, .int .i64 1, .slice A n c] 80)
  go_enter Try.func59, Try.ntmps59
  go_wp2_with (go_at_call 72; refine (wbetween_c _ _ _ _).mono ?_; rintro e w' ⟨rfl, rfl⟩)
  go_ret
  exact ⟨ret_bool (by simp), hb⟩

theorem wright_h (A : Option Addr) (n c : Nat) (r : Bool) (w : World) (hq : From w 73 #[.slice A n c] (.bool r)) :
    From w 39 #[.agg #[.int .i64 1, .int .i64 0, .int .i64 1, .int .i64 1, .slice A n c]] (.bool r) := by
  intro W hW
  replace hq := hq.on hW
  clear hW
  have hb := (Below.refl W.heap.size W).alloc (Nat.le_refl _) (.cells #[.int .i64 1, .int .i64 0, .int .i64 1, .int .i64 1, .slice A n c] 80)
  have hr := heap_alloc_new W (.cells #[.int .i64 1, .int .i64 0, .int .i64 1, .int .i64 1, .slice A n c] 80)
  have HQ := Lib.hid (wcommit_h A n c r _ (hq.on hb))
  clear hq
  go_enter Try.func39, Try.ntmps39
  go_wp2_with fail
  generalize W.alloc (.cells #[.int .i64 1, .int .i64 0, .int .i64 1, .int .i64 1, .slice A n c] 80) = W0 at *
  refine HQ.out.here.mono ?_; rintro e w1 ⟨rfl, hb1⟩
  have hr1 := (hb1.block W.heap.size (lt_of_row (Nat.le_refl _) hr)).trans hr
  have HB1 := Lib.hid (hb.trans (hb1.mono hb.size))
  clear hb hb1 hr
  obtain ⟨x0, x1, x2, x3, x4, xz⟩ := row5 hr1
  clear hr1
  cases r
  · go_wp2_with fail
    refine (wmark_c A n c _).mono ?_; rintro e w2 ⟨rfl, hb2⟩
    have HB2 := Lib.hid (HB1.out.trans (hb2.mono HB1.out.size))
    clear hb2
    go_wp2_with fail
    go_ret
    exact ⟨ret_bool (by simp), HB2.out⟩
  · go_wp2_with fail
    go_ret
    exact ⟨ret_bool (by simp), HB1.out⟩

end Go.Proofs.Ytbhjdapkhcgmlaa

namespace Go.Proofs.Ytbhjdapkhcgmlaa
open Go.RowKit

attribute [local go_sem] run_store_complex

/-! msg.Same of any two messages of one kind. -/

def headsEq (pg ob tx cp ow : Int) (wr : Bool) (pg' ob' tx' cp' ow' : Int) (wr' : Bool) : Bool :=
  decide (pg = pg') && (decide (ob = ob') && (decide (tx = tx') && (decide (cp = cp') && (decide (ow = ow') && decide (wr = wr')))))

set_option maxRecDepth 100000 in
set_option maxHeartbeats 8000000 in
theorem msame_h (k pg ob tx cp ow : Int) (wr : Bool) (A : Option Addr) (n c : Nat) (a0 b0 a1 b1 a2 b2 a3 b3 : Nat) (pg' ob' tx' cp' ow' : Int) (wr' : Bool) (B : Option Addr) (m d : Nat) (c0 d0 c1 d1 c2 d2 c3 d3 : Nat) (r : Bool) (w : World)
    (hq : From w 76 #[.slice A n c, .slice B m d, .func (.func 77) #[] #[]] (.bool r)) :
    From w 22 #[.agg #[.int .i64 k, .int .i64 pg, .int .i64 ob, .int .i64 tx, .int .i64 cp, .int .i64 ow, .bool wr, .slice A n c, .complex .f64 a0 b0, .complex .f64 a1 b1, .complex .f64 a2 b2, .complex .f64 a3 b3], .agg #[.int .i64 k, .int .i64 pg', .int .i64 ob', .int .i64 tx', .int .i64 cp', .int .i64 ow', .bool wr', .slice B m d, .complex .f64 c0 d0, .complex .f64 c1 d1, .complex .f64 c2 d2, .complex .f64 c3 d3]] (.bool (headsEq pg ob tx cp ow wr pg' ob' tx' cp' ow' wr' && (same4 (a0, b0) (a1, b1) (a2, b2) (a3, b3) (c0, d0) (c1, d1) (c2, d2) (c3, d3) && r))) := by
  intro W hW
  replace hq := hq.on hW
  clear hW
  have hb := below2 W (.cells #[.int .i64 k, .int .i64 pg, .int .i64 ob, .int .i64 tx, .int .i64 cp, .int .i64 ow, .bool wr, .slice A n c, .complex .f64 a0 b0, .complex .f64 a1 b1, .complex .f64 a2 b2, .complex .f64 a3 b3] 30) (.cells #[.int .i64 k, .int .i64 pg', .int .i64 ob', .int .i64 tx', .int .i64 cp', .int .i64 ow', .bool wr', .slice B m d, .complex .f64 c0 d0, .complex .f64 c1 d1, .complex .f64 c2 d2, .complex .f64 c3 d3] 30)
  by_cases h0 : pg = pg'
  rotate_left
  · have hf : ((pg : Int) == pg') = false := by simp; omega
    have HE : Hid (headsEq pg ob tx cp ow wr pg' ob' tx' cp' ow' wr' = false) := by unfold Hid headsEq; simp [h0]
    clear h0 hq
    go_enter Try.func22, Try.ntmps22
    go_wp2_with fail
    go_ret
    exact ⟨ret_bool (by rw [HE.out]; rfl), hb⟩
  subst h0
  by_cases h1 : ob = ob'
  rotate_left
  · have hf : ((ob : Int) == ob') = false := by simp; omega
    have HE : Hid (headsEq pg ob tx cp ow wr pg ob' tx' cp' ow' wr' = false) := by unfold Hid headsEq; simp [h1]
    clear h1 hq
    go_enter Try.func22, Try.ntmps22
    go_wp2_with fail
    go_ret
    exact ⟨ret_bool (by rw [HE.out]; rfl), hb⟩
  subst h1
  by_cases h2 : tx = tx'
  rotate_left
  · have hf : ((tx : Int) == tx') = false := by simp; omega
    have HE : Hid (headsEq pg ob tx cp ow wr pg ob tx' cp' ow' wr' = false) := by unfold Hid headsEq; simp [h2]
    clear h2 hq
    go_enter Try.func22, Try.ntmps22
    go_wp2_with fail
    go_ret
    exact ⟨ret_bool (by rw [HE.out]; rfl), hb⟩
  subst h2
  by_cases h3 : cp = cp'
  rotate_left
  · have hf : ((cp : Int) == cp') = false := by simp; omega
    have HE : Hid (headsEq pg ob tx cp ow wr pg ob tx cp' ow' wr' = false) := by unfold Hid headsEq; simp [h3]
    clear h3 hq
    go_enter Try.func22, Try.ntmps22
    go_wp2_with fail
    go_ret
    exact ⟨ret_bool (by rw [HE.out]; rfl), hb⟩
  subst h3
  by_cases h4 : ow = ow'
  rotate_left
  · have hf : ((ow : Int) == ow') = false := by simp; omega
    have HE : Hid (headsEq pg ob tx cp ow wr pg ob tx cp ow' wr' = false) := by unfold Hid headsEq; simp [h4]
    clear h4 hq
    go_enter Try.func22, Try.ntmps22
    go_wp2_with fail
    go_ret
    exact ⟨ret_bool (by rw [HE.out]; rfl), hb⟩
  subst h4
  by_cases h5 : wr = wr'
  rotate_left
  · have hf : (wr == wr') = false := by cases wr <;> cases wr' <;> simp_all
    have HE : Hid (headsEq pg ob tx cp ow wr pg ob tx cp ow wr' = false) := by unfold Hid headsEq; simp [h5]
    clear h5 hq
    go_enter Try.func22, Try.ntmps22
    go_wp2_with fail
    go_ret
    exact ⟨ret_bool (by rw [HE.out]; rfl), hb⟩
  subst h5
  have HE : Hid (headsEq pg ob tx cp ow wr pg ob tx cp ow wr = true) := by unfold Hid headsEq; simp
  have p1 := heap_alloc2_old W (.cells #[.int .i64 k, .int .i64 pg, .int .i64 ob, .int .i64 tx, .int .i64 cp, .int .i64 ow, .bool wr, .slice A n c, .complex .f64 a0 b0, .complex .f64 a1 b1, .complex .f64 a2 b2, .complex .f64 a3 b3] 30) (.cells #[.int .i64 k, .int .i64 pg, .int .i64 ob, .int .i64 tx, .int .i64 cp, .int .i64 ow, .bool wr, .slice B m d, .complex .f64 c0 d0, .complex .f64 c1 d1, .complex .f64 c2 d2, .complex .f64 c3 d3] 30)
  have p2 := heap_alloc2_new W (.cells #[.int .i64 k, .int .i64 pg, .int .i64 ob, .int .i64 tx, .int .i64 cp, .int .i64 ow, .bool wr, .slice A n c, .complex .f64 a0 b0, .complex .f64 a1 b1, .complex .f64 a2 b2, .complex .f64 a3 b3] 30) (.cells #[.int .i64 k, .int .i64 pg, .int .i64 ob, .int .i64 tx, .int .i64 cp, .int .i64 ow, .bool wr, .slice B m d, .complex .f64 c0 d0, .complex .f64 c1 d1, .complex .f64 c2 d2, .complex .f64 c3 d3] 30)
  have hv := values_g a0 b0 a1 b1 a2 b2 a3 b3 c0 d0 c1 d1 c2 d2 c3 d3
  generalize hS : same4 (a0, b0) (a1, b1) (a2, b2) (a3, b3) (c0, d0) (c1, d1) (c2, d2) (c3, d3) = S at *
  clear hS
  have HV := Lib.hid hv
  have HQ := Lib.hid hq
  clear hv hq
  rw [HE.out]
  go_enter Try.func22, Try.ntmps22
  go_wp2_with fail
  generalize (W.alloc (.cells #[.int .i64 k, .int .i64 pg, .int .i64 ob, .int .i64 tx, .int .i64 cp, .int .i64 ow, .bool wr, .slice A n c, .complex .f64 a0 b0, .complex .f64 a1 b1, .complex .f64 a2 b2, .complex .f64 a3 b3] 30)).alloc (.cells #[.int .i64 k, .int .i64 pg, .int .i64 ob, .int .i64 tx, .int .i64 cp, .int .i64 ow, .bool wr, .slice B m d, .complex .f64 c0 d0, .complex .f64 c1 d1, .complex .f64 c2 d2, .complex .f64 c3 d3] 30) = W0 at *
  refine (HV.out W0).mono ?_; rintro e w1 ⟨rfl, hb1⟩
  have z1 : W.heap.size < W0.heap.size := lt_of_row (by omega) p2
  have z2 : W.heap.size + 1 < W0.heap.size := lt_of_row (by omega) p2
  have r1 := (hb1.block W.heap.size z1).trans p1
  have r2 := (hb1.block (W.heap.size + 1) z2).trans p2
  have HB1 := Lib.hid (hb.trans (hb1.mono hb.size))
  clear hb hb1 p1 p2
  obtain ⟨x0, x1, x2, x3, x4, x5, x6, x7, x8, x9, x10, x11, xz⟩ := row12 r1
  obtain ⟨y0, y1, y2, y3, y4, y5, y6, y7, y8, y9, y10, y11, yz⟩ := row12 r2
  clear r1 r2
  have x7a := fun o => cell_alloc o x7
  have y7a := fun o => cell_alloc o y7
  cases S
  · go_wp2_with fail
    go_ret
    exact ⟨ret_bool (by simp), HB1.out⟩
  · go_wp2_with fail
    have hw := below2 w1 (Obj.cells #[.int .i64 0, .int .i64 0, .int .i64 0, .int .i64 0, .slice A n c] 80) (Obj.cells #[.int .i64 0, .int .i64 0, .int .i64 0, .int .i64 0, .slice B m d] 80)
    have e1 := heap_alloc2_old w1 (Obj.cells #[.int .i64 0, .int .i64 0, .int .i64 0, .int .i64 0, .slice A n c] 80) (Obj.cells #[.int .i64 0, .int .i64 0, .int .i64 0, .int .i64 0, .slice B m d] 80)
    have e2 := heap_alloc2_new w1 (Obj.cells #[.int .i64 0, .int .i64 0, .int .i64 0, .int .i64 0, .slice A n c] 80) (Obj.cells #[.int .i64 0, .int .i64 0, .int .i64 0, .int .i64 0, .slice B m d] 80)
    generalize (w1.alloc (Obj.cells #[.int .i64 0, .int .i64 0, .int .i64 0, .int .i64 0, .slice A n c] 80)).alloc (Obj.cells #[.int .i64 0, .int .i64 0, .int .i64 0, .int .i64 0, .slice B m d] 80) = W2 at *
    have HB2 := Lib.hid (HB1.out.trans (hw.mono HB1.out.size))
    clear hw HB1 x7a y7a
    refine (wsames_h _ _ A B n m c d r _ (HQ.out.on HB2.out) e1 e2).mono ?_; rintro e w3 ⟨rfl, hb3⟩
    have HB3 := Lib.hid (HB2.out.trans (hb3.mono HB2.out.size))
    clear HB2 hb3 e1 e2 x0 x1 x2 x3 x4 x5 x6 x7 x8 x9 x10 x11 xz y0 y1 y2 y3 y4 y5 y6 y7 y8 y9 y10 y11 yz
    go_wp2_with fail
    go_ret
    exact ⟨ret_bool (by simp), HB3.out⟩

end Go.Proofs.Ytbhjdapkhcgmlaa
