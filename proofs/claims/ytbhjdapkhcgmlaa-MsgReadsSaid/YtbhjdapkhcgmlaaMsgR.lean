import Derived.Test.YtbhjdapkhcgmlaaMsgJ
import Derived.Test.YtbhjdapkhcgmlaaMsgQ
import Derived.Handy
import Derived.Deep.Cut

set_option linter.unusedSimpArgs false
set_option linter.unusedVariables false
set_option linter.unnecessarySimpa false

namespace Go.Proofs.Ytbhjdapkhcgmlaa
open Go.RowKit

attribute [local go_sem] run_store_complex

/-! Lists of puts: how they are read; wal's place, same, puts over them. -/

/-- A put: its page, its object, its value's parts. -/
structure PutV where
  pg : Int
  ob : Int
  re : Nat
  im : Nat
deriving DecidableEq

/-- The puts in the row b. -/
def RdP (w : World) (b : Nat) (ps : List PutV) : Prop := ∀ (i : Nat) (p : PutV), ps[i]? = some p → w.cell? ⟨b, i * 3, none⟩ = some (.int .i64 p.pg) ∧ w.cell? ⟨b, i * 3 + 1, none⟩ = some (.int .i64 p.ob) ∧ w.cell? ⟨b, i * 3 + 2, none⟩ = some (.complex .f64 p.re p.im)

theorem RdP.below {w w' : World} {b : Nat} {ps : List PutV} (h : RdP w b ps) (hb : Below w.heap.size w w') : RdP w' b ps := fun i p hp => by
  obtain ⟨h0, h1, h2⟩ := h i p hp
  exact ⟨cell_below hb h0, cell_below hb h1, cell_below hb h2⟩

theorem row3 {w : World} {b : Nat} {T : TypeId} {v0 v1 v2 : Value} (h : w.heap[b]? = some (.cells #[v0, v1, v2] T (0, 0))) : w.cell? ⟨b, 0, none⟩ = some v0 ∧ w.cell? ⟨b, 1, none⟩ = some v1 ∧ w.cell? ⟨b, 2, none⟩ = some v2 ∧ ∀ j, w.frozen? ⟨b, j, none⟩ = false :=
  ⟨(cell_of_row w b 0 _ _ _ h).trans rfl, (cell_of_row w b 1 _ _ _ h).trans rfl, (cell_of_row w b 2 _ _ _ h).trans rfl, row_thawed h⟩

theorem place_c (pg ob : Int) (a b : Nat) (h1 : 0 ≤ pg) (h2 : pg ≤ 16777215) (h3 : 0 ≤ ob) (h4 : ob ≤ 16777215) (w : World) : Calls Try.prog 78 #[.agg #[.int .i64 pg, .int .i64 ob, .complex .f64 a b]] w fun e w' => e = .returned (.int .i64 (pg * 4 + ob)) ∧ Below w.heap.size w w' := by
  have hb := (Below.refl w.heap.size w).alloc (Nat.le_refl _) (.cells #[.int .i64 pg, .int .i64 ob, .complex .f64 a b] 53)
  go_enter Try.func78, Try.ntmps78
  go_wp2_with fail
  go_ret
  refine ⟨ret_int ?_, hb⟩
  first | rfl | omega | (simp; omega)


theorem csame_r (a b : Nat) (w : World) : Calls Try.prog 62 #[.complex .f64 a b, .complex .f64 a b] w fun e w' => e = .returned (.bool true) ∧ w = w' := csame_c a b w

theorem box2 {w : World} {b c : Nat} {p : PutV} (h1 : w.heap[b]? = some (.cells #[.int .i64 p.pg, .int .i64 p.ob, .complex .f64 p.re p.im] 53 (0, 0))) (h2 : w.heap[c]? = some (.cells #[.int .i64 p.pg, .int .i64 p.ob, .complex .f64 p.re p.im] 53 (0, 0))) :
    Hid (w.cell? ⟨b, 0, none⟩ = some (.int .i64 p.pg) ∧ w.cell? ⟨b, 1, none⟩ = some (.int .i64 p.ob) ∧ w.cell? ⟨b, 2, none⟩ = some (.complex .f64 p.re p.im) ∧ w.cell? ⟨c, 0, none⟩ = some (.int .i64 p.pg) ∧ w.cell? ⟨c, 1, none⟩ = some (.int .i64 p.ob) ∧ w.cell? ⟨c, 2, none⟩ = some (.complex .f64 p.re p.im)) := by
  obtain ⟨x0, x1, x2, -⟩ := row3 h1
  obtain ⟨y0, y1, y2, -⟩ := row3 h2
  exact ⟨x0, x1, x2, y0, y1, y2⟩

theorem wsame1_c (p : PutV) (h1 : 0 ≤ p.pg) (h2 : p.pg ≤ 16777215) (h3 : 0 ≤ p.ob) (h4 : p.ob ≤ 16777215) (w : World) :
    Calls Try.prog 77 #[.agg #[.int .i64 p.pg, .int .i64 p.ob, .complex .f64 p.re p.im], .agg #[.int .i64 p.pg, .int .i64 p.ob, .complex .f64 p.re p.im]] w fun e w' => e = .returned (.bool true) ∧ Below w.heap.size w w' := by
  have HP : Hid (∀ W : World, Calls Try.prog 78 #[.agg #[.int .i64 p.pg, .int .i64 p.ob, .complex .f64 p.re p.im]] W fun e w' => e = .returned (.int .i64 (p.pg * 4 + p.ob)) ∧ Below W.heap.size W w') := fun W => place_c _ _ _ _ h1 h2 h3 h4 W
  have hb := below2 w (.cells #[.int .i64 p.pg, .int .i64 p.ob, .complex .f64 p.re p.im] 53) (.cells #[.int .i64 p.pg, .int .i64 p.ob, .complex .f64 p.re p.im] 53)
  have p1 := heap_alloc2_old w (.cells #[.int .i64 p.pg, .int .i64 p.ob, .complex .f64 p.re p.im] 53) (.cells #[.int .i64 p.pg, .int .i64 p.ob, .complex .f64 p.re p.im] 53)
  have p2 := heap_alloc2_new w (.cells #[.int .i64 p.pg, .int .i64 p.ob, .complex .f64 p.re p.im] 53) (.cells #[.int .i64 p.pg, .int .i64 p.ob, .complex .f64 p.re p.im] 53)
  clear h1 h2 h3 h4
  go_enter Try.func77, Try.ntmps77
  go_wp2_with fail
  generalize (w.alloc (.cells #[.int .i64 p.pg, .int .i64 p.ob, .complex .f64 p.re p.im] 53)).alloc (.cells #[.int .i64 p.pg, .int .i64 p.ob, .complex .f64 p.re p.im] 53) = W0 at *
  have HB0 := Lib.hid hb.drew
  have HR1 := Lib.hid (row_drewI p1)
  have HR2 := Lib.hid (row_drewI p2)
  obtain ⟨x0, x1, x2, xz⟩ := row3 p1
  obtain ⟨y0, y1, y2, yz⟩ := row3 p2
  have HBOX : Hid True := trivial
  clear hb p1 p2
  go_region_held_law (fun W => W.cell? ⟨w.heap.size, 0, none⟩ = some (.int .i64 p.pg) ∧ W.cell? ⟨w.heap.size, 1, none⟩ = some (.int .i64 p.ob) ∧ W.cell? ⟨w.heap.size, 2, none⟩ = some (.complex .f64 p.re p.im) ∧ W.cell? ⟨w.heap.size + 1, 0, none⟩ = some (.int .i64 p.pg) ∧ W.cell? ⟨w.heap.size + 1, 1, none⟩ = some (.int .i64 p.ob) ∧ W.cell? ⟨w.heap.size + 1, 2, none⟩ = some (.complex .f64 p.re p.im)) (first | go_keep | exact HBOX.out)
    (first
      | (go_at_call 78; clear HBOX; refine (HP.out _).mono ?_; rintro e w1 ⟨rfl, hb1⟩; have HQ1 := Lib.hid ((hb1.block w.heap.size (lt_of_row (Nat.le_refl _) HR1.out)).trans HR1.out); have HQ2 := Lib.hid ((hb1.block (w.heap.size + 1) (lt_of_row (Nat.le_refl _) HR2.out)).trans HR2.out); have HB1 := Lib.hid (HB0.out.trans (hb1.mono HB0.out.size)); clear HR1 HR2 HB0; have HR1 := HQ1; have HR2 := HQ2; have HB0 := HB1; clear HQ1 HQ2 HB1; have HBOX := box2 HR1.out HR2.out; clear hb1)
      | (go_at_call 62; refine (csame_r _ _ _).mono ?_; rintro e w' ⟨rfl, rfl⟩))
  all_goals
    go_wp2_with fail
    go_ret
    exact ⟨ret_bool (by simp), HB0.out⟩

theorem eqf_puts_same (b : Nat) (ps : List PutV) (n c d : Nat) (hn : ps.length = n) (hl : n ≤ 1000) (w : World) (h : RdP w b ps) (hr : ∀ p ∈ ps, 0 ≤ p.pg ∧ p.pg ≤ 16777215 ∧ 0 ≤ p.ob ∧ p.ob ≤ 16777215) :
    Calls Try.prog 76 #[.slice (some ⟨b, 0, none⟩) n c, .slice (some ⟨b, 0, none⟩) n d, .func (.func 77) #[] #[]] w fun e w' => e = .returned (.bool true) ∧ Below w.heap.size w w' := by
  go_enter Try.func76, Try.ntmps76
  go_wp2_with fail
  go_loopw [17] (fun i wr => ∃ k : Nat, k ≤ n ∧ i = .int .i64 k ∧ Hid (Below w.heap.size w wr)) (fun i _ => n - (intOf i).toNat)
  case atStart => exact ⟨0, Nat.zero_le _, rfl, Below.refl _ _⟩
  case round =>
    obtain ⟨k, hk, rfl, hb⟩ := hrel
    by_cases hlt : k < n
    · obtain ⟨p, hp⟩ := get_some ps k (by omega)
      obtain ⟨y0, y1, y2⟩ := h.below hb.out k p hp
      obtain ⟨q1, q2, q3, q4⟩ := hr p (List.mem_of_getElem? hp)
      have HS := Lib.hid (wsame1_c p q1 q2 q3 q4)
      have y0a := fun o => cell_alloc o y0
      have y1a := fun o => cell_alloc o y1
      have y2a := fun o => cell_alloc o y2
      clear h hr q1 q2 q3 q4
      go_wp2_with fail
      have hw := below2 wr (.cells #[.int .i64 p.pg, .int .i64 p.ob, .complex .f64 p.re p.im] 53) (.cells #[.int .i64 p.pg, .int .i64 p.ob, .complex .f64 p.re p.im] 53)
      generalize (wr.alloc (.cells #[.int .i64 p.pg, .int .i64 p.ob, .complex .f64 p.re p.im] 53)).alloc (.cells #[.int .i64 p.pg, .int .i64 p.ob, .complex .f64 p.re p.im] 53) = W2 at *
      refine (HS.out _).mono ?_; rintro e w3 ⟨rfl, hb3⟩
      have HB3 := Lib.hid (hb.out.trans ((hw.trans (hb3.mono hw.size)).mono hb.out.size))
      clear hw hb3 y0 y1 y2 y0a y1a y2a
      go_wp2_with fail
      go_roundw
      case rel => exact ⟨k + 1, by omega, by simp, HB3⟩
      case measure => simp [intOf]; omega
    · have he : k = n := by omega
      subst he
      go_wp2_with fail
      go_ret
      exact ⟨ret_bool (by simp), hb.out⟩

theorem eqf_puts_diff (A B : Option Addr) (n m c d : Nat) (hn : n ≠ m) (v : Value) (w : World) :
    Calls Try.prog 76 #[.slice A n c, .slice B m d, v] w fun e w' => e = .returned (.bool false) ∧ w = w' := by
  have h : ((n : Int) == (m : Int)) = false := by simp; omega
  go_enter Try.func76, Try.ntmps76
  go_wp2_with fail
  go_ret
  exact ⟨ret_bool (by simp), rfl⟩

end Go.Proofs.Ytbhjdapkhcgmlaa

namespace Go.Proofs.Ytbhjdapkhcgmlaa
open Go.RowKit

attribute [local go_sem] run_store_complex

/-! wal.puts, wal.Right over lists of puts. -/

def placeV (p : PutV) : Int := p.pg * 4 + p.ob
def inB (p : PutV) : Bool := decide (p.pg ≤ 5) && decide (p.ob ≤ 3)
/-- Puts that rise behind a place. -/
def putsFrom : Int → List PutV → Bool
  | _, [] => true
  | last, p :: r => inB p && (decide (last < placeV p) && putsFrom (placeV p) r)
def putsOk (ps : List PutV) : Bool := putsFrom (-1) ps && decide (ps.length ≤ 24)
/-- The puts' numbers are of three bytes each. -/
def Small (ps : List PutV) : Prop := ∀ p ∈ ps, 0 ≤ p.pg ∧ p.pg ≤ 16777215 ∧ 0 ≤ p.ob ∧ p.ob ≤ 16777215

theorem wputs_c (b : Nat) (ps : List PutV) (n c : Nat) (hn : ps.length = n) (hl : n ≤ 1000) (w : World) (h : RdP w b ps) (hr : Small ps) :
    Calls Try.prog 73 #[.slice (some ⟨b, 0, none⟩) n c] w fun e w' => e = .returned (.bool (putsOk ps)) ∧ Below w.heap.size w w' := by
  go_enter Try.func73, Try.ntmps73
  go_wp2_with fail
  go_loopw [3, 8] (fun l i wr => ∃ (k : Nat) (z : Int), k ≤ n ∧ l = .int .i64 z ∧ i = .int .i64 k ∧ Hid (putsFrom (-1) ps = putsFrom z (ps.drop k)) ∧ Hid (Below w.heap.size w wr)) (fun _ i _ => n - (intOf i).toNat)
  case atStart => exact ⟨0, -1, Nat.zero_le _, rfl, rfl, rfl, Below.refl _ _⟩
  case round =>
    obtain ⟨k, z, hk, rfl, rfl, hz, hb⟩ := hrel
    by_cases hlt : k < n
    · obtain ⟨p, hp⟩ := get_some ps k (by omega)
      obtain ⟨y0, y1, y2⟩ := h.below hb.out k p hp
      obtain ⟨q1, q2, q3, q4⟩ := hr p (List.mem_of_getElem? hp)
      have hd : ps.drop k = p :: ps.drop (k + 1) := by
        obtain ⟨hlt2, e⟩ := List.getElem?_eq_some_iff.1 hp
        rw [← e]; exact List.drop_eq_getElem_cons hlt2
      have HD := Lib.hid hd
      clear h hr hp hd
      by_cases hp5 : p.pg ≤ 5
      · by_cases ho3 : p.ob ≤ 3
        · have HPL : Hid (∀ W : World, Calls Try.prog 78 #[.agg #[.int .i64 p.pg, .int .i64 p.ob, .complex .f64 p.re p.im]] W fun e w' => e = .returned (.int .i64 (placeV p)) ∧ Below W.heap.size W w') := fun W => place_c _ _ _ _ q1 q2 q3 q4 W
          have b1 : decide ((0 : Int) ≤ p.pg ∧ p.pg ≤ 5) = true := by simp; omega
          have b2 : decide ((0 : Int) ≤ p.ob ∧ p.ob ≤ 3) = true := by simp; omega
          by_cases hlast : placeV p ≤ z
          · have HE : Hid (putsOk ps = false) := by
              unfold Hid putsOk; rw [hz.out, HD.out]; unfold putsFrom
              rw [show decide (z < placeV p) = false by simp; omega]; simp
            generalize placeV p = pl at *
            clear q1 q2 q3 q4 hp5 ho3
            go_wp2_with fail
            have hw := (Below.refl wr.heap.size wr).alloc (Nat.le_refl _) (.cells #[.int .i64 p.pg, .int .i64 p.ob, .complex .f64 p.re p.im] 53)
            have hrow := heap_alloc_new wr (.cells #[.int .i64 p.pg, .int .i64 p.ob, .complex .f64 p.re p.im] 53)
            generalize wr.alloc (.cells #[.int .i64 p.pg, .int .i64 p.ob, .complex .f64 p.re p.im] 53) = W2 at *
            obtain ⟨x0, x1, x2, xz⟩ := row3 hrow
            refine (wbetween_c _ _ _ _).mono ?_; rintro e w1 ⟨rfl, rfl⟩
            rw [b1]
            go_wp2_with fail
            refine (wbetween_c _ _ _ _).mono ?_; rintro e w1 ⟨rfl, rfl⟩
            rw [b2]
            go_wp2_with fail
            refine (HPL.out _).mono ?_; rintro e w3 ⟨rfl, hb3⟩
            have HB3 := Lib.hid (hb.out.trans ((hw.trans (hb3.mono hw.size)).mono hb.out.size))
            clear hw hb3 hrow x0 x1 x2 xz y0 y1 y2
            go_wp2_with fail
            go_ret
            exact ⟨ret_bool (by rw [HE.out]), HB3.out⟩
          · have hlast2 : z < placeV p := by omega
            have HE : Hid (putsFrom (-1) ps = putsFrom (placeV p) (ps.drop (k + 1))) := by
              unfold Hid; rw [hz.out, HD.out, putsFrom]
              rw [show decide (z < placeV p) = true by simp; omega, show inB p = true by unfold inB; simp; omega]; simp
            generalize placeV p = pl at *
            clear q1 q2 q3 q4 hp5 ho3 hz
            go_wp2_with fail
            have hw := (Below.refl wr.heap.size wr).alloc (Nat.le_refl _) (.cells #[.int .i64 p.pg, .int .i64 p.ob, .complex .f64 p.re p.im] 53)
            have hrow := heap_alloc_new wr (.cells #[.int .i64 p.pg, .int .i64 p.ob, .complex .f64 p.re p.im] 53)
            generalize wr.alloc (.cells #[.int .i64 p.pg, .int .i64 p.ob, .complex .f64 p.re p.im] 53) = W2 at *
            obtain ⟨x0, x1, x2, xz⟩ := row3 hrow
            refine (wbetween_c _ _ _ _).mono ?_; rintro e w1 ⟨rfl, rfl⟩
            rw [b1]
            go_wp2_with fail
            refine (wbetween_c _ _ _ _).mono ?_; rintro e w1 ⟨rfl, rfl⟩
            rw [b2]
            go_wp2_with fail
            refine (HPL.out _).mono ?_; rintro e w3 ⟨rfl, hb3⟩
            have hrow3 := (hb3.block wr.heap.size (lt_of_row (Nat.le_refl _) hrow)).trans hrow
            have HB3 := Lib.hid (hb.out.trans ((hw.trans (hb3.mono hw.size)).mono hb.out.size))
            clear hw hb3 hrow x0 x1 x2 xz y0 y1 y2
            obtain ⟨x0, x1, x2, xz⟩ := row3 hrow3
            clear hrow3
            go_wp2_with fail
            refine (HPL.out _).mono ?_; rintro e w4 ⟨rfl, hb4⟩
            have HB4 := Lib.hid (HB3.out.trans (hb4.mono HB3.out.size))
            clear hb4
            go_wp2_with fail
            go_roundw
            case rel => exact ⟨k + 1, pl, by omega, rfl, by simp, HE, HB4⟩
            case measure => simp [intOf]; omega
        · have HE : Hid (putsOk ps = false) := by
            unfold Hid putsOk; rw [hz.out, HD.out]; unfold putsFrom inB; simp [ho3]
          have b1 : decide ((0 : Int) ≤ p.pg ∧ p.pg ≤ 5) = true := by simp; omega
          have b2 : decide ((0 : Int) ≤ p.ob ∧ p.ob ≤ 3) = false := by simp; omega
          clear q1 q2 q3 q4 hp5 ho3
          go_wp2_with fail
          have hw := (Below.refl wr.heap.size wr).alloc (Nat.le_refl _) (.cells #[.int .i64 p.pg, .int .i64 p.ob, .complex .f64 p.re p.im] 53)
          have hrow := heap_alloc_new wr (.cells #[.int .i64 p.pg, .int .i64 p.ob, .complex .f64 p.re p.im] 53)
          generalize wr.alloc (.cells #[.int .i64 p.pg, .int .i64 p.ob, .complex .f64 p.re p.im] 53) = W2 at *
          obtain ⟨x0, x1, x2, xz⟩ := row3 hrow
          refine (wbetween_c _ _ _ _).mono ?_; rintro e w1 ⟨rfl, rfl⟩
          rw [b1]
          go_wp2_with fail
          refine (wbetween_c _ _ _ _).mono ?_; rintro e w1 ⟨rfl, rfl⟩
          rw [b2]
          go_wp2_with fail
          go_ret
          exact ⟨ret_bool (by rw [HE.out]), hb.out.trans (hw.mono hb.out.size)⟩
      · have HE : Hid (putsOk ps = false) := by
          unfold Hid putsOk; rw [hz.out, HD.out]; unfold putsFrom inB; simp [hp5]
        have b1 : decide ((0 : Int) ≤ p.pg ∧ p.pg ≤ 5) = false := by simp; omega
        clear q1 q2 q3 q4 hp5
        go_wp2_with fail
        have hw := (Below.refl wr.heap.size wr).alloc (Nat.le_refl _) (.cells #[.int .i64 p.pg, .int .i64 p.ob, .complex .f64 p.re p.im] 53)
        have hrow := heap_alloc_new wr (.cells #[.int .i64 p.pg, .int .i64 p.ob, .complex .f64 p.re p.im] 53)
        generalize wr.alloc (.cells #[.int .i64 p.pg, .int .i64 p.ob, .complex .f64 p.re p.im] 53) = W2 at *
        obtain ⟨x0, x1, x2, xz⟩ := row3 hrow
        refine (wbetween_c _ _ _ _).mono ?_; rintro e w1 ⟨rfl, rfl⟩
        rw [b1]
        go_wp2_with fail
        go_ret
        exact ⟨ret_bool (by rw [HE.out]), hb.out.trans (hw.mono hb.out.size)⟩
    · have he : k = n := by omega
      subst he
      have HE : Hid (putsOk ps = decide ((k : Int) ≤ 24)) := by
        unfold Hid putsOk; rw [hz.out, ← hn, List.drop_length]; simp [putsFrom]; omega
      clear hz h hr
      go_wp2_with fail
      go_ret
      exact ⟨ret_bool (by rw [HE.out]), hb.out⟩

end Go.Proofs.Ytbhjdapkhcgmlaa
