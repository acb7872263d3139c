import Derived.Test.YtbhjdapkhcgmlaaMsgH
import Derived.Handy
import Derived.Deep.Cut

set_option linter.unusedSimpArgs false
set_option linter.unusedVariables false
set_option linter.unnecessarySimpa false

namespace Go.Proofs.Ytbhjdapkhcgmlaa
open Go.RowKit

attribute [local go_sem] run_store_complex

/-! msg's reader over any bytes: what it has left, whether it is bad; its numbers, its values. -/

/-- What a reader's next numbers are, and what it has left. -/
def numsX (s : List UInt8 × Bool) (m : Nat) : List Int × List UInt8 × Bool :=
  if s.2 = false ∧ 3 * m ≤ s.1.length then (ints3 s.1 m, s.1.drop (3 * m), false) else (List.replicate m 0, s.1, true)
/-- What a reader's next value is, and what it has left. -/
def valX (s : List UInt8 × Bool) : (Nat × Nat) × List UInt8 × Bool :=
  if s.2 = false ∧ 16 ≤ s.1.length ∧ valOk s.1 = true then ((reB s.1, imB s.1), s.1.drop 16, false) else ((0, 0), s.1, true)

/-- A reader at rb that has these bytes left; its bytes lie in none of the blocks K. -/
structure Rdr (K : Nat → Prop) (w : World) (rb : Nat) (s : List UInt8 × Bool) : Prop where
  ex : ∃ A c, w.heap[rb]? = some (.cells #[.slice A s.1.length c, .bool s.2] 60 (0, 0)) ∧ Rd g8 w A s.1 ∧ (A = none → c = 0) ∧ s.1.length ≤ c ∧ c ≤ 9223372036854775807 ∧ s.1.length ≤ 140737488355328 ∧ ∀ a, A = some a → ¬ K a.block ∧ a.block ≠ rb

theorem Rd.upto2 {K : Nat → Prop} {α : Type} {g : α → Value} {w w' : World} {A : Option Addr} {l : List α} (h : Rd g w A l) (u : Upto K w w') (hn : ∀ a, A = some a → ¬ K a.block) : Rd g w' A l := by
  intro i x hx
  obtain ⟨a, ha, hc⟩ := h i x hx
  refine ⟨a, ha, ?_⟩
  have h1 := World.block_lt_of_cell? w _ hc
  have hb : (a.add i).block = a.block := by unfold Addr.add; split <;> rfl
  rw [← hc]
  unfold World.cell?
  rw [u.block _ h1 (by rw [hb]; exact hn a ha)]

set_option maxRecDepth 100000 in
set_option maxHeartbeats 8000000 in
theorem rnums_bad (rb : Nat) (A : Option Addr) (l : List UInt8) (n c many : Nat) (w : World) (hr : w.heap[rb]? = some (.cells #[.slice A n c, .bool true] 60 (0, 0))) (h : Rd g8 w A l) (hn : A = none → c = 0) (he : l.length = n) (hc : n ≤ c) (hc2 : c ≤ 9223372036854775807) (hm : many ≤ 1000) (hl : 3 * many ≤ n) (hl2 : n ≤ 140737488355328) :
    Calls Try.prog 23 #[.pointer (some ⟨rb, 0, none⟩), .int .i64 many] w fun e w' => ∃ A1 c1, e = .returned (.slice A1 many c1) ∧ Ow 3 g64 w' w.heap.size A1 (List.replicate many 0) c1 ∧
      w'.heap[rb]? = some (.cells #[.slice A n c, .bool true] 60 (0, 0)) ∧ Upto (fun j => j = rb) w w' := by
  obtain ⟨x0, x1, xz⟩ := row2' hr
  have HR := Lib.hid hr
  have hmk := madeI many hm
  have HG := Lib.hid (packGet_n A l c n many w h hn (by omega) hc2 hm (by omega) (by omega) he)
  clear hr h hn he hc hc2 hl hl2
  go_enter Try.func23, Try.ntmps23
  go_wp2_with fail
  refine HG.out.mono ?_; rintro e w1 ⟨A1, c1, A2, c2, rfl, -, -, hb⟩
  have hrw := (hb.block rb (Array.getElem?_eq_some_iff.1 HR.out).1).trans HR.out
  have HRW := Lib.hid hrw
  have HB := Lib.hid hb
  clear x0 x1 xz hb HG
  obtain ⟨x0, x1, xz⟩ := row2' hrw
  clear hrw
  go_wp2_with fail
  go_ret
  have hu := (Upto.refl (fun j => j = rb) w1).setCell (p := ⟨rb, 1, none⟩) rfl (.bool true)
  have hba := (Below.refl (w1.setCell ⟨rb, 1, none⟩ (.bool true)).heap.size _).alloc (Nat.le_refl _) (.cells (madeCells #[.int .i64 0] many) 3)
  have hlt := (Array.getElem?_eq_some_iff.1 HRW.out).1
  have hsz := HB.out.size
  refine ⟨_, _, rfl, by have := Ow.zeros (w1.setCell ⟨rb, 1, none⟩ (.bool true)) w.heap.size many (Nat.le_trans hsz hu.size) hm; rwa [World.size_setCell] at this, ?_, (Upto.of_below HB.out).trans (hu.then hba) (fun _ _ e => e)⟩
  exact (hba.block rb (by have := hu.size; omega)).trans (row_set HRW.out 1 _)

set_option maxRecDepth 100000 in
set_option maxHeartbeats 8000000 in
/-- No value, where pack.Take has none or the reader is bad. -/
theorem rval_t (rb : Nat) (A : Option Addr) (n c : Nat) (bd : Bool) (w : World) (hr : w.heap[rb]? = some (.cells #[.slice A n c, .bool bd] 60 (0, 0)))
    (ht : Calls Try.prog 48 #[.slice A n c] w fun e w' => ∃ (a b : Nat) (A2 : Option Addr) (n2 c2 : Nat) (er : Int), e = .returned (.tuple #[.complex .f64 a b, .slice A2 n2 c2, .int .i64 er]) ∧ Below w.heap.size w w' ∧ (bd = true ∨ er ≠ 0)) :
    Calls Try.prog 24 #[.pointer (some ⟨rb, 0, none⟩)] w fun e w' => e = .returned (.complex .f64 0 0) ∧
      w'.heap[rb]? = some (.cells #[.slice A n c, .bool true] 60 (0, 0)) ∧ Upto (fun j => j = rb) w w' := by
  obtain ⟨x0, x1, xz⟩ := row2' hr
  have HR := Lib.hid hr
  have HT := Lib.hid ht
  clear hr ht
  cases bd
  all_goals
    go_enter Try.func24, Try.ntmps24
    go_wp2_with fail
    refine HT.out.mono ?_; rintro e w1 ⟨a, b, A2, n2, c2, er, rfl, hb, hbad⟩
    have hrw := (hb.block rb (Array.getElem?_eq_some_iff.1 HR.out).1).trans HR.out
    have HRW := Lib.hid hrw
    have HB := Lib.hid hb
    clear x0 x1 xz hb HT
    obtain ⟨x0, x1, xz⟩ := row2' hrw
    clear hrw
    by_cases her : er = 0
    all_goals first
      | (exfalso; simp_all; done)
      | (try subst her
         clear hbad
         go_wp2_with fail
         go_ret
         have hu := (Upto.refl (fun j => j = rb) w1).setCell (p := ⟨rb, 1, none⟩) rfl (.bool true)
         exact ⟨rfl, row_set HRW.out 1 _, (Upto.of_below HB.out).trans hu (fun _ _ e => e)⟩)

/-- A value of any bytes. -/
theorem rval_y (rb : Nat) (A : Option Addr) (l : List UInt8) (n c : Nat) (w : World) (hr : w.heap[rb]? = some (.cells #[.slice A n c, .bool false] 60 (0, 0))) (h : Rd g8 w A l) (hn : A = none → c = 0) (he : l.length = n) (hc : n ≤ c) (hc2 : c ≤ 9223372036854775807) (hl2 : n ≤ 140737488355328) (h16 : 16 ≤ n) (hv : valOk l = true) :
    Calls Try.prog 24 #[.pointer (some ⟨rb, 0, none⟩)] w fun e w' => ∃ A2 c2, e = .returned (.complex .f64 (reB l) (imB l)) ∧ Ow 5 g8 w' w.heap.size A2 (l.drop 16) c2 ∧
      w'.heap[rb]? = some (.cells #[.slice A2 (l.drop 16).length c2, .bool false] 60 (0, 0)) ∧ Upto (fun j => j = rb) w w' := by
  obtain ⟨x0, x1, xz⟩ := row2' hr
  have htk := take_yes A l c n w hv h hn (by omega) hc2 (by omega) (by omega) he
  generalize l.drop 16 = r at *
  have HTK := Lib.hid htk
  have HR := Lib.hid hr
  clear h hn he hc hc2 hl2 hr hv htk h16
  go_enter Try.func24, Try.ntmps24
  go_wp2_with fail
  refine HTK.out.mono ?_; rintro e w1 ⟨A2, c2, rfl, ho2, hb⟩
  have hrw := (hb.block rb (Array.getElem?_eq_some_iff.1 HR.out).1).trans HR.out
  have HRW := Lib.hid hrw
  have HO2 := Lib.hid ho2
  have HB := Lib.hid hb
  clear x0 x1 xz ho2 hb
  obtain ⟨x0, x1, xz⟩ := row2' hrw
  clear hrw
  go_wp2_with fail
  go_ret
  have hu := (Upto.refl (fun j => j = rb) w1).setCell (p := ⟨rb, 0, none⟩) rfl (.slice A2 r.length c2)
  have hlt := (Array.getElem?_eq_some_iff.1 HR.out).1
  refine ⟨A2, c2, rfl, HO2.out.upto hu (fun a e e2 => by have := (HO2.out.lt a e).1; omega), row_set HRW.out 0 _, (Upto.of_below HB.out).trans hu (fun _ _ e => e)⟩

theorem numsX_yes {s : List UInt8 × Bool} {m : Nat} (h1 : s.2 = false) (h2 : 3 * m ≤ s.1.length) : numsX s m = (ints3 s.1 m, s.1.drop (3 * m), false) := by unfold numsX; rw [if_pos ⟨h1, h2⟩]
theorem numsX_no {s : List UInt8 × Bool} {m : Nat} (h : ¬ (s.2 = false ∧ 3 * m ≤ s.1.length)) : numsX s m = (List.replicate m 0, s.1, true) := by unfold numsX; rw [if_neg h]
theorem valX_yes {s : List UInt8 × Bool} (h1 : s.2 = false) (h2 : 16 ≤ s.1.length) (h3 : valOk s.1 = true) : valX s = ((reB s.1, imB s.1), s.1.drop 16, false) := by unfold valX; rw [if_pos ⟨h1, h2, h3⟩]
theorem valX_no {s : List UInt8 × Bool} (h : ¬ (s.2 = false ∧ 16 ≤ s.1.length ∧ valOk s.1 = true)) : valX s = ((0, 0), s.1, true) := by unfold valX; rw [if_neg h]

theorem rnums_x (K : Nat → Prop) (rb : Nat) (s : List UInt8 × Bool) (many : Nat) (hm : many ≤ 1000) (w : World) (h : Rdr K w rb s) (hK : ∀ j, K j → j < w.heap.size) :
    Calls Try.prog 23 #[.pointer (some ⟨rb, 0, none⟩), .int .i64 many] w fun e w' => ∃ A1 c1, e = .returned (.slice A1 many c1) ∧ Ow 3 g64 w' w.heap.size A1 (numsX s many).1 c1 ∧ Rdr K w' rb (numsX s many).2 ∧ Upto (fun j => j = rb) w w' := by
  obtain ⟨A, c, hr, hx, hn, hc, hc2, hl, ha⟩ := h.ex
  have hrb := (Array.getElem?_eq_some_iff.1 hr).1
  obtain ⟨l, b⟩ := s
  by_cases h3 : 3 * many ≤ l.length
  · cases b with
    | false =>
      rw [numsX_yes rfl h3]
      refine (rnums_ok rb A l l.length c many w hr hx hn rfl hc hc2 hm h3 hl).mono ?_
      rintro e w' ⟨A1, c1, A2, c2, rfl, h1, h2, h4, h5⟩
      refine ⟨A1, c1, rfl, h1, ⟨A2, c2, by rw [List.length_drop]; exact h4, h2.rd, h2.nil_cap, h2.le, h2.cap, ?_, ?_⟩, h5⟩
      · show (l.drop (3 * many)).length ≤ _
        rw [List.length_drop]
        have : l.length ≤ 140737488355328 := hl
        omega
      · intro a e
        have h6 := (h2.lt a e).1
        exact ⟨fun hk => by have := hK _ hk; omega, by omega⟩
    | true =>
      rw [numsX_no (by simp)]
      refine (rnums_bad rb A l l.length c many w hr hx hn rfl hc hc2 hm h3 hl).mono ?_
      rintro e w' ⟨A1, c1, rfl, h1, h4, h5⟩
      exact ⟨A1, c1, rfl, h1, ⟨A, c, h4, hx.upto2 h5 (fun a e => (ha a e).2), hn, hc, hc2, hl, ha⟩, h5⟩
  · rw [numsX_no (fun q => h3 q.2)]
    refine (rnums_short rb A l.length c many b w hr hm (by omega)).mono ?_
    rintro e w' ⟨A1, c1, rfl, h1, h4, h5⟩
    exact ⟨A1, c1, rfl, h1, ⟨A, c, h4, hx.upto2 h5 (fun a e => (ha a e).2), hn, hc, hc2, hl, ha⟩, h5⟩

theorem rval_x (K : Nat → Prop) (rb : Nat) (s : List UInt8 × Bool) (w : World) (h : Rdr K w rb s) (hK : ∀ j, K j → j < w.heap.size) :
    Calls Try.prog 24 #[.pointer (some ⟨rb, 0, none⟩)] w fun e w' => e = .returned (.complex .f64 (valX s).1.1 (valX s).1.2) ∧ Rdr K w' rb (valX s).2 ∧ Upto (fun j => j = rb) w w' := by
  obtain ⟨A, c, hr, hx, hn, hc, hc2, hl, ha⟩ := h.ex
  have hrb := (Array.getElem?_eq_some_iff.1 hr).1
  obtain ⟨l, b⟩ := s
  by_cases hy : b = false ∧ 16 ≤ l.length ∧ valOk l = true
  · obtain ⟨rfl, h16, hv⟩ := hy
    have h16' : 16 ≤ l.length := h16
    have hv' : valOk l = true := hv
    have e1 : valX (l, false) = ((reB l, imB l), l.drop 16, false) := valX_yes rfl h16' hv'
    have hr' : w.heap[rb]? = some (.cells #[.slice A l.length c, .bool false] 60 (0, 0)) := hr
    have hx' : Rd g8 w A l := hx
    have hc' : l.length ≤ c := hc
    have hl' : l.length ≤ 140737488355328 := hl
    have hq := rval_y rb A l l.length c w hr' hx' hn rfl hc' hc2 hl' h16' hv'
    rw [e1]
    generalize reB l = x at *
    generalize imB l = y at *
    refine hq.mono ?_
    rintro e w' ⟨A2, c2, rfl, h2, h4, h5⟩
    refine ⟨rfl, ⟨A2, c2, h4, h2.rd, h2.nil_cap, h2.le, h2.cap, ?_, ?_⟩, h5⟩
    · show (l.drop 16).length ≤ _
      rw [List.length_drop]
      have : l.length ≤ 140737488355328 := hl
      omega
    · intro a e
      have h6 := (h2.lt a e).1
      exact ⟨fun hk => by have := hK _ hk; omega, by omega⟩
  · rw [valX_no hy]
    refine (rval_t rb A l.length c b w hr ?_).mono ?_
    · by_cases h16 : 16 ≤ l.length
      · cases hv : valOk l with
        | true =>
          have hb : b = true := by
            cases b
            · exact absurd ⟨rfl, h16, hv⟩ hy
            · rfl
          refine (take_yes A l c l.length w hv hx hn hc hc2 h16 hl rfl).mono ?_
          rintro e w' ⟨A2, c2, rfl, -, h5⟩
          exact ⟨_, _, _, _, _, _, rfl, h5, .inl hb⟩
        | false =>
          refine (take_bad A l c l.length w hv hx hn hc hc2 h16 hl rfl).mono ?_
          rintro e w' ⟨A2, c2, rfl, -, h5⟩
          exact ⟨_, _, _, _, _, _, rfl, h5, .inr (by decide)⟩
      · refine (take_short A l.length c w (by omega)).mono ?_
        rintro e w' ⟨rfl, rfl⟩
        exact ⟨_, _, _, _, _, _, rfl, Below.refl _ _, .inr (by decide)⟩
    · rintro e w' ⟨rfl, h4, h5⟩
      exact ⟨rfl, ⟨A, c, h4, hx.upto2 h5 (fun a e => (ha a e).2), hn, hc, hc2, hl, ha⟩, h5⟩

end Go.Proofs.Ytbhjdapkhcgmlaa

namespace Go.Proofs.Ytbhjdapkhcgmlaa
open Go.RowKit

attribute [local go_sem] run_store_complex

/-! cnum.Same and msg.values of any numbers. -/

/-- Two numbers alike. -/
def sameV (x y : Nat × Nat) : Bool := decide (formF x.1 = formF y.1) && decide (formF x.2 = formF y.2)

theorem csame_g (a b c d : Nat) (w : World) : Calls Try.prog 62 #[.complex .f64 a b, .complex .f64 c d] w fun e w' => e = .returned (.bool (sameV (a, b) (c, d))) ∧ w = w' := by
  have hs : sameV (a, b) (c, d) = (decide (formF a = formF c) && decide (formF b = formF d)) := rfl
  rw [hs]
  have ha := cbits_c a b
  have hc := cbits_c c d
  generalize formF a = x at *
  generalize formF b = y at *
  generalize formF c = z at *
  generalize formF d = u at *
  by_cases h1 : x = z
  · by_cases h2 : y = u
    · subst h1 h2
      go_enter Try.func62, Try.ntmps62
      go_wp2_with fail
      refine (ha _).mono ?_; rintro e w1 ⟨rfl, rfl⟩
      go_wp2_with fail
      refine (hc _).mono ?_; rintro e w1 ⟨rfl, rfl⟩
      go_wp2_with fail
      go_ret
      exact ⟨ret_bool (by simp), rfl⟩
    · have h3 : ((y : Int) == (u : Int)) = false := by simp; omega
      subst h1
      go_enter Try.func62, Try.ntmps62
      go_wp2_with fail
      refine (ha _).mono ?_; rintro e w1 ⟨rfl, rfl⟩
      go_wp2_with fail
      refine (hc _).mono ?_; rintro e w1 ⟨rfl, rfl⟩
      go_wp2_with fail
      go_ret
      exact ⟨ret_bool (by simp [h2]), rfl⟩
  · have h3 : ((x : Int) == (z : Int)) = false := by simp; omega
    go_enter Try.func62, Try.ntmps62
    go_wp2_with fail
    refine (ha _).mono ?_; rintro e w1 ⟨rfl, rfl⟩
    go_wp2_with fail
    refine (hc _).mono ?_; rintro e w1 ⟨rfl, rfl⟩
    go_wp2_with fail
    go_ret
    exact ⟨ret_bool (by simp [h1]), rfl⟩

/-- Four numbers alike. -/
def same4 (x0 x1 x2 x3 y0 y1 y2 y3 : Nat × Nat) : Bool := sameV x0 y0 && (sameV x1 y1 && (sameV x2 y2 && sameV x3 y3))

set_option maxHeartbeats 4000000 in
theorem eqf_cg (a0 b0 a1 b1 a2 b2 a3 b3 c0 d0 c1 d1 c2 d2 c3 d3 p q : Nat) (T : TypeId) (w : World) (hp : w.heap[p]? = some (.cells #[.complex .f64 a0 b0, .complex .f64 a1 b1, .complex .f64 a2 b2, .complex .f64 a3 b3] T (0, 0))) (hq : w.heap[q]? = some (.cells #[.complex .f64 c0 d0, .complex .f64 c1 d1, .complex .f64 c2 d2, .complex .f64 c3 d3] T (0, 0))) :
    Calls Try.prog 61 #[.slice (some ⟨p, 0, none⟩) 4 4, .slice (some ⟨q, 0, none⟩) 4 4, .func (.func 62) #[] #[]] w fun e w' => e = .returned (.bool (same4 (a0, b0) (a1, b1) (a2, b2) (a3, b3) (c0, d0) (c1, d1) (c2, d2) (c3, d3))) ∧ w = w' := by
  obtain ⟨x0, x1, x2, x3, xz⟩ := row4 hp
  obtain ⟨y0, y1, y2, y3, yz⟩ := row4 hq
  clear hp hq
  go_enter Try.func61, Try.ntmps61
  go_wp2_with fail
  go_loop [17] (fun i => ∃ k : Nat, k ≤ 4 ∧ i = .int .i64 k ∧ (0 < k → sameV (a0, b0) (c0, d0) = true) ∧ (1 < k → sameV (a1, b1) (c1, d1) = true) ∧ (2 < k → sameV (a2, b2) (c2, d2) = true) ∧ (3 < k → sameV (a3, b3) (c3, d3) = true)) (fun i => 4 - (intOf i).toNat)
  case atStart => exact ⟨0, Nat.zero_le _, rfl, fun h => absurd h (by omega), fun h => absurd h (by omega), fun h => absurd h (by omega), fun h => absurd h (by omega)⟩
  case round =>
    obtain ⟨k, hk, rfl, t0, t1, t2, t3⟩ := hrel
    by_cases hlt : k < 4
    · obtain rfl | rfl | rfl | rfl : k = 0 ∨ k = 1 ∨ k = 2 ∨ k = 3 := by omega
      · cases hs : sameV (a0, b0) (c0, d0) with
        | true =>
          have hc := csame_g a0 b0 c0 d0
          rw [hs] at hc
          have HS := Lib.hid hs
          clear hs
          go_wp2_with fail
          refine (hc _).mono ?_; rintro e w1 ⟨rfl, rfl⟩
          go_wp2_with fail
          go_round
          case rel => exact ⟨0 + 1, by omega, rfl, fun _ => (by first | exact HS.out | trivial), fun h => absurd h (by omega), fun h => absurd h (by omega), fun h => absurd h (by omega)⟩
          case measure => simp [intOf]
        | false =>
          have hc := csame_g a0 b0 c0 d0
          rw [hs] at hc
          have HE : Hid (same4 (a0, b0) (a1, b1) (a2, b2) (a3, b3) (c0, d0) (c1, d1) (c2, d2) (c3, d3) = false) := by unfold Hid same4; rw [hs]; simp
          clear hs
          go_wp2_with fail
          refine (hc _).mono ?_; rintro e w1 ⟨rfl, rfl⟩
          go_wp2_with fail
          go_ret
          exact ⟨by rw [HE.out]; exact ret_bool (by simp), rfl⟩
      · cases hs : sameV (a1, b1) (c1, d1) with
        | true =>
          have hc := csame_g a1 b1 c1 d1
          rw [hs] at hc
          have HS := Lib.hid hs
          clear hs
          go_wp2_with fail
          refine (hc _).mono ?_; rintro e w1 ⟨rfl, rfl⟩
          go_wp2_with fail
          go_round
          case rel => exact ⟨1 + 1, by omega, rfl, fun _ => t0 (by omega), fun _ => (by first | exact HS.out | trivial), fun h => absurd h (by omega), fun h => absurd h (by omega)⟩
          case measure => simp [intOf]
        | false =>
          have hc := csame_g a1 b1 c1 d1
          rw [hs] at hc
          have HE : Hid (same4 (a0, b0) (a1, b1) (a2, b2) (a3, b3) (c0, d0) (c1, d1) (c2, d2) (c3, d3) = false) := by unfold Hid same4; rw [hs]; simp
          clear hs
          go_wp2_with fail
          refine (hc _).mono ?_; rintro e w1 ⟨rfl, rfl⟩
          go_wp2_with fail
          go_ret
          exact ⟨by rw [HE.out]; exact ret_bool (by simp), rfl⟩
      · cases hs : sameV (a2, b2) (c2, d2) with
        | true =>
          have hc := csame_g a2 b2 c2 d2
          rw [hs] at hc
          have HS := Lib.hid hs
          clear hs
          go_wp2_with fail
          refine (hc _).mono ?_; rintro e w1 ⟨rfl, rfl⟩
          go_wp2_with fail
          go_round
          case rel => exact ⟨2 + 1, by omega, rfl, fun _ => t0 (by omega), fun _ => t1 (by omega), fun _ => (by first | exact HS.out | trivial), fun h => absurd h (by omega)⟩
          case measure => simp [intOf]
        | false =>
          have hc := csame_g a2 b2 c2 d2
          rw [hs] at hc
          have HE : Hid (same4 (a0, b0) (a1, b1) (a2, b2) (a3, b3) (c0, d0) (c1, d1) (c2, d2) (c3, d3) = false) := by unfold Hid same4; rw [hs]; simp
          clear hs
          go_wp2_with fail
          refine (hc _).mono ?_; rintro e w1 ⟨rfl, rfl⟩
          go_wp2_with fail
          go_ret
          exact ⟨by rw [HE.out]; exact ret_bool (by simp), rfl⟩
      · cases hs : sameV (a3, b3) (c3, d3) with
        | true =>
          have hc := csame_g a3 b3 c3 d3
          rw [hs] at hc
          have HS := Lib.hid hs
          clear hs
          go_wp2_with fail
          refine (hc _).mono ?_; rintro e w1 ⟨rfl, rfl⟩
          go_wp2_with fail
          go_round
          case rel => exact ⟨3 + 1, by omega, rfl, fun _ => t0 (by omega), fun _ => t1 (by omega), fun _ => t2 (by omega), fun _ => (by first | exact HS.out | trivial)⟩
          case measure => simp [intOf]
        | false =>
          have hc := csame_g a3 b3 c3 d3
          rw [hs] at hc
          have HE : Hid (same4 (a0, b0) (a1, b1) (a2, b2) (a3, b3) (c0, d0) (c1, d1) (c2, d2) (c3, d3) = false) := by unfold Hid same4; rw [hs]; simp
          clear hs
          go_wp2_with fail
          refine (hc _).mono ?_; rintro e w1 ⟨rfl, rfl⟩
          go_wp2_with fail
          go_ret
          exact ⟨by rw [HE.out]; exact ret_bool (by simp), rfl⟩
    · have he : k = 4 := by omega
      subst he
      have HE : Hid (same4 (a0, b0) (a1, b1) (a2, b2) (a3, b3) (c0, d0) (c1, d1) (c2, d2) (c3, d3) = true) := by unfold Hid same4; rw [t0 (by omega), t1 (by omega), t2 (by omega), t3 (by omega)]; rfl
      clear t0 t1 t2 t3
      go_wp2_with fail
      go_ret
      exact ⟨by rw [HE.out]; exact ret_bool (by simp), rfl⟩

theorem values_g (a0 b0 a1 b1 a2 b2 a3 b3 c0 d0 c1 d1 c2 d2 c3 d3 : Nat) (w : World) : Calls Try.prog 45 #[.agg #[.complex .f64 a0 b0, .complex .f64 a1 b1, .complex .f64 a2 b2, .complex .f64 a3 b3], .agg #[.complex .f64 c0 d0, .complex .f64 c1 d1, .complex .f64 c2 d2, .complex .f64 c3 d3]] w fun e w' => e = .returned (.bool (same4 (a0, b0) (a1, b1) (a2, b2) (a3, b3) (c0, d0) (c1, d1) (c2, d2) (c3, d3))) ∧ Below w.heap.size w w' := by
  have hb := below2 w (.cells #[.complex .f64 a0 b0, .complex .f64 a1 b1, .complex .f64 a2 b2, .complex .f64 a3 b3] 28) (.cells #[.complex .f64 c0 d0, .complex .f64 c1 d1, .complex .f64 c2 d2, .complex .f64 c3 d3] 28)
  have p1 := heap_alloc2_old w (.cells #[.complex .f64 a0 b0, .complex .f64 a1 b1, .complex .f64 a2 b2, .complex .f64 a3 b3] 28) (.cells #[.complex .f64 c0 d0, .complex .f64 c1 d1, .complex .f64 c2 d2, .complex .f64 c3 d3] 28)
  have p2 := heap_alloc2_new w (.cells #[.complex .f64 a0 b0, .complex .f64 a1 b1, .complex .f64 a2 b2, .complex .f64 a3 b3] 28) (.cells #[.complex .f64 c0 d0, .complex .f64 c1 d1, .complex .f64 c2 d2, .complex .f64 c3 d3] 28)
  generalize hS : same4 (a0, b0) (a1, b1) (a2, b2) (a3, b3) (c0, d0) (c1, d1) (c2, d2) (c3, d3) = S
  have HS := Lib.hid hS
  clear hS
  go_enter Try.func45, Try.ntmps45
  go_wp2_with fail
  generalize (w.alloc (.cells #[.complex .f64 a0 b0, .complex .f64 a1 b1, .complex .f64 a2 b2, .complex .f64 a3 b3] 28)).alloc (.cells #[.complex .f64 c0 d0, .complex .f64 c1 d1, .complex .f64 c2 d2, .complex .f64 c3 d3] 28) = W0 at *
  have HB := Lib.hid hb
  clear hb
  have q1 := row_drewI p1
  have q2 := row_drewI p2
  have hq := eqf_cg a0 b0 a1 b1 a2 b2 a3 b3 c0 d0 c1 d1 c2 d2 c3 d3 w.heap.size (w.heap.size + 1) 28 _ q1 q2
  rw [HS.out] at hq
  go_region_held_law (fun _ => True) (exact trivial)
    (first | (go_at_call 61; refine hq.mono ?_; rintro e w' ⟨rfl, rfl⟩))
  all_goals
    go_wp2_with fail
    go_ret
    exact ⟨ret_bool (by simp), HB.out.drew⟩

end Go.Proofs.Ytbhjdapkhcgmlaa
