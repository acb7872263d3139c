import Derived.Test.YteabhokkiggcjaaIdx
import Derived.Deep.RegionHeld3
namespace Go.Proofs.Yteabhokkiggcjaa
open Go.RowKit

/-- What an append and a sync turn, of a tape that was clean. -/
theorem put_sync {w w4 w5 : World} {t : Nat} {lb4 fb5 : Option Nat} (hn : Next w none lb4) (hu4 : Upto (Own t none) w w4) (hu5 : Upto (Own t lb4) w4 w5) (hf : ∀ b, fb5 = some b → w4.heap.size ≤ b) :
    Upto (fun k => k = t) w w5 ∧ ∀ b, fb5 = some b → w.heap.size ≤ b := by
  refine ⟨(hu4.mono (K' := fun k => k = t) (fun k _ e => by rcases e with e | e; exact e; cases e)).trans hu5 (fun i hi e => ?_), fun b e => Nat.le_trans hu4.size (hf b e)⟩
  rcases e with e | e
  · exact e
  · rcases hn with hn | hn
    · rw [hn] at e; cases e
    · have := hn i e; omega

/-- Three tapes, of which the first k have bytes. -/
def St (T U V : Nat) (l : List UInt8) (w : World) (k : Nat) : Prop := ∃ fb gb hb : Option Nat, TapeAt w T T (if 0 < k then l else []) [] 20000 fb none ∧ TapeAt w U U (if 1 < k then l else []) [] 20000 gb none ∧ TapeAt w V V (if 2 < k then l else []) [] 20000 hb none ∧
  (fb ≠ some U ∧ fb ≠ some V) ∧ (gb ≠ some T ∧ gb ≠ some V) ∧ (hb ≠ some T ∧ hb ≠ some U)

theorem TapeAt.far {w w' : World} {B t t' : Nat} {f l : List UInt8} {r : Nat} {fb : Option Nat} (h : TapeAt w B t f l r fb none) (u : Upto (fun k => k = t') w w') (h1 : t ≠ t') (h2 : fb ≠ some t') : TapeAt w' B t f l r fb none :=
  h.upto u h1 (fun b e e2 => h2 (by rw [e, e2])) (fun b e => by cases e)

theorem new_far {n b : Nat} {fb : Option Nat} (h : ∀ b, fb = some b → n ≤ b) (hb : b < n) : fb ≠ some b := fun e => by have := h b e; omega

theorem own_t {T : Nat} {w : World} : ∀ k, k < w.heap.size → Own T none k → k = T := fun k _ e => by
  rcases e with e | e
  · exact e
  · cases e

theorem tape_below {w0 w w' : World} {T : Nat} (h : Below w0.heap.size w0 w) (u : Upto (fun k => k = T) w w') (hT : w0.heap.size ≤ T) : Below w0.heap.size w0 w' :=
  h.trans (u.below h.size (fun k hk e => by omega))

theorem drop_yes_i (t : Nat) (w : World) (B : Nat) (f l : List UInt8) (r : Nat) (fb lb : Option Nat) (h : TapeAt w B t f l r fb lb) (n : Nat) (x : Int) (hx : x = n) (hn : n ≤ f.length) :
    Calls Try.prog 15 #[.pointer (some ⟨t, 0, none⟩), .int .i64 x] w fun e w' => e = .returned (.bool true) ∧ ∃ fb', TapeAt w' B t (f.drop n) l r fb' lb ∧ (∀ b, fb' = some b → w.heap.size ≤ b) ∧ Upto (Own t lb) w w' := by
  subst hx; exact drop_yes t w B f l r fb lb h n hn

theorem run_mid (w : World) (A : Option Addr) (len c lo hi : Nat) (h1 : lo ≤ hi) (h2 : hi ≤ c) :
    (Instr.slice 27 (.slice A len c) (some (.int .i64 (lo : Int))) (some (.int .i64 (hi : Int))) none).run Try.prog w = .ok (.slice (tailA A c lo) (hi - lo) (c - lo)) w := by
  obtain ⟨i0, hi0, hz0, hz1, hz2⟩ := info_parts info8
  have h1' : Try.prog.underlying 27 = some (.slice (Try.prog.elem 27)) := by simp [Program.elem, Try.underlying27]
  have h2' : Try.prog.elem 27 = 5 := by simp [Program.elem, Try.underlying27]
  rw [run_slice_lh w 27 _ _ _ h1' .i64 .i64 _ _ (by omega) (by omega) (by omega), h2']
  simp [sizeOf, typeInfo, hi0, hz1, sliced, tailA]

theorem Rd.mid {α : Type} {g : α → Value} {w : World} {A : Option Addr} {l : List α} {c : Nat} (h : Rd g w A l) (lo hi : Nat) (hle : l.length ≤ c) : Rd g w (tailA A c lo) ((l.take hi).drop lo) :=
  (h.take hi).tail lo (by simp; omega)

set_option maxRecDepth 1000000 in
set_option maxHeartbeats 16000000 in
theorem drops_early (A : Option Addr) (l : List UInt8) (c : Nat) (a b d : Int) (w : World) (hno : (5000 < (l.length : Int)) ∨ (¬ 5000 < (l.length : Int) ∧ a < 0) ∨ (¬ 5000 < (l.length : Int) ∧ ¬ a < 0 ∧ b < 0) ∨ (¬ 5000 < (l.length : Int) ∧ ¬ a < 0 ∧ ¬ b < 0 ∧ (l.length : Int) < a) ∨ (¬ 5000 < (l.length : Int) ∧ 0 ≤ a ∧ ¬ b < 0 ∧ ¬ (l.length : Int) < a ∧ (l.length : Int) - a < b) ∨ (¬ 5000 < (l.length : Int) ∧ 0 ≤ a ∧ ¬ b < 0 ∧ ¬ (l.length : Int) < a ∧ ¬ (l.length : Int) - a < b ∧ d < a) ∨ (¬ 5000 < (l.length : Int) ∧ 0 ≤ a ∧ ¬ b < 0 ∧ ¬ (l.length : Int) < a ∧ ¬ (l.length : Int) - a < b ∧ ¬ d < a ∧ (l.length : Int) < d)) :
    Calls Try.prog 7 #[.slice A l.length c, .agg #[.int .i64 a, .int .i64 b], .int .i64 d] w fun e w' => e = .returned (.bool true) ∧ Below w.heap.size w w' := by
  have hwb : Below w.heap.size w (w.alloc (.cells #[.int .i64 a, .int .i64 b] 29)) := (Below.refl _ _).alloc (Nat.le_refl _) _
  have hbx := heap_alloc_new w (.cells #[.int .i64 a, .int .i64 b] 29)
  have HWB := Lib.hid hwb
  have HBX := Lib.hid hbx
  clear hwb hbx
  go_enter Try.func7, Try.ntmps7
  go_wp2_with fail
  have hs0 : (w.alloc (.cells #[.int .i64 a, .int .i64 b] 29)).heap.size = w.heap.size + 1 := by simp
  generalize w.alloc (.cells #[.int .i64 a, .int .i64 b] 29) = w0 at *
  have HS0 := Lib.hid hs0
  clear hs0
  have hbox : ∀ w', Below w0.heap.size w0 w' → w'.cell? ⟨w.heap.size, 0, none⟩ = some (.int .i64 a) ∧ w'.cell? ⟨w.heap.size, 1, none⟩ = some (.int .i64 b) := fun w' hw => by
    have hr := (hw.block w.heap.size (by have := HS0.out; omega)).trans HBX.out
    exact ⟨(cell_of_row w' w.heap.size 0 _ _ _ hr).trans rfl, (cell_of_row w' w.heap.size 1 _ _ _ hr).trans rfl⟩
  have HBOX := Lib.hid hbox
  clear hbox
  refine (alive_c _).mono ?_; rintro e w1 ⟨rfl, hb1⟩
  have HB1 := Lib.hid hb1
  obtain ⟨x0, x1⟩ := HBOX.out w1 hb1
  clear hb1
  rcases hno with h1 | ⟨h1, h2⟩ | ⟨h1, h2, h3⟩ | ⟨h1, h2, h3, h4⟩ | ⟨h1, h2, h3, h4, h5⟩ | ⟨h1, h2, h3, h4, h5, h6⟩ | ⟨h1, h2, h3, h4, h5, h6, h7⟩
  iterate 4
    · go_wp2_with fail
      go_ret
      exact ⟨ret_bool (by first | rfl | simp [*]), HWB.out.trans (HB1.out.mono (by have := HS0.out; omega))⟩
  iterate 3
    · have hsub : wrap64 ((l.length : Int) - a) = (l.length : Int) - a := by unfold wrap64; omega
      go_wp2_with fail
      go_ret
      exact ⟨ret_bool (by first | rfl | simp [*]), HWB.out.trans (HB1.out.mono (by have := HS0.out; omega))⟩

end Go.Proofs.Yteabhokkiggcjaa
