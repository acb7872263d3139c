import Derived.Test.YteabhokkiggcjaaConcat
import Derived.StillTailTactics
import Derived.Deep.RegionLaw
namespace Go.Proofs.Yteabhokkiggcjaa
open Go.RowKit

/-! tape.Tape. -/

/-- A tape in block t: what is safe, what isn't yet, the room; fb, lb: the blocks of the two slices. -/
structure TapeAt (w : World) (B t : Nat) (f l : List UInt8) (r : Nat) (fb lb : Option Nat) : Prop where
  cells : ∃ Af cf Al cl, w.heap[t]? = some (.cells #[.slice Af f.length cf, .slice Al l.length cl, .int .i64 r] 52 (0, 0)) ∧ Ow 5 g8 w B Af f cf ∧ Ow 5 g8 w B Al l cl ∧ fb = Af.map (·.block) ∧ lb = Al.map (·.block)
  base : B ≤ t
  fb_t : fb ≠ some t
  lb_t : lb ≠ some t
  apart : ∀ b, fb = some b → lb ≠ some b
  room : r ≤ 20000
  many : f.length + l.length ≤ 20000

/-- What a method may turn. -/
def Own (t : Nat) (lb : Option Nat) (k : Nat) : Prop := k = t ∨ lb = some k

/-- A block that is what it was, or none, or new. -/
def Next (w : World) (o o' : Option Nat) : Prop := o' = o ∨ ∀ b, o' = some b → w.heap.size ≤ b

theorem TapeAt.lt {w : World} {B t : Nat} {f l : List UInt8} {r : Nat} {fb lb : Option Nat} (h : TapeAt w B t f l r fb lb) : t < w.heap.size := by
  obtain ⟨_, _, _, _, h, _⟩ := h.cells
  exact (Array.getElem?_eq_some_iff.1 h).1

theorem TapeAt.fb_lt {w : World} {B t : Nat} {f l : List UInt8} {r : Nat} {fb lb : Option Nat} (h : TapeAt w B t f l r fb lb) : ∀ b, fb = some b → B ≤ b ∧ b < w.heap.size := fun b e => by
  obtain ⟨Af, _, _, _, _, h1, _, e1, _⟩ := h.cells
  rw [e1] at e
  cases Af with
  | none => cases e
  | some a => cases e; exact ⟨(h1.lt a rfl).1, (h1.lt a rfl).2.1⟩

theorem TapeAt.lb_lt {w : World} {B t : Nat} {f l : List UInt8} {r : Nat} {fb lb : Option Nat} (h : TapeAt w B t f l r fb lb) : ∀ b, lb = some b → B ≤ b ∧ b < w.heap.size := fun b e => by
  obtain ⟨_, _, Al, _, _, _, h1, _, e1⟩ := h.cells
  rw [e1] at e
  cases Al with
  | none => cases e
  | some a => cases e; exact ⟨(h1.lt a rfl).1, (h1.lt a rfl).2.1⟩

theorem TapeAt.upto {w w' : World} {B t : Nat} {f l : List UInt8} {r : Nat} {fb lb : Option Nat} {K : Nat → Prop} (h : TapeAt w B t f l r fb lb) (u : Upto K w w') (ht : ¬ K t) (hf : ∀ b, fb = some b → ¬ K b) (hl : ∀ b, lb = some b → ¬ K b) : TapeAt w' B t f l r fb lb := by
  obtain ⟨Af, cf, Al, cl, hc, h1, h2, e1, e2⟩ := h.cells
  refine ⟨⟨Af, cf, Al, cl, (u.block t h.lt ht).trans hc, h1.upto u (fun a e => hf _ ?_), h2.upto u (fun a e => hl _ ?_), e1, e2⟩, h.base, h.fb_t, h.lb_t, h.apart, h.room, h.many⟩
  · rw [e1, e]; rfl
  · rw [e2, e]; rfl

theorem TapeAt.below {w w' : World} {B t : Nat} {f l : List UInt8} {r : Nat} {fb lb : Option Nat} (h : TapeAt w B t f l r fb lb) (u : Below w.heap.size w w') : TapeAt w' B t f l r fb lb :=
  h.upto (K := fun _ => False) (Upto.of_below u) id (fun _ _ => id) (fun _ _ => id)

/-- A store into the tape's own cells. -/
theorem TapeAt.set_room {w : World} {B t : Nat} {f l : List UInt8} {r : Nat} {fb lb : Option Nat} (h : TapeAt w B t f l r fb lb) (r' : Nat) (hr : r' ≤ 20000) (v : Int) (hv : v = r') : TapeAt (w.setCell ⟨t, 2, none⟩ (.int .i64 v)) B t f l r' fb lb := by
  subst hv
  obtain ⟨Af, cf, Al, cl, hc, h1, h2, e1, e2⟩ := h.cells
  have u := (Upto.refl (fun k => k = t) w).setCell (p := ⟨t, 2, none⟩) rfl (.int .i64 (r' : Int))
  refine ⟨⟨Af, cf, Al, cl, by simpa using row_set hc 2 (.int .i64 (r' : Int)), h1.upto u (fun a e => ?_), h2.upto u (fun a e => ?_), e1, e2⟩, h.base, h.fb_t, h.lb_t, h.apart, hr, h.many⟩
  · exact fun e3 => h.fb_t (by rw [e1, e]; exact congrArg some e3)
  · exact fun e3 => h.lb_t (by rw [e2, e]; exact congrArg some e3)

/-- A store of another slice of bytes in the place of the first. -/
theorem TapeAt.set_firm {w : World} {B t : Nat} {f l f' : List UInt8} {r : Nat} {fb lb : Option Nat} (h : TapeAt w B t f l r fb lb) {A : Option Addr} {n c : Nat} (ho : Ow 5 g8 w B A f' c) (hn : f'.length = n) (ht : A.map (·.block) ≠ some t) (ha : ∀ b, A.map (·.block) = some b → lb ≠ some b) (hm : f'.length + l.length ≤ 20000) :
    TapeAt (w.setCell ⟨t, 0, none⟩ (.slice A n c)) B t f' l r (A.map (·.block)) lb := by
  subst hn
  obtain ⟨Af, cf, Al, cl, hc, h1, h2, e1, e2⟩ := h.cells
  have u := (Upto.refl (fun k => k = t) w).setCell (p := ⟨t, 0, none⟩) rfl (.slice A f'.length c)
  refine ⟨⟨A, c, Al, cl, by simpa using row_set hc 0 (.slice A f'.length c), ho.upto u (fun a e => ?_), h2.upto u (fun a e => ?_), rfl, e2⟩, h.base, ht, h.lb_t, ha, h.room, hm⟩
  · exact fun e3 => ht (by rw [e]; exact congrArg some e3)
  · exact fun e3 => h.lb_t (by rw [e2, e]; exact congrArg some e3)

/-- .. of the second. -/
theorem TapeAt.set_loose {w : World} {B t : Nat} {f l l' : List UInt8} {r : Nat} {fb lb : Option Nat} (h : TapeAt w B t f l r fb lb) {A : Option Addr} {n c : Nat} (ho : Ow 5 g8 w B A l' c) (hn : l'.length = n) (ht : A.map (·.block) ≠ some t) (ha : ∀ b, fb = some b → A.map (·.block) ≠ some b) (hm : f.length + l'.length ≤ 20000) :
    TapeAt (w.setCell ⟨t, 1, none⟩ (.slice A n c)) B t f l' r fb (A.map (·.block)) := by
  subst hn
  obtain ⟨Af, cf, Al, cl, hc, h1, h2, e1, e2⟩ := h.cells
  have u := (Upto.refl (fun k => k = t) w).setCell (p := ⟨t, 1, none⟩) rfl (.slice A l'.length c)
  refine ⟨⟨Af, cf, A, c, by simpa using row_set hc 1 (.slice A l'.length c), h1.upto u (fun a e => ?_), ho.upto u (fun a e => ?_), e1, rfl⟩, h.base, h.fb_t, ht, ha, h.room, hm⟩
  · exact fun e3 => h.fb_t (by rw [e1, e]; exact congrArg some e3)
  · exact fun e3 => ht (by rw [e]; exact congrArg some e3)

/-- All in the first slice, nothing in the second: the two stores in either order. -/
theorem TapeAt.synced {w : World} {B t : Nat} {f l : List UInt8} {r : Nat} {fb lb : Option Nat} (h : TapeAt w B t f l r fb lb) {A : Option Addr} {n c : Nat} (ho : Ow 5 g8 w B A (f ++ l) c) (hn : (f ++ l).length = n) (ht : A.map (·.block) ≠ some t) :
    TapeAt ((w.setCell ⟨t, 0, none⟩ (.slice A n c)).setCell ⟨t, 1, none⟩ (.slice none 0 0)) B t (f ++ l) [] r (A.map (·.block)) none ∧
    TapeAt ((w.setCell ⟨t, 1, none⟩ (.slice none 0 0)).setCell ⟨t, 0, none⟩ (.slice A n c)) B t (f ++ l) [] r (A.map (·.block)) none := by
  subst hn
  obtain ⟨Af, cf, Al, cl, hc, h1, h2, e1, e2⟩ := h.cells
  have hm := h.many
  have hne : ∀ a, A = some a → ¬ a.block = t := fun a e e3 => ht (by rw [e]; exact congrArg some e3)
  have u1 := ((Upto.refl (fun k => k = t) w).setCell (p := ⟨t, 0, none⟩) rfl (.slice A (f ++ l).length c)).setCell (p := ⟨t, 1, none⟩) rfl (.slice none 0 0)
  have u2 := ((Upto.refl (fun k => k = t) w).setCell (p := ⟨t, 1, none⟩) rfl (.slice none 0 0)).setCell (p := ⟨t, 0, none⟩) rfl (.slice A (f ++ l).length c)
  exact ⟨⟨⟨A, c, none, 0, by simpa using row_set (row_set hc 0 (.slice A (f ++ l).length c)) 1 (.slice none 0 0), ho.upto u1 hne, Ow.nil, rfl, rfl⟩, h.base, ht, by simp, by simp, h.room, by simpa using hm⟩,
    ⟨⟨A, c, none, 0, by simpa using row_set (row_set hc 1 (.slice none 0 0)) 0 (.slice A (f ++ l).length c), ho.upto u2 hne, Ow.nil, rfl, rfl⟩, h.base, ht, by simp, by simp, h.room, by simpa using hm⟩⟩

theorem block_some {A : Option Addr} {b : Nat} (h : A.map (·.block) = some b) : ∃ a, A = some a ∧ a.block = b := by
  cases A with
  | none => cases h
  | some a => cases h; exact ⟨a, rfl, rfl⟩

theorem TapeAt.drew {w : World} {B t : Nat} {f l : List UInt8} {r : Nat} {fb lb : Option Nat} (h : TapeAt w B t f l r fb lb) : TapeAt w.drew B t f l r fb lb := h.below (Below.refl _ _).drew

set_option maxHeartbeats 1000000 in
theorem safe_c (t : Nat) (w : World) (B : Nat) (f l : List UInt8) (r : Nat) (fb lb : Option Nat) (h : TapeAt w B t f l r fb lb) :
    Calls Try.prog 14 #[.pointer (some ⟨t, 0, none⟩)] w fun e w' => e = .returned (.int .i64 (f.length : Nat)) ∧ w = w' := by
  obtain ⟨Af, cf, Al, cl, hc, -, -, -, -⟩ := h.cells
  have h0 := cell_of_row w t 0 _ _ _ hc
  simp at h0
  clear hc h
  go_enter Try.func14, Try.ntmps14
  go_wp2_with fail
  go_ret
  exact ⟨rfl, rfl⟩

set_option maxHeartbeats 1000000 in
theorem many_c (t : Nat) (w : World) (B : Nat) (f l : List UInt8) (r : Nat) (fb lb : Option Nat) (h : TapeAt w B t f l r fb lb) :
    Calls Try.prog 25 #[.pointer (some ⟨t, 0, none⟩)] w fun e w' => e = .returned (.int .i64 (f.length + l.length : Nat)) ∧ ∃ n, w' = w.drewN n := by
  obtain ⟨Af, cf, Al, cl, hc, -, -, -, -⟩ := h.cells
  have h0 := cell_of_row w t 0 _ _ _ hc
  have h1 := cell_of_row w t 1 _ _ _ hc
  simp at h0 h1
  have hm := h.many
  have hsum : IntKind.i64.wrap ((f.length : Int) + (l.length : Int)) = ((f.length + l.length : Nat) : Int) := by rw [IntKind.wrap_i64]; omega
  have HM := Lib.hid hm
  clear hc h hm
  go_enter Try.func25, Try.ntmps25
  go_wp2_with fail
  go_quiet (fail)
  go_wp2_with fail
  go_ret
  exact ⟨ret_int (by simp), _, rfl⟩

set_option maxHeartbeats 1000000 in
theorem limit_c (t : Nat) (w : World) (B : Nat) (f l : List UInt8) (r : Nat) (fb lb : Option Nat) (h : TapeAt w B t f l r fb lb) (m : Int) (hm1 : -9223372036854775808 ≤ m) (hm2 : m ≤ 9223372036854775807) :
    Calls Try.prog 20 #[.pointer (some ⟨t, 0, none⟩), .int .i64 m] w fun e w' => e = .returned (.tuple #[]) ∧ TapeAt w' B t f l (max 0 (min m 20000)).toNat fb lb ∧ Upto (Own t lb) w w' := by
  obtain ⟨Af, cf, Al, cl, hc, -, -, -, -⟩ := h.cells
  have h2 := cell_of_row w t 2 _ _ _ hc
  have hz := row_thawed hc 2
  simp at h2
  have HT := Lib.hid h
  clear hc h
  have u := fun (v : Int) => (Upto.refl (Own t lb) w).setCell (p := ⟨t, 2, none⟩) (.inl rfl) (.int .i64 v)
  have U := Lib.hid u
  clear u
  go_enter Try.func20, Try.ntmps20
  go_wp2_with fail
  all_goals
    go_end0
    exact ⟨rfl, HT.out.set_room _ (by omega) _ (by omega), U.out _⟩

set_option maxHeartbeats 1000000 in
theorem bytes_c (t : Nat) (w : World) (B : Nat) (f l : List UInt8) (r : Nat) (fb lb : Option Nat) (h : TapeAt w B t f l r fb lb) :
    Calls Try.prog 13 #[.pointer (some ⟨t, 0, none⟩)] w fun e w' => ∃ A c, e = .returned (.slice A (f ++ l).length c) ∧ Ow 5 g8 w' w.heap.size A (f ++ l) c ∧ Below w.heap.size w w' := by
  obtain ⟨Af, cf, Al, cl, hc, hf, hl, e1, e2⟩ := h.cells
  have h0 := cell_of_row w t 0 _ _ _ hc
  have h1 := cell_of_row w t 1 _ _ _ hc
  simp at h0 h1
  have HF := Lib.hid hf
  have HL := Lib.hid hl
  have HM := Lib.hid h.many
  clear hc h hf hl e1 e2
  go_enter Try.func13, Try.ntmps13
  go_wp2_with fail
  have hb : Below w.heap.size w (w.drew.alloc (.cells #[.slice Af f.length cf, .slice Al l.length cl] 27)) := (Below.refl _ _).drew.alloc (Nat.le_refl _) _
  have HS := Lib.hid (RdS.mk2 (heap_alloc_new w.drew (.cells #[.slice Af f.length cf, .slice Al l.length cl] 27)) (HF.out.rd.below hb) HF.out.nil_cap (by have := HM.out; omega) (HL.out.rd.below hb) HL.out.nil_cap (by have := HM.out; omega))
  have HB := Lib.hid hb
  clear hb
  go_still_tail 8, (by kernel_rfl)
  change wpList _ _ _ _ _ w.drew
  go_wp2_with fail
  refine (concat_c (some ⟨w.heap.size, 0, none⟩) [f, l] 2 _ HS.out (by simp) (by have := HM.out; simp [flat]; omega)).mono ?_; rintro e w1 ⟨A1, c1, rfl, ho1, hb1⟩
  have he : flat [f, l] = f ++ l := by simp [flat]
  rw [he] at ho1
  rw [he]
  have HO := Lib.hid (ho1.low (B' := w.heap.size) (by simp))
  have HB1 := Lib.hid (HB.out.trans (hb1.mono HB.out.size))
  clear ho1 hb1 he
  go_wp2_with fail
  go_ret
  exact ⟨A1, c1, ret_slice (by simp), HO.out, HB1.out⟩

set_option maxHeartbeats 2000000 in
theorem sync_c (t : Nat) (w : World) (B : Nat) (f l : List UInt8) (r : Nat) (fb lb : Option Nat) (h : TapeAt w B t f l r fb lb) :
    Calls Try.prog 11 #[.pointer (some ⟨t, 0, none⟩)] w fun e w' => e = .returned (.tuple #[]) ∧ ∃ fb', TapeAt w' B t (f ++ l) [] r fb' none ∧ (∀ b, fb' = some b → w.heap.size ≤ b) ∧ Upto (Own t lb) w w' := by
  obtain ⟨Af, cf, Al, cl, hc, hf, hl, e1, e2⟩ := h.cells
  have h0 := cell_of_row w t 0 _ _ _ hc
  have h1 := cell_of_row w t 1 _ _ _ hc
  simp at h0 h1
  have HF := Lib.hid hf
  have HL := Lib.hid hl
  have HM := Lib.hid h.many
  have HT := Lib.hid h
  have HC := Lib.hid hc
  clear hc h hf hl e1 e2
  go_enter Try.func11, Try.ntmps11
  go_wp2_with fail
  have hb : Below w.heap.size w (w.drew.alloc (.cells #[.slice Af f.length cf, .slice Al l.length cl] 27)) := (Below.refl _ _).drew.alloc (Nat.le_refl _) _
  have HS := Lib.hid (RdS.mk2 (heap_alloc_new w.drew (.cells #[.slice Af f.length cf, .slice Al l.length cl] 27)) (HF.out.rd.below hb) HF.out.nil_cap (by have := HM.out; omega) (HL.out.rd.below hb) HL.out.nil_cap (by have := HM.out; omega))
  have HB := Lib.hid hb
  clear hb
  have he : flat [f, l] = f ++ l := by simp [flat]
  have HE := Lib.hid he
  clear he
  go_region_law (first
    | (go_simp; go_at_call 26; refine (concat_c (some ⟨w.heap.size, 0, none⟩) [f, l] 2 _ HS.out (by simp) (by have := HM.out; simp [flat]; omega)).mono ?_; rintro e w1 ⟨A1, c1, rfl, ho1, hb1⟩; rw [HE.out] at ho1; rw [HE.out]; have HO := Lib.hid (ho1.low (B' := w.heap.size) (by simp)); have HB1 := Lib.hid (HB.out.trans (hb1.mono HB.out.size)); have HT1 := Lib.hid (HT.out.below (HB.out.trans (hb1.mono HB.out.size))); have hc1 := (hb1.block t (by have := HT.out.lt; simp; omega)).trans ((HB.out.block t HT.out.lt).trans HC.out); have k0 := cell_of_row w1 t 0 _ _ _ hc1; have k1 := cell_of_row w1 t 1 _ _ _ hc1; have z0 := row_thawed hc1 0; have z1 := row_thawed hc1 1; simp at k0 k1; clear ho1 hb1 hc1))
  all_goals
    have hlt := HT.out.lt
    have hB := HT.out.base
    have hb0 := HB.out.size
    have hnb : ∀ b, A1.map (·.block) = some b → w.heap.size ≤ b := fun b e => by
      obtain ⟨a, e1, e2⟩ := block_some e
      have := (HO.out.lt a e1).1
      omega
    have hne : A1.map (·.block) ≠ some t := fun e => by
      have := hnb t e
      omega
    have hs := HT1.out.synced (HO.out.low (by omega)) (n := f.length + l.length) (by simp) hne
    have hu := Upto.of_below (K := Own t lb) HB1.out
    first
      | (go_end0; exact ⟨rfl, _, hs.1, hnb, (hu.setCell (.inl rfl) _).setCell (.inl rfl) _⟩)
      | (go_end0; exact ⟨rfl, _, hs.2, hnb, (hu.setCell (.inl rfl) _).setCell (.inl rfl) _⟩)

set_option maxHeartbeats 2000000 in
theorem crash_c (t : Nat) (w : World) (B : Nat) (f l : List UInt8) (r : Nat) (fb lb : Option Nat) (h : TapeAt w B t f l r fb lb) (k : Int) (hk1 : -9223372036854775808 ≤ k) (hk2 : k ≤ 9223372036854775807) :
    Calls Try.prog 12 #[.pointer (some ⟨t, 0, none⟩), .int .i64 k] w fun e w' => e = .returned (.tuple #[]) ∧ ∃ fb', TapeAt w' B t (f ++ l.take k.toNat) [] r fb' none ∧ (∀ b, fb' = some b → w.heap.size ≤ b) ∧ Upto (Own t lb) w w' := by
  obtain ⟨Af, cf, Al, cl, hc, -, hl, -, e2⟩ := h.cells
  have h1 := cell_of_row w t 1 _ _ _ hc
  have z1 := row_thawed hc 1
  simp at h1
  have HL := Lib.hid hl
  have HM := Lib.hid h.many
  have HT := Lib.hid h
  have E2 := Lib.hid e2
  have hcl := hl.le
  have hcm : cl ≤ 9223372036854775807 := by
    rcases hl.2 with ⟨e, _⟩ | ⟨_, _, _, e, _, _, _, hm, _⟩
    · injection e with _ _ e3; omega
    · injection e with _ _ e3; unfold maxLen at hm; omega
  have key : ∀ n, (l.take k.toNat).length = n → TapeAt (w.setCell ⟨t, 1, none⟩ (.slice Al n cl)).drew B t f (l.take k.toNat) r fb lb := fun n hn => by
    have := h.set_loose (hl.take k.toNat) hn (by rw [← e2]; exact h.lb_t) (by rw [← e2]; exact h.apart) (by have := h.many; simp; omega)
    rw [← e2] at this
    exact this.drew
  have KEY := Lib.hid key
  have hsz : ∀ n, (w.setCell ⟨t, 1, none⟩ (.slice Al n cl)).drew.heap.size = w.heap.size := fun n => by simp [World.setCell]
  have HSZ := Lib.hid hsz
  clear hc h hl e2 key hsz
  go_enter Try.func12, Try.ntmps12
  go_wp2_with fail
  go_region
  go_wp2_with fail
  all_goals
    refine (sync_c t _ B f (l.take k.toNat) r fb lb ?_).mono ?_
    · exact KEY.out _ (by rw [List.length_take]; first | omega | (split at * <;> omega))
    · rintro e w1 ⟨rfl, fb', ht1, hf1, hu1⟩
      have HT1 := Lib.hid ht1
      have HF1 := Lib.hid hf1
      have HU1 := Lib.hid (((Upto.refl (Own t lb) w).setCell (p := ⟨t, 1, none⟩) (.inl rfl) _).drew.trans hu1 (fun _ _ e => e))
      clear ht1 hf1 hu1
      go_wp2_with fail
      go_end0
      exact ⟨rfl, fb', HT1.out, fun b e => by have := HF1.out b e; rwa [HSZ.out] at this, HU1.out⟩

end Go.Proofs.Yteabhokkiggcjaa
