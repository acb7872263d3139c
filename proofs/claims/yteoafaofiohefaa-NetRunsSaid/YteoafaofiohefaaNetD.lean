import Derived.Test.YteoafaofiohefaaNetC
import Derived.Deep.RegionLaw
namespace Go.Proofs.Yteoafaofiohefaa
open Go.RowKit

/-! net.put. -/

theorem infoI : (Try.prog.info? 65).map (fun i => (i.zero, i.size, i.bytes)) = some (some (.agg #[.slice none 0 0, .bool false]), 2, 32) := by kernel_rfl

theorem one_it (A : Option Addr) (n c : Nat) (s : Bool) : ∀ u ∈ [Value.slice A n c, Value.bool s], u.oneCell' = true := by
  intro u hu; simp at hu; rcases hu with rfl | rfl <;> rfl

set_option maxRecDepth 100000 in
set_option maxHeartbeats 4000000 in
theorem put_full (w : World) (B nb : Nat) (V : Nat → Value) (I : Nat → List It) (k : Nat) (h : NetAt w B nb V I) (hk : k < 8) (hroom : 200 ≤ (I k).length) (A : Option Addr) (n c : Nat) (s : Bool) :
    Calls Try.prog 25 #[.pointer (some ⟨nb, k, none⟩), .agg #[.slice A n c, .bool s]] w fun e w' => e = .returned (.bool false) ∧ Below w.heap.size w w' := by
  have hL : (I k).length = 200 := Nat.le_antisymm (h.many k hk) hroom
  obtain ⟨A0, c0, hv⟩ := (h.lane k hk).slice
  have hb1 : Below w.heap.size w (w.alloc (.cells #[.slice A n c, .bool s] 65)) := (Below.refl _ _).alloc (Nat.le_refl _) _
  have hc := (h.cell k hk)
  rw [hv, hL] at hc
  have hc1 := (hb1.cell (p := ⟨nb, k, none⟩) h.lt).trans hc
  have HB := Lib.hid hb1
  clear hv hL hb1 hc
  go_enter Try.func25, Try.ntmps25
  go_wp2_with fail
  go_ret
  exact ⟨rfl, HB.out⟩

/-- What is new of a lane with one more frame lies in new memory, or in the lane's own. -/
def New (w : World) (v N : Value) (x : It) : Prop := (∀ b, N.ownBlock = some b → v.ownBlock = some b ∨ w.heap.size ≤ b) ∧ ∀ a, x.A = some a → w.heap.size ≤ a.block

set_option maxRecDepth 100000 in
set_option maxHeartbeats 8000000 in
theorem put_ok (w : World) (B nb : Nat) (V : Nat → Value) (I : Nat → List It) (k : Nat) (h : NetAt w B nb V I) (hk : k < 8) (hroom : (I k).length < 200) (A : Option Addr) (l : List UInt8) (n c : Nat) (s : Bool) (hX : Rd g8 w A l) (hn : A = none → c = 0) (hlen : l.length ≤ 140737488355328) (he : l.length = n) :
    Calls Try.prog 25 #[.pointer (some ⟨nb, k, none⟩), .agg #[.slice A n c, .bool s]] w fun e w' => e = .returned (.bool true) ∧ ∃ N x, x.l = l ∧ x.s = s ∧ NetAt w' B nb (upd V k N) (upd I k (I k ++ [x])) ∧ Upto (Turn nb (V k)) w w' ∧ New w (V k) N x := by
  obtain ⟨i0, hi, hz0, hz1, hz2⟩ := info_parts infoI
  obtain ⟨A0, c0, hv⟩ := (h.lane k hk).slice
  have hlane := h.lane k hk
  have H := Lib.hid h
  have HBASE : Hid (B ≤ w.heap.size) := Nat.le_trans h.base (Nat.le_of_lt h.lt)
  have HLT : Hid (nb < w.heap.size) := h.lt
  have HOWN : Hid (∀ b, (V k).ownBlock = some b → b ≠ nb) := fun b e => (h.own hk e).2.1
  have hfz := fun j => row_thawed h.row j
  have HFZ := Lib.hid hfz
  have hb1 : Below w.heap.size w (w.alloc (.cells #[.slice A n c, .bool s] 65)) := (Below.refl _ _).alloc (Nat.le_refl _) _
  have hs1 : (w.alloc (.cells #[.slice A n c, .bool s] 65)).heap.size = w.heap.size + 1 := by simp
  have hrow := heap_alloc_new w (.cells #[.slice A n c, .bool s] 65)
  have hc := (h.cell k hk)
  rw [hv] at hc hlane HOWN
  have HLANE : Hid (∀ w', Below w.heap.size w w' → w'.ownsRow B 65 2 (.slice A0 (I k).length c0) (I k).length (lcells (I k))) := fun w' hb => hlane.upto (Upto.of_below (K := fun _ => False) hb) (fun _ _ e => e)
  have HV := Lib.hid hv
  have hc1 := (hb1.cell (p := ⟨nb, k, none⟩) h.lt).trans hc
  have HR := Lib.hid hroom
  have HLEN := Lib.hid hlen
  have HE := Lib.hid he
  have HX := Lib.hid (hX.below hb1)
  have HKC : Hid (∀ w', Below w.heap.size w w' → w'.cell? ⟨nb, k, none⟩ = some (.slice A0 (I k).length c0) ∧ w'.frozen? ⟨nb, k, none⟩ = false) := fun w' hb => ⟨(hb.cell (p := ⟨nb, k, none⟩) HLT.out).trans hc, (World.frozen?_of_block (hb.block nb HLT.out)).trans (hfz k)⟩
  have hlt : ¬ (200 ≤ ((I k).length : Int)) := by omega
  clear hv hc h hlane hfz hlen he hX hroom
  generalize hL : (I k).length = L at *
  go_enter Try.func25, Try.ntmps25
  go_wp2_with fail
  generalize w.alloc (.cells #[.slice A n c, .bool s] 65) = w1 at *
  have x0 := (cell_of_row w1 w.heap.size 0 _ _ _ hrow).trans rfl
  have x1 := (cell_of_row w1 w.heap.size 1 _ _ _ hrow).trans rfl
  have HB1 := Lib.hid hb1
  have HXC : Hid (∀ w', Below w1.heap.size w1 w' → w'.cell? ⟨w.heap.size, 0, none⟩ = some (.slice A n c) ∧ w'.cell? ⟨w.heap.size, 1, none⟩ = some (.bool s)) := fun w' hb => by
    have := (hb.block w.heap.size (by omega)).trans hrow
    exact ⟨(cell_of_row w' w.heap.size 0 _ _ _ this).trans rfl, (cell_of_row w' w.heap.size 1 _ _ _ this).trans rfl⟩
  have HBS : Hid (w.heap.size ≤ w1.heap.size) := hb1.size
  clear hb1 hs1 hrow
  have HFIN : Hid (∀ (w5 w7 : World) (A5 : Option Addr) (c5 g cap : Nat), Below w.heap.size w w5 → Ow 5 g8 w5 w1.drew.heap.size A5 l c5 →
      w7.ownsRow B 65 2 (.slice (some ⟨g, 0, none⟩) (L + 1) cap) (L + 1) (lcells (I k) ++ [Value.slice A5 n c5, Value.bool s]) →
      (w5.alloc (Obj.cells #[Value.slice A5 n c5, Value.bool s] 65)).grownBy w7 (Value.slice A0 L c0).ownBlock →
      ((Value.slice A0 L c0).ownBlock = some g ∨ g = (w5.alloc (Obj.cells #[Value.slice A5 n c5, Value.bool s] 65)).heap.size) →
      ∃ N x, x.l = l ∧ x.s = s ∧ NetAt (w7.setCell ⟨nb, k, none⟩ (.slice (some ⟨g, 0, none⟩) (L + 1) cap)) B nb (upd V k N) (upd I k (I k ++ [x])) ∧ Upto (Turn nb (V k)) w (w7.setCell ⟨nb, k, none⟩ (.slice (some ⟨g, 0, none⟩) (L + 1) cap)) ∧ New w (V k) N x) := by
    intro w5 w7 A5 c5 g cap hb5 ho5 ho7 hg7 hat7
    have hh := H.out
    have hl' := HLEN.out
    have he' := HE.out
    have hr' := HR.out
    rw [← HV.out] at hg7 hat7
    subst hL
    subst he'
    have hb6 := hb5.alloc hb5.size (Obj.cells #[Value.slice A5 l.length c5, Value.bool s] 65)
    obtain ⟨t1, t2⟩ := hh.put hk hr' hb6 ⟨A5, c5, l, s⟩ ((ho5.low (by have := HBS.out; simpa using this)).below ((Below.refl _ _).alloc (Nat.le_refl _) _)) hl' ho7 hg7 (by
      rcases hat7 with e | e
      · exact .inl e
      · exact .inr (by rw [e]; exact hb6.size))
    refine ⟨_, ⟨A5, c5, l, s⟩, rfl, rfl, t1, t2, fun b e => ?_, fun a e => Nat.le_trans HBS.out (by have := (ho5.lt a e).1; simpa using this)⟩
    have e' : some g = some b := e
    injection e' with e'
    subst e'
    rcases hat7 with e | e
    · exact .inl e
    · exact .inr (by rw [e]; exact hb6.size)
  go_region_law (first
    | (go_simp; go_at_call 34; (with_reducible refine (bclone_n A l c n _ (HX.out.below (Below.refl _ _).drew) hn HLEN.out HE.out).mono ?_); rintro e w5 ⟨A5, c5, rfl, ho5, hb5⟩; have K5 := Lib.hid ((Below.refl w1.heap.size w1).drew.trans hb5); have HO5 := Lib.hid ho5; have HB5 := Lib.hid (HB1.out.trans (K5.out.mono HBS.out)); obtain ⟨q0, q1⟩ := HXC.out _ K5.out; obtain ⟨p0, p1⟩ := HKC.out _ HB5.out; have p5 := (HKC.out _ (HB5.out.alloc HB5.out.size (.cells #[.slice A5 n c5, .bool s] 65))).1; clear ho5 hb5)
    | (refine step_append_lies _ (by rfl) _ _ _ (by rfl) B 65 i0 _ 2 32 Try.underlying56 hi hz0 hz1 hz2 rfl (by decide) (.slice A0 L c0) L (lcells (I k)) (by rfl) (HLANE.out _ (HB5.out.alloc HB5.out.size _)) ⟨w5.heap.size, 0, none⟩ 1 1 [.slice A5 n c5, .bool s] (by rfl) rfl (World.news_of_block (heap_alloc_new w5 _)) (one_it A5 n c5 s) (by decide) (by have := HR.out; simp only [maxLen]; omega) (by have := HR.out; omega) (Nat.le_trans HBASE.out (HB5.out.alloc HB5.out.size _).size) _ rfl ?_; intro g cap w7 ho7 hg7 hat7 hlt7; have p7 := (hg7.cell_far ⟨nb, k, none⟩ (Nat.lt_of_lt_of_le HLT.out (HB5.out.alloc HB5.out.size _).size) (fun e => HOWN.out _ e.symm rfl)).trans (HKC.out _ (HB5.out.alloc HB5.out.size _)).1; have z7 := (hg7.frozen_far ⟨nb, k, none⟩ (Nat.lt_of_lt_of_le HLT.out (HB5.out.alloc HB5.out.size _).size) (fun e => HOWN.out _ e.symm rfl)).trans (HKC.out _ (HB5.out.alloc HB5.out.size _)).2; have O7 := Lib.hid ho7; have G7 := Lib.hid hg7; have AT7 := Lib.hid hat7; clear ho7 hg7 hat7 hlt7))
  all_goals
    have F := Lib.hid (HFIN.out w5 w7 A5 c5 g cap HB5.out HO5.out O7.out G7.out AT7.out)
    clear O7 G7 AT7 p7 z7 HFIN
    go_wp2_with fail
    go_ret
    exact ⟨rfl, F.out⟩

end Go.Proofs.Yteoafaofiohefaa
