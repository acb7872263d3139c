import Derived.Test.YteoafaofiohefaaNetN
namespace Go.Proofs.Yteoafaofiohefaa
open Go.RowKit

/-! net.Late: one comes last. -/

theorem upd_upd {α : Type} (F : Nat → α) (k : Nat) (u v : α) : upd (upd F k u) k v = upd F k v := by
  funext j; unfold upd; by_cases e : j = k <;> simp [e]

set_option maxRecDepth 100000 in
set_option maxHeartbeats 8000000 in
theorem Late_yes (w : World) (B nb : Nat) (V : Nat → Value) (I : Nat → List It) (k : Nat) (h : NetAt w B nb V I) (hk : k < 8) (i : Nat) (x : It) (hx : (I k)[i]? = some x) :
    Calls Try.prog 13 #[.pointer (some ⟨nb, 0, none⟩), .int .i64 k, .int .i64 i] w fun e w' => e = .returned (.bool true) ∧ ∃ N, NetAt w' B nb (upd V k N) (upd I k ((I k).eraseIdx i ++ [x])) ∧ Upto (Turn nb (V k)) w w' := by
  obtain ⟨i0, hi, hz0, hz1, hz2⟩ := info_parts infoI
  have H := Lib.hid h
  have HX := Lib.hid hx
  have HT := Lib.hid (take_yes w B nb V I k h hk i x hx)
  clear h hx
  go_enter Try.func13, Try.ntmps13
  go_wp2_with fail
  (with_reducible refine HT.out.mono ?_); rintro e w1 ⟨rfl, N1, hN1, h1, u1⟩
  have hmem : x ∈ I k := List.mem_of_getElem? HX.out
  have hlen : ((I k).eraseIdx i).length < 200 := by
    have hi := (List.getElem?_eq_some_iff.1 HX.out).1
    have := H.out.many k hk
    rw [List.length_eraseIdx, if_pos hi]; omega
  have hfr : Ow 5 g8 w1 B x.A x.l x.c := (H.out.frame k hk x hmem).upto u1 (fun a e1 e2 => e2.elim (fun e3 => (H.out.fr hk hmem e1).2 e3) (fun e3 => (H.out.own hk e3).2.2 k hk x hmem a e1 rfl))
  have hxn : ∀ a, x.A = some a → a.block ≠ nb ∧ (upd V k N1 k).ownBlock ≠ some a.block := fun a e1 => ⟨(H.out.fr hk hmem e1).2, fun e2 => (H.out.own hk (by rw [upd_same, hN1] at e2; exact e2)).2.2 k hk x hmem a e1 rfl⟩
  obtain ⟨A0, c0, hv⟩ := (h1.lane k hk).slice
  have hcell := h1.cell k hk
  have hlane := h1.lane k hk
  have hput := fun (w6 w7 : World) (hb : Below w1.heap.size w1 w6) g cap => h1.put2 (w6 := w6) (w7 := w7) hk (by rw [upd_same]; exact hlen) hb x hfr hxn (H.out.short k hk x hmem) (g := g) (cap := cap)
  rw [hv] at hcell hlane hput
  rw [upd_same] at hcell hlane hput
  have HV := Lib.hid hv
  have hnb := h1.lt
  have hownb : ∀ b, (Value.slice A0 ((I k).eraseIdx i).length c0).ownBlock = some b → b ≠ nb := fun b e => (h1.own hk (b := b) (by rw [hv, upd_same]; exact e)).2.1
  have hturn : ∀ w7, Upto (Turn nb (Value.slice A0 ((I k).eraseIdx i).length c0)) w1 w7 → Upto (Turn nb (V k)) w w7 := fun w7 u => u1.trans u (fun j _ e => e.elim .inl (fun e2 => .inr (by rw [← hN1, ← upd_same V k N1, hv, upd_same]; exact e2)))
  have hfz := fun j => row_thawed h1.row j
  have HLANE : Hid (∀ w', Below w1.heap.size w1 w' → w'.ownsRow B 65 2 (.slice A0 ((I k).eraseIdx i).length c0) ((I k).eraseIdx i).length (lcells ((I k).eraseIdx i))) := fun w' hb => hlane.upto (Upto.of_below (K := fun _ => False) hb) (fun _ _ e => e)
  have HKC : Hid (∀ w', Below w1.heap.size w1 w' → w'.cell? ⟨nb, k, none⟩ = some (.slice A0 ((I k).eraseIdx i).length c0) ∧ w'.frozen? ⟨nb, k, none⟩ = false) := fun w' hb => ⟨(hb.cell (p := ⟨nb, k, none⟩) hnb).trans hcell, (World.frozen?_of_block (hb.block nb hnb)).trans (hfz k)⟩
  have HFIN : Hid (∀ (w6 w7 : World) (g cap : Nat), Below w1.heap.size w1 w6 → w7.ownsRow B 65 2 (.slice (some ⟨g, 0, none⟩) (((I k).eraseIdx i).length + 1) cap) (((I k).eraseIdx i).length + 1) (lcells ((I k).eraseIdx i) ++ [Value.slice x.A x.l.length x.c, Value.bool x.s]) →
      w6.grownBy w7 (Value.slice A0 ((I k).eraseIdx i).length c0).ownBlock → ((Value.slice A0 ((I k).eraseIdx i).length c0).ownBlock = some g ∨ g = w6.heap.size) →
      ∃ N, NetAt (w7.setCell ⟨nb, k, none⟩ (.slice (some ⟨g, 0, none⟩) (((I k).eraseIdx i).length + 1) cap)) B nb (upd V k N) (upd I k ((I k).eraseIdx i ++ [x])) ∧ Upto (Turn nb (V k)) w (w7.setCell ⟨nb, k, none⟩ (.slice (some ⟨g, 0, none⟩) (((I k).eraseIdx i).length + 1) cap))) := fun w6 w7 g cap hb ho hg hat => by
    obtain ⟨t1, t2⟩ := hput w6 w7 hb g cap ho hg (hat.elim .inl (fun e => .inr (by rw [e]; exact hb.size)))
    rw [upd_upd, upd_upd] at t1
    exact ⟨_, t1, hturn _ t2⟩
  have HR := Lib.hid hlen
  have HBASE : Hid (B ≤ w1.heap.size) := Nat.le_trans h1.base (Nat.le_of_lt hnb)
  have HLT := Lib.hid hnb
  have HOWN := Lib.hid hownb
  have hb2 : Below w1.heap.size w1 (w1.alloc (.cells #[.slice x.A x.l.length x.c, .bool x.s] 65)) := (Below.refl _ _).alloc (Nat.le_refl _) _
  obtain ⟨x0, x1, xz⟩ := row2 (heap_alloc_new w1 (.cells #[.slice x.A x.l.length x.c, .bool x.s] 65))
  have c2 := (HKC.out _ hb2).1
  have HB2 := Lib.hid hb2
  clear hfz hlane hcell hput hv h1 u1 hmem hlen hfr hxn hnb hownb hturn hN1 hb2
  generalize hL : ((I k).eraseIdx i).length = L at *
  go_wp2_with fail
  generalize w1.alloc (.cells #[.slice x.A x.l.length x.c, .bool x.s] 65) = w2 at *
  have HB3 : Hid (Below w1.heap.size w1 (w2.alloc (.cells #[.slice x.A x.l.length x.c, .bool x.s] 65)).drew) := (HB2.out.alloc HB2.out.size _).drew
  obtain ⟨c3, -⟩ := HKC.out _ (HB2.out.alloc HB2.out.size (.cells #[.slice x.A x.l.length x.c, .bool x.s] 65))
  go_region_law (refine step_append_lies _ (by rfl) _ _ _ (by rfl) B 65 i0 _ 2 32 Try.underlying56 hi hz0 hz1 hz2 rfl (by decide) (.slice A0 L c0) L (lcells ((I k).eraseIdx i)) (by rfl) (HLANE.out _ HB3.out) ⟨w2.heap.size, 0, none⟩ 1 1 [.slice x.A x.l.length x.c, .bool x.s] (by rfl) rfl (World.news_of_block (heap_alloc_new w2 _)) (one_it x.A x.l.length x.c x.s) (by decide) (by have := HR.out; simp only [maxLen]; omega) (by have := HR.out; omega) (Nat.le_trans HBASE.out HB3.out.size) _ rfl ?_; intro g cap w7 ho7 hg7 hat7 hlt7; have p7 := (hg7.cell_far ⟨nb, k, none⟩ (Nat.lt_of_lt_of_le HLT.out HB3.out.size) (fun e => HOWN.out _ e.symm rfl)).trans (HKC.out _ HB3.out).1; have z7 := (hg7.frozen_far ⟨nb, k, none⟩ (Nat.lt_of_lt_of_le HLT.out HB3.out.size) (fun e => HOWN.out _ e.symm rfl)).trans (HKC.out _ HB3.out).2; have O7 := Lib.hid ho7; have G7 := Lib.hid hg7; have AT7 := Lib.hid hat7; clear ho7 hg7 hat7 hlt7)
  all_goals
    have F := Lib.hid (HFIN.out _ w7 g cap HB3.out O7.out G7.out AT7.out)
    clear O7 G7 AT7 p7 z7 HFIN
    go_wp2_with fail
    go_ret
    exact ⟨rfl, F.out⟩

end Go.Proofs.Yteoafaofiohefaa
