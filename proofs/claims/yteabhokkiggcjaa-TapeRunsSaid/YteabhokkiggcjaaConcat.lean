import Derived.Test.YteabhokkiggcjaaUpto
import Derived.Lib.AppendZeros
namespace Go.Proofs.Yteabhokkiggcjaa
open Go.RowKit

/-! slices.Grow of nil, and slices.Concat, over bytes. -/

theorem take_snoc {α : Type} {l : List α} {k : Nat} {x : α} (h : l[k]? = some x) : l.take (k + 1) = l.take k ++ [x] := by
  rw [List.take_add_one, h]; rfl

theorem get_some {α : Type} (l : List α) (k : Nat) (h : k < l.length) : ∃ x, l[k]? = some x := ⟨_, List.getElem?_eq_getElem h⟩

/-- The slice of slices at A reads as L. -/
def RdS (w : World) (A : Option Addr) (L : List (List UInt8)) : Prop :=
  ∀ (i : Nat) (p : List UInt8), L[i]? = some p → ∃ a B c, A = some a ∧ w.cell? (a.add i) = some (.slice B p.length c) ∧ (B = none → c = 0) ∧ p.length ≤ 9223372036854775807 ∧ Rd g8 w B p

theorem RdS.below {w w' : World} {A : Option Addr} {L : List (List UInt8)} (h : RdS w A L) (hb : Below w.heap.size w w') : RdS w' A L := fun i p hp => by
  obtain ⟨a, B, c, e, hc, hn, hl, hr⟩ := h i p hp
  exact ⟨a, B, c, e, (hb.cell (World.block_lt_of_cell? w _ hc)).trans hc, hn, hl, hr.below hb⟩

/-- All of them, behind a name (simp takes 'flatten.length' apart). -/
def flat (L : List (List UInt8)) : List UInt8 := L.flatten

theorem flat_snoc {L : List (List UInt8)} {k : Nat} {p : List UInt8} (h : L[k]? = some p) : flat (L.take (k + 1)) = flat (L.take k) ++ p := by
  unfold flat; rw [take_snoc h]; simp

theorem flat_le (L : List (List UInt8)) (k : Nat) : (flat (L.take k)).length ≤ (flat L).length := by
  unfold flat
  have : L.flatten = (L.take k).flatten ++ (L.drop k).flatten := by rw [← List.flatten_append, List.take_append_drop]
  rw [this, List.length_append]; omega

/-- A row of two slices of bytes. -/
theorem RdS.mk2 {w : World} {n : Nat} {E : TypeId} {m : Nat × Nat} {A1 A2 : Option Addr} {l1 l2 : List UInt8} {c1 c2 : Nat} (h : w.heap[n]? = some (.cells #[.slice A1 l1.length c1, .slice A2 l2.length c2] E m))
    (h1 : Rd g8 w A1 l1) (n1 : A1 = none → c1 = 0) (b1 : l1.length ≤ 140737488351232) (h2 : Rd g8 w A2 l2) (n2 : A2 = none → c2 = 0) (b2 : l2.length ≤ 140737488351232) : RdS w (some ⟨n, 0, none⟩) [l1, l2] := fun i p hp => by
  have hc := fun j => cell_of_row w n j _ E m h
  match i with
  | 0 => simp at hp; subst hp; exact ⟨_, A1, c1, rfl, (hc 0).trans (by simp), n1, by omega, h1⟩
  | 1 => simp at hp; subst hp; exact ⟨_, A2, c2, rfl, (hc 1).trans (by simp), n2, by omega, h2⟩
  | i + 2 => simp at hp

set_option maxHeartbeats 1000000 in
theorem grow_c (n : Nat) (w : World) (hn : n ≤ 140737488355328) :
    Calls Try.prog 27 #[.slice none 0 0, .int .i64 n] w fun e w' => ∃ A c, e = .returned (.slice A 0 c) ∧ Ow 5 g8 w' w.heap.size A [] c ∧ Below w.heap.size w w' := by
  by_cases h0 : n = 0
  · subst h0
    go_enter Try.func27, Try.ntmps27
    go_wp2
    go_ret
    exact ⟨none, 0, rfl, Ow.nil, Below.refl _ _⟩
  · obtain ⟨i0, hi, hz0, hz1, hz2⟩ := info_parts info8
    have hr := fun ty => Lib.run_append_nil_zeros (P := Try.prog) w 27 3 ty 5 i0 (.int .u8 0) .i64 .i64 Try.underlying27 Try.underlying3 hi hz0 n (by omega) (by omega) (by omega) (by rw [hz2]; omega)
    have hG := grownCap_ge w n 0 5
    have hG2 := grownCap_le_maxLen w n 0 5 (by unfold maxLen; omega)
    generalize grownCap w n 0 5 = G at *
    have hsz : (Builtin.zeroCells (Value.int .u8 0).cells n ++ Builtin.zeroCells (Value.int .u8 0).cells (G - n)).size = G := by
      simp [Builtin.zeroCells, Value.cells]; omega
    have hown : Ow 5 g8 (w.drew.alloc (.cells (Builtin.zeroCells (Value.int .u8 0).cells n ++ Builtin.zeroCells (Value.int .u8 0).cells (G - n)) 5)) w.heap.size (some ⟨w.heap.size, 0, none⟩) ([] : List UInt8) G :=
      ⟨rfl, .inr ⟨w.heap.size, G, _, rfl, Nat.le_refl _, heap_alloc_new w.drew _, by simp, hG2, by rw [hsz]; omega, by simp⟩⟩
    have hb : Below w.heap.size w (w.drew.alloc (.cells (Builtin.zeroCells (Value.int .u8 0).cells n ++ Builtin.zeroCells (Value.int .u8 0).cells (G - n)) 5)) := (Below.refl _ _).drew.alloc (Nat.le_refl _) _
    generalize (w.drew.alloc (.cells (Builtin.zeroCells (Value.int .u8 0).cells n ++ Builtin.zeroCells (Value.int .u8 0).cells (G - n)) 5)) = w1 at *
    have HR := hr
    have HO := Lib.hid hown
    have HB := Lib.hid hb
    have hn0 : ¬ ((n : Int) < 0) := by omega
    have hn1 : ((n : Int) > 0) := by omega
    have h63 : G ≤ 9223372036854775807 := by unfold maxLen at hG2; omega
    have hn2 : wrap64 ((n : Int) - 0) = n := by unfold wrap64; omega
    clear hown hb hr hi hz0 hz1 hz2 hsz
    go_enter Try.func27, Try.ntmps27
    go_wp2_with (at_builtin; refine Lib.wpList_append_run _ rfl _ _ _ _ rfl _ _ rfl rfl _ _ (HR _) ?_)
    go_ret
    exact ⟨_, G, rfl, HO.out, HB.out⟩

set_option maxHeartbeats 2000000 in
theorem concat_c (A : Option Addr) (L : List (List UInt8)) (c : Nat) (w : World) (h : RdS w A L) (hlen : L.length ≤ 9223372036854775807) (htot : (flat L).length ≤ 140737488355328) :
    Calls Try.prog 26 #[.slice A L.length c] w fun e w' => ∃ A' c', e = .returned (.slice A' (flat L).length c') ∧ Ow 5 g8 w' w.heap.size A' (flat L) c' ∧ Below w.heap.size w w' := by
  have H := Lib.hid h
  have hle := flat_le L
  have HLE := Lib.hid hle
  clear h hle
  go_enter Try.func26, Try.ntmps26
  go_wp2_with fail
  go_loop [11, 3] (fun i s => ∃ k : Nat, k ≤ L.length ∧ i = .int .i64 k ∧ s = .int .i64 ((flat (L.take k)).length : Nat)) (fun i _ => L.length - (intOf i).toNat)
  case atStart => exact ⟨0, Nat.zero_le _, rfl, by simp [flat]⟩
  case round =>
    obtain ⟨k, hk, rfl, rfl⟩ := hrel
    by_cases hlt : k < L.length
    · obtain ⟨p, hp⟩ := get_some L k hlt
      obtain ⟨a, B, cp, rfl, hc, _, hl, _⟩ := H.out k p hp
      have hs1 := flat_snoc hp
      have hs2 := HLE.out (k + 1)
      have hs3 : (flat (L.take (k + 1))).length = (flat (L.take k)).length + p.length := by rw [hs1, List.length_append]
      rw [hs3] at hs2
      have HS3 := Lib.hid hs3
      have hneg : ¬ ((((flat (L.take k)).length : Nat) : Int) + (p.length : Int) < 0) := by omega
      clear hp hs1 hs3
      generalize hg : (flat (L.take k)).length = s at *
      go_wp2_with fail
      go_round
      case rel => exact ⟨k + 1, by omega, by go_num, by rw [HS3.out]; go_num⟩
      case measure => simp [intOf]; omega
    · have he : L.take k = L := List.take_of_length_le (by omega)
      rw [he]
      clear he
      go_wp2_with fail
      refine (grow_c _ w (by omega)).mono ?_; rintro e w1 ⟨A1, c1, rfl, ho1, hb1⟩
      have HO1 := Lib.hid ho1
      have HB1 := Lib.hid hb1
      clear ho1 hb1 hk hlt
      go_wp2_with fail
      go_loopw [27, 6] (fun i s wr => ∃ (k : Nat) (A' : Option Addr) (c' : Nat), k ≤ L.length ∧ i = .int .i64 k ∧ s = .slice A' (flat (L.take k)).length c' ∧ Hid (Ow 5 g8 wr w.heap.size A' (flat (L.take k)) c') ∧ Hid (Below w.heap.size w wr)) (fun i _ _ => L.length - (intOf i).toNat)
      case atStart => exact ⟨0, A1, c1, Nat.zero_le _, rfl, rfl, HO1, HB1⟩
      case round =>
        obtain ⟨k, A2, c2, hk, rfl, rfl, ho2, hb2⟩ := hrel
        by_cases hlt : k < L.length
        · obtain ⟨p, hp⟩ := get_some L k hlt
          obtain ⟨a, B, cp, rfl, hc, hnil, hl, hr⟩ := (H.out.below hb2.out) k p hp
          have HC := hc
          have HR := Lib.hid hr
          have HN := Lib.hid hnil
          have HP := Lib.hid hp
          have hs2 := HLE.out (k + 1)
          rw [flat_snoc hp, List.length_append] at hs2
          have HS2 := Lib.hid hs2
          clear hc hr hnil hp hs2
          go_wp2_with (at_builtin; refine app8 rfl _ _ rfl _ _ ho2.out rfl _ _ HR.out rfl HN.out (by have := HS2.out; omega) hb2.out.size ?_)
          intro A3 c3 w3 ho3 hg3
          have HO3 := Lib.hid ho3
          have HB3 := Lib.hid (hb2.out.grown hg3 hb2.out.size (fun j hj => (ho2.out.block j hj).1))
          clear ho3 hg3
          go_wp2_with fail
          go_roundw
          case rel => exact ⟨k + 1, A3, c3, by omega, by go_num, by rw [flat_snoc HP.out, List.length_append], by rw [flat_snoc HP.out]; exact HO3.out, HB3.out⟩
          case measure => simp [intOf]; omega
        · have he : L.take k = L := List.take_of_length_le (by omega)
          have HE := Lib.hid he
          clear he
          go_wp2_with fail
          go_ret
          refine ⟨A2, c2, ret_slice (by rw [HE.out]), ?_, hb2.out⟩
          have := ho2.out
          rwa [HE.out] at this

end Go.Proofs.Yteabhokkiggcjaa
