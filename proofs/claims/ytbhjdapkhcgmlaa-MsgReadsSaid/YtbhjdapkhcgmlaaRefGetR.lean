import Derived.Test.YtbhjdapkhcgmlaaCuttP
import Derived.Deep.RegionHeld3

set_option linter.unusedSimpArgs false
set_option linter.unusedVariables false
set_option linter.unnecessarySimpa false

namespace Go.Proofs.Ytbhjdapkhcgmlaa
open Go.RowKit

set_option maxHeartbeats 4000000 in
theorem refGet_no (A : Option Addr) (n c : Nat) (many : Int) (w : World) (h : many < 0 ∨ 1000 < many ∨ (n : Int) < 3 * many) :
    Calls Try.prog 25 #[.slice A n c, .int .i64 many] w fun e w' => e = .returned (.tuple #[.slice none 0 0, .slice none 0 0, .int .i64 21]) ∧ w = w' := by
  have h' : many < 0 ∨ (¬ many < 0 ∧ 1000 < many) ∨ (0 ≤ many ∧ ¬ 1000 < many ∧ (n : Int) < 3 * many) := by omega
  clear h
  rcases h' with h1 | ⟨h1, h2⟩ | ⟨h1, h2, h3⟩
  all_goals
    go_enter Try.func25, Try.ntmps25
    go_wp2_with fail
    go_ret3
    exact ⟨rfl, rfl⟩

theorem add_pos (a : Addr) (n : Nat) (h : 0 < n) : a.add n = ⟨a.block, a.off + n, none⟩ := by unfold Addr.add; rw [if_neg (by omega)]

/-- Three bytes side by side: what their number is. -/
theorem three (l : List UInt8) (k : Nat) (h : 3 * k + 3 ≤ l.length) : ∃ x y z : UInt8, l[3 * k]? = some x ∧ l[3 * k + 1]? = some y ∧ l[3 * k + 2]? = some z ∧ getN ((l.take (3 * k + 3)).drop (3 * k)) = 65536 * x.toNat + 256 * y.toNat + z.toNat := by
  have h0 : 3 * k < l.length := by omega
  have h1 : 3 * k + 1 < l.length := by omega
  have h2 : 3 * k + 2 < l.length := by omega
  refine ⟨l[3 * k], l[3 * k + 1], l[3 * k + 2], List.getElem?_eq_getElem h0, List.getElem?_eq_getElem h1, List.getElem?_eq_getElem h2, ?_⟩
  have e : (l.take (3 * k + 3)).drop (3 * k) = [l[3 * k], l[3 * k + 1], l[3 * k + 2]] := by
    rw [List.drop_take, show 3 * k + 3 - 3 * k = 3 from by omega, List.drop_eq_getElem_cons h0, List.drop_eq_getElem_cons h1, List.drop_eq_getElem_cons h2]
    rfl
  rw [e]
  simp [getN]; omega

/-- 'append(x, y...)' of ints, as a step of a region that draws its order. -/
theorem step_app64 {w : World} {B : Nat} {A : Option Addr} {c : Nat} {ops : Array Oper} {o : Oper} {a : Act} {K : Act → World → Prop} {Q : Exit → Act → World → Prop} {F : Prop}
    (hw : Region.wanted o (yielded ops a.tmps) = true) (s x : Operand)
    (ho : o.op = .call { callee := .builtin .append, args := #[s, x], argTypes := #[61, 61] })
    (l1 l2 : List Int) (hown : Ow 3 g64 w B A l1 c) (hs : a.eval s = .slice A l1.length c) (X : Option Addr) (cx : Nat) (hX : Rd g64 w X l2) (hx : a.eval x = .slice X l2.length cx) (hn : X = none → cx = 0)
    (hlen : l1.length + l2.length ≤ 17592186044416) (hbase : B ≤ w.heap.size)
    (h : ∀ A' c' w1, Ow 3 g64 w1 B A' (l1 ++ l2) c' → w.grownBy w1 (Value.slice A l1.length c).ownBlock → K (a.put o.dst (.slice A' (l1.length + l2.length) c')) w1) :
    if Region.wanted o (yielded ops a.tmps) = true then Oper.wp Try.prog o a w K Q else F := by
  rw [if_pos hw]
  obtain ⟨i0, hi, hz0, hz1, hz2⟩ := info_parts info64
  obtain ⟨A', c', w1, hr, h1, h2⟩ := run_app_rd (ty := o.type) i0 (.int .i64 0) 8 Try.underlying61 hi hz0 hz1 hz2 rfl l1 l2 hown X cx hX hn one64 (by omega) (by decide) hbase
  unfold Oper.wp
  simp [execOp, ho, resolve, invoke, builtin, hs, hx, hr, Result.andThen]
  exact h A' c' w1 h1 h2

set_option maxHeartbeats 8000000 in
theorem refGet_c (A : Option Addr) (l : List UInt8) (c : Nat) (many : Nat) (w : World) (h : Rd g8 w A l) (hn : A = none → c = 0) (hc : l.length ≤ c) (hc2 : c ≤ 9223372036854775807) (hm : many ≤ 1000) (hl : 3 * many ≤ l.length) (hl2 : l.length ≤ 140737488355328) :
    Calls Try.prog 25 #[.slice A l.length c, .int .i64 many] w fun e w' => ∃ A1 c1 A2 c2, e = .returned (.tuple #[.slice A1 many c1, .slice A2 (l.drop (3 * many)).length c2, .int .i64 0]) ∧ Ow 3 g64 w' w.heap.size A1 (ints3 l many) c1 ∧ Ow 5 g8 w' w.heap.size A2 (l.drop (3 * many)) c2 ∧ Below w.heap.size w w' := by
  have H := Lib.hid h
  have HN := Lib.hid hn
  have q1 : ¬ ((many : Int) < 0) := by omega
  have q2 : ¬ (1000 < (many : Int)) := by omega
  have q3 : ¬ ((l.length : Int) < 3 * (many : Int)) := by omega
  have HC2 := Lib.hid hc2
  have HL2 := Lib.hid hl2
  have htail := fun W => run_tail W A l.length c (3 * many) (3 * (many : Int)) (by omega) hl
  have HO0 := Lib.hid (Ow.new (E := 3) (g := g64) (w := w) (B := w.heap.size) (Nat.le_refl _))
  have HB0 := Lib.hid ((Below.refl w.heap.size w).alloc (Nat.le_refl _) (.cells #[] 3))
  clear h hn hc2 hl2
  go_enter Try.func25, Try.ntmps25
  go_wp2_with fail
  go_loopw [7, 8] (fun b i wr => ∃ (k : Nat) (A' : Option Addr) (c' : Nat), k ≤ many ∧ i = .int .i64 k ∧ b = .slice A' k c' ∧ Hid (Ow 3 g64 wr w.heap.size A' (ints3 l k) c') ∧ Hid (Below w.heap.size w wr)) (fun _ i _ => many - (intOf i).toNat)
  case atStart => exact ⟨0, some ⟨w.heap.size, 0, none⟩, 0, Nat.zero_le _, rfl, rfl, HO0, HB0⟩
  case round =>
    obtain ⟨k, A1, c1, hk, rfl, rfl, ho1, hb1⟩ := hrel
    by_cases hlt : k < many
    · obtain ⟨x, y, z, hx, hy, hz, hv⟩ := three l k (by omega)
      obtain ⟨a, rfl, hcx0⟩ := H.out _ x hx
      obtain ⟨_, e1, hcy0⟩ := H.out _ y hy
      cases e1
      obtain ⟨_, e1, hcz0⟩ := H.out _ z hz
      cases e1
      rw [add_pos a (3 * k + 1) (by omega)] at hcy0
      rw [add_pos a (3 * k + 2) (by omega)] at hcz0
      have C0 := Lib.hid hcx0
      have C1 := Lib.hid hcy0
      have C2 := Lib.hid hcz0
      have hcx := (hb1.out.cell (World.block_lt_of_cell? w _ hcx0)).trans hcx0
      have hcy := (hb1.out.cell (World.block_lt_of_cell? w _ hcy0)).trans hcy0
      have hcz := (hb1.out.cell (World.block_lt_of_cell? w _ hcz0)).trans hcz0
      clear hcx0 hcy0 hcz0
      have hsn := ints3_snoc l k
      rw [hv] at hsn
      have HSN := Lib.hid hsn
      have HIL := Lib.hid (ints3_length l k)
      have bx := UInt8.toNat_lt x
      have b_y := UInt8.toNat_lt y
      have bz := UInt8.toNat_lt z
      have w1 : IntKind.i64.wrap (3 * (k : Int)) = 3 * (k : Int) := by rw [IntKind.wrap_i64]; omega
      have w2 : IntKind.i64.wrap (3 * (k : Int) + 1) = 3 * (k : Int) + 1 := by rw [IntKind.wrap_i64]; omega
      have w3 : IntKind.i64.wrap (3 * (k : Int) + 2) = 3 * (k : Int) + 2 := by rw [IntKind.wrap_i64]; omega
      have v1 : IntKind.i64.wrap (x.toNat : Int) = (x.toNat : Int) := by rw [IntKind.wrap_i64]; omega
      have v2 : IntKind.i64.wrap (y.toNat : Int) = (y.toNat : Int) := by rw [IntKind.wrap_i64]; omega
      have v3 : IntKind.i64.wrap (z.toNat : Int) = (z.toNat : Int) := by rw [IntKind.wrap_i64]; omega
      have v4 : IntKind.i64.wrap (65536 * (x.toNat : Int)) = 65536 * (x.toNat : Int) := by rw [IntKind.wrap_i64]; omega
      have v5 : IntKind.i64.wrap (256 * (y.toNat : Int)) = 256 * (y.toNat : Int) := by rw [IntKind.wrap_i64]; omega
      have v6 : IntKind.i64.wrap (65536 * (x.toNat : Int) + 256 * (y.toNat : Int)) = 65536 * (x.toNat : Int) + 256 * (y.toNat : Int) := by rw [IntKind.wrap_i64]; omega
      have v7 : IntKind.i64.wrap (65536 * (x.toNat : Int) + 256 * (y.toNat : Int) + (z.toNat : Int)) = 65536 * (x.toNat : Int) + 256 * (y.toNat : Int) + (z.toNat : Int) := by rw [IntKind.wrap_i64]; omega
      have u1 : (3 * (k : Int)).toNat = 3 * k := by omega
      have u2 : (3 * (k : Int) + 1).toNat = 3 * k + 1 := by omega
      have u3 : (3 * (k : Int) + 2).toNat = 3 * k + 2 := by omega
      have i0 : 3 * (k : Int) < (l.length : Int) := by omega
      have i1 : 3 * (k : Int) + 1 < (l.length : Int) := by omega
      have i2 : 3 * (k : Int) + 2 < (l.length : Int) := by omega
      have j0 : 0 ≤ 3 * (k : Int) := by omega
      have j1 : 0 ≤ 3 * (k : Int) + 1 := by omega
      have j2 : 0 ≤ 3 * (k : Int) + 2 := by omega
      clear hx hy hz hv hsn
      go_wp2_with fail
      have hvv : 65536 * (x.toNat : Int) + 256 * (y.toNat : Int) + (z.toNat : Int) = ((65536 * x.toNat + 256 * y.toNat + z.toNat : Nat) : Int) := by omega
      have HVV := Lib.hid hvv
      clear hvv
      have HO2 := Lib.hid (ho1.out.below ((Below.refl _ wr).alloc (Nat.le_refl _) (.cells #[.int .i64 (65536 * (x.toNat : Int) + 256 * (y.toNat : Int) + (z.toNat : Int))] 3)).drew)
      have HB2 := Lib.hid ((hb1.out.alloc hb1.out.size (.cells #[.int .i64 (65536 * (x.toNat : Int) + 256 * (y.toNat : Int) + (z.toNat : Int))] 3)).drew)
      have HX2 := Lib.hid ((Rd.row_of (g := g64) (E := 3) wr [(65536 * (x.toNat : Int) + 256 * (y.toNat : Int) + (z.toNat : Int))] (cs := #[.int .i64 (65536 * (x.toNat : Int) + 256 * (y.toNat : Int) + (z.toNat : Int))]) rfl).below (Below.refl _ _).drew)
      go_region_held3 (fun w' => w'.cell? (a.add (3 * k)) = some (g8 x) ∧ w'.cell? ⟨a.block, a.off + (3 * k + 1), none⟩ = some (g8 y) ∧ w'.cell? ⟨a.block, a.off + (3 * k + 2), none⟩ = some (g8 z)) (first | go_keep | exact ⟨(HB3.out.cell (World.block_lt_of_cell? w _ C0.out)).trans C0.out, (HB3.out.cell (World.block_lt_of_cell? w _ C1.out)).trans C1.out, (HB3.out.cell (World.block_lt_of_cell? w _ C2.out)).trans C2.out⟩)
        ((refine step_app64 (by rfl) _ _ (by rfl) (ints3 l k) [(65536 * (x.toNat : Int) + 256 * (y.toNat : Int) + (z.toNat : Int))] HO2.out (by rw [HIL.out]; rfl) _ 1 HX2.out (by rfl) (by intro h; cases h) (by rw [HIL.out]; simp; omega) HB2.out.size ?_; intro A3 c3 w3 ho3 hg3; have HO3 := Lib.hid ho3; have HB3 := Lib.hid (HB2.out.grown hg3 HB2.out.size (fun k hk => (HO2.out.block k hk).1))))
      clear w1 w2 v1 v2 v3 v4 v5 v6 v7 u1 u2 u3 i0 i1 i2 j0 j1 j2
      go_wp2_with fail
      go_roundw
      case rel => exact ⟨k + 1, A3, c3, by omega, by go_num, by rw [HIL.out], by rw [HSN.out, ← HVV.out]; exact HO3, HB3⟩
      case measure => simp [intOf]; omega
    · have he : k = many := by omega
      subst he
      have HT := Lib.hid ((H.out.below hb1.out).tail (3 * k) hc)
      have HTL : Hid ((l.drop (3 * k)).length = l.length - 3 * k) := by unfold Hid; simp
      have HO1 := Lib.hid (ho1.out.below ((Below.refl _ _).alloc (Nat.le_refl _) (.cells #[] 5)))
      go_wp2_with (at_builtin; refine copy8 rfl _ _ rfl _ rfl (l.drop (3 * k)) (tailA A c (3 * k)) (c - 3 * k) HT.out rfl (by rw [HTL.out]; rfl) (tailA_nil HN.out) (by rw [HTL.out]; have := HL2.out; omega) ?_)
      intro A2 c2 w2 ho2 hb2
      have HO2 := Lib.hid (ho2.low (B' := w.heap.size) hb1.out.size)
      have HO12 := Lib.hid (ho1.out.below hb2)
      have HB2 := Lib.hid (hb1.out.trans (hb2.mono hb1.out.size))
      clear ho2 hb2
      go_wp2_with fail
      go_ret3
      exact ⟨A1, c1, A2, c2, by first | rfl | (rw [HTL.out]; rfl), HO12.out, HO2.out, HB2.out⟩

end Go.Proofs.Ytbhjdapkhcgmlaa
