import Derived.Test.YtbhjdapkhcgmlaaPut

set_option linter.unusedSimpArgs false
set_option linter.unusedVariables false
set_option linter.unnecessarySimpa false

namespace Go.Proofs.Ytbhjdapkhcgmlaa
open Go.RowKit

/-! 's[n:]', 's[lo:hi]'; 'append' of ints. -/

/-- Where 's[n:]' lies. -/
def tailA (A : Option Addr) (c n : Nat) : Option Addr := if c = n then A else A.map (·.add n)

theorem Rd.tail {α : Type} {g : α → Value} {w : World} {A : Option Addr} {l : List α} {c : Nat} (h : Rd g w A l) (n : Nat) (hle : l.length ≤ c) : Rd g w (tailA A c n) (l.drop n) := by
  unfold tailA
  split
  · rw [List.drop_eq_nil_of_le (by omega)]; exact Rd.nil
  · cases A with
    | none => rw [h.empty]; simpa using Rd.nil
    | some a => exact h.drop n

theorem tailA_nil {A : Option Addr} {c n : Nat} (h : A = none → c = 0) : tailA A c n = none → c - n = 0 := by
  unfold tailA
  split
  · omega
  · cases A with
    | none => intro _; have := h rfl; omega
    | some a => intro e; cases e

theorem Rd.mid {α : Type} {g : α → Value} {w : World} {A : Option Addr} {l : List α} {c : Nat} (h : Rd g w A l) (lo hi : Nat) (hle : l.length ≤ c) : Rd g w (tailA A c lo) ((l.take hi).drop lo) :=
  (h.take hi).tail lo (by simp; omega)

theorem run_tail (w : World) (A : Option Addr) (len c n : Nat) (x : Int) (hx : x = n) (hn : n ≤ len) :
    (Instr.slice 22 (.slice A len c) (some (.int .i64 x)) none none).run Try.prog w = .ok (.slice (tailA A c n) (len - n) (c - n)) w := by
  subst hx
  obtain ⟨i0, hi, hz0, hz1, hz2⟩ := info_parts info8
  have h1 : Try.prog.underlying 22 = some (.slice (Try.prog.elem 22)) := by simp [Program.elem, Try.underlying22]
  have h2 : Try.prog.elem 22 = 5 := by simp [Program.elem, Try.underlying22]
  rw [run_slice_l w 22 _ _ _ h1 .i64 _ (by omega) (by omega), h2]
  simp [sizeOf, typeInfo, hi, hz1, sliced, tailA]

theorem run_mid (w : World) (A : Option Addr) (len c lo hi : Nat) (x y : Int) (hx : x = lo) (hy : y = hi) (h1 : lo ≤ hi) (h2 : hi ≤ c) :
    (Instr.slice 22 (.slice A len c) (some (.int .i64 x)) (some (.int .i64 y)) none).run Try.prog w = .ok (.slice (tailA A c lo) (hi - lo) (c - lo)) w := by
  subst hx hy
  obtain ⟨i0, hi0, hz0, hz1, hz2⟩ := info_parts info8
  have h1' : Try.prog.underlying 22 = some (.slice (Try.prog.elem 22)) := by simp [Program.elem, Try.underlying22]
  have h2' : Try.prog.elem 22 = 5 := by simp [Program.elem, Try.underlying22]
  rw [run_slice_lh w 22 _ _ _ h1' .i64 .i64 _ _ (by omega) (by omega) (by omega), h2']
  simp [sizeOf, typeInfo, hi0, hz1, sliced, tailA]

theorem info64 : (Try.prog.info? 3).map (fun i => (i.zero, i.size, i.bytes)) = some (some (.int .i64 0), 1, 8) := by kernel_rfl

/-- 'append(x, y...)' of ints. -/
theorem app64 {w : World} {B : Nat} {A : Option Addr} {c : Nat} {ops : Array Oper} {rest : List Oper} {o : Oper} {a : Act} {Q : Exit → Act → World → Prop} (hgd : o.guard = none) (s x : Operand)
    (ho : o.op = .call { callee := .builtin .append, args := #[s, x], argTypes := #[61, 61] })
    (l1 l2 : List Int) (hown : Ow 3 g64 w B A l1 c) (hs : a.eval s = .slice A l1.length c) (X : Option Addr) (cx : Nat) (hX : Rd g64 w X l2) (hx : a.eval x = .slice X l2.length cx) (hn : X = none → cx = 0)
    (hlen : l1.length + l2.length ≤ 17592186044416) (hbase : B ≤ w.heap.size)
    (h : ∀ A' c' w1, Ow 3 g64 w1 B A' (l1 ++ l2) c' → w.grownBy w1 (Value.slice A l1.length c).ownBlock → wpList Try.prog ops Q rest (a.put o.dst (.slice A' (l1.length + l2.length) c')) w1) : wpList Try.prog ops Q (o :: rest) a w := by
  obtain ⟨i0, hi, hz0, hz1, hz2⟩ := info_parts info64
  exact app_rd hgd s x 61 ho i0 (.int .i64 0) 8 Try.underlying61 hi hz0 hz1 hz2 rfl l1 l2 hown hs X cx hX hx hn one64 (by omega) (by decide) hbase h

theorem get_n (A : Option Addr) (l : List UInt8) (c n : Nat) (w : World) (h : Rd g8 w A l) (hn : l.length = n) (hl : n ≤ 8) :
    Calls Try.prog 65 #[.slice A n c] w fun e w' => e = .returned (.int .u64 (getN l : Nat)) ∧ w = w' := by
  subst hn; exact get_c A l c w h hl

/-- The numbers with which bytes begin. -/
def ints3 (l : List UInt8) (m : Nat) : List Int := (List.range m).map fun k => ((getN ((l.take (3 * k + 3)).drop (3 * k)) : Nat) : Int)

theorem ints3_snoc (l : List UInt8) (m : Nat) : ints3 l (m + 1) = ints3 l m ++ [((getN ((l.take (3 * m + 3)).drop (3 * m)) : Nat) : Int)] := by
  unfold ints3; rw [List.range_succ, List.map_append]; rfl

theorem ints3_length (l : List UInt8) (m : Nat) : (ints3 l m).length = m := by simp [ints3]

theorem mid3 (l : List UInt8) (k : Nat) (h : 3 * k + 3 ≤ l.length) : ((l.take (3 * k + 3)).drop (3 * k)).length = 3 := by simp; omega

theorem getN_lt24 (l : List UInt8) (h : l.length = 3) : getN l ≤ 16777215 := by
  have h1 := getN_lt l
  rw [h] at h1
  have h3 : (256 : Nat) ^ 3 = 16777216 := by decide
  omega

set_option maxHeartbeats 4000000 in
theorem packGet_no (A : Option Addr) (n c : Nat) (many : Int) (w : World) (h : many < 0 ∨ 1000 < many ∨ (n : Int) < 3 * many) :
    Calls Try.prog 47 #[.slice A n c, .int .i64 many] w fun e w' => e = .returned (.tuple #[.slice none 0 0, .slice none 0 0, .int .i64 21]) ∧ w = w' := by
  have h' : many < 0 ∨ (¬ many < 0 ∧ 1000 < many) ∨ (0 ≤ many ∧ ¬ 1000 < many ∧ (n : Int) < 3 * many) := by omega
  clear h
  rcases h' with h1 | ⟨h1, h2⟩ | ⟨h1, h2, h3⟩
  all_goals
    go_enter Try.func47, Try.ntmps47
    go_wp2_with fail
    go_ret3
    exact ⟨rfl, rfl⟩

set_option maxHeartbeats 4000000 in
theorem packGet_c (A : Option Addr) (l : List UInt8) (c : Nat) (many : Nat) (w : World) (h : Rd g8 w A l) (hn : A = none → c = 0) (hc : l.length ≤ c) (hc2 : c ≤ 9223372036854775807) (hm : many ≤ 1000) (hl : 3 * many ≤ l.length) (hl2 : l.length ≤ 140737488355328) :
    Calls Try.prog 47 #[.slice A l.length c, .int .i64 many] w fun e w' => ∃ A1 c1 A2 c2, e = .returned (.tuple #[.slice A1 many c1, .slice A2 (l.drop (3 * many)).length c2, .int .i64 0]) ∧ Ow 3 g64 w' w.heap.size A1 (ints3 l many) c1 ∧ Ow 5 g8 w' w.heap.size A2 (l.drop (3 * many)) c2 ∧ Below w.heap.size w w' := by
  have H := Lib.hid h
  have HN := Lib.hid hn
  have q1 : ¬ ((many : Int) < 0) := by omega
  have q2 : ¬ (1000 < (many : Int)) := by omega
  have q3 : ¬ ((l.length : Int) < 3 * (many : Int)) := by omega
  have HC2 := Lib.hid hc2
  have HL2 := Lib.hid hl2
  have htail := fun W => run_tail W A l.length c (3 * many) (3 * (many : Int)) (by omega) hl
  clear h hn hc2 hl2
  go_enter Try.func47, Try.ntmps47
  go_wp2_with fail
  go_loopw [7, 23] (fun b i wr => ∃ (k : Nat) (A' : Option Addr) (c' : Nat), k ≤ many ∧ i = .int .i64 k ∧ b = .slice A' k c' ∧ Hid (Ow 3 g64 wr w.heap.size A' (ints3 l k) c') ∧ Hid (Below w.heap.size w wr)) (fun _ i _ => many - (intOf i).toNat)
  case atStart => exact ⟨0, none, 0, Nat.zero_le _, rfl, rfl, Ow.nil, Below.refl _ _⟩
  case round =>
    obtain ⟨k, A1, c1, hk, rfl, rfl, ho1, hb1⟩ := hrel
    by_cases hlt : k < many
    · have hmid := fun W => run_mid W A l.length c (3 * k) (3 * k + 3) (3 * (k : Int)) (3 * (k : Int) + 3) (by omega) (by omega) (by omega) (by omega)
      have hs3 : 3 * k + 3 - 3 * k = 3 := by omega
      rw [hs3] at hmid
      have HM3 := Lib.hid (mid3 l k (by omega))
      have HRM := Lib.hid ((H.out.below hb1.out).mid (3 * k) (3 * k + 3) hc)
      have hg := getN_lt24 _ HM3.out
      have hsn := ints3_snoc l k
      have HSN := Lib.hid hsn
      have HIL := Lib.hid (ints3_length l k)
      clear hs3 hsn
      generalize (l.take (3 * k + 3)).drop (3 * k) = p at *
      go_wp2_with fail
      refine (get_n _ p _ 3 _ HRM.out HM3.out (by decide)).mono ?_; rintro e w' ⟨rfl, rfl⟩
      generalize getN p = v at *
      have hwi : IntKind.i64.wrap (v : Int) = (v : Int) := by rw [IntKind.wrap_i64]; omega
      have hv0 : (0 : Int) ≤ (v : Int) := by omega
      have hv1 : (v : Int) ≤ 16777215 := by omega
      have HO2 := Lib.hid (ho1.out.below ((Below.refl _ _).alloc (Nat.le_refl _) (.cells #[.int .i64 v] 3)))
      have HB2 := Lib.hid (hb1.out.alloc hb1.out.size (.cells #[.int .i64 v] 3))
      have HX2 := Lib.hid (Rd.row_of (g := g64) (E := 3) wr [(v : Int)] (cs := #[.int .i64 v]) rfl)
      go_wp2_with (at_builtin; refine app64 rfl _ _ rfl (ints3 l k) [(v : Int)] HO2.out (by rw [HIL.out]; rfl) _ 1 HX2.out rfl (by intro h; cases h) (by rw [HIL.out]; simp; omega) HB2.out.size ?_)
      intro A3 c3 w3 ho3 hg3
      have HO3 := Lib.hid ho3
      have HB3 := Lib.hid (HB2.out.grown hg3 HB2.out.size (fun k hk => (HO2.out.block k hk).1))
      clear ho3 hg3
      go_wp2_with fail
      go_roundw
      case rel => exact ⟨k + 1, A3, c3, by omega, by go_num, by rw [HIL.out], by rw [HSN.out]; exact HO3, HB3⟩
      case measure => simp [intOf]; omega
    · have he : k = many := by omega
      subst he
      have HT := Lib.hid ((H.out.below hb1.out).tail (3 * k) hc)
      have HTL : Hid ((l.drop (3 * k)).length = l.length - 3 * k) := by unfold Hid; simp
      go_wp2_with fail
      have hcl := clone_c (tailA A c (3 * k)) (l.drop (3 * k)) (c - 3 * k) wr HT.out (tailA_nil HN.out) (by rw [HTL.out]; have := HL2.out; omega)
      rw [HTL.out] at hcl
      refine hcl.mono ?_
      rintro e w2 ⟨A2, c2, rfl, ho2, hb2⟩
      have HO2 := Lib.hid (ho2.low (B' := w.heap.size) hb1.out.size)
      have HO1 := Lib.hid (ho1.out.below hb2)
      have HB2 := Lib.hid (hb1.out.trans (hb2.mono hb1.out.size))
      clear ho2 hb2 hcl
      go_wp2_with fail
      go_ret3
      exact ⟨A1, c1, A2, c2, by rw [HTL.out]; rfl, HO1.out, HO2.out, HB2.out⟩

end Go.Proofs.Ytbhjdapkhcgmlaa
