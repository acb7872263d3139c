import Derived.Test.YteoafaofiohefaaOpen20
namespace Go.Proofs.Yteoafaofiohefaa
open Go.RowKit

/-! Slices of slices of bytes: 'append'. -/

structure Sl where
  A : Option Addr
  c : Nat
  l : List UInt8

/-- Its cell. -/
def gS (x : Sl) : Value := .slice x.A x.l.length x.c
theorem oneS (x : Sl) : (gS x).oneCell' = true := rfl

/-- Its bytes, as they lie in a world. -/
def Sl.ok (w : World) (x : Sl) : Prop := (x.A = none → x.c = 0) ∧ x.l.length ≤ 140737488351232 ∧ Rd g8 w x.A x.l

theorem RdT.sls {w : World} {A : Option Addr} {L : List (List UInt8)} (h : RdT w A L) : ∃ T : List Sl, T.length = L.length ∧ T.map Sl.l = L ∧ Rd gS w A T ∧ ∀ x ∈ T, x.ok w := by
  obtain ⟨T, hT, hp⟩ := list_of L.length (fun i (x : Sl) => L[i]? = some x.l ∧ x.ok w ∧ ∃ a, A = some a ∧ w.cell? (a.add i) = some (gS x)) (fun i hi => by
    obtain ⟨p, hp⟩ := get_some L i hi
    obtain ⟨a, B, c, e, hc, hn, hl, hr⟩ := h i p hp
    exact ⟨⟨B, c, p⟩, hp, ⟨hn, hl, hr⟩, a, e, hc⟩)
  refine ⟨T, hT, ?_, fun i x hx => (hp i x hx).2.2, fun x hx => ?_⟩
  · apply List.ext_getElem?
    intro i
    rw [List.getElem?_map]
    by_cases hi : i < T.length
    · obtain ⟨x, hx⟩ := get_some T i hi
      rw [hx, (hp i x hx).1]; rfl
    · rw [List.getElem?_eq_none (by omega), List.getElem?_eq_none (by omega)]; rfl
  · obtain ⟨i, hi⟩ := List.getElem?_of_mem hx
    exact (hp i x hi).2.1

theorem infoS : (Try.prog.info? 29).map (fun i => (i.zero, i.size, i.bytes)) = some (some (.slice none 0 0), 1, 24) := by kernel_rfl

/-- 'append(x, y...)' of slices of bytes. -/
theorem appS {w : World} {B : Nat} {A : Option Addr} {c : Nat} {ops : Array Oper} {rest : List Oper} {o : Oper} {a : Act} {Q : Exit → Act → World → Prop} (hgd : o.guard = none) (s x : Operand)
    (ho : o.op = .call { callee := .builtin .append, args := #[s, x], argTypes := #[28, 28] })
    (l1 l2 : List Sl) (hown : Ow 29 gS w B A l1 c) (n1 n2 : Nat) (hn1 : l1.length = n1) (hn2 : l2.length = n2) (hs : a.eval s = .slice A n1 c) (X : Option Addr) (cx : Nat) (hX : Rd gS w X l2) (hx : a.eval x = .slice X n2 cx) (hn : X = none → cx = 0)
    (hlen : n1 + n2 ≤ 1000000) (hbase : B ≤ w.heap.size)
    (h : ∀ A' c' w1, Ow 29 gS w1 B A' (l1 ++ l2) c' → w.grownBy w1 (Value.slice A n1 c).ownBlock → wpList Try.prog ops Q rest (a.put o.dst (.slice A' (n1 + n2) c')) w1) : wpList Try.prog ops Q (o :: rest) a w := by
  subst hn1 hn2
  obtain ⟨i0, hi, hz0, hz1, hz2⟩ := info_parts infoS
  exact app_rd hgd s x 28 ho i0 (.slice none 0 0) 24 Try.underlying28 hi hz0 hz1 hz2 rfl l1 l2 hown hs X cx hX hx hn oneS (by omega) (by decide) hbase h

/-- 'append([][]byte{}, y...)'. -/
theorem copyS {w0 : World} {ops : Array Oper} {rest : List Oper} {o : Oper} {a : Act} {Q : Exit → Act → World → Prop} (hgd : o.guard = none) (s x : Operand)
    (ho : o.op = .call { callee := .builtin .append, args := #[s, x], argTypes := #[28, 28] })
    (b : Nat) (hb0 : w0.heap.size = b) (l : List Sl) (n : Nat) (hnl : l.length = n) (X : Option Addr) (cx : Nat) (hX : Rd gS w0 X l) (hs : a.eval s = .slice (some ⟨b, 0, none⟩) 0 0) (hx : a.eval x = .slice X n cx) (hn : X = none → cx = 0)
    (hlen : n ≤ 1000000)
    (h : ∀ A' c' w1, Ow 29 gS w1 w0.heap.size A' l c' → Below w0.heap.size w0 w1 → wpList Try.prog ops Q rest (a.put o.dst (.slice A' n c')) w1) : wpList Try.prog ops Q (o :: rest) a (w0.alloc (.cells #[] 29)) := by
  subst hb0
  have hown : Ow 29 gS (w0.alloc (.cells #[] 29)) w0.heap.size (some ⟨w0.heap.size, 0, none⟩) ([] : List Sl) 0 := Ow.new (Nat.le_refl _)
  refine appS hgd s x ho [] l hown 0 n rfl hnl hs X cx (hX.below ((Below.refl _ _).alloc (Nat.le_refl _) _)) hx hn (by omega) (by simp) ?_
  intro A' c' w1 h1 h2
  have h3 := h A' c' w1 (by simpa using h1) (((Below.refl _ _).alloc (Nat.le_refl _) _).grown h2 (by simp) (fun k hk => (hown.block k hk).1))
  simpa using h3

/-- 'append(x, y...)' of slices of bytes, as a step of a region that draws its order. -/
theorem step_appS {w : World} {B : Nat} {A : Option Addr} {c : Nat} {ops : Array Oper} {o : Oper} {a : Act} {K : Act → World → Prop} {Q : Exit → Act → World → Prop} {F : Prop}
    (hw : Region.wanted o (yielded ops a.tmps) = true) (s x : Operand)
    (ho : o.op = .call { callee := .builtin .append, args := #[s, x], argTypes := #[28, 28] })
    (l1 l2 : List Sl) (hown : Ow 29 gS w B A l1 c) (n1 n2 : Nat) (hn1 : l1.length = n1) (hn2 : l2.length = n2) (hs : a.eval s = .slice A n1 c) (X : Option Addr) (cx : Nat) (hX : Rd gS w X l2) (hx : a.eval x = .slice X n2 cx) (hn : X = none → cx = 0)
    (hlen : n1 + n2 ≤ 1000000) (hbase : B ≤ w.heap.size)
    (h : ∀ A' c' w1, Ow 29 gS w1 B A' (l1 ++ l2) c' → w.grownBy w1 (Value.slice A n1 c).ownBlock → K (a.put o.dst (.slice A' (n1 + n2) c')) w1) :
    if Region.wanted o (yielded ops a.tmps) = true then Oper.wp Try.prog o a w K Q else F := by
  subst hn1 hn2
  rw [if_pos hw]
  obtain ⟨i0, hi, hz0, hz1, hz2⟩ := info_parts infoS
  obtain ⟨A', c', w1, hr, h1, h2⟩ := run_app_rd (ty := o.type) i0 (.slice none 0 0) 24 Try.underlying28 hi hz0 hz1 hz2 rfl l1 l2 hown X cx hX hn oneS (by omega) (by decide) hbase
  unfold Oper.wp
  simp [execOp, ho, resolve, invoke, builtin, hs, hx, hr, Result.andThen]
  exact h A' c' w1 h1 h2

/-- 'append([][]byte{}, y...)', likewise. -/
theorem step_copyS {w0 : World} {ops : Array Oper} {o : Oper} {a : Act} {K : Act → World → Prop} {Q : Exit → Act → World → Prop} {F : Prop}
    (hw : Region.wanted o (yielded ops a.tmps) = true) (s x : Operand)
    (ho : o.op = .call { callee := .builtin .append, args := #[s, x], argTypes := #[28, 28] })
    (b : Nat) (hb0 : w0.heap.size = b) (l : List Sl) (n : Nat) (hnl : l.length = n) (X : Option Addr) (cx : Nat) (hX : Rd gS w0 X l) (hs : a.eval s = .slice (some ⟨b, 0, none⟩) 0 0) (hx : a.eval x = .slice X n cx) (hn : X = none → cx = 0)
    (hlen : n ≤ 1000000)
    (h : ∀ A' c' w1, Ow 29 gS w1 w0.heap.size A' l c' → Below w0.heap.size w0 w1 → K (a.put o.dst (.slice A' n c')) w1) :
    if Region.wanted o (yielded ops a.tmps) = true then Oper.wp Try.prog o a (w0.alloc (.cells #[] 29)) K Q else F := by
  subst hb0
  have hown : Ow 29 gS (w0.alloc (.cells #[] 29)) w0.heap.size (some ⟨w0.heap.size, 0, none⟩) ([] : List Sl) 0 := Ow.new (Nat.le_refl _)
  have hb : Below w0.heap.size w0 (w0.alloc (.cells #[] 29)) := (Below.refl _ _).alloc (Nat.le_refl _) _
  refine step_appS hw s x ho [] l hown 0 n rfl hnl hs X cx (hX.below hb) hx hn (by omega) hb.size ?_
  intro A' c' w1 h1 h2
  have h3 := h A' c' w1 (by simpa using h1) (hb.grown h2 hb.size (fun k hk => (hown.block k hk).1))
  simpa using h3

/-- Where 's[n:]' lies. -/
def tailA (A : Option Addr) (c n : Nat) : Option Addr := if c = n then A else A.map (·.add n)

theorem Rd.tail {α : Type} {g : α → Value} {w : World} {A : Option Addr} {l : List α} {c : Nat} (h : Rd g w A l) (n : Nat) (hle : l.length ≤ c) : Rd g w (tailA A c n) (l.drop n) := by
  unfold tailA
  split
  · rw [List.drop_eq_nil_of_le (by omega)]; exact Rd.nil
  · cases A with
    | none => rw [h.empty]; simpa using Rd.nil
    | some a => exact h.drop n

theorem tailA_nil {A : Option Addr} {c n : Nat} (h : A = none → c = 0) : tailA A c n = none → c - n = 0 := by
  unfold tailA
  split
  · omega
  · cases A with
    | none => intro _; have := h rfl; omega
    | some a => intro e; cases e

theorem run_tailS (w : World) (A : Option Addr) (len c n : Nat) (hn : n ≤ len) :
    (Instr.slice 28 (.slice A len c) (some (.int .i64 (n : Int))) none none).run Try.prog w = .ok (.slice (tailA A c n) (len - n) (c - n)) w := by
  obtain ⟨i0, hi, hz0, hz1, hz2⟩ := info_parts infoS
  have h1 : Try.prog.underlying 28 = some (.slice (Try.prog.elem 28)) := by simp [Program.elem, Try.underlying28]
  have h2 : Try.prog.elem 28 = 29 := by simp [Program.elem, Try.underlying28]
  rw [run_slice_l w 28 _ _ _ h1 .i64 _ (by omega) (by omega), h2]
  simp [sizeOf, typeInfo, hi, hz1, sliced, tailA]

end Go.Proofs.Yteoafaofiohefaa
