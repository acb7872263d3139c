import Derived.Test.YtbhjdapkhcgmlaaProg
import Derived.Test.YtbhjdapkhcgmlaaAid
import Derived.Below
import Derived.OwnWalk
import Derived.Laws.AppendOwn
import Derived.Laws.AppendOwnNone
import Derived.Laws.OwnMore
import Derived.Laws.BytesArg
import Derived.Deep.AppendLies

set_option linter.unusedSimpArgs false
set_option linter.unusedVariables false
set_option linter.unnecessarySimpa false

namespace Go.Proofs.Ytbhjdapkhcgmlaa
open Go.RowKit

/-! Slices whose elements are one cell each, read as lists: 'Rd g w A l': the slice at A reads as l (g: an element's cell). -/

section
variable {α : Type} {g : α → Value} {w w' : World} {A : Option Addr} {l : List α}

def Rd (g : α → Value) (w : World) (A : Option Addr) (l : List α) : Prop := ∀ (i : Nat) (x : α), l[i]? = some x → ∃ a, A = some a ∧ w.cell? (a.add i) = some (g x)

theorem Rd.below (h : Rd g w A l) (hb : Below w.heap.size w w') : Rd g w' A l := fun i x hx => by
  obtain ⟨a, e, hc⟩ := h i x hx
  refine ⟨a, e, (hb.cell ?_).trans hc⟩
  exact World.block_lt_of_cell? w _ hc

theorem Rd.drewN (h : Rd g w A l) (n : Nat) : Rd g (w.drewN n) A l := h.below (below_drewN (Below.refl _ _) n)

theorem Rd.nil : Rd g w A [] := fun i x hx => by simp at hx

theorem Rd.take (h : Rd g w A l) (n : Nat) : Rd g w A (l.take n) := fun i x hx => by
  rw [List.getElem?_take] at hx
  split at hx
  · exact h i x hx
  · cases hx

theorem add_add (a : Addr) (m n : Nat) : (a.add m).add n = a.add (m + n) := by
  unfold Addr.add
  by_cases hm : m = 0
  · subst hm; simp
  · by_cases hn : n = 0
    · subst hn; simp [hm]
    · rw [if_neg hn, if_neg hm, if_neg (by omega)]
      simp [Nat.add_assoc]

theorem Rd.drop {a : Addr} (h : Rd g w (some a) l) (k : Nat) : Rd g w (some (a.add k)) (l.drop k) := fun i x hx => by
  rw [List.getElem?_drop] at hx
  obtain ⟨b, e, hc⟩ := h (k + i) x hx
  cases e
  exact ⟨_, rfl, by rw [add_add]; exact hc⟩

theorem Rd.empty (h : Rd g w none l) : l = [] := by
  cases l with
  | nil => rfl
  | cons x l => obtain ⟨a, e, _⟩ := h 0 x rfl; cases e

theorem Rd.cells {a : Addr} (h : Rd g w (some a) l) : ∀ j u, (l.map g)[j]? = some u → w.cell? (a.add j) = some u := fun j u hu => by
  rw [List.getElem?_map] at hu
  cases hx : l[j]? with
  | none => rw [hx] at hu; cases hu
  | some x =>
    rw [hx] at hu
    cases hu
    obtain ⟨b, e, hc⟩ := h j x hx
    cases e
    exact hc

/-- The slice at A, with room for c, is the call's own, and reads as l. -/
def Ow (E : TypeId) (g : α → Value) (w : World) (B : Nat) (A : Option Addr) (l : List α) (c : Nat) : Prop := w.ownsRow B E 1 (.slice A l.length c) l.length (l.map g)

variable {E : TypeId} {B : Nat} {c : Nat}

theorem Ow.nil : Ow E g w B none ([] : List α) 0 := World.ownsRow_nil w B E 1

theorem Ow.new (hb : B ≤ w.heap.size) : Ow E g (w.alloc (.cells #[] E)) B (some ⟨w.heap.size, 0, none⟩) ([] : List α) 0 :=
  World.ownsRow_made w #[] 0 hb (by simp [maxLen]) rfl

theorem Ow.rd (h : Ow E g w B A l c) : Rd g w A l := fun i x hx => by
  rcases h.2 with ⟨e, hn⟩ | ⟨b, cap, cur, e, _⟩
  · have : l = [] := List.eq_nil_of_length_eq_zero hn
    subst this; simp at hx
  · injection e with e1 _ _
    subst e1
    exact ⟨_, rfl, World.ownsRow.cells h rfl i _ (by rw [List.getElem?_map, hx]; rfl)⟩

theorem Ow.le (h : Ow E g w B A l c) : l.length ≤ c := by
  rcases h.2 with ⟨e, hn⟩ | ⟨b, cap, cur, e, _, _, hc, _⟩
  · omega
  · injection e with _ _ e3
    omega

theorem Ow.block (h : Ow E g w B A l c) : ∀ k, (Value.slice A l.length c).ownBlock = some k → B ≤ k ∧ k < w.heap.size := World.ownsRow.lt h

theorem Ow.below (h : Ow E g w B A l c) (hb : Below w.heap.size w w') : Ow E g w' B A l c := by
  refine ⟨h.1, ?_⟩
  rcases h.2 with hn | ⟨b, cap, cur, hv, hbg, hgg, rest⟩
  · exact .inl hn
  · exact .inr ⟨b, cap, cur, hv, hbg, by rw [hb.block b (Array.getElem?_eq_some_iff.1 hgg).1]; exact hgg, rest⟩

theorem Ow.drewN (h : Ow E g w B A l c) (n : Nat) : Ow E g (w.drewN n) B A l c := h.below (below_drewN (Below.refl _ _) n)

theorem Ow.low (h : Ow E g w B A l c) {B' : Nat} (hB : B' ≤ B) : Ow E g w B' A l c := by
  refine ⟨h.1, ?_⟩
  rcases h.2 with hn | ⟨b, cap, cur, hv, hbg, rest⟩
  · exact .inl hn
  · exact .inr ⟨b, cap, cur, hv, by omega, rest⟩

theorem Ow.nil_cap (h : Ow E g w B A l c) : A = none → c = 0 := fun e => by
  subst e
  rcases h.2 with ⟨e, _⟩ | ⟨b, cap, cur, e, _⟩
  · injection e
  · injection e with e1; cases e1

theorem ownsRow_slice {v : Value} {n : Nat} {xs : List Value} (h : w.ownsRow B E 1 v n xs) : ∃ A c, v = .slice A n c := by
  rcases h.2 with ⟨e, hn⟩ | ⟨b, cap, cur, e, _⟩
  · exact ⟨none, 0, by rw [e, hn]⟩
  · exact ⟨_, _, e⟩

/-- 'append(x, y...)', x the call's own, y whatever. -/
theorem app_rd {P : Program} {ops : Array Oper} {rest : List Oper} {o : Oper} {a : Act} {Q : Exit → Act → World → Prop} (hgd : o.guard = none) (s x : Operand) (T : TypeId)
    (ho : o.op = .call { callee := .builtin .append, args := #[s, x], argTypes := #[T, T] })
    (i : TypeInfo) (z : Value) (bytes : Nat) (hT : P.underlying T = some (.slice E)) (hi : P.info? E = some i) (hz : i.zero = some z) (hsize : i.size = 1) (hby : i.bytes = bytes) (hzs : z.cells.size = 1)
    (l1 l2 : List α) (hown : Ow E g w B A l1 c) (hs : a.eval s = .slice A l1.length c) (X : Option Addr) (cx : Nat) (hX : Rd g w X l2) (hx : a.eval x = .slice X l2.length cx) (hn : X = none → cx = 0) (h1 : ∀ y : α, (g y).oneCell' = true)
    (hlen : (l1.length + l2.length) * bytes ≤ 140737488355328) (hb1 : 1 ≤ bytes) (hbase : B ≤ w.heap.size)
    (h : ∀ A' c' w1, Ow E g w1 B A' (l1 ++ l2) c' → w.grownBy w1 (Value.slice A l1.length c).ownBlock → wpList P ops Q rest (a.put o.dst (.slice A' (l1.length + l2.length) c')) w1) : wpList P ops Q (o :: rest) a w := by
  cases X with
  | none =>
    have hl2 := hX.empty
    subst hl2
    rw [hn rfl] at hx
    refine wpList_append_own_none hgd s x T ho B E i 1 hT hi _ _ _ hs hown hx ?_
    have := h A c w (by simpa using hown) ⟨rfl, rfl, rfl, Nat.le_refl _, fun _ _ _ => rfl⟩
    simpa using this
  | some ad =>
    refine wpList_append_own w hgd s x T ho B E i z 1 bytes hT hi hz hsize hby hzs (by decide) _ _ _ hs hown ad l2.length cx (l2.map g) hx (by simp) hX.cells (by simpa using fun y _ => h1 y) ?_ hlen hbase ?_
    · have : (l1.length + l2.length) * 1 ≤ (l1.length + l2.length) * bytes := Nat.mul_le_mul_left _ hb1
      simp only [maxLen]; omega
    · intro v' w1 ho' hg' _
      obtain ⟨A', c', rfl⟩ := ownsRow_slice ho'
      have e : l1.length + l2.length = (l1 ++ l2).length := by simp
      rw [e] at ho' ⊢
      rw [← List.map_append] at ho'
      have := h A' c' w1 ho' hg'
      rwa [e] at this

theorem grown_below {k : Option Nat} (hB : Below B w w') {w2 : World} (hg : w'.grownBy w2 k) (hb : B ≤ w'.heap.size) (hk : ∀ n, k = some n → B ≤ n) : Below B w w2 := hB.grown hg hb hk
end

/-- A byte's cell. -/
abbrev g8 : UInt8 → Value := fun b => .int .u8 (b.toNat : Int)
/-- A number's cell. -/
abbrev g64 : Int → Value := fun n => .int .i64 n

theorem one8 (y : UInt8) : (g8 y).oneCell' = true := rfl
theorem one64 (y : Int) : (g64 y).oneCell' = true := rfl

/-- 'string(b)'. -/
theorem run_str {P : Program} {w : World} {src dst e : TypeId} (hs : P.underlying src = some (.slice e)) (he : P.underlying e = some (.int .u8)) (hd : P.underlying dst = some .string) {A : Option Addr} {l : List UInt8} {c : Nat} (h : Rd g8 w A l) :
    (convert src dst (.slice A l.length c)).run P w = .ok (.string ⟨l.toArray⟩) w := by
  rw [run_convert_bytes_string w src dst e _ _ _ hs he hd]
  cases A with
  | none =>
    have := h.empty
    subst this
    simp [Conv.bytesToString]
    rfl
  | some a =>
    have hl : (loadCells a l.length).run P w = .ok ((l.map fun b => (b.toNat : Int)).map (Value.int .u8)).toArray w := by
      have := run_loadCells_list (P := P) w a (l.map g8) (h.cells)
      simp only [List.length_map] at this
      rw [this, List.map_map]
      rfl
    rw [run_bytesToString w a _ c _ hl, foldl_push_bytes]
    simp [List.map_map, Function.comp_def, ByteArray.empty, ByteArray.emptyWithCapacity]
    rfl

theorem str_toList (l : List UInt8) : (⟨l.toArray⟩ : ByteArray).toList = l := by
  exact ByteArray.toList_mk l

/-- 'string(b)', at this program. -/
theorem str8 {w : World} {A : Option Addr} {l : List UInt8} {n c : Nat} (h : Rd g8 w A l) (hn : l.length = n) : (convert 22 9 (.slice A n c)).run Try.prog w = .ok (.string ⟨l.toArray⟩) w := by
  subst hn; exact run_str Try.underlying22 Try.underlying5 Try.underlying9 h

theorem info8 : (Try.prog.info? 5).map (fun i => (i.zero, i.size, i.bytes)) = some (some (.int .u8 0), 1, 1) := by kernel_rfl

/-- 'append(x, y...)', x the call's own, y whatever: its run. -/
theorem run_app_rd {α : Type} {g : α → Value} {P : Program} {w : World} {E T ty : TypeId} {B : Nat} {A : Option Addr} {c : Nat}
    (i : TypeInfo) (z : Value) (bytes : Nat) (hT : P.underlying T = some (.slice E)) (hi : P.info? E = some i) (hz : i.zero = some z) (hsize : i.size = 1) (hby : i.bytes = bytes) (hzs : z.cells.size = 1)
    (l1 l2 : List α) (hown : Ow E g w B A l1 c) (X : Option Addr) (cx : Nat) (hX : Rd g w X l2) (hn : X = none → cx = 0) (h1 : ∀ y : α, (g y).oneCell' = true)
    (hlen : (l1.length + l2.length) * bytes ≤ 140737488355328) (hb1 : 1 ≤ bytes) (hbase : B ≤ w.heap.size) :
    ∃ A' c' w1, (Builtin.append_ #[T, T] ty #[.slice A l1.length c, .slice X l2.length cx]).run P w = .ok (.slice A' (l1.length + l2.length) c') w1 ∧ Ow E g w1 B A' (l1 ++ l2) c' ∧ w.grownBy w1 (Value.slice A l1.length c).ownBlock := by
  cases X with
  | none =>
    have hl2 := hX.empty
    subst hl2
    rw [hn rfl]
    exact ⟨A, c, w, run_append_owned_none w B T ty E i 1 hT hi _ _ _ hown, by simpa using hown, ⟨rfl, rfl, rfl, Nat.le_refl _, fun _ _ _ => rfl⟩⟩
  | some ad =>
    have h2 : (l1.length + l2.length) * 1 ≤ (l1.length + l2.length) * bytes := Nat.mul_le_mul_left _ hb1
    obtain ⟨v', w1, hr, ho', hg', _⟩ := run_append_own (P := P) w B T ty E i z 1 bytes hT hi hz hsize hby hzs (by decide) _ _ _ hown ad l2.length cx (l2.map g) (by simp) hX.cells (by simpa using fun y _ => h1 y) (by simp only [maxLen]; omega) hlen hbase
    obtain ⟨A', c', rfl⟩ := ownsRow_slice ho'
    refine ⟨A', c', w1, hr, ?_, hg'⟩
    have e : l1.length + l2.length = (l1 ++ l2).length := by simp
    rw [e, ← List.map_append] at ho'
    exact ho'

/-- 'append(x, y...)' of bytes, as a step of a region that draws its order. -/
theorem step_app8 {w : World} {B : Nat} {A : Option Addr} {c : Nat} {ops : Array Oper} {o : Oper} {a : Act} {K : Act → World → Prop} {Q : Exit → Act → World → Prop} {F : Prop}
    (hw : Region.wanted o (yielded ops a.tmps) = true) (s x : Operand)
    (ho : o.op = .call { callee := .builtin .append, args := #[s, x], argTypes := #[22, 22] })
    (l1 l2 : List UInt8) (hown : Ow 5 g8 w B A l1 c) (hs : a.eval s = .slice A l1.length c) (X : Option Addr) (cx : Nat) (hX : Rd g8 w X l2) (hx : a.eval x = .slice X l2.length cx) (hn : X = none → cx = 0)
    (hlen : l1.length + l2.length ≤ 140737488355328) (hbase : B ≤ w.heap.size)
    (h : ∀ A' c' w1, Ow 5 g8 w1 B A' (l1 ++ l2) c' → w.grownBy w1 (Value.slice A l1.length c).ownBlock → K (a.put o.dst (.slice A' (l1.length + l2.length) c')) w1) :
    if Region.wanted o (yielded ops a.tmps) = true then Oper.wp Try.prog o a w K Q else F := by
  rw [if_pos hw]
  obtain ⟨i0, hi, hz0, hz1, hz2⟩ := info_parts info8
  obtain ⟨A', c', w1, hr, h1, h2⟩ := run_app_rd (ty := o.type) i0 (.int .u8 0) 1 Try.underlying22 hi hz0 hz1 hz2 rfl l1 l2 hown X cx hX hn one8 (by omega) (by decide) hbase
  unfold Oper.wp
  simp [execOp, ho, resolve, invoke, builtin, hs, hx, hr, Result.andThen]
  exact h A' c' w1 h1 h2

/-- 'append([]byte{}, y...)', likewise, behind draws. -/
theorem step_copy8d {w0 : World} {n : Nat} {ops : Array Oper} {o : Oper} {a : Act} {K : Act → World → Prop} {Q : Exit → Act → World → Prop} {F : Prop}
    (hw : Region.wanted o (yielded ops a.tmps) = true) (s x : Operand)
    (ho : o.op = .call { callee := .builtin .append, args := #[s, x], argTypes := #[22, 22] })
    (b : Nat) (hb0 : w0.heap.size = b) (l : List UInt8) (X : Option Addr) (cx : Nat) (hX : Rd g8 w0 X l) (hs : a.eval s = .slice (some ⟨b, 0, none⟩) 0 0) (hx : a.eval x = .slice X l.length cx) (hn : X = none → cx = 0)
    (hlen : l.length ≤ 140737488355328)
    (h : ∀ A' c' w1, Ow 5 g8 w1 w0.heap.size A' l c' → Below w0.heap.size w0 w1 → K (a.put o.dst (.slice A' l.length c')) w1) :
    if Region.wanted o (yielded ops a.tmps) = true then Oper.wp Try.prog o a ((w0.alloc (.cells #[] 5)).drewN n) K Q else F := by
  subst hb0
  have hown : Ow 5 g8 ((w0.alloc (.cells #[] 5)).drewN n) w0.heap.size (some ⟨w0.heap.size, 0, none⟩) ([] : List UInt8) 0 := (Ow.new (Nat.le_refl _)).drewN n
  have hb : Below w0.heap.size w0 ((w0.alloc (.cells #[] 5)).drewN n) := below_drewN ((Below.refl _ _).alloc (Nat.le_refl _) _) n
  refine step_app8 hw s x ho [] l hown hs X cx (hX.below hb) hx hn (by simpa using hlen) hb.size ?_
  intro A' c' w1 h1 h2
  have h3 := h A' c' w1 (by simpa using h1) (hb.grown h2 hb.size (fun k hk => (hown.block k hk).1))
  simpa using h3

/-- 'append([]byte{}, y...)', likewise. -/
theorem step_copy8 {w0 : World} {ops : Array Oper} {o : Oper} {a : Act} {K : Act → World → Prop} {Q : Exit → Act → World → Prop} {F : Prop}
    (hw : Region.wanted o (yielded ops a.tmps) = true) (s x : Operand)
    (ho : o.op = .call { callee := .builtin .append, args := #[s, x], argTypes := #[22, 22] })
    (b : Nat) (hb0 : w0.heap.size = b) (l : List UInt8) (X : Option Addr) (cx : Nat) (hX : Rd g8 w0 X l) (hs : a.eval s = .slice (some ⟨b, 0, none⟩) 0 0) (hx : a.eval x = .slice X l.length cx) (hn : X = none → cx = 0)
    (hlen : l.length ≤ 140737488355328)
    (h : ∀ A' c' w1, Ow 5 g8 w1 w0.heap.size A' l c' → Below w0.heap.size w0 w1 → K (a.put o.dst (.slice A' l.length c')) w1) :
    if Region.wanted o (yielded ops a.tmps) = true then Oper.wp Try.prog o a (w0.alloc (.cells #[] 5)) K Q else F := by
  subst hb0
  have hown : Ow 5 g8 (w0.alloc (.cells #[] 5)) w0.heap.size (some ⟨w0.heap.size, 0, none⟩) ([] : List UInt8) 0 := Ow.new (Nat.le_refl _)
  have hb : Below w0.heap.size w0 (w0.alloc (.cells #[] 5)) := (Below.refl _ _).alloc (Nat.le_refl _) _
  refine step_app8 hw s x ho [] l hown hs X cx (hX.below hb) hx hn (by simpa using hlen) hb.size ?_
  intro A' c' w1 h1 h2
  have h3 := h A' c' w1 (by simpa using h1) (hb.grown h2 hb.size (fun k hk => (hown.block k hk).1))
  simpa using h3

/-- 'append(x, y...)' of bytes. -/
theorem app8 {w : World} {B : Nat} {A : Option Addr} {c : Nat} {ops : Array Oper} {rest : List Oper} {o : Oper} {a : Act} {Q : Exit → Act → World → Prop} (hgd : o.guard = none) (s x : Operand)
    (ho : o.op = .call { callee := .builtin .append, args := #[s, x], argTypes := #[22, 22] })
    (l1 l2 : List UInt8) (hown : Ow 5 g8 w B A l1 c) (hs : a.eval s = .slice A l1.length c) (X : Option Addr) (cx : Nat) (hX : Rd g8 w X l2) (hx : a.eval x = .slice X l2.length cx) (hn : X = none → cx = 0)
    (hlen : l1.length + l2.length ≤ 140737488355328) (hbase : B ≤ w.heap.size)
    (h : ∀ A' c' w1, Ow 5 g8 w1 B A' (l1 ++ l2) c' → w.grownBy w1 (Value.slice A l1.length c).ownBlock → wpList Try.prog ops Q rest (a.put o.dst (.slice A' (l1.length + l2.length) c')) w1) : wpList Try.prog ops Q (o :: rest) a w := by
  obtain ⟨i0, hi, hz0, hz1, hz2⟩ := info_parts info8
  exact app_rd hgd s x 22 ho i0 (.int .u8 0) 1 Try.underlying22 hi hz0 hz1 hz2 rfl l1 l2 hown hs X cx hX hx hn one8 (by omega) (by decide) hbase h

theorem Ow.at_some {α : Type} {g : α → Value} {E : TypeId} {w : World} {B : Nat} {A : Option Addr} {l : List α} {c : Nat} (h : Ow E g w B A l c) (hl : 0 < l.length) : ∃ b, A = some ⟨b, 0, none⟩ ∧ B ≤ b := by
  rcases h.2 with ⟨_, hn⟩ | ⟨b, cap, cur, e, hb, _⟩
  · omega
  · injection e with e1 _ _
    exact ⟨b, e1, hb⟩

theorem Ow.cell {α : Type} {g : α → Value} {E : TypeId} {w : World} {B : Nat} {b : Nat} {l : List α} {c : Nat} (h : Ow E g w B (some ⟨b, 0, none⟩) l c) {j : Nat} {x : α} (hx : l[j]? = some x) : w.cell? ⟨b, j, none⟩ = some (g x) := by
  have hj : j < l.length := (List.getElem?_eq_some_iff.1 hx).1
  rw [World.ownsRow.cellAt h j (by omega), List.getElem?_map, hx]; rfl

theorem Ow.thawed {α : Type} {g : α → Value} {E : TypeId} {w : World} {B : Nat} {b : Nat} {l : List α} {c : Nat} (h : Ow E g w B (some ⟨b, 0, none⟩) l c) (j : Nat) : w.frozen? ⟨b, j, none⟩ = false := World.ownsRow.frozenAt h j

theorem Ow.set {α : Type} {g : α → Value} {E : TypeId} {w : World} {B : Nat} {b : Nat} {l : List α} {c : Nat} (h : Ow E g w B (some ⟨b, 0, none⟩) l c) (j : Nat) (x : α) : Ow E g (w.setCell ⟨b, j, none⟩ (g x)) B (some ⟨b, 0, none⟩) (l.set j x) c := by
  have := (World.ownsRow.stored h j (g x)).1
  unfold Ow
  rw [List.length_set, List.map_set]
  exact this

/-- 'append([]byte{}, y...)': a copy of y. -/
theorem copy8 {w0 : World} {ops : Array Oper} {rest : List Oper} {o : Oper} {a : Act} {Q : Exit → Act → World → Prop} (hgd : o.guard = none) (s x : Operand)
    (ho : o.op = .call { callee := .builtin .append, args := #[s, x], argTypes := #[22, 22] })
    (b : Nat) (hb0 : w0.heap.size = b) (l : List UInt8) (X : Option Addr) (cx : Nat) (hX : Rd g8 w0 X l) (hs : a.eval s = .slice (some ⟨b, 0, none⟩) 0 0) (hx : a.eval x = .slice X l.length cx) (hn : X = none → cx = 0)
    (hlen : l.length ≤ 140737488355328)
    (h : ∀ A' c' w1, Ow 5 g8 w1 w0.heap.size A' l c' → Below w0.heap.size w0 w1 → wpList Try.prog ops Q rest (a.put o.dst (.slice A' l.length c')) w1) : wpList Try.prog ops Q (o :: rest) a (w0.alloc (.cells #[] 5)) := by
  subst hb0
  have hown : Ow 5 g8 (w0.alloc (.cells #[] 5)) w0.heap.size (some ⟨w0.heap.size, 0, none⟩) ([] : List UInt8) 0 := Ow.new (Nat.le_refl _)
  refine app8 hgd s x ho [] l hown hs X cx (hX.below ((Below.refl _ _).alloc (Nat.le_refl _) _)) hx hn (by simpa using hlen) (by simp) ?_
  intro A' c' w1 h1 h2
  have h3 := h A' c' w1 (by simpa using h1) (((Below.refl _ _).alloc (Nat.le_refl _) _).grown h2 (by simp) (fun k hk => (hown.block k hk).1))
  simpa using h3

/-- A new block, element by element. -/
theorem Rd.row {α : Type} {g : α → Value} {E : TypeId} (w : World) (l : List α) : Rd g (w.alloc (.cells (l.map g).toArray E)) (some ⟨w.heap.size, 0, none⟩) l := fun i x hx => by
  refine ⟨_, rfl, ?_⟩
  have ha : (⟨w.heap.size, 0, none⟩ : Addr).add i = ⟨w.heap.size, i, none⟩ := by unfold Addr.add; split <;> simp_all
  rw [ha, cell_of_row _ w.heap.size i (l.map g).toArray E (0, 0) (heap_alloc_new w _)]
  simp [hx]

theorem Rd.row_mark {α : Type} {g : α → Value} {E : TypeId} (w : World) (l : List α) {cs : Array Value} (m : Nat × Nat) (h : cs = (l.map g).toArray) : Rd g (w.alloc (.cells cs E m)) (some ⟨w.heap.size, 0, none⟩) l := fun i x hx => by
  subst h
  refine ⟨_, rfl, ?_⟩
  have ha : (⟨w.heap.size, 0, none⟩ : Addr).add i = ⟨w.heap.size, i, none⟩ := by unfold Addr.add; split <;> simp_all
  rw [ha, cell_of_row _ w.heap.size i (l.map g).toArray E m (heap_alloc_new w _)]
  simp [hx]

theorem Rd.row_of {α : Type} {g : α → Value} {E : TypeId} (w : World) (l : List α) {cs : Array Value} (h : cs = (l.map g).toArray) : Rd g (w.alloc (.cells cs E)) (some ⟨w.heap.size, 0, none⟩) l := by
  subst h; exact Rd.row w l

theorem byte_cell (n : Nat) : Value.int .u8 ((n : Int) % 256) = g8 (UInt8.ofNat n) := by
  show Value.int .u8 ((n : Int) % 256) = Value.int .u8 (((UInt8.ofNat n).toNat : Nat) : Int)
  rw [UInt8.toNat_ofNat']
  congr 1

end Go.Proofs.Ytbhjdapkhcgmlaa
