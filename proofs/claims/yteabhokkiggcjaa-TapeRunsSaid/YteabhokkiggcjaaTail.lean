import Derived.Test.YteabhokkiggcjaaTapeB
import Derived.Deep.OwnRows
namespace Go.Proofs.Yteabhokkiggcjaa
open Go.RowKit

/-! 's[n:]', 'copy' into a new slice. -/

/-- Where 's[n:]' lies. -/
def tailA (A : Option Addr) (c n : Nat) : Option Addr := if c = n then A else A.map (·.add n)

theorem Rd.tail {α : Type} {g : α → Value} {w : World} {A : Option Addr} {l : List α} {c : Nat} (h : Rd g w A l) (n : Nat) (hle : l.length ≤ c) : Rd g w (tailA A c n) (l.drop n) := by
  unfold tailA
  split
  · rw [List.drop_eq_nil_of_le (by omega)]; exact Rd.nil
  · cases A with
    | none => rw [h.empty]; simpa using Rd.nil
    | some a => exact h.drop n

theorem tailA_nil {A : Option Addr} {c n : Nat} (h : A = none → c = 0) : tailA A c n = none → c - n = 0 := by
  unfold tailA
  split
  · omega
  · cases A with
    | none => intro _; have := h rfl; omega
    | some a => intro e; cases e

theorem run_tail (w : World) (A : Option Addr) (len c n : Nat) (hn : n ≤ len) :
    (Instr.slice 27 (.slice A len c) (some (.int .i64 (n : Int))) none none).run Try.prog w = .ok (.slice (tailA A c n) (len - n) (c - n)) w := by
  obtain ⟨i0, hi, hz0, hz1, hz2⟩ := info_parts info8
  have h1 : Try.prog.underlying 27 = some (.slice (Try.prog.elem 27)) := by simp [Program.elem, Try.underlying27]
  have h2 : Try.prog.elem 27 = 5 := by simp [Program.elem, Try.underlying27]
  rw [run_slice_l w 27 _ _ _ h1 .i64 _ (by omega) (by omega), h2]
  simp [sizeOf, typeInfo, hi, hz1, sliced, tailA]

theorem setCells_row {b : Nat} {T : TypeId} {m : Nat × Nat} : ∀ (vs : List Value) (o : Nat) (w : World) (cs : Array Value), w.heap[b]? = some (.cells cs T m) → ∃ cs', (w.setCells b o vs).heap[b]? = some (.cells cs' T m) ∧ cs'.size = cs.size
  | [], _, _, cs, h => ⟨cs, h, rfl⟩
  | v :: vs, o, w, cs, h => by
    obtain ⟨cs', h1, h2⟩ := setCells_row vs (o + 1) _ _ (row_set h o v)
    exact ⟨cs', h1, by simpa using h2⟩

theorem setCells_upto {b : Nat} : ∀ (vs : List Value) (o : Nat) (w : World), Upto (fun k => k = b) w (w.setCells b o vs)
  | [], _, w => Upto.refl _ w
  | v :: vs, o, w => ((Upto.refl (fun k => k = b) w).setCell (p := ⟨b, o, none⟩) rfl v).trans (setCells_upto vs (o + 1) _) (fun _ _ e => e)

/-- 'copy(dst, src)', dst a new row of src's length. -/
theorem run_copy_new (w : World) (ty : TypeId) (B b m : Nat) (cur : Array Value) (hb : w.heap[b]? = some (.cells cur 5 (0, 0))) (hB : B ≤ b) (hsz : cur.size = m) (hm : m ≤ 140737488355328) (X : Option Addr) (l : List UInt8) (cx : Nat) (hX : Rd g8 w X l) (hl : l.length = m) (hn : X = none → cx = 0) :
    ∃ w2, (Builtin.copy_ #[27, 27] ty #[.slice (some ⟨b, 0, none⟩) m m, .slice X m cx]).run Try.prog w = .ok (.int .i64 m) w2 ∧ Ow 5 g8 w2 B (some ⟨b, 0, none⟩) l m ∧ Upto (fun k => k = b) w w2 := by
  have hu := Try.underlying27
  have hs : (Try.prog.info? 5).map (·.size) = some 1 := by
    obtain ⟨i0, hi, hz0, hz1, hz2⟩ := info_parts info8
    simp [hi, hz1]
  cases X with
  | none =>
    have h0 := hX.empty
    subst h0
    have h1 : m = 0 := by simpa using hl.symm
    subst h1
    refine ⟨w, ?_, ⟨rfl, .inr ⟨b, 0, cur, rfl, hB, hb, Nat.le_refl _, by simp [maxLen], by simpa using hsz, by simp⟩⟩, Upto.refl _ _⟩
    exact run_copy_none (P := Try.prog) w 27 27 ty 5 _ _ _ _ _ _ hu hs (by simp)
  | some a =>
    have hf : ∀ j, w.frozen? ⟨b, j, none⟩ = false := row_thawed hb
    have hc : ∀ j, j < m → (w.cell? ⟨b, 0 + j, none⟩).isSome = true := fun j hj => by
      rw [cell_of_row w b _ _ _ _ hb]; simp; omega
    have hlen : (l.map g8).length = m := by simpa using hl
    have hr := run_copy_cells (P := Try.prog) w 27 27 ty 5 b 0 m m a m cx (l.map g8) hu hs (by rw [hlen]; simp) hX.cells (by rw [hlen]; exact hc) (by rw [hlen]; exact fun j _ => hf _) (by simpa using fun y _ => one8 y)
    obtain ⟨cs', h1, h2⟩ := setCells_row (l.map g8) 0 w cur hb
    refine ⟨_, by rw [hr, hlen]; rfl, ⟨by simp, .inr ⟨b, m, cs', by rw [hl], hB, h1, by omega, by simp only [maxLen]; omega, by omega, ?_⟩⟩, setCells_upto _ _ _⟩
    apply List.ext_getElem?
    intro j
    by_cases hj : j < m
    · have h3 := World.cell?_setCells_in b (l.map g8) 0 w (by rw [hlen]; exact hc) j (by rw [hlen]; exact hj)
      rw [cell_of_row _ b _ _ _ _ h1] at h3
      rw [List.getElem?_take, if_pos (by omega)]
      simp at h3
      simp [h3, hl, hj]
    · rw [List.getElem?_eq_none (by simp; omega), List.getElem?_eq_none (by rw [hlen]; omega)]

/-- 'copy' where its run is known. -/
theorem wpList_copy_at {P : Program} {w : World} {ops : Array Oper} {rest : List Oper} {o : Oper} {a : Act} {Q : Exit → Act → World → Prop} (hgd : o.guard = none) (d s : Operand) (t t' : TypeId)
    (ho : o.op = .call { callee := .builtin .copy, args := #[d, s], argTypes := #[t, t'] }) (v u : Value) (hd : a.eval d = v) (hs : a.eval s = u) {v' : Value} {w' : World}
    (hr : (Builtin.copy_ #[t, t'] o.type #[v, u]).run P w = .ok v' w') (h : wpList P ops Q rest (a.put o.dst v') w') : wpList P ops Q (o :: rest) a w :=
  wpList_plain hgd fun K hK => by
    unfold Oper.wp execOp
    simp only [ho, resolve, invoke, builtin, Sem.run_bind, Sem.run_pure, Result.andThen_ok, List.map_toArray, List.map_cons, List.map_nil, hd, hs, hr]
    exact hK _ _ h

end Go.Proofs.Yteabhokkiggcjaa
