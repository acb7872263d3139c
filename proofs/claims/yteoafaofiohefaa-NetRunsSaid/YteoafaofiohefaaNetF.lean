import Derived.Test.YteoafaofiohefaaNetE
import Derived.Lib.SliceRun
namespace Go.Proofs.Yteoafaofiohefaa
open Go.RowKit

/-! slices.Delete of one two-celled item. -/

theorem zeroI (w : World) : (zeroValue 65).run Try.prog w = .ok (.agg #[.slice none 0 0, .bool false]) w := by
  obtain ⟨i0, hi, hz0, -, -⟩ := info_parts infoI
  simp [zeroValue, typeInfo, hi, hz0, go_sem]

theorem clear_one (w : World) (ty : TypeId) (b o c : Nat) (hc : ∀ j, j < 2 → (w.cell? ⟨b, o + j, none⟩).isSome = true) (hf : ∀ j, j < 2 → w.frozen? ⟨b, o + j, none⟩ = false) :
    (Builtin.clear_ #[56] ty #[.slice (some ⟨b, o, none⟩) 1 c]).run Try.prog w = .ok (.tuple #[]) (w.setCells b o [.slice none 0 0, .bool false]) := by
  have hzc : (Builtin.zeroCells (Value.agg #[.slice none 0 0, .bool false]).cells 1).toList = [.slice none 0 0, .bool false] := by kernel_rfl
  have hst := run_storeCells_cells (P := Try.prog) b o [.slice none 0 0, .bool false] 0 w (by simpa using hc) (by simpa using hf) (one_it none 0 0 false)
  simp only [Nat.add_zero] at hst
  simp [Builtin.clear_, run_underlying Try.underlying56, hzc, hst]

/-- A row's cells, some of them written over. -/
def over : Array Value → Nat → List Value → Array Value
  | cur, _, [] => cur
  | cur, o, v :: r => over (cur.setIfInBounds o v) (o + 1) r

theorem setCells_row {b : Nat} {t : TypeId} {m : Nat × Nat} : ∀ (vs : List Value) (o : Nat) (w : World) (cur : Array Value), w.heap[b]? = some (.cells cur t m) → (w.setCells b o vs).heap[b]? = some (.cells (over cur o vs) t m)
  | [], _, _, _, h => h
  | v :: r, o, _, _, h => setCells_row r (o + 1) _ _ (row_set h o v)

theorem over_size : ∀ (vs : List Value) (o : Nat) (cur : Array Value), (over cur o vs).size = cur.size
  | [], _, _ => rfl
  | v :: r, o, cur => by
    show (over (cur.setIfInBounds o v) (o + 1) r).size = _
    rw [over_size r]; simp

theorem over_take : ∀ (vs : List Value) (o : Nat) (cur : Array Value) (n : Nat), n ≤ o → (over cur o vs).toList.take n = cur.toList.take n
  | [], _, _, _, _ => rfl
  | v :: r, o, cur, n, h => by
    show (over (cur.setIfInBounds o v) (o + 1) r).toList.take n = _
    rw [over_take r (o + 1) _ n (by omega)]
    simp [List.take_set_of_le h]

theorem over_all : ∀ (vs : List Value) (o : Nat) (cur : Array Value), o + vs.length ≤ cur.size → (over cur o vs).toList.take (o + vs.length) = cur.toList.take o ++ vs
  | [], _, _, _ => by simp [over]
  | v :: r, o, cur, h => by
    have h' : o + (r.length + 1) ≤ cur.size := h
    show (over (cur.setIfInBounds o v) (o + 1) r).toList.take (o + (r.length + 1)) = _
    rw [show o + (r.length + 1) = o + 1 + r.length from by omega, over_all r (o + 1) _ (by simp; omega)]
    rw [take_snoc (l := (cur.setIfInBounds o v).toList) (k := o) (x := v) (by rw [Array.toList_setIfInBounds]; exact List.getElem?_set_self (by simp; omega))]
    simp [List.take_set_of_le]

theorem Upto.setCells {K : Nat → Prop} {a : World} {b : Nat} (hb : K b) : ∀ (vs : List Value) (o : Nat) (w : World), Upto K a w → Upto K a (w.setCells b o vs)
  | [], _, _, h => h
  | v :: r, o, _, h => Upto.setCells hb r (o + 1) _ (h.setCell (p := ⟨b, o, none⟩) hb v)

/-- One item is out: the later ones moved, the last place cleared. -/
theorem lane_out {w : World} {B g c : Nat} {L : List It} {cur : Array Value} (hB : B ≤ g) (hr : w.heap[g]? = some (.cells cur 65 (0, 0))) (hs : cur.size = c * 2) (hc : L.length ≤ c) (hm : c ≤ maxLen) (ht : cur.toList.take (L.length * 2) = lcells L) (i : Nat) (hi : i < L.length) :
    Lane ((w.setCells g (i * 2) (lcells (L.drop (i + 1)))).setCells g ((L.length - 1) * 2) [.slice none 0 0, .bool false]) B (.slice (some ⟨g, 0, none⟩) (L.length - 1) c) (L.eraseIdx i) := by
  have hlen : (L.eraseIdx i).length = L.length - 1 := by rw [List.length_eraseIdx, if_pos hi]
  have hd : (lcells (L.drop (i + 1))).length = (L.length - 1 - i) * 2 := by rw [lcells_length, List.length_drop]; omega
  refine ⟨by rw [lcells_length], .inr ⟨g, c, _, by rw [hlen], hB, setCells_row _ _ _ _ (setCells_row _ _ _ _ hr), by omega, hm, by rw [over_size, over_size, hs], ?_⟩⟩
  rw [hlen, over_take _ _ _ _ (Nat.le_refl _)]
  have e : (L.length - 1) * 2 = i * 2 + (lcells (L.drop (i + 1))).length := by rw [hd]; omega
  rw [e, over_all _ _ _ (by rw [hd, hs]; omega), List.eraseIdx_eq_take_drop_succ, lcells_append]
  congr 1
  rw [← lcells_take, ← ht, List.take_take]
  congr 1; omega

end Go.Proofs.Yteoafaofiohefaa
