import Derived.Test.YtjndjcfablkihaaPlain02
import Derived.Deep.Slices
import Derived.SizedLaws
namespace Go.Proofs.Ytjndjcfablkihaa
open Go.RowKit Go.Deep Go.ChangeShapes

/-! How the rows' arguments open: bytes, slices of bytes. -/
section
variable {H : Type} {enc : TypeId × Value → H} {P : Program} {w : World} {base b0 : Nat} {t e : TypeId} {v : Value} {d : DataW H} {p : List MemPlace} {r : Reach}

/-- Bytes behind one value, by their reading. -/
theorem bytes_of {fuel : Nat} {cs : List Value} {x : DataW H × List MemPlace} (ht : P.underlying t = some (.slice e)) (he : P.underlying e = some (.int .u8)) (hc : P.cellsOf e = 1)
    {spare : Nat → Bool} {held : Bool} (h : DataW.trod enc P w base spare held fuel t cs = some x) :
    ∃ A l c, cs = [.slice A l.length c] ∧ Rd g8 w A l ∧ (A = none → c = 0) ∧ l.length ≤ c ∧ c ≤ 9223372036854775807 ∧ (x.1 = .nil ∧ l = [] ∨ ∃ el sp, x.1 = .slice el sp ∧ el.length = l.length) := by
  rcases open_ints ht he hc h with ⟨rfl, rfl⟩ | ⟨a, len, cap, zs, rfl, _, hl, hm, hz, rfl, hcell, hwz⟩
  · exact ⟨none, [], 0, rfl, Rd.nil, fun _ => rfl, by simp, by omega, .inl ⟨rfl, rfl⟩⟩
  · have hle : len ≤ zs.length := by rw [hz]; split <;> omega
    have hlen : ((zs.take len).map fun n => UInt8.ofNat n.toNat).length = len := by simp; omega
    refine ⟨some a, (zs.take len).map fun n => UInt8.ofNat n.toNat, cap, by rw [hlen], ?_, (by intro h; cases h), by rw [hlen]; exact hl, hm, .inr ⟨_, _, rfl, by simp [lits]⟩⟩
    intro i x hx
    refine ⟨a, rfl, ?_⟩
    have hi : i < len := by
      have := (List.getElem?_eq_some_iff.1 hx).1
      omega
    have hz2 : i < zs.length := by omega
    rw [List.getElem?_map, List.getElem?_take, if_pos hi, List.getElem?_eq_getElem hz2] at hx
    simp only [Option.map_some, Option.some.injEq] at hx
    rw [hcell i hz2]
    have hw := hwz _ (List.getElem_mem hz2)
    simp [Lit.wf, IntKind.min, IntKind.max, IntKind.signed, IntKind.bits] at hw
    subst hx
    rw [List.getD_eq_getElem?_getD, List.getElem?_eq_getElem hz2]
    show some (Value.int .u8 zs[i]) = some (Value.int .u8 (((UInt8.ofNat zs[i].toNat).toNat : Nat) : Int))
    rw [UInt8.toNat_ofNat']
    congr 2
    omega

theorem open_bytes (ht : P.underlying t = some (.slice e)) (he : P.underlying e = some (.int .u8)) (hc : P.cellsOf e = 1)
    (hv : Value.okWide P w r b0 t v) {spare : Nat → Bool} {held : Bool} (h : DataW.Trod enc P w base spare held t v d p) :
    ∃ A l c, v = .slice A l.length c ∧ Rd g8 w A l ∧ (A = none → c = 0) ∧ l.length ≤ c ∧ c ≤ 9223372036854775807 ∧ (d = .nil ∧ l = [] ∨ ∃ el sp, d = .slice el sp ∧ el.length = l.length) := by
  obtain ⟨a, n, k, rfl⟩ := Go.WideShapes.okWide_slice ht hv
  obtain ⟨fuel, hf⟩ := h
  obtain ⟨A, l, c, e1, h1, h2, h3, h4, h5⟩ := bytes_of ht he hc hf
  simp [Value.cells] at e1
  obtain ⟨rfl, rfl, rfl⟩ := e1
  exact ⟨_, l, _, rfl, h1, h2, h3, h4, h5⟩

/-- The reach: how long a slice of bytes can be. -/
theorem reach_bytes {ts : List TypeId} {ds : List (DataW H)} (h : (DataW.weightsEach P ts ds).all (· ≤ reachBytes) = true) {j : Nat} (hj : ts[j]? = some t) (hd : ds[j]? = some d) (hu : P.underlying t = some (.slice e)) (hb : P.bytesOf e = 1)
    {l : List UInt8} (hs : d = .nil ∧ l = [] ∨ ∃ el sp, d = .slice el sp ∧ el.length = l.length) : l.length ≤ 140737488351232 := by
  rcases hs with ⟨_, rfl⟩ | ⟨el, sp, rfl, hl⟩
  · simp
  · have := sized_slice h hj hd hu
    rw [hb] at this
    simp only [reachBytes] at this
    omega

/-- Ints behind one value, by their reading. -/
theorem ints_of {fuel : Nat} {cs : List Value} {x : DataW H × List MemPlace} (ht : P.underlying t = some (.slice e)) (he : P.underlying e = some (.int .i64)) (hc : P.cellsOf e = 1)
    {spare : Nat → Bool} {held : Bool} (h : DataW.trod enc P w base spare held fuel t cs = some x) :
    ∃ A l c, cs = [.slice A l.length c] ∧ Rd g64 w A l ∧ (A = none → c = 0) ∧ l.length ≤ c ∧ c ≤ 9223372036854775807 ∧ (x.1 = .nil ∧ l = [] ∨ ∃ el sp, x.1 = .slice el sp ∧ el.length = l.length) := by
  rcases open_ints ht he hc h with ⟨rfl, rfl⟩ | ⟨a, len, cap, zs, rfl, _, hl, hm, hz, rfl, hcell, hwz⟩
  · exact ⟨none, [], 0, rfl, Rd.nil, fun _ => rfl, by simp, by omega, .inl ⟨rfl, rfl⟩⟩
  · have hle : len ≤ zs.length := by rw [hz]; split <;> omega
    have hlen : (zs.take len).length = len := by simp; omega
    refine ⟨some a, zs.take len, cap, by rw [hlen], ?_, (by intro h; cases h), by rw [hlen]; exact hl, hm, .inr ⟨_, _, rfl, by simp [lits]⟩⟩
    intro i x hx
    refine ⟨a, rfl, ?_⟩
    have hi : i < len := by
      have := (List.getElem?_eq_some_iff.1 hx).1
      omega
    have hz2 : i < zs.length := by omega
    rw [List.getElem?_take, if_pos hi, List.getElem?_eq_getElem hz2] at hx
    simp only [Option.some.injEq] at hx
    rw [hcell i hz2]
    subst hx
    rw [List.getD_eq_getElem?_getD, List.getElem?_eq_getElem hz2]
    rfl

theorem open_i64s (ht : P.underlying t = some (.slice e)) (he : P.underlying e = some (.int .i64)) (hc : P.cellsOf e = 1)
    (hv : Value.okWide P w r b0 t v) {spare : Nat → Bool} {held : Bool} (h : DataW.Trod enc P w base spare held t v d p) :
    ∃ A l c, v = .slice A l.length c ∧ Rd g64 w A l ∧ (A = none → c = 0) ∧ l.length ≤ c ∧ c ≤ 9223372036854775807 ∧ (d = .nil ∧ l = [] ∨ ∃ el sp, d = .slice el sp ∧ el.length = l.length) := by
  obtain ⟨a, n, k, rfl⟩ := Go.WideShapes.okWide_slice ht hv
  obtain ⟨fuel, hf⟩ := h
  obtain ⟨A, l, c, e1, h1, h2, h3, h4, h5⟩ := ints_of ht he hc hf
  simp [Value.cells] at e1
  obtain ⟨rfl, rfl, rfl⟩ := e1
  exact ⟨_, l, _, rfl, h1, h2, h3, h4, h5⟩

/-- The reach: how long a slice of ints can be. -/
theorem reach_ints {ts : List TypeId} {ds : List (DataW H)} (h : (DataW.weightsEach P ts ds).all (· ≤ reachBytes) = true) {j : Nat} (hj : ts[j]? = some t) (hd : ds[j]? = some d) (hu : P.underlying t = some (.slice e)) (hb : P.bytesOf e = 8)
    {l : List Int} (hs : d = .nil ∧ l = [] ∨ ∃ el sp, d = .slice el sp ∧ el.length = l.length) : l.length ≤ 17592186044404 := by
  rcases hs with ⟨_, rfl⟩ | ⟨el, sp, rfl, hl⟩
  · simp
  · have := sized_slice h hj hd hu
    rw [hb] at this
    simp only [reachBytes] at this
    omega
end

theorem nat_u16 {n : Int} (h : (Lit.int .u16 n).wf = true) : ∃ a : Nat, n = a ∧ a < 65536 := by
  simp [Lit.wf, IntKind.min, IntKind.max, IntKind.signed, IntKind.bits] at h
  obtain ⟨a, rfl⟩ := Int.eq_ofNat_of_zero_le h.1
  exact ⟨a, rfl, by omega⟩

theorem int_i64 {n : Int} (h : (Lit.int .i64 n).wf = true) : -9223372036854775808 ≤ n ∧ n ≤ 9223372036854775807 := by
  simp [Lit.wf, IntKind.min, IntKind.max, IntKind.signed, IntKind.bits] at h
  omega

end Go.Proofs.Ytjndjcfablkihaa
