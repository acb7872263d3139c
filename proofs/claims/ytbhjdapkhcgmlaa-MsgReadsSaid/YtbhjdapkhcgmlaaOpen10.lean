import Derived.Test.YtbhjdapkhcgmlaaCrc
import Derived.Deep.Slices
import Derived.SizedLaws

set_option linter.unusedSimpArgs false
set_option linter.unusedVariables false
set_option linter.unnecessarySimpa false

namespace Go.Proofs.Ytbhjdapkhcgmlaa
open Go.RowKit Go.Deep Go.ChangeShapes

/-! How the rows' arguments open: a packet, bytes. -/
section
variable {H : Type} {enc : TypeId × Value → H} {P : Program} {w : World} {base b0 : Nat} {t e : TypeId} {v : Value} {d : DataW H} {p : List MemPlace} {r : Reach}

/-- Bytes behind one value, by their reading. -/
theorem bytes_of {fuel : Nat} {cs : List Value} {x : DataW H × List MemPlace} (ht : P.underlying t = some (.slice e)) (he : P.underlying e = some (.int .u8)) (hc : P.cellsOf e = 1)
    {spare : Nat → Bool} {held : Bool} (h : DataW.trod enc P w base spare held fuel t cs = some x) :
    ∃ A l c, cs = [.slice A l.length c] ∧ Rd g8 w A l ∧ (A = none → c = 0) ∧ l.length ≤ c ∧ c ≤ 9223372036854775807 ∧ (x.1 = .nil ∧ l = [] ∨ ∃ el sp, x.1 = .slice el sp ∧ el.length = l.length) := by
  rcases open_ints ht he hc h with ⟨rfl, rfl⟩ | ⟨a, len, cap, zs, rfl, _, hl, hm, hz, rfl, hcell, hwz⟩
  · exact ⟨none, [], 0, rfl, Rd.nil, fun _ => rfl, by simp, by omega, .inl ⟨rfl, rfl⟩⟩
  · have hle : len ≤ zs.length := by rw [hz]; split <;> omega
    have hlen : ((zs.take len).map fun n => UInt8.ofNat n.toNat).length = len := by simp; omega
    refine ⟨some a, (zs.take len).map fun n => UInt8.ofNat n.toNat, cap, by rw [hlen], ?_, (by intro h; cases h), by rw [hlen]; exact hl, hm, .inr ⟨_, _, rfl, by simp [lits]⟩⟩
    intro i x hx
    refine ⟨a, rfl, ?_⟩
    have hi : i < len := by
      have := (List.getElem?_eq_some_iff.1 hx).1
      omega
    have hz2 : i < zs.length := by omega
    rw [List.getElem?_map, List.getElem?_take, if_pos hi, List.getElem?_eq_getElem hz2] at hx
    simp only [Option.map_some, Option.some.injEq] at hx
    rw [hcell i hz2]
    have hw := hwz _ (List.getElem_mem hz2)
    simp [Lit.wf, IntKind.min, IntKind.max, IntKind.signed, IntKind.bits] at hw
    subst hx
    rw [List.getD_eq_getElem?_getD, List.getElem?_eq_getElem hz2]
    show some (Value.int .u8 zs[i]) = some (Value.int .u8 (((UInt8.ofNat zs[i].toNat).toNat : Nat) : Int))
    rw [UInt8.toNat_ofNat']
    congr 2
    omega

theorem open_bytes (ht : P.underlying t = some (.slice e)) (he : P.underlying e = some (.int .u8)) (hc : P.cellsOf e = 1)
    (hv : Value.okWide P w r b0 t v) {spare : Nat → Bool} {held : Bool} (h : DataW.Trod enc P w base spare held t v d p) :
    ∃ A l c, v = .slice A l.length c ∧ Rd g8 w A l ∧ (A = none → c = 0) ∧ l.length ≤ c ∧ c ≤ 9223372036854775807 ∧ (d = .nil ∧ l = [] ∨ ∃ el sp, d = .slice el sp ∧ el.length = l.length) := by
  obtain ⟨a, n, k, rfl⟩ := Go.WideShapes.okWide_slice ht hv
  obtain ⟨fuel, hf⟩ := h
  obtain ⟨A, l, c, e1, h1, h2, h3, h4, h5⟩ := bytes_of ht he hc hf
  simp [Value.cells] at e1
  obtain ⟨rfl, rfl, rfl⟩ := e1
  exact ⟨_, l, _, rfl, h1, h2, h3, h4, h5⟩

/-- The reach: how long a slice of bytes can be. -/
theorem reach_bytes {ts : List TypeId} {ds : List (DataW H)} (h : (DataW.weightsEach P ts ds).all (· ≤ reachBytes) = true) {j : Nat} (hj : ts[j]? = some t) (hd : ds[j]? = some d) (hu : P.underlying t = some (.slice e)) (hb : P.bytesOf e = 1)
    {l : List UInt8} (hs : d = .nil ∧ l = [] ∨ ∃ el sp, d = .slice el sp ∧ el.length = l.length) : l.length ≤ 140737488351232 := by
  rcases hs with ⟨_, rfl⟩ | ⟨el, sp, rfl, hl⟩
  · simp
  · have := sized_slice h hj hd hu
    rw [hb] at this
    simp only [reachBytes] at this
    omega

/-- The reach, at a slice of bytes in a field of a struct. -/
theorem reach_part {ts : List TypeId} {ds : List (DataW H)} (h : (DataW.weightsEach P ts ds).all (· ≤ reachBytes) = true) {j : Nat} (hj : ts[j]? = some t)
    {fs : Array Field} (he : P.underlying t = some (.struct fs)) {parts : List (DataW H)} (hd : ds[j]? = some (.agg parts)) {m : Nat} {tb eb : TypeId} (hm : (fs.toList.map (·.type))[m]? = some tb) {y : DataW H} (hy : parts[m]? = some y) (hb : P.underlying tb = some (.slice eb)) (hB : P.bytesOf eb = 1)
    {l : List UInt8} (hs : y = .nil ∧ l = [] ∨ ∃ el sp, y = .slice el sp ∧ el.length = l.length) : l.length ≤ 140737488351232 := by
  rcases hs with ⟨_, rfl⟩ | ⟨el, sp', rfl, hl⟩
  · simp
  · have h1 : (el.length + sp'.length) * P.bytesOf eb ∈ (DataW.slice el sp' : DataW H).weights P tb := by simp [DataW.weights, hb]
    have h2 : (el.length + sp'.length) * P.bytesOf eb ∈ (DataW.agg parts : DataW H).weights P t := by
      rw [DataW.weights, he]
      exact DataW.weights_mem_each hm hy _ h1
    have := List.all_eq_true.1 h _ (DataW.weights_mem_each hj hd _ h2)
    rw [hB] at this
    simp [reachBytes] at this
    omega

theorem open_packet {spare : Nat → Bool} {held : Bool} {f0 f1 f2 f3 f4 f5 f6 : Field} {ti ei : TypeId} (ht : P.underlying t = some (.struct #[f0, f1, f2, f3, f4, f5, f6])) (hC : P.cellsOf t = 7)
    (o0 : f0.offset = 0) (o1 : f1.offset = 1) (o2 : f2.offset = 2) (o3 : f3.offset = 3) (o4 : f4.offset = 4) (o5 : f5.offset = 5) (o6 : f6.offset = 6)
    (t0 : P.underlying f0.type = some (.int .i64)) (t1 : P.underlying f1.type = some (.int .i64)) (t2 : P.underlying f2.type = some (.int .i64)) (t3 : P.underlying f3.type = some (.int .i64)) (t4 : P.underlying f4.type = some (.int .i64)) (t5 : P.underlying f5.type = some .bool) (hti : f6.type = ti) (t6 : P.underlying ti = some (.slice ei)) (t7 : P.underlying ei = some (.int .u8))
    (c0 : P.cellsOf f0.type = 1) (c1 : P.cellsOf f1.type = 1) (c2 : P.cellsOf f2.type = 1) (c3 : P.cellsOf f3.type = 1) (c4 : P.cellsOf f4.type = 1) (c5 : P.cellsOf f5.type = 1) (c6 : P.cellsOf ti = 1) (c7 : P.cellsOf ei = 1) (hB : P.bytesOf ei = 1)
    {ts : List TypeId} {ds : List (DataW H)} (hz : (DataW.weightsEach P ts ds).all (· ≤ reachBytes) = true) {j : Nat} (hj : ts[j]? = some t) (hd : ds[j]? = some d)
    (hv : Value.okWide P w r b0 t v) (h : DataW.Trod enc P w base spare held t v d p) :
    ∃ (n0 n1 n2 n3 n4 : Int) (s : Bool) (A : Option Addr) (l : List UInt8) (c : Nat), v = .agg #[.int .i64 n0, .int .i64 n1, .int .i64 n2, .int .i64 n3, .int .i64 n4, .bool s, .slice A l.length c] ∧ Rd g8 w A l ∧ (A = none → c = 0) ∧ l.length ≤ 140737488351232 := by
  subst hti
  obtain ⟨cs, rfl, hsz⟩ := Go.WideShapes.okWide_struct ht hv
  rw [hC] at hsz
  obtain ⟨l0⟩ := cs
  match l0, hsz with
  | [v0, v1, v2, v3, v4, v5, v6], _ =>
    obtain ⟨fuel, hf⟩ := h
    obtain ⟨xs, k', hk, hxy, _, hxl, hff⟩ := DataW.trod_struct ht hf
    match xs, hxl with
    | [y0, y1, y2, y3, y4, y5, y6], _ =>
      have q0 := hff 0 f0 rfl
      have q1 := hff 1 f1 rfl
      have q2 := hff 2 f2 rfl
      have q3 := hff 3 f3 rfl
      have q4 := hff 4 f4 rfl
      have q5 := hff 5 f5 rfl
      have q6 := hff 6 f6 rfl
      simp [Value.cells, o0, o1, o2, o3, o4, o5, o6, c0, c1, c2, c3, c4, c5, c6] at q0 q1 q2 q3 q4 q5 q6
      obtain ⟨n0, z0, _, w0⟩ := DataW.trod_int t0 q0
      obtain ⟨n1, z1, _, w1⟩ := DataW.trod_int t1 q1
      obtain ⟨n2, z2, _, w2⟩ := DataW.trod_int t2 q2
      obtain ⟨n3, z3, _, w3⟩ := DataW.trod_int t3 q3
      obtain ⟨n4, z4, _, w4⟩ := DataW.trod_int t4 q4
      obtain ⟨n5, z5, _⟩ := DataW.trod_bool t5 q5
      obtain ⟨B, l, cb, z6, s1, s2, s3, s4, s5⟩ := bytes_of t6 t7 c7 q6
      simp at z0 z1 z2 z3 z4 z5 z6
      subst z0 z1 z2 z3 z4 z5 z6
      simp only [Prod.mk.injEq] at hxy
      have hlb : l.length ≤ 140737488351232 := reach_part hz hj ht (parts := [y0.1, y1.1, y2.1, y3.1, y4.1, y5.1, y6.1]) (by rw [hd]; simpa using hxy.1) (m := 6) rfl rfl t6 hB s5
      exact ⟨n0, n1, n2, n3, n4, n5, B, l, cb, rfl, s1, s2, hlb⟩
end

end Go.Proofs.Ytbhjdapkhcgmlaa
