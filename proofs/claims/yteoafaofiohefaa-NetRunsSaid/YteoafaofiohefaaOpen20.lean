import Derived.Test.YteoafaofiohefaaNetW
import Derived.Deep.Slices
import Derived.SizedLaws
namespace Go.Proofs.Yteoafaofiohefaa
open Go.RowKit Go.Deep Go.ChangeShapes

/-! How the rows' arguments open: bytes, slices of bytes. -/
section
variable {H : Type} {enc : TypeId × Value → H} {P : Program} {w : World} {base b0 : Nat} {t e : TypeId} {v : Value} {d : DataW H} {p : List MemPlace} {r : Reach}

/-- Bytes behind one value, by their reading. -/
theorem bytes_of {fuel : Nat} {cs : List Value} {x : DataW H × List MemPlace} (ht : P.underlying t = some (.slice e)) (he : P.underlying e = some (.int .u8)) (hc : P.cellsOf e = 1)
    {spare : Nat → Bool} {held : Bool} (h : DataW.trod enc P w base spare held fuel t cs = some x) :
    ∃ A l c, cs = [.slice A l.length c] ∧ Rd g8 w A l ∧ (A = none → c = 0) ∧ l.length ≤ c ∧ c ≤ 9223372036854775807 ∧ (x.1 = .nil ∧ l = [] ∨ ∃ el sp, x.1 = .slice el sp ∧ el.length = l.length) := by
  rcases open_ints ht he hc h with ⟨rfl, rfl⟩ | ⟨a, len, cap, zs, rfl, _, hl, hm, hz, rfl, hcell, hwz⟩
  · exact ⟨none, [], 0, rfl, Rd.nil, fun _ => rfl, by simp, by omega, .inl ⟨rfl, rfl⟩⟩
  · have hle : len ≤ zs.length := by rw [hz]; split <;> omega
    have hlen : ((zs.take len).map fun n => UInt8.ofNat n.toNat).length = len := by simp; omega
    refine ⟨some a, (zs.take len).map fun n => UInt8.ofNat n.toNat, cap, by rw [hlen], ?_, (by intro h; cases h), by rw [hlen]; exact hl, hm, .inr ⟨_, _, rfl, by simp [lits]⟩⟩
    intro i x hx
    refine ⟨a, rfl, ?_⟩
    have hi : i < len := by
      have := (List.getElem?_eq_some_iff.1 hx).1
      omega
    have hz2 : i < zs.length := by omega
    rw [List.getElem?_map, List.getElem?_take, if_pos hi, List.getElem?_eq_getElem hz2] at hx
    simp only [Option.map_some, Option.some.injEq] at hx
    rw [hcell i hz2]
    have hw := hwz _ (List.getElem_mem hz2)
    simp [Lit.wf, IntKind.min, IntKind.max, IntKind.signed, IntKind.bits] at hw
    subst hx
    rw [List.getD_eq_getElem?_getD, List.getElem?_eq_getElem hz2]
    show some (Value.int .u8 zs[i]) = some (Value.int .u8 (((UInt8.ofNat zs[i].toNat).toNat : Nat) : Int))
    rw [UInt8.toNat_ofNat']
    congr 2
    omega

theorem open_bytes (ht : P.underlying t = some (.slice e)) (he : P.underlying e = some (.int .u8)) (hc : P.cellsOf e = 1)
    (hv : Value.okWide P w r b0 t v) {spare : Nat → Bool} {held : Bool} (h : DataW.Trod enc P w base spare held t v d p) :
    ∃ A l c, v = .slice A l.length c ∧ Rd g8 w A l ∧ (A = none → c = 0) ∧ l.length ≤ c ∧ c ≤ 9223372036854775807 ∧ (d = .nil ∧ l = [] ∨ ∃ el sp, d = .slice el sp ∧ el.length = l.length) := by
  obtain ⟨a, n, k, rfl⟩ := Go.WideShapes.okWide_slice ht hv
  obtain ⟨fuel, hf⟩ := h
  obtain ⟨A, l, c, e1, h1, h2, h3, h4, h5⟩ := bytes_of ht he hc hf
  simp [Value.cells] at e1
  obtain ⟨rfl, rfl, rfl⟩ := e1
  exact ⟨_, l, _, rfl, h1, h2, h3, h4, h5⟩

/-- The reach: how long a slice of bytes can be. -/
theorem reach_bytes {ts : List TypeId} {ds : List (DataW H)} (h : (DataW.weightsEach P ts ds).all (· ≤ reachBytes) = true) {j : Nat} (hj : ts[j]? = some t) (hd : ds[j]? = some d) (hu : P.underlying t = some (.slice e)) (hb : P.bytesOf e = 1)
    {l : List UInt8} (hs : d = .nil ∧ l = [] ∨ ∃ el sp, d = .slice el sp ∧ el.length = l.length) : l.length ≤ 140737488351232 := by
  rcases hs with ⟨_, rfl⟩ | ⟨el, sp, rfl, hl⟩
  · simp
  · have := sized_slice h hj hd hu
    rw [hb] at this
    simp only [reachBytes] at this
    omega

theorem list_of {α : Type} (n : Nat) (p : Nat → α → Prop) (h : ∀ i, i < n → ∃ x, p i x) : ∃ L : List α, L.length = n ∧ ∀ i x, L[i]? = some x → p i x := by
  induction n with
  | zero => exact ⟨[], rfl, fun i x hx => by simp at hx⟩
  | succ n ih =>
    obtain ⟨L, hl, hp⟩ := ih fun i hi => h i (by omega)
    obtain ⟨y, hy⟩ := h n (by omega)
    refine ⟨L ++ [y], by simp [hl], fun i x hx => ?_⟩
    rw [List.getElem?_append] at hx
    split at hx
    · exact hp i x hx
    · have hi : i = n := by
        have := (List.getElem?_eq_some_iff.1 hx).1
        simp at this; omega
      subst hi
      rw [hl, Nat.sub_self] at hx
      simp at hx
      subst hx
      exact hy

/-- A slice of slices of bytes. -/
theorem open_bytess {s : TypeId} (hs : P.underlying s = some (.slice t)) (hcs : P.cellsOf t = 1) (ht : P.underlying t = some (.slice e)) (he : P.underlying e = some (.int .u8)) (hc : P.cellsOf e = 1)
    (hv : Value.okWide P w r b0 s v) {spare : Nat → Bool} {held : Bool} (h : DataW.Trod enc P w base spare held s v d p) :
    ∃ A L c, v = .slice A L.length c ∧ RdS w A L ∧ (A = none → c = 0) ∧ L.length ≤ c ∧ c ≤ 9223372036854775807 := by
  obtain ⟨a, n, k, rfl⟩ := Go.WideShapes.okWide_slice hs hv
  obtain ⟨fuel, hf⟩ := h
  rcases open_slice1 hs hcs hf with ⟨e1, _⟩ | ⟨a', len, cap, m, n', V, D, Pl, e1, _, hl, hm, hmm, _, hx⟩
  · simp [Value.cells] at e1
    obtain ⟨rfl, rfl, rfl⟩ := e1
    exact ⟨none, [], 0, rfl, fun i p hp => by simp at hp, fun _ => rfl, by simp, by omega⟩
  · simp [Value.cells] at e1
    obtain ⟨rfl, rfl, rfl⟩ := e1
    have hlm : n ≤ m := by rw [hmm]; split <;> omega
    obtain ⟨L, hL, hp⟩ := list_of n (fun i (l : List UInt8) => ∃ B c, w.cell? (a'.add i) = some (.slice B l.length c) ∧ (B = none → c = 0) ∧ l.length ≤ 9223372036854775807 ∧ Rd g8 w B l) (fun i hi => by
      obtain ⟨h1, h2⟩ := hx i (by omega)
      obtain ⟨B, l, c, e2, q1, q2, q3, q4, _⟩ := bytes_of ht he hc h2
      simp at e2
      rw [e2] at h1
      exact ⟨l, B, c, h1, q2, by omega, q1⟩)
    refine ⟨some a', L, k, by rw [hL], ?_, (by intro h; cases h), by rw [hL]; exact hl, hm⟩
    intro i p hpi
    obtain ⟨B, c, q1, q2, q3, q4⟩ := hp i p hpi
    exact ⟨a', B, c, rfl, q1, q2, q3, q4⟩
/-- Two bytes behind one array. -/
theorem two_of {e : TypeId} (he : P.underlying t = some (.array 2 e)) (hu : P.underlying e = some (.int .u8)) (hE : P.cellsOf e = 1) {fuel : Nat} {x y : Value} {z : DataW H × List MemPlace} {spare : Nat → Bool} {held : Bool}
    (h : DataW.trod enc P w base spare held fuel t [x, y] = some z) : ∃ a b : UInt8, x = .int .u8 (a.toNat : Int) ∧ y = .int .u8 (b.toNat : Int) := by
  obtain ⟨xs, m, _, hx, _, hl, hd⟩ := DataW.trod_array he h
  match xs, hl with
  | [y0, y1], _ =>
    have h0 := hd 0 (by omega)
    have h1 := hd 1 (by omega)
    simp [hE] at h0 h1
    obtain ⟨n0, e0, _, w0⟩ := DataW.trod_int hu h0
    obtain ⟨n1, e1, _, w1⟩ := DataW.trod_int hu h1
    simp at e0 e1
    subst e0 e1
    simp [Lit.wf, IntKind.min, IntKind.max, IntKind.signed, IntKind.bits] at w0 w1
    refine ⟨UInt8.ofNat n0.toNat, UInt8.ofNat n1.toNat, ?_, ?_⟩ <;> rw [UInt8.toNat_ofNat'] <;> congr 1 <;> omega

/-- Two times two bytes. -/
theorem open_quad {e f : TypeId} (ht : P.underlying t = some (.array 2 e)) (he : P.underlying e = some (.array 2 f)) (hu : P.underlying f = some (.int .u8)) (hC : P.cellsOf t = 4) (hD : P.cellsOf e = 2) (hE : P.cellsOf f = 1)
    (hv : Value.okWide P w r b0 t v) {spare : Nat → Bool} {held : Bool} (h : DataW.Trod enc P w base spare held t v d p) :
    ∃ a b c e : UInt8, v = .agg #[.int .u8 (a.toNat : Int), .int .u8 (b.toNat : Int), .int .u8 (c.toNat : Int), .int .u8 (e.toNat : Int)] := by
  simp only [Value.okWide, ht] at hv
  obtain ⟨cs, rfl, hsz, _⟩ := hv
  rw [hC] at hsz
  obtain ⟨l⟩ := cs
  match l, hsz with
  | [c0, c1, c2, c3], _ =>
    obtain ⟨fuel, hf⟩ := h
    obtain ⟨xs, m, _, hx, _, hl, hd⟩ := DataW.trod_array ht hf
    match xs, hl with
    | [y0, y1], _ =>
      have h0 := hd 0 (by omega)
      have h1 := hd 1 (by omega)
      simp [Value.cells, hD] at h0 h1
      obtain ⟨a, b, rfl, rfl⟩ := two_of he hu hE h0
      obtain ⟨c, e, rfl, rfl⟩ := two_of he hu hE h1
      exact ⟨a, b, c, e, rfl⟩
end

theorem nat_u16 {n : Int} (h : (Lit.int .u16 n).wf = true) : ∃ a : Nat, n = a ∧ a < 65536 := by
  simp [Lit.wf, IntKind.min, IntKind.max, IntKind.signed, IntKind.bits] at h
  obtain ⟨a, rfl⟩ := Int.eq_ofNat_of_zero_le h.1
  exact ⟨a, rfl, by omega⟩

theorem int_i64 {n : Int} (h : (Lit.int .i64 n).wf = true) : -9223372036854775808 ≤ n ∧ n ≤ 9223372036854775807 := by
  simp [Lit.wf, IntKind.min, IntKind.max, IntKind.signed, IntKind.bits] at h
  omega

section
variable {H : Type} {enc : TypeId × Value → H} {P : Program} {w : World} {base b0 : Nat} {t e : TypeId} {v : Value} {d : DataW H} {p : List MemPlace} {r : Reach}

/-- An array of two ints. -/
theorem open_arr2i {spare : Nat → Bool} {held : Bool} (ht : P.underlying t = some (.array 2 e)) (he : P.underlying e = some (.int .i64)) (hC : P.cellsOf t = 2) (hE : P.cellsOf e = 1)
    (hv : Value.okWide P w r b0 t v) (h : DataW.Trod enc P w base spare held t v d p) :
    ∃ a b : Int, v = .agg #[.int .i64 a, .int .i64 b] ∧ p = [] ∧ (-9223372036854775808 ≤ a ∧ a ≤ 9223372036854775807) ∧ (-9223372036854775808 ≤ b ∧ b ≤ 9223372036854775807) := by
  simp only [Value.okWide, ht] at hv
  obtain ⟨cs, rfl, hsz, _⟩ := hv
  rw [hC] at hsz
  obtain ⟨l⟩ := cs
  match l, hsz with
  | [c0, c1], _ =>
    obtain ⟨fuel, hf⟩ := h
    obtain ⟨xs, m, _, hx, _, hl, hd⟩ := DataW.trod_array ht hf
    match xs, hl with
    | [y0, y1], _ =>
      have h0 := hd 0 (by omega)
      have h1 := hd 1 (by omega)
      simp [Value.cells, hE] at h0 h1
      obtain ⟨n0, e0, rfl, w0⟩ := DataW.trod_int he h0
      obtain ⟨n1, e1, rfl, w1⟩ := DataW.trod_int he h1
      simp at e0 e1
      subst e0 e1
      simp at hx
      exact ⟨n0, n1, rfl, hx.2, int_i64 w0, int_i64 w1⟩

theorem weights_mem_all {ds : List (DataW H)} {i : Nat} {x : DataW H} (h : ds[i]? = some x) {n : Nat} (hn : n ∈ x.weights P e) : n ∈ DataW.weightsAll P e ds := by
  induction ds generalizing i with
  | nil => simp at h
  | cons y ds ih =>
    rw [DataW.weightsAll, List.mem_append]
    cases i with
    | zero => simp at h; subst h; exact .inl hn
    | succ i => exact .inr (ih (i := i) (by simpa using h))

/-- The reach, at a slice of bytes in a field of a slice's element. -/
theorem reach_field {ts : List TypeId} {ds : List (DataW H)} (h : (DataW.weightsEach P ts ds).all (· ≤ reachBytes) = true) {j : Nat} (hj : ts[j]? = some t) {es sp : List (DataW H)} (hd : ds[j]? = some (.slice es sp)) (hu : P.underlying t = some (.slice e))
    {fs : Array Field} (he : P.underlying e = some (.struct fs)) {i : Nat} {parts : List (DataW H)} (hi : es[i]? = some (.agg parts)) {m : Nat} {tb eb : TypeId} (hm : (fs.toList.map (·.type))[m]? = some tb) {y : DataW H} (hy : parts[m]? = some y) (hb : P.underlying tb = some (.slice eb)) (hB : P.bytesOf eb = 1)
    {l : List UInt8} (hs : y = .nil ∧ l = [] ∨ ∃ el sp, y = .slice el sp ∧ el.length = l.length) : l.length ≤ 140737488351232 := by
  rcases hs with ⟨_, rfl⟩ | ⟨el, sp', rfl, hl⟩
  · simp
  · have h1 : (el.length + sp'.length) * P.bytesOf eb ∈ (DataW.slice el sp' : DataW H).weights P tb := by simp [DataW.weights, hb]
    have h2 : (el.length + sp'.length) * P.bytesOf eb ∈ (DataW.agg parts : DataW H).weights P e := by
      rw [DataW.weights, he]
      exact DataW.weights_mem_each hm hy _ h1
    have h3 : (el.length + sp'.length) * P.bytesOf eb ∈ (DataW.slice es sp : DataW H).weights P t := by
      rw [DataW.weights, hu]
      exact List.mem_cons_of_mem _ (List.mem_append_left _ (weights_mem_all hi h2))
    have := List.all_eq_true.1 h _ (DataW.weights_mem_each hj hd _ h3)
    rw [hB] at this
    simp [reachBytes] at this
    omega

/-- The reach, at a slice of bytes that is a slice's element. -/
theorem reach_elem {ts : List TypeId} {ds : List (DataW H)} (h : (DataW.weightsEach P ts ds).all (· ≤ reachBytes) = true) {j : Nat} (hj : ts[j]? = some t) {es sp : List (DataW H)} (hd : ds[j]? = some (.slice es sp)) (hu : P.underlying t = some (.slice e))
    {i : Nat} {y : DataW H} (hy : es[i]? = some y) {eb : TypeId} (hb : P.underlying e = some (.slice eb)) (hB : P.bytesOf eb = 1)
    {l : List UInt8} (hs : y = .nil ∧ l = [] ∨ ∃ el sp, y = .slice el sp ∧ el.length = l.length) : l.length ≤ 140737488351232 := by
  rcases hs with ⟨_, rfl⟩ | ⟨el, sp', rfl, hl⟩
  · simp
  · have h1 : (el.length + sp'.length) * P.bytesOf eb ∈ (DataW.slice el sp' : DataW H).weights P e := by simp [DataW.weights, hb]
    have h3 : (el.length + sp'.length) * P.bytesOf eb ∈ (DataW.slice es sp : DataW H).weights P t := by
      rw [DataW.weights, hu]
      exact List.mem_cons_of_mem _ (List.mem_append_left _ (weights_mem_all hy h1))
    have := List.all_eq_true.1 h _ (DataW.weights_mem_each hj hd _ h3)
    rw [hB] at this
    simp [reachBytes] at this
    omega

/-- A slice of slices of bytes, none of them beyond reach. -/
def RdT (w : World) (A : Option Addr) (L : List (List UInt8)) : Prop :=
  ∀ (i : Nat) (p : List UInt8), L[i]? = some p → ∃ a B c, A = some a ∧ w.cell? (a.add i) = some (.slice B p.length c) ∧ (B = none → c = 0) ∧ p.length ≤ 140737488351232 ∧ Rd g8 w B p

theorem open_bytessz {s : TypeId} (hs : P.underlying s = some (.slice t)) (hcs : P.cellsOf t = 1) (ht : P.underlying t = some (.slice e)) (he : P.underlying e = some (.int .u8)) (hc : P.cellsOf e = 1) (hB : P.bytesOf e = 1)
    {ts : List TypeId} {ds : List (DataW H)} (hz : (DataW.weightsEach P ts ds).all (· ≤ reachBytes) = true) {j : Nat} (hj : ts[j]? = some s) (hd : ds[j]? = some d)
    (hv : Value.okWide P w r b0 s v) {spare : Nat → Bool} {held : Bool} (h : DataW.Trod enc P w base spare held s v d p) :
    ∃ A L c, v = .slice A L.length c ∧ RdT w A L ∧ (A = none → c = 0) ∧ L.length ≤ c ∧ c ≤ 9223372036854775807 := by
  obtain ⟨a, n, k, rfl⟩ := Go.WideShapes.okWide_slice hs hv
  obtain ⟨fuel, hf⟩ := h
  rcases open_slice1 hs hcs hf with ⟨e1, _⟩ | ⟨a', len, cap, m, n', V, D, Pl, e1, _, hl, hm, hmm, hxd, hx⟩
  · simp [Value.cells] at e1
    obtain ⟨rfl, rfl, rfl⟩ := e1
    exact ⟨none, [], 0, rfl, fun i p hp => by simp at hp, fun _ => rfl, by simp, by omega⟩
  · simp [Value.cells] at e1
    obtain ⟨rfl, rfl, rfl⟩ := e1
    have hlm : n ≤ m := by rw [hmm]; split <;> omega
    have hdd : ds[j]? = some (.slice ((List.range n).map D) ((List.range (m - n)).map fun j => D (n + j))) := by rw [hd]; simpa using congrArg (fun z => some z.1) hxd
    obtain ⟨L, hL, hp⟩ := list_of n (fun i (l : List UInt8) => ∃ B c, w.cell? (a'.add i) = some (.slice B l.length c) ∧ (B = none → c = 0) ∧ l.length ≤ 140737488351232 ∧ Rd g8 w B l) (fun i hi => by
      obtain ⟨h1, h2⟩ := hx i (by omega)
      obtain ⟨B, l, c, e2, q1, q2, q3, q4, q5⟩ := bytes_of ht he hc h2
      simp at e2
      rw [e2] at h1
      exact ⟨l, B, c, h1, q2, reach_elem hz hj hdd hs (i := i) (y := D i) (by rw [List.getElem?_map, List.getElem?_range (by omega)]; rfl) ht hB q5, q1⟩)
    refine ⟨some a', L, k, by rw [hL], ?_, (by intro h; cases h), by rw [hL]; exact hl, hm⟩
    intro i p hpi
    obtain ⟨B, c, q1, q2, q3, q4⟩ := hp i p hpi
    exact ⟨a', B, c, rfl, q1, q2, q3, q4⟩
end

/-- An element's further cell, as the walk spells it. -/
theorem add_far (a : Addr) (m j : Nat) (hj : 0 < j) : a.add (m + j) = ⟨(a.add m).block, (a.add m).off + j, none⟩ := by
  unfold Addr.add
  rw [if_neg (by omega)]
  split
  · rename_i h; subst h; simp
  · simp; omega

end Go.Proofs.Yteoafaofiohefaa
