import Derived.Test.YteoafaofiohefaaOpen20
namespace Go.Proofs.Yteoafaofiohefaa
open Go.RowKit Go.Deep Go.ChangeShapes

/-- Something done with a net. -/
structure Ac where
  kd : Int
  ln : Int
  n : Int
  at_ : Int
  m : Nat
  p : List UInt8

def AcAt (w : World) (a : Addr) (i : Nat) (x : Ac) (B : Option Addr) (c : Nat) : Prop :=
  w.cell? (a.add (i * 6)) = some (.int .i64 x.kd) ∧ w.cell? (a.add (i * 6 + 1)) = some (.int .i64 x.ln) ∧ w.cell? (a.add (i * 6 + 2)) = some (.int .i64 x.n) ∧ w.cell? (a.add (i * 6 + 3)) = some (.int .i64 x.at_) ∧
    w.cell? (a.add (i * 6 + 4)) = some (.int .u16 x.m) ∧ w.cell? (a.add (i * 6 + 5)) = some (.slice B x.p.length c)

def AcOk (w : World) (x : Ac) (B : Option Addr) (c : Nat) : Prop := (B = none → c = 0) ∧ x.p.length ≤ 140737488351232 ∧ Rd g8 w B x.p ∧ (-9223372036854775808 ≤ x.at_ ∧ x.at_ ≤ 9223372036854775807) ∧ x.m < 65536

def RdN (w : World) (A : Option Addr) (L : List Ac) : Prop := ∀ (i : Nat) (x : Ac), L[i]? = some x → ∃ a B c, A = some a ∧ AcAt w a i x B c ∧ AcOk w x B c

section
variable {H : Type} {enc : TypeId × Value → H} {P : Program} {w : World} {base b0 : Nat} {t e : TypeId} {v : Value} {d : DataW H} {p : List MemPlace} {r : Reach}

theorem open_acts20 {spare : Nat → Bool} {held : Bool} {f0 f1 f2 f3 f4 f5 : Field} {ti ei : TypeId} (ht : P.underlying t = some (.slice e)) (hE : P.underlying e = some (.struct #[f0, f1, f2, f3, f4, f5])) (hC : P.cellsOf e = 6)
    (o0 : f0.offset = 0) (o1 : f1.offset = 1) (o2 : f2.offset = 2) (o3 : f3.offset = 3) (o4 : f4.offset = 4) (o5 : f5.offset = 5)
    (t0 : P.underlying f0.type = some (.int .i64)) (t1 : P.underlying f1.type = some (.int .i64)) (t2 : P.underlying f2.type = some (.int .i64)) (t3 : P.underlying f3.type = some (.int .i64)) (t4 : P.underlying f4.type = some (.int .u16)) (hti : f5.type = ti) (t5 : P.underlying ti = some (.slice ei)) (t6 : P.underlying ei = some (.int .u8))
    (c0 : P.cellsOf f0.type = 1) (c1 : P.cellsOf f1.type = 1) (c2 : P.cellsOf f2.type = 1) (c3 : P.cellsOf f3.type = 1) (c4 : P.cellsOf f4.type = 1) (c5 : P.cellsOf ti = 1) (c6 : P.cellsOf ei = 1) (hB : P.bytesOf ei = 1)
    {ts : List TypeId} {ds : List (DataW H)} (hz : (DataW.weightsEach P ts ds).all (· ≤ reachBytes) = true) {j : Nat} (hj : ts[j]? = some t) (hd : ds[j]? = some d)
    (hv : Value.okWide P w r b0 t v) (h : DataW.Trod enc P w base spare held t v d p) :
    ∃ A L c, v = .slice A L.length c ∧ RdN w A L ∧ (A = none → c = 0) ∧ L.length ≤ c ∧ c ≤ 9223372036854775807 := by
  subst hti
  obtain ⟨a, n, k, rfl⟩ := Go.WideShapes.okWide_slice ht hv
  obtain ⟨fuel, hf⟩ := h
  rcases open_slice ht hf with ⟨e1, _⟩ | ⟨a', len, cap, m, n', D, Pl, e1, _, hl, hm, hmm, hx, hi⟩
  · simp [Value.cells] at e1
    obtain ⟨rfl, rfl, rfl⟩ := e1
    exact ⟨none, [], 0, rfl, fun i p hp => by simp at hp, fun _ => rfl, by simp, by omega⟩
  · simp [Value.cells] at e1
    obtain ⟨rfl, rfl, rfl⟩ := e1
    have hlm : n ≤ m := by rw [hmm]; split <;> omega
    rw [hC] at hi
    have hdd : ds[j]? = some (.slice ((List.range n).map D) ((List.range (m - n)).map fun j => D (n + j))) := by rw [hd]; simpa using congrArg (fun z => some z.1) hx
    obtain ⟨L, hL, hp⟩ := list_of n (fun i (x : Ac) => ∃ B c, AcAt w a' i x B c ∧ AcOk w x B c) (fun i hin => by
      obtain ⟨cs', h1, h2⟩ := hi i (by omega)
      obtain ⟨_, hlen, hcell⟩ := World.cells?_some h1
      obtain ⟨xs, k', hk, hxy, _, hxl, hff⟩ := DataW.trod_struct hE h2
      match xs, hxl, cs', hlen with
      | [y0, y1, y2, y3, y4, y5], _, [v0, v1, v2, v3, v4, v5], _ =>
        have q0 := hff 0 f0 rfl
        have q1 := hff 1 f1 rfl
        have q2 := hff 2 f2 rfl
        have q3 := hff 3 f3 rfl
        have q4 := hff 4 f4 rfl
        have q5 := hff 5 f5 rfl
        simp [o0, o1, o2, o3, o4, o5, c0, c1, c2, c3, c4, c5] at q0 q1 q2 q3 q4 q5
        have k0 := hcell 0 (by omega)
        have k1 := hcell 1 (by omega)
        have k2 := hcell 2 (by omega)
        have k3 := hcell 3 (by omega)
        have k4 := hcell 4 (by omega)
        have k5 := hcell 5 (by omega)
        rw [Go.Deep.add_add] at k0 k1 k2 k3 k4 k5
        obtain ⟨n0, z0, _, w0⟩ := DataW.trod_int t0 q0
        obtain ⟨n1, z1, _, w1⟩ := DataW.trod_int t1 q1
        obtain ⟨n2, z2, _, w2⟩ := DataW.trod_int t2 q2
        obtain ⟨n3, z3, _, w3⟩ := DataW.trod_int t3 q3
        obtain ⟨n4, z4, _, w4⟩ := DataW.trod_int t4 q4
        obtain ⟨m4, rfl, hm4⟩ := nat_u16 w4
        obtain ⟨B, l, cb, z5, s1, s2, s3, s4, s5⟩ := bytes_of t5 t6 c6 q5
        simp at z0 z1 z2 z3 z4 z5
        subst z0 z1 z2 z3 z4 z5
        simp only [Prod.mk.injEq] at hxy
        have hlb : l.length ≤ 140737488351232 := reach_field hz hj hdd ht hE (i := i) (parts := [y0.1, y1.1, y2.1, y3.1, y4.1, y5.1]) (by
          rw [List.getElem?_map, List.getElem?_range (by omega)]
          simpa using hxy.1) (m := 5) rfl rfl t5 hB s5
        exact ⟨⟨n0, n1, n2, n3, m4, l⟩, B, cb, ⟨by simpa using k0, by simpa using k1, by simpa using k2, by simpa using k3, by simpa using k4, by simpa using k5⟩, s2, hlb, s1, int_i64 w3, hm4⟩)
    refine ⟨some a', L, k, by rw [hL], ?_, (by intro h; cases h), by rw [hL]; exact hl, hm⟩
    intro i p hpi
    obtain ⟨B, c, q⟩ := hp i p hpi
    exact ⟨a', B, c, rfl, q⟩
end

/-- An act's cells, as the walk spells them. -/
theorem AcAt.far {w w' : World} {a : Addr} {i : Nat} {x : Ac} {B : Option Addr} {c : Nat} (h : AcAt w a i x B c) (hb : Below w.heap.size w w') :
    w'.cell? (a.add (i * 6)) = some (.int .i64 x.kd) ∧ w'.cell? ⟨(a.add (i * 6)).block, (a.add (i * 6)).off + 1, none⟩ = some (.int .i64 x.ln) ∧ w'.cell? ⟨(a.add (i * 6)).block, (a.add (i * 6)).off + 2, none⟩ = some (.int .i64 x.n) ∧
      w'.cell? ⟨(a.add (i * 6)).block, (a.add (i * 6)).off + 3, none⟩ = some (.int .i64 x.at_) ∧ w'.cell? ⟨(a.add (i * 6)).block, (a.add (i * 6)).off + 4, none⟩ = some (.int .u16 x.m) ∧ w'.cell? ⟨(a.add (i * 6)).block, (a.add (i * 6)).off + 5, none⟩ = some (.slice B x.p.length c) := by
  have far := fun {p : Addr} {v : Value} (hc : w.cell? p = some v) => (hb.cell (World.block_lt_of_cell? w _ hc)).trans hc
  obtain ⟨h0, h1, h2, h3, h4, h5⟩ := h
  rw [← add_far a _ 1 (by omega), ← add_far a _ 2 (by omega), ← add_far a _ 3 (by omega), ← add_far a _ 4 (by omega), ← add_far a _ 5 (by omega)]
  exact ⟨far h0, far h1, far h2, far h3, far h4, far h5⟩

end Go.Proofs.Yteoafaofiohefaa
