import Derived.Test.YteoafaofiohefaaNetX
import Derived.Test.YteoafaofiohefaaRefBurstN
import Derived.Lib.AppendZeros
namespace Go.Proofs.Yteoafaofiohefaa
open Go.RowKit

/-! The reference's net: an array of eight slices of items. -/

def arr8 (V : Nat → Value) : Array Value := #[V 0, V 1, V 2, V 3, V 4, V 5, V 6, V 7]

theorem arr8_set (V : Nat → Value) (k : Nat) (hk : k < 8) (v : Value) : (arr8 V).setIfInBounds k v = arr8 (upd V k v) := row8 V k hk v
theorem arr8_get (V : Nat → Value) (k : Nat) (hk : k < 8) : (arr8 V)[k]? = some (V k) := by
  obtain rfl | rfl | rfl | rfl | rfl | rfl | rfl | rfl : k = 0 ∨ k = 1 ∨ k = 2 ∨ k = 3 ∨ k = 4 ∨ k = 5 ∨ k = 6 ∨ k = 7 := by omega
  all_goals rfl

/-- A lane of the reference. -/
def RLane (w : World) (B : Nat) (v : Value) (L : List It) : Prop := w.ownsRow B 44 2 v L.length (lcells L)

/-- The lanes V read as I; none of their blocks is one of F's. -/
structure RefAt (B : Nat) (F : Nat → Prop) (w : World) (V : Nat → Value) (I : Nat → List It) : Prop where
  lane : ∀ k, k < 8 → RLane w B (V k) (I k)
  frame : ∀ k, k < 8 → ∀ x ∈ I k, Ow 5 g8 w B x.A x.l x.c
  many : ∀ k, k < 8 → (I k).length ≤ 200
  short : ∀ k, k < 8 → ∀ x ∈ I k, x.l.length ≤ 140737488355328
  laneF : ∀ k, k < 8 → ∀ b, (V k).ownBlock = some b → ¬ F b
  frameF : ∀ k, k < 8 → ∀ x ∈ I k, ∀ a, x.A = some a → ¬ F a.block

variable {w w' : World} {B : Nat} {F : Nat → Prop} {V : Nat → Value} {I : Nat → List It} {v : Value} {L : List It}

theorem RLane.nil : RLane w B (.slice none 0 0) [] := World.ownsRow_nil w B _ 2

theorem RLane.upto {K : Nat → Prop} (h : RLane w B v L) (u : Upto K w w') (hn : ∀ b, v.ownBlock = some b → ¬ K b) : RLane w' B v L := by
  refine ⟨h.1, ?_⟩
  rcases h.2 with hn0 | ⟨b, cap, cur, hv, hbg, hgg, rest⟩
  · exact .inl hn0
  · exact .inr ⟨b, cap, cur, hv, hbg, by rw [u.block b (Array.getElem?_eq_some_iff.1 hgg).1 (hn b (by rw [hv]; rfl))]; exact hgg, rest⟩

theorem RLane.typed (h : RLane w B v L) : ∀ b, v.ownBlock = some b → B ≤ b ∧ b < w.heap.size ∧ ∃ cur, w.heap[b]? = some (.cells cur 44 (0, 0)) := fun b e => by
  rcases h.2 with ⟨hn0, _⟩ | ⟨g, cap, cur, hv, hbg, hgg, rest⟩
  · rw [hn0] at e; cases e
  · rw [hv] at e; cases e
    exact ⟨hbg, (Array.getElem?_eq_some_iff.1 hgg).1, cur, hgg⟩

theorem RLane.slice (h : RLane w B v L) : ∃ A c, v = .slice A L.length c ∧ (A = none → c = 0) ∧ L.length ≤ c := by
  rcases h.2 with ⟨e, hn⟩ | ⟨b, cap, cur, e, _, _, hc, _⟩
  · exact ⟨none, 0, by rw [e, hn], fun _ => rfl, by omega⟩
  · exact ⟨_, _, e, (by intro h; cases h), hc⟩

theorem RefAt.upto {K : Nat → Prop} (h : RefAt B F w V I) (u : Upto K w w') (hl : ∀ k, k < 8 → ∀ b, (V k).ownBlock = some b → ¬ K b) (hf : ∀ k, k < 8 → ∀ x ∈ I k, ∀ a, x.A = some a → ¬ K a.block) : RefAt B F w' V I :=
  ⟨fun k hk => (h.lane k hk).upto u (hl k hk), fun k hk x hx => (h.frame k hk x hx).upto u (hf k hk x hx), h.many, h.short, h.laneF, h.frameF⟩

theorem RefAt.below (h : RefAt B F w V I) (u : Below w.heap.size w w') : RefAt B F w' V I :=
  h.upto (K := fun _ => False) (Upto.of_below u) (fun _ _ _ _ e => e) (fun _ _ _ _ _ _ e => e)

theorem RefAt.stp {C : Nat} (h : RefAt B F w V I) (u : Stp C w w') : RefAt B F w' V I :=
  h.upto u (fun k hk b e hK => by
    obtain ⟨-, cur, T, hc, hT⟩ := hK
    obtain ⟨-, -, cur2, hc2⟩ := (h.lane k hk).typed b e
    rw [hc2] at hc
    injection hc with hc; injection hc with _ e1 _
    rcases hT with e2 | e2 <;> exact absurd (e1.trans e2) (by decide)) (fun k hk x hx a e hK => by
    obtain ⟨-, cur, T, hc, hT⟩ := hK
    obtain ⟨cur2, hc2⟩ := (h.frame k hk x hx).typed a e
    rw [hc2] at hc
    injection hc with hc; injection hc with _ e1 _
    rcases hT with e2 | e2 <;> exact absurd (e1.trans e2) (by decide))

/-- All of it lies among the blocks that there are: so a later block may be written. -/
theorem RefAt.later (h : RefAt B F w V I) (G : Nat → Prop) (hG : ∀ b, G b → w.heap.size ≤ b) : RefAt B G w V I :=
  ⟨h.lane, h.frame, h.many, h.short, fun k hk b e g => by have := ((h.lane k hk).typed b e).2.1; have := hG b g; omega,
    fun k hk x hx a e g => by have := ((h.frame k hk x hx).lt a e).2.1; have := hG _ g; omega⟩

/-- Lane k is another. -/
theorem RefAt.upd (h : RefAt B F w V I) {k : Nat} {N : Value} (hN : RLane w B N L) (hf : ∀ x ∈ L, Ow 5 g8 w B x.A x.l x.c ∧ x.l.length ≤ 140737488355328 ∧ ∀ a, x.A = some a → ¬ F a.block) (hm : L.length ≤ 200) (hNF : ∀ b, N.ownBlock = some b → ¬ F b) :
    RefAt B F w (upd V k N) (upd I k L) := by
  refine ⟨?_, ?_, ?_, ?_, ?_, ?_⟩ <;> intro j hj <;> by_cases e : j = k
  · subst e; rw [upd_same, upd_same]; exact hN
  · rw [upd_ne _ _ _ e, upd_ne _ _ _ e]; exact h.lane j hj
  · subst e; rw [upd_same]; exact fun x hx => (hf x hx).1
  · rw [upd_ne _ _ _ e]; exact h.frame j hj
  · subst e; rw [upd_same]; exact hm
  · rw [upd_ne _ _ _ e]; exact h.many j hj
  · subst e; rw [upd_same]; exact fun x hx => (hf x hx).2.1
  · rw [upd_ne _ _ _ e]; exact h.short j hj
  · subst e; rw [upd_same]; exact hNF
  · rw [upd_ne _ _ _ e]; exact h.laneF j hj
  · subst e; rw [upd_same]; exact fun x hx => (hf x hx).2.2
  · rw [upd_ne _ _ _ e]; exact h.frameF j hj

/-- A slice of items, read. -/
def RdI (w : World) (X : Option Addr) (L : List It) : Prop := ∀ j u, (lcells L)[j]? = some u → ∃ a, X = some a ∧ w.cell? (a.add j) = some u

theorem RdI.below {X : Option Addr} (h : RdI w X L) (hb : Below w.heap.size w w') : RdI w' X L := fun j u hu => by
  obtain ⟨a, e, hc⟩ := h j u hu
  exact ⟨a, e, (hb.cell (World.block_lt_of_cell? w _ hc)).trans hc⟩

theorem RLane.rd {A : Option Addr} {c : Nat} (h : RLane w B (.slice A L.length c) L) : RdI w A L := fun j u hu => by
  rcases h.2 with ⟨e, hn⟩ | ⟨b, cap, cur, e, _⟩
  · have : L = [] := List.eq_nil_of_length_eq_zero hn
    subst this; simp [lcells] at hu
  · injection e with e1 _ _
    subst e1
    exact ⟨_, rfl, World.ownsRow.cells h rfl j u hu⟩

theorem RdI.take {X : Option Addr} (h : RdI w X L) (n : Nat) : RdI w X (L.take n) := fun j u hu => by
  rw [← lcells_take, List.getElem?_take] at hu
  split at hu
  · exact h j u hu
  · cases hu

theorem RdI.drop {a : Addr} (h : RdI w (some a) L) (n : Nat) : RdI w (some (a.add (n * 2))) (L.drop n) := fun j u hu => by
  rw [← lcells_drop, List.getElem?_drop] at hu
  obtain ⟨b, e, hc⟩ := h _ u hu
  cases e
  exact ⟨_, rfl, by rw [Go.Proofs.Yteoafaofiohefaa.add_add]; exact hc⟩

theorem infoR : (Try.prog.info? 44).map (fun i => (i.zero, i.size, i.bytes)) = some (some (.agg #[.slice none 0 0, .bool false]), 2, 32) := by kernel_rfl

theorem oneR : ∀ (L : List It), ∀ u ∈ lcells L, u.oneCell' = true := fun L u hu => by
  obtain ⟨x, _, hx⟩ := List.mem_flatMap.1 hu
  exact one_it _ _ _ _ u hx

/-- 'append(x, y...)' of items, x the call's own, y whatever: its run. -/
theorem run_app_it {ty : TypeId} {A : Option Addr} {c : Nat} (l1 l2 : List It) (hown : RLane w B (.slice A l1.length c) l1) (X : Option Addr) (cx : Nat) (hX : RdI w X l2) (hn : X = none → l2.length = 0 ∧ cx = 0) (hlen : l1.length + l2.length ≤ 1000000) (hbase : B ≤ w.heap.size) :
    ∃ A' c' w1, (Builtin.append_ #[35, 35] ty #[.slice A l1.length c, .slice X l2.length cx]).run Try.prog w = .ok (.slice A' (l1.length + l2.length) c') w1 ∧ RLane w1 B (.slice A' (l1.length + l2.length) c') (l1 ++ l2) ∧ w.grownBy w1 (Value.slice A l1.length c).ownBlock := by
  obtain ⟨i0, hi, hz0, hz1, hz2⟩ := info_parts infoR
  cases X with
  | none =>
    obtain ⟨h1, rfl⟩ := hn rfl
    have : l2 = [] := List.eq_nil_of_length_eq_zero h1
    subst this
    exact ⟨A, c, w, run_append_owned_none w B _ ty 44 i0 2 Try.underlying35 hi _ _ _ hown, by simpa using hown, ⟨rfl, rfl, rfl, Nat.le_refl _, fun _ _ _ => rfl⟩⟩
  | some ad =>
    obtain ⟨v', w1, hr, ho', hg', _⟩ := run_append_own (P := Try.prog) w B 35 ty 44 i0 _ 2 32 Try.underlying35 hi hz0 hz1 hz2 rfl (by decide) _ _ _ hown ad l2.length cx (lcells l2) (lcells_length l2)
      (fun j u hu => by obtain ⟨a, e, hc⟩ := hX j u hu; cases e; exact hc) (oneR l2) (by simp only [maxLen]; omega) (by omega) hbase
    obtain ⟨A', c', rfl⟩ : ∃ A' c', v' = .slice A' (l1.length + l2.length) c' := by
      rcases ho'.2 with ⟨e, hn⟩ | ⟨b, cap, cur, e, _⟩
      · exact ⟨none, 0, by rw [e, hn]⟩
      · exact ⟨_, _, e⟩
    refine ⟨A', c', w1, hr, ?_, hg'⟩
    unfold RLane
    rw [lcells_append, List.length_append]
    exact ho'

/-- 'append(x, y...)' of items. -/
theorem app_it {ops : Array Oper} {rest : List Oper} {o : Oper} {a : Act} {Q : Exit → Act → World → Prop} (hgd : o.guard = none) (s x : Operand)
    (ho : o.op = .call { callee := .builtin .append, args := #[s, x], argTypes := #[35, 35] })
    {A : Option Addr} {c : Nat} (l1 l2 : List It) (n1 n2 : Nat) (hown : RLane w B (.slice A n1 c) l1) (hn1 : l1.length = n1) (hn2 : l2.length = n2) (hs : a.eval s = .slice A n1 c) (X : Option Addr) (cx : Nat) (hX : RdI w X l2) (hx : a.eval x = .slice X n2 cx) (hn : X = none → n2 = 0 ∧ cx = 0)
    (hlen : n1 + n2 ≤ 1000000) (hbase : B ≤ w.heap.size)
    (h : ∀ A' c' w1, RLane w1 B (.slice A' (n1 + n2) c') (l1 ++ l2) → w.grownBy w1 (Value.slice A n1 c).ownBlock → wpList Try.prog ops Q rest (a.put o.dst (.slice A' (n1 + n2) c')) w1) : wpList Try.prog ops Q (o :: rest) a w := by
  subst hn1 hn2
  obtain ⟨A', c', w1, hr, h1, h2⟩ := run_app_it (ty := o.type) l1 l2 hown X cx hX hn hlen hbase
  exact Lib.wpList_append_run w hgd s x _ _ ho _ _ hs hx _ _ hr (h A' c' w1 h1 h2)

/-- 'append([]Item{}, y...)'. -/
theorem copy_it {ops : Array Oper} {rest : List Oper} {o : Oper} {a : Act} {Q : Exit → Act → World → Prop} (hgd : o.guard = none) (s x : Operand)
    (ho : o.op = .call { callee := .builtin .append, args := #[s, x], argTypes := #[35, 35] })
    (b : Nat) (hb0 : w.heap.size = b) (l : List It) (n : Nat) (hnl : l.length = n) (X : Option Addr) (cx : Nat) (hX : RdI w X l) (hs : a.eval s = .slice (some ⟨b, 0, none⟩) 0 0) (hx : a.eval x = .slice X n cx) (hn : X = none → n = 0 ∧ cx = 0)
    (hlen : n ≤ 1000000)
    (h : ∀ A' c' w1, RLane w1 w.heap.size (.slice A' n c') l → Below w.heap.size w w1 → wpList Try.prog ops Q rest (a.put o.dst (.slice A' n c')) w1) : wpList Try.prog ops Q (o :: rest) a (w.alloc (.cells #[] 44)) := by
  subst hb0
  have hown : RLane (w.alloc (.cells #[] 44)) w.heap.size (.slice (some ⟨w.heap.size, 0, none⟩) ([] : List It).length 0) [] := World.ownsRow_made w #[] 0 (Nat.le_refl _) (by simp [maxLen]) rfl
  refine app_it hgd s x ho [] l 0 n hown rfl hnl hs X cx (hX.below ((Below.refl _ _).alloc (Nat.le_refl _) _)) hx hn (by omega) (by simp) ?_
  intro A' c' w1 h1 h2
  have h3 := h A' c' w1 (by simpa using h1) (((Below.refl _ _).alloc (Nat.le_refl _) _).grown h2 (by simp) (fun k hk => by cases hk; exact Nat.le_refl _))
  simpa using h3

/-- 'append(x, y...)' of items, as a step of a region that draws its order. -/
theorem step_app_it {ops : Array Oper} {o : Oper} {a : Act} {K : Act → World → Prop} {Q : Exit → Act → World → Prop} {G : Prop}
    (hw : Region.wanted o (yielded ops a.tmps) = true) (s x : Operand)
    (ho : o.op = .call { callee := .builtin .append, args := #[s, x], argTypes := #[35, 35] })
    {A : Option Addr} {c : Nat} (l1 l2 : List It) (n1 n2 : Nat) (hown : RLane w B (.slice A n1 c) l1) (hn1 : l1.length = n1) (hn2 : l2.length = n2) (hs : a.eval s = .slice A n1 c) (X : Option Addr) (cx : Nat) (hX : RdI w X l2) (hx : a.eval x = .slice X n2 cx) (hn : X = none → n2 = 0 ∧ cx = 0)
    (hlen : n1 + n2 ≤ 1000000) (hbase : B ≤ w.heap.size)
    (h : ∀ A' c' w1, RLane w1 B (.slice A' (n1 + n2) c') (l1 ++ l2) → w.grownBy w1 (Value.slice A n1 c).ownBlock → K (a.put o.dst (.slice A' (n1 + n2) c')) w1) :
    if Region.wanted o (yielded ops a.tmps) = true then Oper.wp Try.prog o a w K Q else G := by
  subst hn1 hn2
  rw [if_pos hw]
  obtain ⟨A', c', w1, hr, h1, h2⟩ := run_app_it (ty := o.type) l1 l2 hown X cx hX hn hlen hbase
  unfold Oper.wp
  simp [execOp, ho, resolve, invoke, builtin, hs, hx, hr, Result.andThen]
  exact h A' c' w1 h1 h2

theorem RLane.below (h : RLane w B v L) (hb : Below w.heap.size w w') : RLane w' B v L := h.upto (K := fun _ => False) (Upto.of_below hb) (fun _ _ e => e)

theorem RLane.low (h : RLane w B v L) {B' : Nat} (hB : B' ≤ B) : RLane w B' v L := by
  refine ⟨h.1, ?_⟩
  rcases h.2 with hn | ⟨b, cap, cur, hv, hbg, rest⟩
  · exact .inl hn
  · exact .inr ⟨b, cap, cur, hv, by omega, rest⟩

/-- A new item. -/
theorem RdI.one (w : World) (x : It) : RdI (w.alloc (.cells #[.slice x.A x.l.length x.c, .bool x.s] 44)) (some ⟨w.heap.size, 0, none⟩) [x] := fun j u hu => by
  have hj : j < 2 := by
    have := (List.getElem?_eq_some_iff.1 hu).1
    rw [lcells_length] at this; simpa using this
  obtain ⟨x0, x1, -⟩ := row2 (heap_alloc_new w (.cells #[.slice x.A x.l.length x.c, .bool x.s] 44))
  refine ⟨_, rfl, ?_⟩
  rw [Addr.add_lit, Nat.zero_add]
  obtain rfl | rfl : j = 0 ∨ j = 1 := by omega
  · rw [x0]; simpa [lcells, It.cells] using hu
  · rw [x1]; simpa [lcells, It.cells] using hu

end Go.Proofs.Yteoafaofiohefaa
