import Derived.Test.YteabhokkiggcjaaTape
namespace Go.Proofs.Yteabhokkiggcjaa
open Go.RowKit

theorem quiet_sub {P : Program} {f : FuncId} {args : Array Value} {w : World} {n : Nat} {v : Value}
    (h : Calls P f args (w.drewN n) fun e w' => e = .returned v ∧ ∃ m, w' = (w.drewN n).drewN m) : Calls P f args (w.drewN n) fun e w'' => e = .returned v ∧ ∃ m, w'' = w.drewN m :=
  h.mono fun _ _ ⟨he, m, hm⟩ => ⟨he, n + m, by rw [hm, World.drewN_drewN]⟩

theorem TapeAt.drewN {w : World} {B t : Nat} {f l : List UInt8} {r : Nat} {fb lb : Option Nat} (h : TapeAt w B t f l r fb lb) (n : Nat) : TapeAt (w.drewN n) B t f l r fb lb := h.below (below_drewN (Below.refl _ _) n)

/-- Where an append's slice lies: where it lay, or in a new block. -/
def Lies (A' : Option Addr) (o : Option Nat) (n : Nat) : Prop := A'.map (·.block) = o ∨ A'.map (·.block) = some n

/-- 'append(x, y...)' of bytes: and where the new slice lies. -/
theorem app8_at {w : World} {B : Nat} {A : Option Addr} {c : Nat} {ops : Array Oper} {rest : List Oper} {o : Oper} {a : Act} {Q : Exit → Act → World → Prop} (hgd : o.guard = none) (s x : Operand)
    (ho : o.op = .call { callee := .builtin .append, args := #[s, x], argTypes := #[27, 27] })
    (l1 l2 : List UInt8) (hown : Ow 5 g8 w B A l1 c) (hs : a.eval s = .slice A l1.length c) (X : Option Addr) (cx : Nat) (hX : Rd g8 w X l2) (hx : a.eval x = .slice X l2.length cx) (hn : X = none → cx = 0)
    (hlen : l1.length + l2.length ≤ 140737488355328) (hbase : B ≤ w.heap.size)
    (h : ∀ A' c' w1, Ow 5 g8 w1 B A' (l1 ++ l2) c' → w.grownBy w1 (A.map (·.block)) → Lies A' (A.map (·.block)) w.heap.size → wpList Try.prog ops Q rest (a.put o.dst (.slice A' (l1.length + l2.length) c')) w1) : wpList Try.prog ops Q (o :: rest) a w := by
  obtain ⟨i0, hi, hz0, hz1, hz2⟩ := info_parts info8
  have hob : ∀ (A : Option Addr) n c, (Value.slice A n c).ownBlock = A.map (·.block) := fun A n c => by cases A <;> rfl
  cases X with
  | none =>
    have hl2 := hX.empty
    subst hl2
    rw [hn rfl] at hx
    refine Lib.wpList_append_run w hgd s x _ _ ho _ _ hs hx _ _ (run_append_owned_none w B 27 _ 5 i0 1 Try.underlying27 hi _ _ _ hown) ?_
    have := h A c w (by simpa using hown) ⟨rfl, rfl, rfl, Nat.le_refl _, fun _ _ _ => rfl⟩ (.inl rfl)
    simpa using this
  | some ad =>
    obtain ⟨v', w1, hr, ho', hg', _, h5⟩ := run_append_own_at (P := Try.prog) w B 27 o.type 5 i0 (.int .u8 0) 1 1 Try.underlying27 hi hz0 hz1 hz2 rfl (by decide) _ _ _ hown ad l2.length cx (l2.map g8) (by simp) hX.cells (by simpa using fun y _ => one8 y) (by simp only [maxLen]; omega) (by omega) hbase
    obtain ⟨A', c', rfl⟩ := ownsRow_slice ho'
    refine Lib.wpList_append_run w hgd s x _ _ ho _ _ hs hx _ _ hr ?_
    rw [hob, hob] at h5
    rw [hob] at hg'
    have e : l1.length + l2.length = (l1 ++ l2).length := by simp
    rw [e, ← List.map_append] at ho'
    exact h A' c' w1 ho' hg' h5

/-- Behind an append to the second slice and its store. -/
theorem TapeAt.appended {w w1 : World} {B t : Nat} {f l b : List UInt8} {r : Nat} {fb lb : Option Nat} (h : TapeAt w B t f l r fb lb) {A' : Option Addr} {n c' : Nat} (ho : Ow 5 g8 w1 B A' (l ++ b) c') (hg : w.grownBy w1 lb)
    (ha : Lies A' lb w.heap.size) (hn : l.length + b.length = n) (hm : f.length + l.length + b.length ≤ 20000) :
    TapeAt (w1.setCell ⟨t, 1, none⟩ (.slice A' n c')) B t f (l ++ b) r fb (A'.map (·.block)) ∧ Next w lb (A'.map (·.block)) ∧ Upto (Own t lb) w (w1.setCell ⟨t, 1, none⟩ (.slice A' n c')) := by
  subst hn
  obtain ⟨Af, cf, Al, cl, hc, h1, h2, e1, e2⟩ := h.cells
  have hlt := h.lt
  have hfl := h.fb_lt
  have hat : A'.map (·.block) ≠ some t := by
    intro e
    rcases ha with e3 | e3
    · exact h.lb_t (e3 ▸ e)
    · rw [e3] at e; injection e with e; omega
  have haf : ∀ b, fb = some b → A'.map (·.block) ≠ some b := by
    intro b0 e4 e
    rcases ha with e3 | e3
    · exact h.apart b0 e4 (e3 ▸ e)
    · rw [e3] at e; injection e with e; have := (hfl b0 e4).2; omega
  have hc1 := (hg.block t hlt (fun e => h.lb_t e.symm)).trans hc
  have u0 : Upto (fun k => lb = some k) w w1 := (Upto.refl _ w).grown hg (fun k e _ => e)
  have u := (Upto.refl (fun k => k = t) w1).setCell (p := ⟨t, 1, none⟩) rfl (.slice A' (l.length + b.length) c')
  refine ⟨⟨⟨Af, cf, A', c', by simpa using row_set hc1 1 (.slice A' (l.length + b.length) c'), (h1.upto u0 (fun a e e3 => ?_)).upto u (fun a e e3 => ?_), ho.upto u (fun a e e3 => ?_), e1, rfl⟩, h.base, h.fb_t, hat, haf, h.room, by simp; omega⟩, ?_, ?_⟩
  · exact h.apart a.block (by rw [e1, e]; rfl) e3
  · exact h.fb_t (by rw [e1, e]; exact congrArg some e3)
  · exact hat (by rw [e]; exact congrArg some e3)
  · rcases ha with e | e
    · exact .inl e
    · exact .inr fun b0 e3 => by rw [e] at e3; injection e3 with e3; omega
  · exact (u0.mono (K' := Own t lb) (fun k _ e => .inr e)).setCell (.inl rfl) _

set_option maxHeartbeats 2000000 in
theorem append_full (t : Nat) (w : World) (B : Nat) (f l : List UInt8) (r : Nat) (fb lb : Option Nat) (h : TapeAt w B t f l r fb lb) (X : Option Addr) (b : List UInt8) (cx : Nat) (hX : Rd g8 w X b) (hn : X = none → cx = 0) (hb : b.length ≤ 140737488351232) (hfull : r - (f.length + l.length) < b.length) :
    Calls Try.prog 10 #[.pointer (some ⟨t, 0, none⟩), .slice X b.length cx] w fun e w' => e = .returned (.int .i64 61) ∧ ∃ n, w' = w.drewN n := by
  obtain ⟨Af, cf, Al, cl, hc, hf, hl, -, e2⟩ := h.cells
  have h1 := cell_of_row w t 1 _ _ _ hc
  have h2 := cell_of_row w t 2 _ _ _ hc
  have z1 := row_thawed hc 1
  simp at h1 h2
  have hm := h.many
  have hr := h.room
  have hsub : IntKind.i64.wrap ((r : Int) - ((f.length + l.length : Nat) : Int)) = (r : Int) - ((f.length + l.length : Nat) : Int) := by rw [IntKind.wrap_i64]; omega
  have hmc := fun n => quiet_sub (many_c t (w.drewN n) B f l r fb lb (h.drewN n))
  have HL := Lib.hid hl
  have HM := Lib.hid hm
  have HT := Lib.hid h
  have HC := Lib.hid hc
  have HX := Lib.hid hX
  have HN := Lib.hid hn
  have HR := Lib.hid hr
  have E2 := Lib.hid e2
  clear hc h hl e2 hX hn hf hm hr
  generalize hs : f.length + l.length = s at *
  have HMC := Lib.hid hmc
  clear hmc
  go_enter Try.func10, Try.ntmps10
  go_wp2_with fail
  go_quiet ((first | (go_at_call 25; exact HMC.out _)))
  go_wp2_with fail
  all_goals
    go_ret
    exact ⟨rfl, _, rfl⟩

set_option maxHeartbeats 2000000 in
theorem append_ok (t : Nat) (w : World) (B : Nat) (f l : List UInt8) (r : Nat) (fb lb : Option Nat) (h : TapeAt w B t f l r fb lb) (X : Option Addr) (b : List UInt8) (cx : Nat) (hX : Rd g8 w X b) (hn : X = none → cx = 0) (hb : b.length ≤ 140737488351232) (hfit : b.length ≤ r - (f.length + l.length)) :
    Calls Try.prog 10 #[.pointer (some ⟨t, 0, none⟩), .slice X b.length cx] w fun e w' => e = .returned (.int .i64 0) ∧ ∃ lb', TapeAt w' B t f (l ++ b) r fb lb' ∧ Next w lb lb' ∧ Upto (Own t lb) w w' := by
  obtain ⟨Af, cf, Al, cl, hc, hf, hl, -, e2⟩ := h.cells
  have h1 := cell_of_row w t 1 _ _ _ hc
  have h2 := cell_of_row w t 2 _ _ _ hc
  have z1 := row_thawed hc 1
  simp at h1 h2
  have hm := h.many
  have hr := h.room
  have hsub : IntKind.i64.wrap ((r : Int) - ((f.length + l.length : Nat) : Int)) = (r : Int) - ((f.length + l.length : Nat) : Int) := by rw [IntKind.wrap_i64]; omega
  have hmc := fun n => quiet_sub (many_c t (w.drewN n) B f l r fb lb (h.drewN n))
  have HL := Lib.hid hl
  have HM := Lib.hid hm
  have HT := Lib.hid h
  have HC := Lib.hid hc
  have HX := Lib.hid hX
  have HN := Lib.hid hn
  have HR := Lib.hid hr
  have E2 := Lib.hid e2
  clear hc h hl e2 hX hn hf hm hr
  generalize hs : f.length + l.length = s at *
  have HMC := Lib.hid hmc
  clear hmc
  have HF := Lib.hid hs
  clear hs
  go_enter Try.func10, Try.ntmps10
  go_wp2_with fail
  go_quiet ((first | (go_at_call 25; exact HMC.out _)))
  have HL2 := Lib.hid (HL.out.drewN nq)
  have HX2 := Lib.hid (HX.out.drewN nq)
  have HT2 := Lib.hid (HT.out.drewN nq)
  have HC2 : Hid ((w.drewN nq).heap[t]? = _) := HC
  have HBE : Hid (B ≤ (w.drewN nq).heap.size) := by have := HT2.out.lt; have := HT2.out.base; unfold Hid; omega
  go_wp2_with (at_builtin; refine app8_at rfl _ _ rfl _ _ HL2.out rfl _ _ HX2.out rfl HN.out (by have := HM.out; have := HR.out; have := HF.out; omega) HBE.out ?_)
  all_goals
    intro A' c' w1 ho1 hg1 ha1
    rw [← E2.out] at hg1 ha1
    have hap := fun n hn => HT2.out.appended (n := n) ho1 hg1 ha1 hn (by have := HF.out; have := HR.out; have := HM.out; omega)
    have HAP := Lib.hid hap
    have hc1 := (hg1.block t HT2.out.lt (fun e => HT2.out.lb_t e.symm)).trans HC2.out
    have k1 := cell_of_row w1 t 1 _ _ _ hc1
    have y1 := row_thawed hc1 1
    simp at k1
    clear hap hc1 ho1 hg1 ha1
    go_wp2_with fail
    go_ret
    obtain ⟨q1, q2, q3⟩ := HAP.out _ rfl
    exact ⟨rfl, _, q1, q2, (Upto.of_below (below_drewN (Below.refl _ _) nq)).trans q3 (fun _ _ e => e)⟩

end Go.Proofs.Yteabhokkiggcjaa
