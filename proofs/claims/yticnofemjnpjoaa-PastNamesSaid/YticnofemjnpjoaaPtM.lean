import Derived.Test.YticnofemjnpjoaaPtL

set_option linter.unusedSimpArgs false
set_option linter.unusedVariables false
set_option linter.unnecessarySimpa false

namespace Go.Proofs.Yticnofemjnpjoaa
open Go.RowKit

attribute [local go_sem] run_store_complex

/-! past.Serial. -/

theorem OwP.rd {w : World} {B : Nat} {A : Option Addr} {ps : List PutV} {c : Nat} (h : OwP w B A 1 ps c) : ∃ g, A = some ⟨g, 0, none⟩ ∧ RdP w g ps := by
  rcases h.2 with ⟨-, h0⟩ | ⟨g, cap, cur, hv, hbg, hgg, hn, hcap, hsz, ht⟩
  · omega
  · have e : A = some ⟨g, 0, none⟩ := by simp at hv; exact hv.1
    refine ⟨g, e, fun i p hp => ?_⟩
    obtain ⟨h0, h1, h2⟩ := pcells_at ps i p hp
    have hl := h.length
    have hi : i < 1 := by obtain ⟨h, -⟩ := List.getElem?_eq_some_iff.1 hp; omega
    have hcell : ∀ (j : Nat) (u : Value), (pcells ps)[j]? = some u → w.cell? ⟨g, j, none⟩ = some u := fun j u hu => by
      rw [← ht, List.getElem?_take] at hu
      split at hu
      · exact (cell_of_row w g j _ _ _ hgg).trans (by simpa using hu)
      · simp at hu
    exact ⟨hcell _ _ h0, hcell _ _ h1, hcell _ _ h2⟩

theorem same_at (p q : Nat) (A : Option Addr) (B c d Bs re im : Nat) (w : World) (ho : OwP w Bs A 1 [⟨0, 0, re, im⟩] c) (hr : RdP w B [⟨0, 0, re, im⟩])
    (hp : w.heap[p]? = some (Obj.cells #[.int .i64 0, .int .i64 0, .int .i64 0, .int .i64 0, .slice A 1 c] 27)) (hq : w.heap[q]? = some (Obj.cells #[.int .i64 0, .int .i64 0, .int .i64 0, .int .i64 0, .slice (some ⟨B, 0, none⟩) 1 d] 27)) :
    Calls Try.prog 13 #[.slice (some ⟨p, 0, none⟩) 1 1, .slice (some ⟨q, 0, none⟩) 1 1] w fun e w' => e = .returned (.bool true) ∧ Below w.heap.size w w' := by
  obtain ⟨g, rfl, hg⟩ := ho.rd
  exact wsames_h p q _ _ 1 1 c d true w (fun W hW => eqf_puts_two g B [⟨0, 0, re, im⟩] 1 c d rfl (by omega) W (hg.below hW) (hr.below hW) (by intro p hp; simp at hp; subst hp; simp)) hp hq

theorem same_i (A : Option Addr) (B c d Bs re im : Nat) (w : World) (ho : OwP w Bs A 1 [⟨0, 0, re, im⟩] c) (hr : RdP w B [⟨0, 0, re, im⟩]) :
    Calls Try.prog 13 #[.slice (some ⟨w.heap.size, 0, none⟩) 1 1, .slice (some ⟨w.heap.size + 1, 0, none⟩) 1 1] ((w.alloc (Obj.cells #[.int .i64 0, .int .i64 0, .int .i64 0, .int .i64 0, .slice A 1 c] 27)).alloc (Obj.cells #[.int .i64 0, .int .i64 0, .int .i64 0, .int .i64 0, .slice (some ⟨B, 0, none⟩) 1 d] 27)) fun e w' => e = .returned (.bool true) ∧ Below ((w.alloc (Obj.cells #[.int .i64 0, .int .i64 0, .int .i64 0, .int .i64 0, .slice A 1 c] 27)).alloc (Obj.cells #[.int .i64 0, .int .i64 0, .int .i64 0, .int .i64 0, .slice (some ⟨B, 0, none⟩) 1 d] 27)).heap.size ((w.alloc (Obj.cells #[.int .i64 0, .int .i64 0, .int .i64 0, .int .i64 0, .slice A 1 c] 27)).alloc (Obj.cells #[.int .i64 0, .int .i64 0, .int .i64 0, .int .i64 0, .slice (some ⟨B, 0, none⟩) 1 d] 27)) w' := by
  have hb := below2 w (Obj.cells #[.int .i64 0, .int .i64 0, .int .i64 0, .int .i64 0, .slice A 1 c] 27) (Obj.cells #[.int .i64 0, .int .i64 0, .int .i64 0, .int .i64 0, .slice (some ⟨B, 0, none⟩) 1 d] 27)
  have h1 := heap_alloc_new w (Obj.cells #[.int .i64 0, .int .i64 0, .int .i64 0, .int .i64 0, .slice A 1 c] 27)
  have h2 := heap_alloc2_new w (Obj.cells #[.int .i64 0, .int .i64 0, .int .i64 0, .int .i64 0, .slice A 1 c] 27) (Obj.cells #[.int .i64 0, .int .i64 0, .int .i64 0, .int .i64 0, .slice (some ⟨B, 0, none⟩) 1 d] 27)
  exact same_at _ _ A B c d Bs re im _ (ho.below hb) (hr.below hb) ((Below.heap_alloc _ _ w.heap.size (by simp)).trans h1) h2

theorem same_ii (A : Option Addr) (B c d Bs re im : Nat) (w : World) (ho : OwP w Bs A 1 [⟨0, 0, re, im⟩] c) (hr : RdP w B [⟨0, 0, re, im⟩]) :
    Calls Try.prog 13 #[.slice (some ⟨w.heap.size + 1, 0, none⟩) 1 1, .slice (some ⟨w.heap.size, 0, none⟩) 1 1] ((w.alloc (Obj.cells #[.int .i64 0, .int .i64 0, .int .i64 0, .int .i64 0, .slice (some ⟨B, 0, none⟩) 1 d] 27)).alloc (Obj.cells #[.int .i64 0, .int .i64 0, .int .i64 0, .int .i64 0, .slice A 1 c] 27)) fun e w' => e = .returned (.bool true) ∧ Below ((w.alloc (Obj.cells #[.int .i64 0, .int .i64 0, .int .i64 0, .int .i64 0, .slice (some ⟨B, 0, none⟩) 1 d] 27)).alloc (Obj.cells #[.int .i64 0, .int .i64 0, .int .i64 0, .int .i64 0, .slice A 1 c] 27)).heap.size ((w.alloc (Obj.cells #[.int .i64 0, .int .i64 0, .int .i64 0, .int .i64 0, .slice (some ⟨B, 0, none⟩) 1 d] 27)).alloc (Obj.cells #[.int .i64 0, .int .i64 0, .int .i64 0, .int .i64 0, .slice A 1 c] 27)) w' := by
  have hb := below2 w (Obj.cells #[.int .i64 0, .int .i64 0, .int .i64 0, .int .i64 0, .slice (some ⟨B, 0, none⟩) 1 d] 27) (Obj.cells #[.int .i64 0, .int .i64 0, .int .i64 0, .int .i64 0, .slice A 1 c] 27)
  have h1 := heap_alloc_new w (Obj.cells #[.int .i64 0, .int .i64 0, .int .i64 0, .int .i64 0, .slice (some ⟨B, 0, none⟩) 1 d] 27)
  have h2 := heap_alloc2_new w (Obj.cells #[.int .i64 0, .int .i64 0, .int .i64 0, .int .i64 0, .slice (some ⟨B, 0, none⟩) 1 d] 27) (Obj.cells #[.int .i64 0, .int .i64 0, .int .i64 0, .int .i64 0, .slice A 1 c] 27)
  exact same_at _ _ A B c d Bs re im _ (ho.below hb) (hr.below hb) h2 ((Below.heap_alloc _ _ w.heap.size (by simp)).trans h1)

theorem same_iii (q : Nat) (A : Option Addr) (B c d Bs re im : Nat) (w : World) (ho : OwP w Bs A 1 [⟨0, 0, re, im⟩] c) (hr : RdP w B [⟨0, 0, re, im⟩]) (hq : w.heap[q]? = some (Obj.cells #[.int .i64 0, .int .i64 0, .int .i64 0, .int .i64 0, .slice (some ⟨B, 0, none⟩) 1 d] 27)) :
    Calls Try.prog 13 #[.slice (some ⟨w.heap.size, 0, none⟩) 1 1, .slice (some ⟨q, 0, none⟩) 1 1] (w.alloc (Obj.cells #[.int .i64 0, .int .i64 0, .int .i64 0, .int .i64 0, .slice A 1 c] 27)) fun e w' => e = .returned (.bool true) ∧ Below (w.alloc (Obj.cells #[.int .i64 0, .int .i64 0, .int .i64 0, .int .i64 0, .slice A 1 c] 27)).heap.size (w.alloc (Obj.cells #[.int .i64 0, .int .i64 0, .int .i64 0, .int .i64 0, .slice A 1 c] 27)) w' := by
  have hb := (Below.refl w.heap.size w).alloc (Nat.le_refl _) (Obj.cells #[.int .i64 0, .int .i64 0, .int .i64 0, .int .i64 0, .slice A 1 c] 27)
  have h1 := heap_alloc_new w (Obj.cells #[.int .i64 0, .int .i64 0, .int .i64 0, .int .i64 0, .slice A 1 c] 27)
  exact same_at _ _ A B c d Bs re im _ (ho.below hb) (hr.below hb) h1 ((hb.block q (Array.getElem?_eq_some_iff.1 hq).1).trans hq)

theorem Pgs.below {w w' : World} {g : Nat} {s : Int} {re im : Nat} (h : Pgs w g s re im) (hb : Below w.heap.size w w') : Pgs w' g s re im := (hb.block g h.lt).trans h

theorem reads_r (r : Bool) (cl ep tx bg en st : Int) (A n c : Nat) (l : List DeedV) (hn : l.length = n) (hl : n ≤ 1000) (hz : ∀ d ∈ l, d.pg = 0 ∧ d.ob = 0) (g cg : Nat) (s : Int) (re0 im0 : Nat) (hrm : readsM (re0, im0) l = r) (w : World) (h : RdE w A l) (hg : Pgs w g s re0 im0) :
    Calls Try.prog 14 #[.agg #[.int .i64 cl, .int .i64 ep, .int .i64 tx, .int .i64 bg, .int .i64 en, .int .i64 st, .slice (some ⟨A, 0, none⟩) n c], .slice (some ⟨g, 0, none⟩) 6 cg] w fun e w' => e = .returned (.bool r) ∧ Below w.heap.size w w' := by
  subst hrm; exact reads_c cl ep tx bg en st A n c l hn hl hz g cg s re0 im0 w h hg

/-- A batch's deal, and what this deal wrote. -/
def Fit (w : World) (l : List DealV) (bv : BatV) (E : List DeedV) : Prop := ∃ (k : Nat) (cl ep tx bg en st : Int) (a n c : Nat), l[k]? = some ⟨cl, ep, tx, bg, en, st, some ⟨a, 0, none⟩, n, c⟩ ∧ findFrom 1 1 bv.tx 0 l = (k : Int) ∧ RdE w a E ∧ E.length = n ∧ n ≤ 1000 ∧ Simple E ∧ (∀ x ∈ E, x.pg = 0 ∧ x.ob = 0) ∧ wrE E = (#[⟨.agg #[.int .i64 0, .int .i64 0], .complex .f64 bv.re bv.im, 0⟩], 1)

def serialM : Nat × Nat → List (BatV × List DeedV) → Bool
  | _, [] => true
  | c, (b, E) :: r => if readsM c E = true then serialM (b.re, b.im) r else false

theorem keep8 {W1 W W' : World} {a0 a1 a2 a3 a4 a5 a6 a7 : Addr} {v0 v1 v2 v3 v4 v5 v6 v7 : Value} (hb : Below W.heap.size W W')
    (h : Below W1.heap.size W1 W ∧ W.cell? a0 = some v0 ∧ W.cell? a1 = some v1 ∧ W.cell? a2 = some v2 ∧ W.cell? a3 = some v3 ∧ W.cell? a4 = some v4 ∧ W.cell? a5 = some v5 ∧ W.cell? a6 = some v6 ∧ W.cell? a7 = some v7) :
    Below W1.heap.size W1 W' ∧ W'.cell? a0 = some v0 ∧ W'.cell? a1 = some v1 ∧ W'.cell? a2 = some v2 ∧ W'.cell? a3 = some v3 ∧ W'.cell? a4 = some v4 ∧ W'.cell? a5 = some v5 ∧ W'.cell? a6 = some v6 ∧ W'.cell? a7 = some v7 :=
  ⟨h.1.trans (hb.mono h.1.size), cell_below hb h.2.1, cell_below hb h.2.2.1, cell_below hb h.2.2.2.1, cell_below hb h.2.2.2.2.1, cell_below hb h.2.2.2.2.2.1, cell_below hb h.2.2.2.2.2.2.1, cell_below hb h.2.2.2.2.2.2.2.1, cell_below hb h.2.2.2.2.2.2.2.2⟩

set_option maxHeartbeats 4000000 in
theorem serial_c (b b2 : Nat) (l : List DealV) (log : List (BatV × List DeedV)) (n c m c2 : Nat) (hn : l.length = n) (hl : n ≤ 1000) (hm : log.length = m) (hl2 : m ≤ 1000) (w : World) (h : RdD w b l) (h2 : RdB w b2 (log.map (·.1))) (hf : ∀ x ∈ log, Fit w l x.1 x.2) :
    Calls Try.prog 5 #[.slice (some ⟨b, 0, none⟩) n c, .slice (some ⟨b2, 0, none⟩) m c2] w fun e w' => e = .returned (.bool (serialM (0, 0) log)) ∧ Below w.heap.size w w' := by
  have hmk := makeP
  have hb := (Below.refl w.heap.size w).alloc (Nat.le_refl _) (.cells (pg6 0 0 0) 43)
  have hr : Pgs _ w.heap.size 0 0 0 := heap_alloc_new w (.cells (pg6 0 0 0) 43)
  have HD := Lib.hid h
  have HL := Lib.hid h2
  have HF := Lib.hid hf
  clear h h2 hf
  go_enter Try.func5, Try.ntmps5
  go_wp2_with fail
  generalize w.alloc (.cells (pg6 0 0 0) 43) = W0 at *
  go_loopw [12] (fun i wr => ∃ (k : Nat) (s : Int) (re im : Nat), k ≤ m ∧ i = .int .i64 k ∧ Hid (serialM (0, 0) log = serialM (re, im) (log.drop k)) ∧ Hid (Pgs wr w.heap.size s re im) ∧ Hid (Below w.heap.size w wr)) (fun i _ => m - (intOf i).toNat)
  case atStart => exact ⟨0, 0, 0, 0, Nat.zero_le _, rfl, rfl, hr, hb⟩
  case round =>
    clear hr hb
    obtain ⟨k, s, re, im, hk, rfl, hmm, hp, hbr⟩ := hrel
    by_cases hlt : k < m
    · obtain ⟨⟨⟨ls, tx, B, cB, dr, di⟩, E⟩, hd⟩ := get_some log k (by omega)
      obtain ⟨kk, cl, ep, tx', bg, en, st, a, nE, cE, hkk, hff, hre, hnE, hlE, hsi, hz, hw⟩ := HF.out _ (List.mem_of_getElem? hd)
      obtain ⟨y0, y1, y2, y3, y4, y5⟩ := HL.out.below hbr.out k ⟨ls, tx, B, cB, dr, di⟩ (by simp [hd])
      dsimp only at y0 y1 y2 y3 y4 y5 hff hw hre hsi hz
      have hdr : log.drop k = (⟨ls, tx, B, cB, dr, di⟩, E) :: log.drop (k + 1) := by
        obtain ⟨hlt2, e⟩ := List.getElem?_eq_some_iff.1 hd
        rw [← e]; exact List.drop_eq_getElem_cons hlt2
      have HE : Hid (serialM (0, 0) log = if readsM (re, im) E = true then serialM (dr, di) (log.drop (k + 1)) else false) := by unfold Hid; rw [hmm.out, hdr, serialM]
      have hal := (Below.refl wr.heap.size wr).alloc (Nat.le_refl _) (.cells #[.int .i64 ls, .int .i64 1, .int .i64 1, .int .i64 tx, .slice (some ⟨B, 0, none⟩) 1 cB] 27)
      have hq := heap_alloc_new wr (.cells #[.int .i64 ls, .int .i64 1, .int .i64 1, .int .i64 tx, .slice (some ⟨B, 0, none⟩) 1 cB] 27)
      have HP1 : Hid (Pgs _ w.heap.size s re im) := (hal.block _ hp.out.lt).trans hp.out
      have HP := Lib.hid (y5.below hal)
      have HB1 := Lib.hid (hbr.out.trans (hal.mono hbr.out.size))
      have HRE := Lib.hid hre
      have HSI := Lib.hid hsi
      have HZ := Lib.hid hz
      have HW := Lib.hid hw
      have HFF := Lib.hid hff
      have hkn : kk < n := by obtain ⟨h, -⟩ := List.getElem?_eq_some_iff.1 hkk; omega
      have HKK := Lib.hid hkk
      clear hdr hd hal hp hbr hmm y5 hre hsi hz hw hff hkk
      go_upto_region 5 with fail
      generalize wr.alloc (.cells #[.int .i64 ls, .int .i64 1, .int .i64 1, .int .i64 tx, .slice (some ⟨B, 0, none⟩) 1 cB] 27) = W1 at *
      generalize wr.heap.size = q at *
      clear y0 y1 y2 y3 y4
      obtain ⟨x0, x1, x2, x3, x4, xz⟩ := row5 hq
      go_wp2_with fail
      refine (find_c b l n c ls 1 1 tx (.slice (some ⟨B, 0, none⟩) 1 cB) hn hl W1 (HD.out.below HB1.out)).mono ?_; rintro e w3 ⟨he, hb3⟩
      rw [HFF.out] at he
      subst he
      have hq3 := (hb3.block q (Array.getElem?_eq_some_iff.1 hq).1).trans hq
      have HP3 : Hid (Pgs w3 w.heap.size s re im) := (hb3.block _ HP1.out.lt).trans HP1.out
      have HPU := Lib.hid (HP.out.below hb3)
      have HB3 := Lib.hid (HB1.out.trans (hb3.mono HB1.out.size))
      clear hb3 hq x0 x1 x2 x3 x4 xz HP1 HP HB1
      go_upto_region 6 with fail
      obtain ⟨d0, d1, d2, d3, d4, d5, d6⟩ := HD.out.below HB3.out kk _ HKK.out
      dsimp only at d0 d1 d2 d3 d4 d5 d6
      have q4 : w3.cell? ⟨q, 4, none⟩ = some (.slice (some ⟨B, 0, none⟩) 1 cB) := (row5 hq3).2.2.2.2.1
      have hkneg : decide ((kk : Int) < 0) = false := by simp
      have hS0 : Below w3.heap.size w3 w3.drew ∧ w3.drew.cell? ⟨b, kk * 7, none⟩ = some (.int .i64 cl) ∧ w3.drew.cell? ⟨b, kk * 7 + 1, none⟩ = some (.int .i64 ep) ∧ w3.drew.cell? ⟨b, kk * 7 + 2, none⟩ = some (.int .i64 tx') ∧ w3.drew.cell? ⟨b, kk * 7 + 3, none⟩ = some (.int .i64 bg) ∧ w3.drew.cell? ⟨b, kk * 7 + 4, none⟩ = some (.int .i64 en) ∧ w3.drew.cell? ⟨b, kk * 7 + 5, none⟩ = some (.int .i64 st) ∧ w3.drew.cell? ⟨b, kk * 7 + 6, none⟩ = some (.slice (some ⟨a, 0, none⟩) nE cE) ∧ w3.drew.cell? ⟨q, 4, none⟩ = some (.slice (some ⟨B, 0, none⟩) 1 cB) := ⟨(Below.refl _ _).drew, d0, d1, d2, d3, d4, d5, d6, q4⟩
      have HS0 := Lib.hid hS0
      clear hS0
      have HRE3 := Lib.hid (HRE.out.below HB3.out)
      clear d0 d1 d2 d3 d4 d5 d6 q4
      obtain ⟨r, hrm⟩ : ∃ r, readsM (re, im) E = r := ⟨_, rfl⟩
      rw [hrm] at HE
      have HRM := Lib.hid hrm
      clear hrm
      go_region_held_law (fun W => Below w3.heap.size w3 W ∧ W.cell? ⟨b, kk * 7, none⟩ = some (.int .i64 cl) ∧ W.cell? ⟨b, kk * 7 + 1, none⟩ = some (.int .i64 ep) ∧ W.cell? ⟨b, kk * 7 + 2, none⟩ = some (.int .i64 tx') ∧ W.cell? ⟨b, kk * 7 + 3, none⟩ = some (.int .i64 bg) ∧ W.cell? ⟨b, kk * 7 + 4, none⟩ = some (.int .i64 en) ∧ W.cell? ⟨b, kk * 7 + 5, none⟩ = some (.int .i64 st) ∧ W.cell? ⟨b, kk * 7 + 6, none⟩ = some (.slice (some ⟨a, 0, none⟩) nE cE) ∧ W.cell? ⟨q, 4, none⟩ = some (.slice (some ⟨B, 0, none⟩) 1 cB))
        (first | exact HS0.out | exact keep8 ((Below.refl _ _).alloc (Nat.le_refl _) _) (by assumption) | exact keep8 hbS.out (by assumption))
        (first
          | (go_at_call 10
             refine (puts_c cl ep tx' bg en st a nE cE E dr di hnE hlE HSI.out HW.out _ (HRE3.out.below (And.left (by assumption)))).mono ?_
             rintro e w4 ⟨A4, c4, rfl, ho4, hb4⟩
             have hbS := Lib.hid hb4
             have HO4 := Lib.hid ho4
             have HP4 := Lib.hid ((HPU.out.below (And.left (by assumption))).below hb4)
             clear ho4 hb4)
          | (go_at_call 13
             first
               | refine (same_i A4 B c4 cB _ dr di w4 HO4.out HP4.out).mono ?_
               | refine (same_ii A4 B c4 cB _ dr di w4 HO4.out HP4.out).mono ?_
               | refine (same_iii w3.heap.size A4 B c4 cB _ dr di w4 HO4.out HP4.out ((hbS.out.block w3.heap.size (by simp)).trans (heap_alloc_new w3.drew _))).mono ?_
             rintro e w5 ⟨rfl, hb5⟩
             have hbS := Lib.hid hb5
             clear hb5)
          | (go_at_call 14
             refine (reads_r _ cl ep tx' bg en st a nE cE E hnE hlE HZ.out w.heap.size 6 s re im HRM.out _ (HRE3.out.below (And.left (by assumption))) (HP3.out.below (And.left (by assumption)))).mono ?_
             rintro e w6 ⟨rfl, hb6⟩
             have hbS := Lib.hid hb6
             clear hb6))
      all_goals
        have hb36 : Below w3.heap.size w3 w6 := And.left (by assumption)
        have hq6 := (hb36.block q (Array.getElem?_eq_some_iff.1 hq3).1).trans hq3
        have HP6 := Lib.hid (HP3.out.below hb36)
        have HPU6 := Lib.hid (HPU.out.below hb36)
        have HB6 := Lib.hid (HB3.out.trans (hb36.mono HB3.out.size))
        clear hq3 HP3 HPU HB3 hb36 HS0 HRE3 hbS HP4 HO4
        cases r with
        | false =>
          go_wp2_with fail
          go_ret
          exact ⟨ret_bool (by rw [HE.out]; rfl), HB6.out⟩
        | true =>
          obtain ⟨x0, x1, x2, x3, x4, xz⟩ := row5 hq6
          go_wp2_with fail
          refine (apply_c w.heap.size 6 s re im ls 1 1 tx B cB dr di w6 HP6.out HPU6.out).mono ?_; rintro e w7 ⟨rfl, hp7, hu7⟩
          have HP7 := Lib.hid hp7
          have HB7 := Lib.hid (HB6.out.trans (hu7.below HB6.out.size (fun k hk => by omega)))
          have HE2 : Hid (serialM (0, 0) log = serialM (dr, di) (log.drop (k + 1))) := by unfold Hid; rw [HE.out]; rfl
          clear hp7 hu7 hq6 x0 x1 x2 x3 x4 xz HP6 HPU6 HB6
          go_wp2_with fail
          go_roundw
          case rel => exact ⟨k + 1, ls, dr, di, by omega, by simp, HE2, HP7, HB7⟩
          case measure => simp [intOf]; omega
    · have he : k = m := by omega
      subst he
      have HE : Hid (serialM (0, 0) log = true) := by unfold Hid; rw [hmm.out, ← hm, List.drop_length]; rfl
      clear hmm hp
      go_wp2_with fail
      go_ret
      exact ⟨ret_bool (by rw [HE.out]), hbr.out⟩

end Go.Proofs.Yticnofemjnpjoaa
