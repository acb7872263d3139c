import Derived.Test.YtbhjdapkhcgmlaaMrL
import Derived.Test.YtbhjdapkhcgmlaaMrM
import Derived.Test.YtbhjdapkhcgmlaaNames10
import Derived.Handy
import Derived.Deep.Cut

set_option linter.unusedSimpArgs false
set_option linter.unusedVariables false
set_option linter.unnecessarySimpa false

namespace Go.Proofs.Ytbhjdapkhcgmlaa
open Go.RowKit

attribute [local go_sem] run_store_complex

/-! MsgReads. -/

/-- The values' parts are of 64 bits. -/
def ValsW (m : MsgM) : Prop := W64 m.v0 ∧ W64 m.v1 ∧ W64 m.v2 ∧ W64 m.v3

theorem body_w (h : List Int) (p : List PutV × RState) (hp : ∀ q ∈ p.1, W64 (q.re, q.im)) : ValsW (bodyR h p).1 ∧ ∀ q ∈ (bodyR h p).1.ps, W64 (q.re, q.im) := by
  unfold bodyR
  split
  · exact ⟨⟨atV_w64 _ 0, atV_w64 _ 1, atV_w64 _ 2, atV_w64 _ 3⟩, hp⟩
  · exact ⟨⟨w640, w640, w640, w640⟩, hp⟩

theorem readRM_w (b : List UInt8) : ValsW (readRM b) ∧ (∀ q ∈ (readRM b).ps, W64 (q.re, q.im)) ∧ (readRM b).ps.length ≤ 1000 := by
  by_cases hc : ¬ b.length < 24 ∧ (bodyB b).2.2 = false ∧ mright (bodyB b).1 = true ∧ bytesM (bodyB b).1 = b
  · rw [(readR_yes (rr_some hc.1 hc.2.1 hc.2.2.1 hc.2.2.2)).1]
    have hw := body_w (ints3 b 8) (putsR b) (putsX_w64 _ _)
    exact ⟨hw.1, hw.2, Nat.le_trans (mright_len hc.2.2.1) (by decide)⟩
  · have hn : readRO b = none := by
      by_cases hs : b.length < 24
      · exact rr_short hs
      · exact rr_no (fun q => hc ⟨hs, q⟩)
    rw [(readR_no hn).1]
    exact ⟨⟨w640, w640, w640, w640⟩, fun q hq => by simp [noM] at hq, by simp [noM]⟩

set_option maxRecDepth 100000 in
set_option maxHeartbeats 8000000 in
theorem rsame_h (k pg ob tx cp ow : Int) (wr : Bool) (A : Option Addr) (n c : Nat) (B : Option Addr) (d : Nat) (a0 b0 a1 b1 a2 b2 a3 b3 : Nat) (w : World) (g0 : W64 (a0, b0)) (g1 : W64 (a1, b1)) (g2 : W64 (a2, b2)) (g3 : W64 (a3, b3))
    (hp : From w 29 #[.slice A n c, .slice B n d] (.bool true)) :
    Calls Try.prog 10 #[.agg #[.int .i64 k, .int .i64 pg, .int .i64 ob, .int .i64 tx, .int .i64 cp, .int .i64 ow, .bool wr, .slice A n c, .complex .f64 a0 b0, .complex .f64 a1 b1, .complex .f64 a2 b2, .complex .f64 a3 b3], .agg #[.int .i64 k, .int .i64 pg, .int .i64 ob, .int .i64 tx, .int .i64 cp, .int .i64 ow, .bool wr, .slice B n d, .complex .f64 a0 b0, .complex .f64 a1 b1, .complex .f64 a2 b2, .complex .f64 a3 b3]] w fun e w' => e = .returned (.bool true) ∧ Below w.heap.size w w' := by
  have hb := below2 w (.cells #[.int .i64 k, .int .i64 pg, .int .i64 ob, .int .i64 tx, .int .i64 cp, .int .i64 ow, .bool wr, .slice A n c, .complex .f64 a0 b0, .complex .f64 a1 b1, .complex .f64 a2 b2, .complex .f64 a3 b3] 30) (.cells #[.int .i64 k, .int .i64 pg, .int .i64 ob, .int .i64 tx, .int .i64 cp, .int .i64 ow, .bool wr, .slice B n d, .complex .f64 a0 b0, .complex .f64 a1 b1, .complex .f64 a2 b2, .complex .f64 a3 b3] 30)
  have p1 := heap_alloc2_old w (.cells #[.int .i64 k, .int .i64 pg, .int .i64 ob, .int .i64 tx, .int .i64 cp, .int .i64 ow, .bool wr, .slice A n c, .complex .f64 a0 b0, .complex .f64 a1 b1, .complex .f64 a2 b2, .complex .f64 a3 b3] 30) (.cells #[.int .i64 k, .int .i64 pg, .int .i64 ob, .int .i64 tx, .int .i64 cp, .int .i64 ow, .bool wr, .slice B n d, .complex .f64 a0 b0, .complex .f64 a1 b1, .complex .f64 a2 b2, .complex .f64 a3 b3] 30)
  have p2 := heap_alloc2_new w (.cells #[.int .i64 k, .int .i64 pg, .int .i64 ob, .int .i64 tx, .int .i64 cp, .int .i64 ow, .bool wr, .slice A n c, .complex .f64 a0 b0, .complex .f64 a1 b1, .complex .f64 a2 b2, .complex .f64 a3 b3] 30) (.cells #[.int .i64 k, .int .i64 pg, .int .i64 ob, .int .i64 tx, .int .i64 cp, .int .i64 ow, .bool wr, .slice B n d, .complex .f64 a0 b0, .complex .f64 a1 b1, .complex .f64 a2 b2, .complex .f64 a3 b3] 30)
  have HV := Lib.hid (rvalues_r a0 b0 a1 b1 a2 b2 a3 b3 g0 g1 g2 g3)
  have HP := Lib.hid hp
  clear hp g0 g1 g2 g3
  go_enter Try.func10, Try.ntmps10
  go_upto_region 1 with fail
  generalize (w.alloc (.cells #[.int .i64 k, .int .i64 pg, .int .i64 ob, .int .i64 tx, .int .i64 cp, .int .i64 ow, .bool wr, .slice A n c, .complex .f64 a0 b0, .complex .f64 a1 b1, .complex .f64 a2 b2, .complex .f64 a3 b3] 30)).alloc (.cells #[.int .i64 k, .int .i64 pg, .int .i64 ob, .int .i64 tx, .int .i64 cp, .int .i64 ow, .bool wr, .slice B n d, .complex .f64 a0 b0, .complex .f64 a1 b1, .complex .f64 a2 b2, .complex .f64 a3 b3] 30) = W0 at *
  obtain ⟨x0, x1, x2, x3, x4, x5, x6, x7, x8, x9, x10, x11, xz⟩ := row12 p1
  obtain ⟨y0, y1, y2, y3, y4, y5, y6, y7, y8, y9, y10, y11, yz⟩ := row12 p2
  have P1 := Lib.hid p1
  have P2 := Lib.hid p2
  have HB := Lib.hid hb
  clear p1 p2 hb
  go_wp2_with fail
  refine (HV.out _).mono ?_; rintro e w1 ⟨rfl, hb1⟩
  have r1 := (hb1.block w.heap.size (lt_of_row (Nat.le_refl _) P1.out)).trans P1.out
  have r2 := (hb1.block (w.heap.size + 1) (lt_of_row (Nat.le_refl _) P2.out)).trans P2.out
  have HB1 := Lib.hid (HB.out.trans (hb1.mono HB.out.size))
  clear hb1 x0 x1 x2 x3 x4 x5 x6 x7 x8 x9 x10 x11 xz y0 y1 y2 y3 y4 y5 y6 y7 y8 y9 y10 y11 yz P1 P2 HB
  obtain ⟨x0, x1, x2, x3, x4, x5, x6, x7, x8, x9, x10, x11, xz⟩ := row12 r1
  obtain ⟨y0, y1, y2, y3, y4, y5, y6, y7, y8, y9, y10, y11, yz⟩ := row12 r2
  clear r1 r2
  go_wp2_with fail
  refine (HP.out _ HB1.out).mono ?_; rintro e w2 ⟨rfl, hb2⟩
  have HB2 := Lib.hid (HB1.out.trans (hb2.mono HB1.out.size))
  clear hb2
  go_wp2_with fail
  go_ret
  exact ⟨ret_bool (by simp), HB2.out⟩

theorem mcells_eq (m : MsgM) (A : Option Addr) (c : Nat) : mcells m A c = #[.int .i64 m.k, .int .i64 m.pg, .int .i64 m.ob, .int .i64 m.tx, .int .i64 m.cp, .int .i64 m.ow, .bool m.wr, .slice A m.ps.length c, .complex .f64 m.v0.1 m.v0.2, .complex .f64 m.v1.1 m.v1.2, .complex .f64 m.v2.1 m.v2.2, .complex .f64 m.v3.1 m.v3.2] := rfl

set_option maxRecDepth 100000 in
set_option maxHeartbeats 8000000 in
theorem reads_c (A : Option Addr) (l : List UInt8) (c : Nat) (w : World) (h : Rd g8 w A l) (hn : A = none → c = 0) (hl : l.length ≤ 140737488351232) (hc : l.length ≤ c) (hc2 : c ≤ 9223372036854775807) :
    Calls Try.prog 4 #[.slice A l.length c] w fun e w' => e = .returned (.bool true) ∧ Below w.heap.size w w' := by
  have H := Lib.hid h
  have HN := Lib.hid hn
  have HL := Lib.hid hl
  have HC := Lib.hid hc
  have HCAP := Lib.hid hc2
  have hre := read_eq l
  have hM : readM l = readRM l := by unfold readM readRM; rw [hre]
  have hE : readE l = readRE l := by unfold readE readRE; rw [hre]
  obtain ⟨hv, hpw, hpl⟩ := readRM_w l
  have HM := Lib.hid hM
  have HE := Lib.hid hE
  have HV := Lib.hid hv
  have HPW := Lib.hid hpw
  have HPL := Lib.hid hpl
  clear h hn hl hc hc2 hre hM hE hv hpw hpl
  obtain ⟨n, hnn⟩ : ∃ n, l.length = n := ⟨_, rfl⟩
  have HNN := Lib.hid hnn
  rw [hnn]
  clear hnn
  have hb0 := (Below.refl w.heap.size w).alloc (Nat.le_refl _) (.cells #[] 5)
  have HX0 := Lib.hid (H.out.below hb0)
  clear hb0
  go_enter Try.func4, Try.ntmps4
  go_wp2_with (at_builtin; refine copy8 rfl _ _ rfl _ rfl l A c H.out rfl (by rw [HNN.out]; rfl) HN.out (by have := HL.out; omega) ?_)
  intro A3 c3 w3 ho3 hb3
  have HB3 := Lib.hid hb3
  have HR := Lib.hid (mread_c A3 l n c3 w3 ho3.rd ho3.nil_cap HNN.out (by rw [← HNN.out]; exact ho3.le) ho3.cap (by have := HL.out; rw [HNN.out] at this; omega) (fun a e => (ho3.lt a e).2.1))
  rw [HNN.out]
  clear ho3 hb3
  go_wp2_with fail
  refine HR.out.mono ?_; rintro e w4 ⟨A4, c4, rfl, hp4, hb4⟩
  rw [HM.out, HE.out]
  rw [HM.out] at hp4
  have HP4 := Lib.hid hp4
  have HB4 := Lib.hid (HB3.out.trans (hb4.mono HB3.out.size))
  clear hp4 hb4 HR
  have HRR := Lib.hid (rread_c A l n c)
  obtain ⟨m, hm⟩ : ∃ m, readRM l = m := ⟨_, rfl⟩
  obtain ⟨er, her⟩ : ∃ er, readRE l = er := ⟨_, rfl⟩
  rw [hm] at HV HPW HPL HP4 HRR
  rw [her] at HRR
  rw [hm, her]
  obtain ⟨k, pg, ob, tx, cp, ow, wv, ps, ⟨a0, b0⟩, ⟨a1, b1⟩, ⟨a2, b2⟩, ⟨a3, b3⟩⟩ := m
  clear hm her HM HE
  rw [mcells_eq]
  simp only [mcells_eq] at HRR
  go_wp2_with fail
  have hw := (Below.refl w4.heap.size w4).alloc (Nat.le_refl _) (.cells #[.int .i64 k, .int .i64 pg, .int .i64 ob, .int .i64 tx, .int .i64 cp, .int .i64 ow, .bool wv, .slice A4 ps.length c4, .complex .f64 a0 b0, .complex .f64 a1 b1, .complex .f64 a2 b2, .complex .f64 a3 b3] 30)
  have hrow := heap_alloc_new w4 (.cells #[.int .i64 k, .int .i64 pg, .int .i64 ob, .int .i64 tx, .int .i64 cp, .int .i64 ow, .bool wv, .slice A4 ps.length c4, .complex .f64 a0 b0, .complex .f64 a1 b1, .complex .f64 a2 b2, .complex .f64 a3 b3] 30)
  generalize w4.alloc (.cells #[.int .i64 k, .int .i64 pg, .int .i64 ob, .int .i64 tx, .int .i64 cp, .int .i64 ow, .bool wv, .slice A4 ps.length c4, .complex .f64 a0 b0, .complex .f64 a1 b1, .complex .f64 a2 b2, .complex .f64 a3 b3] 30) = W5 at *
  have HB5 := Lib.hid (HB4.out.trans (hw.mono HB4.out.size))
  have HP5 := Lib.hid (HP4.out.below hw)
  have HROW := Lib.hid hrow
  clear hw hrow
  refine (HRR.out W5 (H.out.below HB5.out) HN.out HNN.out (by rw [← HNN.out]; exact HC.out) HCAP.out (by have := HL.out; rw [HNN.out] at this; omega)).mono ?_; rintro e w6 ⟨A6, c6, rfl, hp6, hb6⟩
  have HROW6 := Lib.hid ((hb6.block w4.heap.size (lt_of_row (Nat.le_refl _) HROW.out)).trans HROW.out)
  have HP6 := Lib.hid (HP5.out.below hb6)
  have HQ6 := Lib.hid hp6
  have HB6 := Lib.hid (HB5.out.trans (hb6.mono HB5.out.size))
  clear hp6 hb6 HRR
  go_wp2_with fail
  have hw := (Below.refl w6.heap.size w6).alloc (Nat.le_refl _) (.cells #[.int .i64 k, .int .i64 pg, .int .i64 ob, .int .i64 tx, .int .i64 cp, .int .i64 ow, .bool wv, .slice A6 ps.length c6, .complex .f64 a0 b0, .complex .f64 a1 b1, .complex .f64 a2 b2, .complex .f64 a3 b3] 30)
  have hrow := heap_alloc_new w6 (.cells #[.int .i64 k, .int .i64 pg, .int .i64 ob, .int .i64 tx, .int .i64 cp, .int .i64 ow, .bool wv, .slice A6 ps.length c6, .complex .f64 a0 b0, .complex .f64 a1 b1, .complex .f64 a2 b2, .complex .f64 a3 b3] 30)
  generalize w6.alloc (.cells #[.int .i64 k, .int .i64 pg, .int .i64 ob, .int .i64 tx, .int .i64 cp, .int .i64 ow, .bool wv, .slice A6 ps.length c6, .complex .f64 a0 b0, .complex .f64 a1 b1, .complex .f64 a2 b2, .complex .f64 a3 b3] 30) = W7 at *
  have HROW7 := Lib.hid ((hw.block w4.heap.size (lt_of_row (Nat.le_refl _) HROW6.out)).trans HROW6.out)
  have HB7 := Lib.hid (HB6.out.trans (hw.mono HB6.out.size))
  have HP7 := Lib.hid (HP6.out.below hw)
  have HQ7 := Lib.hid (HQ6.out.below hw)
  refine (alive_c W7).mono ?_; rintro e w8 ⟨rfl, hb8⟩
  have r1 := (hb8.block w4.heap.size (lt_of_row (Nat.le_refl _) HROW7.out)).trans HROW7.out
  have r2 := (hb8.block w6.heap.size (lt_of_row (Nat.le_refl _) hrow)).trans hrow
  have HB8 := Lib.hid (HB7.out.trans (hb8.mono HB7.out.size))
  have HSM := Lib.hid (rsame_h k pg ob tx cp ow wv A4 ps.length c4 A6 c6 a0 b0 a1 b1 a2 b2 a3 b3 w8 HV.out.1 HV.out.2.1 HV.out.2.2.1 HV.out.2.2.2 (rsameputs_at (HP7.out.below hb8) (HQ7.out.below hb8) rfl HPL.out HPW.out))
  clear hw hrow hb8
  obtain ⟨x0, x1, x2, x3, x4, x5, x6, x7, x8, x9, x10, x11, xz⟩ := row12 r1
  obtain ⟨y0, y1, y2, y3, y4, y5, y6, y7, y8, y9, y10, y11, yz⟩ := row12 r2
  clear r1 r2
  go_wp2_with fail
  refine HSM.out.mono ?_; rintro e w9 ⟨rfl, hb9⟩
  have HB9 := Lib.hid (HB8.out.trans (hb9.mono HB8.out.size))
  clear hb9
  go_wp2_with fail
  go_ret
  exact ⟨ret_bool (by simp), HB9.out⟩

end Go.Proofs.Ytbhjdapkhcgmlaa
