import Derived.Test.YtbhjdapkhcgmlaaMsgM
import Derived.Test.YtbhjdapkhcgmlaaNames10
import Derived.Handy
import Derived.Deep.Cut
namespace Go.Proofs.Ytbhjdapkhcgmlaa
open Go.RowKit

/-! cloakroomlaw10.MsgFrames. -/

set_option maxRecDepth 100000 in
set_option maxHeartbeats 8000000 in
theorem spk_c (cl ep bo sq ak : Int) (sv : Bool) (l : List UInt8) (n : Nat) (hl : l.length = n) (A B : Option Addr) (c d : Nat) (w : World) (h1 : Rd g8 w A l) (h2 : Rd g8 w B l) :
    Calls Try.prog 15 #[.agg #[.int .i64 cl, .int .i64 ep, .int .i64 bo, .int .i64 sq, .int .i64 ak, .bool sv, .slice A n c], .agg #[.int .i64 cl, .int .i64 ep, .int .i64 bo, .int .i64 sq, .int .i64 ak, .bool sv, .slice B n d]] w fun e w' => e = .returned (.bool true) ∧ Below w.heap.size w w' := by
  have hb := below2 w (Obj.cells #[.int .i64 cl, .int .i64 ep, .int .i64 bo, .int .i64 sq, .int .i64 ak, .bool sv, .slice A n c] 39) (Obj.cells #[.int .i64 cl, .int .i64 ep, .int .i64 bo, .int .i64 sq, .int .i64 ak, .bool sv, .slice B n d] 39)
  have r1 := heap_alloc2_old w (Obj.cells #[.int .i64 cl, .int .i64 ep, .int .i64 bo, .int .i64 sq, .int .i64 ak, .bool sv, .slice A n c] 39) (Obj.cells #[.int .i64 cl, .int .i64 ep, .int .i64 bo, .int .i64 sq, .int .i64 ak, .bool sv, .slice B n d] 39)
  have r2 := heap_alloc2_new w (Obj.cells #[.int .i64 cl, .int .i64 ep, .int .i64 bo, .int .i64 sq, .int .i64 ak, .bool sv, .slice A n c] 39) (Obj.cells #[.int .i64 cl, .int .i64 ep, .int .i64 bo, .int .i64 sq, .int .i64 ak, .bool sv, .slice B n d] 39)
  have s1 := str8 (c := c) (h1.below hb) hl
  have s2 := str8 (c := d) (h2.below hb) hl
  obtain ⟨x0, x1, x2, x3, x4, x5, x6⟩ := row7 r1
  obtain ⟨y0, y1, y2, y3, y4, y5, y6⟩ := row7 r2
  have HB := Lib.hid hb
  clear h1 h2 hl hb r1 r2
  go_enter Try.func15, Try.ntmps15
  go_wp2_with fail
  go_ret
  exact ⟨ret_bool (by simp), HB.out⟩

set_option maxRecDepth 100000 in
set_option maxHeartbeats 8000000 in
theorem frames_c (cl ep bo sq ak : Int) (sv : Bool) (A : Option Addr) (l : List UInt8) (c : Nat) (B : Option Addr) (m : List UInt8) (d : Nat) (w : World) (h : Rd g8 w A l) (hn : A = none → c = 0) (hl : l.length ≤ 140737488351232) (h2 : Rd g8 w B m) (hn2 : B = none → d = 0) (hl2 : m.length ≤ 140737488351232) (hm : m.length ≤ d) :
    Calls Try.prog 5 #[.agg #[.int .i64 cl, .int .i64 ep, .int .i64 bo, .int .i64 sq, .int .i64 ak, .bool sv, .slice A l.length c], .slice B m.length d] w fun e w' => e = .returned (.bool true) ∧ Below w.heap.size w w' := by
  have H := Lib.hid h
  have HN := Lib.hid hn
  have HL := Lib.hid hl
  have H2 := Lib.hid h2
  have HN2 := Lib.hid hn2
  have HL2 := Lib.hid hl2
  have HM := Lib.hid hm
  clear h hn hl h2 hn2 hl2 hm
  go_enter Try.func5, Try.ntmps5
  go_wp2_with fail
  have hp := heap_alloc_new w (Obj.cells #[.int .i64 cl, .int .i64 ep, .int .i64 bo, .int .i64 sq, .int .i64 ak, .bool sv, .slice A l.length c] 39)
  have hb := (Below.refl w.heap.size w).alloc (Nat.le_refl _) (Obj.cells #[.int .i64 cl, .int .i64 ep, .int .i64 bo, .int .i64 sq, .int .i64 ak, .bool sv, .slice A l.length c] 39)
  generalize w.alloc (Obj.cells #[.int .i64 cl, .int .i64 ep, .int .i64 bo, .int .i64 sq, .int .i64 ak, .bool sv, .slice A l.length c] 39) = W0 at *
  refine (alive_c W0).mono ?_; rintro e w1 ⟨rfl, hb1⟩
  have hp1 := (hb1.block w.heap.size (lt_of_row (Nat.le_refl _) hp)).trans hp
  have HP1 := Lib.hid hp1
  have HB1 := Lib.hid (hb.trans (hb1.mono hb.size))
  obtain ⟨x0, x1, x2, x3, x4, x5, x6⟩ := row7 hp1
  clear hp hb hb1 hp1
  go_upto_region 4 with fail
  have ho := heap_alloc_new w1 (Obj.cells #[.int .i64 cl, .int .i64 ep, .int .i64 bo, .int .i64 sq, .int .i64 ak, .bool sv, .slice A l.length c] 39)
  have hbo := (Below.refl w1.heap.size w1).alloc (Nat.le_refl _) (Obj.cells #[.int .i64 cl, .int .i64 ep, .int .i64 bo, .int .i64 sq, .int .i64 ak, .bool sv, .slice A l.length c] 39)
  generalize w1.alloc (Obj.cells #[.int .i64 cl, .int .i64 ep, .int .i64 bo, .int .i64 sq, .int .i64 ak, .bool sv, .slice A l.length c] 39) = W2 at *
  have HLP : Hid (w.heap.size < w1.heap.size) := lt_of_row (Nat.le_refl _) HP1.out
  have hp2 := (hbo.block w.heap.size HLP.out).trans HP1.out
  have HB2 := Lib.hid (HB1.out.trans (hbo.mono HB1.out.size))
  clear x0 x1 x2 x3 x4 x5 x6 hbo HP1 HB1
  generalize w1.heap.size = O at *
  have HOW := Lib.hid ho
  have HP2 := Lib.hid hp2
  obtain ⟨x0, x1, x2, x3, x4, x5, x6⟩ := row7 hp2
  have x6a := fun o => cell_alloc o x6
  have HR2 := Lib.hid (H.out.below HB2.out)
  clear ho hp2
  go_wp2_with (at_builtin; refine copy8 rfl _ _ rfl _ rfl l A c HR2.out rfl rfl HN.out (by have := HL.out; omega) ?_)
  intro A3 c3 w3 ho3 hb3
  have hlo := lt_of_row (Nat.le_refl _) HOW.out
  have ho3' := (hb3.block O hlo).trans HOW.out
  have HOW3 := Lib.hid ho3'
  have HP3 := Lib.hid ((hb3.block w.heap.size (Nat.lt_trans HLP.out hlo)).trans HP2.out)
  have HO3 := Lib.hid ho3
  have HB3 := Lib.hid (HB2.out.trans (hb3.mono HB2.out.size))
  have HLO : Hid (O < W2.heap.size) := hlo
  obtain ⟨y0, y1, y2, y3, y4, y5, y6⟩ := row7 ho3'
  have yz := fun q => row_thawed ho3' q
  clear x0 x1 x2 x3 x4 x5 x6 x6a ho3 hb3 ho3' hlo HOW HP2 HB2 HR2
  go_wp2_with fail
  have hu4 := (Upto.refl (fun j => j = O) w3).setCell (p := ⟨O, 6, none⟩) rfl (.slice A3 l.length c3)
  have ho4 : (w3.setCell ⟨O, 6, none⟩ (.slice A3 l.length c3)).heap[O]? = some (.cells #[.int .i64 cl, .int .i64 ep, .int .i64 bo, .int .i64 sq, .int .i64 ak, .bool sv, .slice A3 l.length c3] 39 (0, 0)) := by simpa using row_set HOW3.out 6 (.slice A3 l.length c3)
  generalize w3.setCell ⟨O, 6, none⟩ (.slice A3 l.length c3) = w4 at *
  have HOW4 := Lib.hid ho4
  have HP4 := Lib.hid ((hu4.block w.heap.size (lt_of_row (Nat.le_refl _) HP3.out) (by have := HLP.out; omega)).trans HP3.out)
  have HO4 := Lib.hid (HO3.out.upto hu4 (fun a e e2 => by have := (HO3.out.lt a e).1; have := HLO.out; omega))
  have HB4 := Lib.hid (HB3.out.trans (hu4.below (B := w.heap.size) HB3.out.size (fun k hk e => by have := HLP.out; omega)))
  clear hu4 ho4 y0 y1 y2 y3 y4 y5 y6 yz HOW3 HP3 HO3 HB3
  refine (frame_c cl ep bo sq ak sv A3 l c3 w4 HO4.out.rd HO4.out.nil_cap HL.out).mono ?_; rintro e w5 ⟨A5, c5, rfl, ho5, hb5⟩
  have hp5 := (hb5.block w.heap.size (lt_of_row (Nat.le_refl _) HP4.out)).trans HP4.out
  have HOW5 := Lib.hid ((hb5.block O (lt_of_row (Nat.le_refl _) HOW4.out)).trans HOW4.out)
  have HP5 := Lib.hid hp5
  have HO5 := Lib.hid (HO4.out.below hb5)
  have HX5 := Lib.hid ho5
  have HB5 := Lib.hid (HB4.out.trans (hb5.mono HB4.out.size))
  obtain ⟨x0, x1, x2, x3, x4, x5, x6⟩ := row7 hp5
  clear ho5 hb5 hp5 HOW4 HP4 HO4 HB4
  go_wp2_with fail
  refine (rframe_c cl ep bo sq ak sv A l c w5 (H.out.below HB5.out) HN.out HL.out).mono ?_; rintro e w6 ⟨A6, c6, rfl, ho6, hb6⟩
  have HOW6 := Lib.hid ((hb6.block O (lt_of_row (Nat.le_refl _) HOW5.out)).trans HOW5.out)
  have HP6 := Lib.hid ((hb6.block w.heap.size (lt_of_row (Nat.le_refl _) HP5.out)).trans HP5.out)
  have HO6 := Lib.hid (HO5.out.below hb6)
  have HX6 := Lib.hid (HX5.out.below hb6)
  have HY6 := Lib.hid ho6
  have HB6 := Lib.hid (HB5.out.trans (hb6.mono HB5.out.size))
  have HR6 := Lib.hid (H2.out.below HB6.out)
  clear ho6 hb6 x0 x1 x2 x3 x4 x5 x6 HOW5 HP5 HO5 HX5 HB5
  go_wp2_with (at_builtin; refine copy8 rfl _ _ rfl _ rfl m B d HR6.out rfl rfl HN2.out (by have := HL2.out; omega) ?_)
  intro A7 c7 w7 ho7 hb7
  have HOW7 := Lib.hid ((hb7.block O (lt_of_row (Nat.le_refl _) HOW6.out)).trans HOW6.out)
  have HP7 := Lib.hid ((hb7.block w.heap.size (lt_of_row (Nat.le_refl _) HP6.out)).trans HP6.out)
  have HO7 := Lib.hid (HO6.out.below hb7)
  have HX7 := Lib.hid (HX6.out.below hb7)
  have HY7 := Lib.hid (HY6.out.below hb7)
  have HF7 := Lib.hid ho7
  have HB7 := Lib.hid (HB6.out.trans (hb7.mono HB6.out.size))
  clear ho7 hb7 HOW6 HP6 HO6 HX6 HY6 HB6 HR6
  go_wp2_with fail
  obtain ⟨k, hk⟩ : ∃ k, k = mopenP m := ⟨_, rfl⟩
  obtain ⟨ke, hke⟩ : ∃ ke, ke = mopenE m := ⟨_, rfl⟩
  have hmo := mopen_c A7 m c7 w7 HF7.out.rd HF7.out.nil_cap HF7.out.le (by have := HL2.out; omega)
  have hro := fun W (h : Rd g8 W B m) => ropen_c B m d W h HN2.out HM.out (by have := HL2.out; omega)
  rw [← hk, ← hke] at hmo
  simp only [← hk, ← hke] at hro
  unfold pkC at hmo hro
  have HMO := Lib.hid hmo
  have HRO := Lib.hid hro
  clear hk hke hmo hro
  refine HMO.out.mono ?_; rintro e w8 ⟨A8, c8, rfl, ho8, hb8⟩
  have HOW8 := Lib.hid ((hb8.block O (lt_of_row (Nat.le_refl _) HOW7.out)).trans HOW7.out)
  have HP8 := Lib.hid ((hb8.block w.heap.size (lt_of_row (Nat.le_refl _) HP7.out)).trans HP7.out)
  have HO8 := Lib.hid (HO7.out.below hb8)
  have HX8 := Lib.hid (HX7.out.below hb8)
  have HY8 := Lib.hid (HY7.out.below hb8)
  have HK8 := Lib.hid ho8
  have HB8 := Lib.hid (HB7.out.trans (hb8.mono HB7.out.size))
  clear ho8 hb8 HOW7 HP7 HO7 HX7 HY7 HF7 HB7 HMO
  go_wp2_with fail
  have hq := heap_alloc_new w8 (Obj.cells #[.int .i64 k.cl, .int .i64 k.ep, .int .i64 k.bo, .int .i64 k.sq, .int .i64 k.ak, .bool k.sv, .slice A8 k.body.length c8] 39)
  have hbq := (Below.refl w8.heap.size w8).alloc (Nat.le_refl _) (Obj.cells #[.int .i64 k.cl, .int .i64 k.ep, .int .i64 k.bo, .int .i64 k.sq, .int .i64 k.ak, .bool k.sv, .slice A8 k.body.length c8] 39)
  generalize w8.alloc (Obj.cells #[.int .i64 k.cl, .int .i64 k.ep, .int .i64 k.bo, .int .i64 k.sq, .int .i64 k.ak, .bool k.sv, .slice A8 k.body.length c8] 39) = w9 at *
  have HOW9 := Lib.hid ((hbq.block O (lt_of_row (Nat.le_refl _) HOW8.out)).trans HOW8.out)
  have HP9 := Lib.hid ((hbq.block w.heap.size (lt_of_row (Nat.le_refl _) HP8.out)).trans HP8.out)
  have HO9 := Lib.hid (HO8.out.below hbq)
  have HX9 := Lib.hid (HX8.out.below hbq)
  have HY9 := Lib.hid (HY8.out.below hbq)
  have HK9 := Lib.hid (HK8.out.below hbq)
  have HQ9 := Lib.hid hq
  have HB9 := Lib.hid (HB8.out.trans (hbq.mono HB8.out.size))
  clear hq hbq HOW8 HP8 HO8 HX8 HY8 HK8 HB8
  generalize w8.heap.size = Qb at *
  refine (HRO.out w9 (H2.out.below HB9.out)).mono ?_; rintro e w10 ⟨A10, c10, rfl, ho10, hb10⟩
  have how10 := (hb10.block O (lt_of_row (Nat.le_refl _) HOW9.out)).trans HOW9.out
  have hp10 := (hb10.block w.heap.size (lt_of_row (Nat.le_refl _) HP9.out)).trans HP9.out
  have hq10 := (hb10.block Qb (lt_of_row (Nat.le_refl _) HQ9.out)).trans HQ9.out
  have HO10 := Lib.hid (HO9.out.below hb10)
  have HX10 := Lib.hid (HX9.out.below hb10)
  have HY10 := Lib.hid (HY9.out.below hb10)
  have HK10 := Lib.hid (HK9.out.below hb10)
  have HZ10 := Lib.hid ho10
  have HB10 := Lib.hid (HB9.out.trans (hb10.mono HB9.out.size))
  have HOWX := Lib.hid how10
  have HPX := Lib.hid hp10
  have HQX := Lib.hid hq10
  clear ho10 hb10 how10 hp10 hq10 HOW9 HP9 HO9 HX9 HY9 HK9 HQ9 HB9 HRO
  go_upto_region 9 with fail
  have hr := heap_alloc_new w10 (Obj.cells #[.int .i64 k.cl, .int .i64 k.ep, .int .i64 k.bo, .int .i64 k.sq, .int .i64 k.ak, .bool k.sv, .slice A10 k.body.length c10] 39)
  have hbr := (Below.refl w10.heap.size w10).alloc (Nat.le_refl _) (Obj.cells #[.int .i64 k.cl, .int .i64 k.ep, .int .i64 k.bo, .int .i64 k.sq, .int .i64 k.ak, .bool k.sv, .slice A10 k.body.length c10] 39)
  generalize w10.alloc (Obj.cells #[.int .i64 k.cl, .int .i64 k.ep, .int .i64 k.bo, .int .i64 k.sq, .int .i64 k.ak, .bool k.sv, .slice A10 k.body.length c10] 39) = w11 at *
  have how := (hbr.block O (lt_of_row (Nat.le_refl _) HOWX.out)).trans HOWX.out
  have hp := (hbr.block w.heap.size (lt_of_row (Nat.le_refl _) HPX.out)).trans HPX.out
  have hq := (hbr.block Qb (lt_of_row (Nat.le_refl _) HQX.out)).trans HQX.out
  have s1 := str8 (c := c5) (HX10.out.below hbr).rd rfl
  have s2 := str8 (c := c6) (HY10.out.below hbr).rd rfl
  have HO11 := Lib.hid (HO10.out.below hbr)
  have HK11 := Lib.hid (HK10.out.below hbr)
  have HZ11 := Lib.hid (HZ10.out.below hbr)
  have HB11 := Lib.hid (HB10.out.trans (hbr.mono HB10.out.size))
  have HOW11 := Lib.hid how
  have HP11 := Lib.hid hp
  clear hbr HOWX HPX HQX HX10 HY10 HO10 HK10 HZ10 HB10
  obtain ⟨r0, r1, r2, r3, r4, r5, r6⟩ := row7 hr
  obtain ⟨q0, q1, q2, q3, q4, q5, q6⟩ := row7 hq
  clear how hp hq hr
  generalize w10.heap.size = Rb at *
  go_wp2_with fail
  refine (spk_c k.cl k.ep k.bo k.sq k.ak k.sv k.body k.body.length rfl A8 A10 c8 c10 w11 HK11.out.rd HZ11.out.rd).mono ?_; rintro e w12 ⟨rfl, hb12⟩
  have how := (hb12.block O (lt_of_row (Nat.le_refl _) HOW11.out)).trans HOW11.out
  have hp := (hb12.block w.heap.size (lt_of_row (Nat.le_refl _) HP11.out)).trans HP11.out
  have HB12 := Lib.hid (HB11.out.trans (hb12.mono HB11.out.size))
  have s3 := str8 (c := c3) (HO11.out.below hb12).rd rfl
  have s4 := str8 (c := c) (H.out.below HB12.out) rfl
  clear q0 q1 q2 q3 q4 q5 q6 r0 r1 r2 r3 r4 r5 r6 s1 s2 hb12 HOW11 HP11
  obtain ⟨q0, q1, q2, q3, q4, q5, q6⟩ := row7 how
  obtain ⟨r0, r1, r2, r3, r4, r5, r6⟩ := row7 hp
  clear how hp
  go_wp2_with fail
  go_ret
  exact ⟨ret_bool (by simp), HB12.out⟩

end Go.Proofs.Ytbhjdapkhcgmlaa
