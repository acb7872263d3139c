import Derived.Test.YteabhokkiggcjaaSide
import Derived.Deep.CutRange
import Derived.Deep.CutBlock
import Derived.Deep.DeepCutAuto
import Derived.Deep.RegionHeldLaw
namespace Go.Proofs.Yteabhokkiggcjaa
open Go.RowKit

/-- What holds where all kinds of acts meet. -/
def Met (T Wb : Nat) (w0 : World) (e f2 ok yes : Value) (wx : World) : Prop := ∃ (n0 : Int) (b0 : Bool) (f l : List UInt8) (fb lb : Option Nat) (r : Nat) (D : Option Addr) (c : Nat), e = .int .i64 n0 ∧ f2 = .int .i64 n0 ∧ ok = .bool b0 ∧ yes = .bool b0 ∧
  TapeAt wx T T f l r fb lb ∧ Side T Wb (f ++ l) f.length r fb lb wx D c ∧ Below w0.heap.size w0 wx

theorem len_app (f l : List UInt8) : (f ++ l).length = f.length + l.length := List.length_append

theorem take_app (f l : List UInt8) (k : Nat) : (f ++ l).take (f.length + k) = f ++ l.take k := by
  rw [List.take_append, List.take_of_length_le (by omega), Nat.add_sub_cancel_left]

theorem low_W {w0 w w' : World} {Wb : Nat} (h : Below w0.heap.size w0 w) (u : Upto (fun k => k = Wb) w w') (hT : w0.heap.size ≤ Wb) : Below w0.heap.size w0 w' :=
  h.trans (u.below h.size (fun k hk e => by omega))

set_option maxRecDepth 1000000 in
set_option maxHeartbeats 16000000 in
theorem runs_c (room : Int) (A : Option Addr) (L : List (Int × Int × List UInt8)) (c : Nat) (w : World) (h : RdA w A L) (hl : L.length ≤ 9223372036854775807)
    (hr1 : -9223372036854775808 ≤ room) (hr2 : room ≤ 9223372036854775807) :
    Calls Try.prog 6 #[.int .i64 room, .slice A L.length c] w fun e w' => e = .returned (.bool true) ∧ Below w.heap.size w w' := by
  have H := Lib.hid h
  clear h
  go_enter Try.func6, Try.ntmps6
  go_wp2_with fail
  refine (alive_c _).mono ?_; rintro e w1 ⟨rfl, hb1⟩
  have HB1 := Lib.hid hb1
  clear hb1
  by_cases hlen : 200 < L.length
  · go_wp2_with fail
    go_ret
    exact ⟨rfl, HB1.out⟩
  · go_wp2_with fail
    (with_reducible refine (new_c w1 room hr1 hr2).mono ?_); rintro e w2 ⟨rfl, ht2, hb2⟩
    have hrr : ((max 0 (min room 20000)).toNat : Int) = max 0 (min room 20000) := by omega
    have HRR := Lib.hid hrr
    have hbb : ((max 0 (min room 20000)).toNat) ≤ 20000 := by omega
    have HT2 := Lib.hid ht2
    have HB2 := Lib.hid (HB1.out.trans (hb2.mono HB1.out.size))
    have HT0 := Lib.hid HB1.out.size
    clear ht2 hb2 hrr
    go_wp2_with fail
    (with_reducible refine (refNew_c room w2).mono ?_); rintro e w3 ⟨rfl, hb3⟩
    have HT3 := Lib.hid ((HT2.out.below hb3).alloc (.cells #[.slice none 0 0, .int .i64 0, .int .i64 (max 0 (min room 20000))] 40))
    have hb23 := HB2.out.trans (hb3.mono HB2.out.size)
    have HB3 := Lib.hid (hb23.alloc hb23.size (.cells #[.slice none 0 0, .int .i64 0, .int .i64 (max 0 (min room 20000))] 40))
    have hrow := heap_alloc_new w3 (.cells #[.slice none 0 0, .int .i64 0, .int .i64 (max 0 (min room 20000))] 40)
    have hTW : w1.heap.size < w3.heap.size := (HT2.out.below hb3).lt
    have hside : Side w1.heap.size w3.heap.size [] 0 (max 0 (min room 20000)).toNat none none (w3.alloc (.cells #[.slice none 0 0, .int .i64 0, .int .i64 (max 0 (min room 20000))] 40)) none 0 :=
      ⟨by rw [HRR.out]; exact hrow, Ow.nil, fun a e => (by cases e), (by simp), (by simp), hTW⟩
    have HS3 := Lib.hid hside
    have HWB : Hid (w1.heap.size < w3.heap.size) := hTW
    clear hb3 hb23 hrow hside hTW
    go_wp2_with fail
    generalize hT : w1.heap.size = T at *
    generalize hW : w3.heap.size = Wb at *
    generalize (max 0 (min room 20000)).toNat = r0 at *
    clear hT hW hbb
    go_loopw [26] (fun i wr => ∃ k : Nat, k ≤ L.length ∧ i = .int .i64 k ∧ ∃ (f l : List UInt8) (fb lb : Option Nat) (r : Nat) (D : Option Addr) (c' : Nat), Hid (TapeAt wr T T f l r fb lb) ∧ Hid (Side T Wb (f ++ l) f.length r fb lb wr D c') ∧ Hid (Below w.heap.size w wr)) (fun i _ => L.length - (intOf i).toNat)
    case atStart => exact ⟨0, Nat.zero_le _, rfl, [], [], none, none, r0, none, 0, HT3, HS3, HB3⟩
    case round =>
      obtain ⟨k, hk, rfl, f, l, fb, lb, r, D, cd, ht, hs, hb⟩ := hrel
      by_cases hlt : k < L.length
      · obtain ⟨⟨kd, n, p⟩, hp⟩ := get_some L k hlt
        obtain ⟨a, Bp, cp, rfl, hc0, hc1, hc2, hnp, hlp, hrp, ⟨kl, ku⟩, ⟨nl, nu⟩⟩ := H.out k _ hp
        simp only at hc0 hc1 hc2 hlp hrp kl ku nl nu
        have hd0 := (hb.out.cell (World.block_lt_of_cell? w _ hc0)).trans hc0
        have hd1 := (hb.out.cell (World.block_lt_of_cell? w _ hc1)).trans hc1
        have hd2 := (hb.out.cell (World.block_lt_of_cell? w _ hc2)).trans hc2
        rw [add_far a (k * 3) 1 (by omega)] at hd1
        rw [add_far a (k * 3) 2 (by omega)] at hd2
        have HRP := Lib.hid hrp
        have HNP := Lib.hid hnp
        have HTX := Lib.hid (ht.out.alloc (.cells #[.int .i64 kd, .int .i64 n, .slice Bp p.length cp] 31))
        have HSX := Lib.hid (hs.out.below ((Below.refl _ _).alloc (Nat.le_refl _) (.cells #[.int .i64 kd, .int .i64 n, .slice Bp p.length cp] 31)))
        have HBX := Lib.hid (hb.out.alloc hb.out.size (.cells #[.int .i64 kd, .int .i64 n, .slice Bp p.length cp] 31))
        have HAX := Lib.hid (heap_alloc_new wr (.cells #[.int .i64 kd, .int .i64 n, .slice Bp p.length cp] 31))
        have HZX : Hid ((wr.alloc (.cells #[.int .i64 kd, .int .i64 n, .slice Bp p.length cp] 31)).heap.size = wr.heap.size + 1) := by unfold Hid; simp
        have HTL := Lib.hid ht.out.lt
        have HWL := Lib.hid hs.out.lt
        have HFL := Lib.hid ht.out.fb_lt
        have HLL := Lib.hid ht.out.lb_lt
        have HDL := Lib.hid hs.out.own.lt
        have HMR := Lib.hid ht.out.many
        have HRO := Lib.hid ht.out.room
        clear hp hrp hnp hc0 hc1 hc2 ht hs hb
        go_upto_block 2 with fail
        clear hd0 hd1 hd2
        generalize wr.alloc (.cells #[.int .i64 kd, .int .i64 n, .slice Bp p.length cp] 31) = w8 at *
        go_cut [9, 10, 11, 12, 13, 14, 26] from 26 to 133 (fun e f2 ok yes _ _ i wx => Met T Wb w e f2 ok yes wx ∧ i = .int .i64 (k : Int))
        case first =>
          have hkd : kd = 0 ∨ kd = 1 ∨ kd = 2 ∨ kd = 3 ∨ kd = 4 ∨ kd = 5 ∨ (¬ kd = 0 ∧ ¬ kd = 1 ∧ ¬ kd = 2 ∧ ¬ kd = 3 ∧ ¬ kd = 4 ∧ ¬ kd = 5) := by omega
          rcases hkd with rfl | rfl | rfl | rfl | rfl | rfl | ⟨k0, k1, k2, k3, k4, k5⟩
          · generalize wr.heap.size = Z at *
            obtain ⟨a0, a1, a2, az⟩ := row3 HAX.out
            have HRX := Lib.hid (HRP.out.below HBX.out)
            have hlt8 : Z < w8.heap.size := by have := HZX.out; omega
            have a2' := (((Below.refl w8.heap.size w8).alloc (Nat.le_refl _) (.cells #[] 5)).cell (p := ⟨Z, 2, none⟩) hlt8).trans a2
            go_wp2_with (at_builtin; refine copy8 rfl _ _ rfl _ rfl p Bp cp HRX.out rfl rfl HNP.out (by omega) ?_)
            intro A9 c9 w9 ho9 hb9
            have HO9 := Lib.hid ho9
            have HT9 := Lib.hid (HTX.out.below hb9)
            have HS9 := Lib.hid (HSX.out.below hb9)
            have HB9 := Lib.hid (HBX.out.trans (hb9.mono HBX.out.size))
            have HA9 := Lib.hid ((hb9.block Z (by have := HZX.out; omega)).trans HAX.out)
            have HZ9 := Lib.hid hb9.size
            have HB9B : Hid (∀ b, A9 = some ⟨b, 0, none⟩ → Z < b ∧ b < w9.heap.size) := fun b e => by
              obtain ⟨q1, q2, -⟩ := ho9.lt _ e
              have q3 := HZX.out
              have q4 : w8.heap.size ≤ b := q1
              exact ⟨by omega, q2⟩
            clear ho9 hb9 a0 a1 a2 az a2' hlt8
            go_wp2_with fail
            by_cases hfit : p.length ≤ r - (f.length + l.length)
            · have HFIT := Lib.hid hfit
              (with_reducible refine (append_ok T w9 T f l r fb lb HT9.out A9 p c9 HO9.out.rd HO9.out.nil_cap hlp hfit).mono ?_)
              rintro e w10 ⟨rfl, lb10, ht10, hn10, hu10⟩
              have HT10 := Lib.hid ht10
              have HS10 := Lib.hid (HS9.out.tape (fb' := fb) (lb' := lb10) hu10 (.inl rfl) hn10)
              have HB10 := Lib.hid (far_T HB9.out hu10 HT0.out (fun b e => (HT9.out.lb_lt b e).1))
              have HA10 := Lib.hid ((hu10.block Z (by have := HZX.out; have := HZ9.out; omega) (by intro e; rcases e with e | e; exact absurd e (by have := HTL.out; omega); exact absurd (HLL.out _ e).2 (by omega))).trans HA9.out)
              have HO10 := Lib.hid (HO9.out.upto hu10 (fun a e e2 => by have q := (HO9.out.lt a e).1; have := HZX.out; rcases e2 with e2 | e2; have := HTL.out; omega; have := (HLL.out _ e2).2; omega))
              have HLB : Hid (∀ b, Z < b ∧ b < w9.heap.size → lb10 ≠ some b) := fun b hb e => by
                rcases hn10 with q | q
                · rw [q] at e; have := (HLL.out b e).2; omega
                · have := q b e; omega
              have HZ10 := Lib.hid hu10.size
              have HRP10 := Lib.hid (HRP.out.below HB10.out)
              obtain ⟨a0, a1, a2, az⟩ := row3 HA10.out
              obtain ⟨c0, c1, c2, cz⟩ := HS10.out.cells
              have hcr := refAppend_ok D (f ++ l) cd f.length r Bp p cp w10 HS10.out.own.rd HS10.out.own.nil_cap HRP10.out HNP.out (by have := HFIT.out; rw [List.length_append]; omega) (by have := HMR.out; simp; omega) (by have := HFIT.out; have := HRO.out; omega)
              rw [List.append_assoc] at hcr
              rw [len_app f l] at hcr
              have HCR := Lib.hid hcr
              clear ht10 hn10 hu10 hcr hfit
              go_wp2_with fail
              refine HCR.out.mono ?_; rintro e w11 ⟨D11, c11, rfl, ho11, hb11⟩
              have HO11 := Lib.hid (HO10.out.below hb11)
              have HS11 := Lib.hid (HS10.out.below hb11)
              have HT11 := Lib.hid (HT10.out.below hb11)
              have HB11 := Lib.hid (HB10.out.trans (hb11.mono HB10.out.size))
              have HDB : Hid (∀ b, Z < b ∧ b < w9.heap.size → ∀ a, D11 = some a → a.block ≠ b) := fun b hb a e e2 => by have := (ho11.lt a e).1; have := HZ10.out; omega
              have HSET := Lib.hid (fun (m : Nat) hn (si ri : Int) hs hr => HS11.out.set (ho11.low (B' := T) (by have := HT10.out.lt; omega)) (new_apart HS10.out HT10.out ho11 (Nat.le_refl _)) (n := m) hn (s' := f.length) (r' := r) (si := si) (ri := ri) hs hr)
              obtain ⟨k0, k1, k2, kz⟩ := HS11.out.cells
              clear hb11 c0 c1 c2 cz ho11 a0 a1 a2 az
              go_wp2_with fail
              go_loopw [50] (fun i wr => ∃ (j : Nat) (q : List UInt8), j ≤ p.length ∧ i = .int .i64 j ∧ Hid (q.length = p.length) ∧ Hid (Ow 5 g8 wr w8.heap.size A9 q c9) ∧ Hid (TapeAt wr T T f (l ++ p) r fb lb10) ∧ Hid (Side T Wb (f ++ (l ++ p)) f.length r fb lb10 wr D11 c11) ∧ Hid (Below w.heap.size w wr)) (fun i _ => p.length - (intOf i).toNat)
              case atStart => exact ⟨0, p, Nat.zero_le _, rfl, rfl, (HO11.out.upto (HSET.out _ (by simp) _ _ rfl rfl).2 (fun a e => by have := (HO9.out.lt a e).1; have := HWL.out; have := HZX.out; omega)), HS11.out.tapeAt HT11.out (HSET.out _ (by simp) _ _ rfl rfl).2, (HSET.out _ (by simp) _ _ rfl rfl).1, low_W HB11.out (HSET.out _ (by simp) _ _ rfl rfl).2 (by have := HWB.out; have := HT0.out; omega)⟩
              case round =>
                obtain ⟨j, q, hj, rfl, hq, hoq, htq, hsq, hbq⟩ := hrel
                by_cases hjl : j < p.length
                · obtain ⟨b9, rfl, hb9l⟩ := hoq.out.at_some (by have := hq.out; omega)
                  obtain ⟨x, hx⟩ := get_some q j (by have := hq.out; omega)
                  have hcx := hoq.out.cell hx
                  have hfx := hoq.out.thawed j
                  have HX := Lib.hid hx
                  have HQ := Lib.hid hq.out
                  have hbb := HB9B.out b9 rfl
                  have HBB := Lib.hid hbb
                  clear hx hbb
                  go_wp2_with fail
                  have hval : ∀ v : Int, ∃ y : UInt8, Value.int .u8 (v % 256) = g8 y := fun v => ⟨UInt8.ofNat (v % 256).toNat, by
                    show Value.int .u8 (v % 256) = Value.int .u8 (((UInt8.ofNat (v % 256).toNat).toNat : Nat) : Int)
                    rw [UInt8.toNat_ofNat']; congr 1; omega⟩
                  obtain ⟨y, hy⟩ := hval ((x.toNat : Int) + 1)
                  have HY := Lib.hid hy
                  clear hval hy
                  rw [HY.out]
                  have hu := (Upto.refl (fun k => k = b9) wr).setCell (p := ⟨b9, j, none⟩) rfl (g8 y)
                  go_roundw
                  case rel => exact ⟨j + 1, q.set j y, by omega, by go_num, by unfold Hid; rw [List.length_set]; exact hq.out, hoq.out.set j y, htq.out.upto hu (by have := HBB.out; have := HTL.out; omega) (fun b e e2 => by have := (HFL.out b e).2; have := HBB.out; omega) (fun b e e2 => HLB.out b9 HBB.out (by rw [e, e2])), hsq.out.upto hu (by have := HBB.out; have := HWL.out; omega) (fun a e e2 => HDB.out b9 HBB.out a e e2) (.inl rfl) (.inl rfl), hbq.out.setCell (show w.heap.size ≤ b9 by have := HBB.out; have := HTL.out; have := HT0.out; omega) _⟩
                  case measure => simp [intOf]; omega
                · go_wp2_with fail
                  go_meet
                  refine ⟨?_, rfl⟩
                  exact ⟨0, false, f, (l ++ p), fb, lb10, r, D11, c11, rfl, rfl, rfl, rfl, htq.out, hsq.out, hbq.out⟩
            · have HFIT := Lib.hid hfit
              (with_reducible refine (append_full T w9 T f l r fb lb HT9.out A9 p c9 HO9.out.rd HO9.out.nil_cap hlp (by omega)).mono ?_)
              rintro e w10 ⟨rfl, nq, rfl⟩
              have HT10 := Lib.hid (HT9.out.drewN nq)
              have HS10 := Lib.hid (HS9.out.below (below_drewN (Below.refl _ _) nq))
              have HB10 := Lib.hid (below_drewN HB9.out nq)
              have HA10 : Hid ((w9.drewN nq).heap[Z]? = _) := HA9
              have HO10 := Lib.hid (HO9.out.drewN nq)
              have HLB : Hid (∀ b, Z < b ∧ b < w9.heap.size → lb ≠ some b) := fun b hb e => by have := (HLL.out b e).2; omega
              have HDB : Hid (∀ b, Z < b ∧ b < w9.heap.size → ∀ a, D = some a → a.block ≠ b) := fun b hb a e e2 => by have := (HDL.out a e).2.1; omega
              generalize w9.drewN nq = w10 at *
              obtain ⟨a0, a1, a2, az⟩ := row3 HA10.out
              obtain ⟨c0, c1, c2, cz⟩ := HS10.out.cells
              have hcr := refAppend_no D (f ++ l).length cd p.length cp f.length r Bp w10 (by have := HFIT.out; omega) (by have := HFIT.out; simp; omega) (by have := HMR.out; simp; omega) (by omega)
              rw [List.length_append] at hcr
              have HCR := Lib.hid hcr
              clear hcr hfit
              go_wp2_with fail
              refine HCR.out.mono ?_; rintro e w11 ⟨rfl, hb11⟩
              have HO11 := Lib.hid (HO10.out.below hb11)
              have HS11 := Lib.hid (HS10.out.below hb11)
              have HT11 := Lib.hid (HT10.out.below hb11)
              have HB11 := Lib.hid (HB10.out.trans (hb11.mono HB10.out.size))
              have HSET := Lib.hid (fun (m : Nat) hn (si ri : Int) hs hr => HS11.out.set HS11.out.own HS11.out.apart (n := m) hn (s' := f.length) (r' := r) (si := si) (ri := ri) hs hr)
              obtain ⟨k0, k1, k2, kz⟩ := HS11.out.cells
              clear hb11 c0 c1 c2 cz a0 a1 a2 az
              go_wp2_with fail
              go_loopw [50] (fun i wr => ∃ (j : Nat) (q : List UInt8), j ≤ p.length ∧ i = .int .i64 j ∧ Hid (q.length = p.length) ∧ Hid (Ow 5 g8 wr w8.heap.size A9 q c9) ∧ Hid (TapeAt wr T T f l r fb lb) ∧ Hid (Side T Wb (f ++ l) f.length r fb lb wr D cd) ∧ Hid (Below w.heap.size w wr)) (fun i _ => p.length - (intOf i).toNat)
              case atStart => exact ⟨0, p, Nat.zero_le _, rfl, rfl, (HO11.out.upto (HSET.out _ (by simp) _ _ rfl rfl).2 (fun a e => by have := (HO9.out.lt a e).1; have := HWL.out; have := HZX.out; omega)), HS11.out.tapeAt HT11.out (HSET.out _ (by simp) _ _ rfl rfl).2, (HSET.out _ (by simp) _ _ rfl rfl).1, low_W HB11.out (HSET.out _ (by simp) _ _ rfl rfl).2 (by have := HWB.out; have := HT0.out; omega)⟩
              case round =>
                obtain ⟨j, q, hj, rfl, hq, hoq, htq, hsq, hbq⟩ := hrel
                by_cases hjl : j < p.length
                · obtain ⟨b9, rfl, hb9l⟩ := hoq.out.at_some (by have := hq.out; omega)
                  obtain ⟨x, hx⟩ := get_some q j (by have := hq.out; omega)
                  have hcx := hoq.out.cell hx
                  have hfx := hoq.out.thawed j
                  have HX := Lib.hid hx
                  have HQ := Lib.hid hq.out
                  have hbb := HB9B.out b9 rfl
                  have HBB := Lib.hid hbb
                  clear hx hbb
                  go_wp2_with fail
                  have hval : ∀ v : Int, ∃ y : UInt8, Value.int .u8 (v % 256) = g8 y := fun v => ⟨UInt8.ofNat (v % 256).toNat, by
                    show Value.int .u8 (v % 256) = Value.int .u8 (((UInt8.ofNat (v % 256).toNat).toNat : Nat) : Int)
                    rw [UInt8.toNat_ofNat']; congr 1; omega⟩
                  obtain ⟨y, hy⟩ := hval ((x.toNat : Int) + 1)
                  have HY := Lib.hid hy
                  clear hval hy
                  rw [HY.out]
                  have hu := (Upto.refl (fun k => k = b9) wr).setCell (p := ⟨b9, j, none⟩) rfl (g8 y)
                  go_roundw
                  case rel => exact ⟨j + 1, q.set j y, by omega, by go_num, by unfold Hid; rw [List.length_set]; exact hq.out, hoq.out.set j y, htq.out.upto hu (by have := HBB.out; have := HTL.out; omega) (fun b e e2 => by have := (HFL.out b e).2; have := HBB.out; omega) (fun b e e2 => HLB.out b9 HBB.out (by rw [e, e2])), hsq.out.upto hu (by have := HBB.out; have := HWL.out; omega) (fun a e e2 => HDB.out b9 HBB.out a e e2) (.inl rfl) (.inl rfl), hbq.out.setCell (show w.heap.size ≤ b9 by have := HBB.out; have := HTL.out; have := HT0.out; omega) _⟩
                  case measure => simp [intOf]; omega
                · go_wp2_with fail
                  go_meet
                  refine ⟨?_, rfl⟩
                  exact ⟨61, false, f, l, fb, lb, r, D, cd, rfl, rfl, rfl, rfl, htq.out, hsq.out, hbq.out⟩
          · go_wp2_with fail
            (with_reducible refine (sync_c T w8 T f l r fb lb HTX.out).mono ?_); rintro e w9 ⟨rfl, fb9, ht9, hf9, hu9⟩
            have HT9 := Lib.hid ht9
            have HS9 := Lib.hid (HSX.out.tape (fb' := fb9) (lb' := none) hu9 (.inr hf9) (.inr (fun b e => by cases e)))
            have HB9 := Lib.hid (far_T HBX.out hu9 HT0.out (fun b e => (HTX.out.lb_lt b e).1))
            obtain ⟨c0, c1, c2, cz⟩ := HS9.out.cells
            clear ht9 hf9 hu9
            go_wp2_with fail
            (with_reducible refine (refSync_c D _ cd _ _ w9).mono ?_); rintro e w10 ⟨rfl, hb10⟩
            have HS10 := Lib.hid (HS9.out.below hb10)
            have HT10 := Lib.hid (HT9.out.below hb10)
            have HB10 := Lib.hid (HB9.out.trans (hb10.mono HB9.out.size))
            have HSET := Lib.hid (fun (n : Nat) hn (si ri : Int) hs hr => HS10.out.set HS10.out.own HS10.out.apart (n := n) hn (s' := (f ++ l).length) (r' := r) (si := si) (ri := ri) hs hr)
            obtain ⟨k0, k1, k2, kz⟩ := HS10.out.cells
            clear hb10 c0 c1 c2 cz
            go_wp2_with fail
            go_meet
            refine ⟨?_, rfl⟩
            refine ⟨0, false, f ++ l, [], fb9, none, r, D, cd, rfl, rfl, rfl, rfl, HS10.out.tapeAt HT10.out (HSET.out _ (by simp) _ _ (by simp) rfl).2, ?_, low_W HB10.out (HSET.out _ (by simp) _ _ (by simp) rfl).2 (by have := HWB.out; have := HT0.out; omega)⟩
            rw [List.append_nil]
            exact (HSET.out _ (by simp) _ _ (by simp) rfl).1
          · obtain ⟨a0, a1, a2, az⟩ := row3 HAX.out
            go_wp2_with fail
            (with_reducible refine (crash_c T w8 T f l r fb lb HTX.out n nl nu).mono ?_); rintro e w9 ⟨rfl, fb9, ht9, hf9, hu9⟩
            have HT9 := Lib.hid ht9
            have HS9 := Lib.hid (HSX.out.tape (fb' := fb9) (lb' := none) hu9 (.inr hf9) (.inr (fun b e => by cases e)))
            have HB9 := Lib.hid (far_T HBX.out hu9 HT0.out (fun b e => (HTX.out.lb_lt b e).1))
            have HA9 := Lib.hid ((hu9.block wr.heap.size (by have := HZX.out; omega) (by intro e; rcases e with e | e; exact absurd e (by have := HTL.out; omega); exact absurd (HLL.out _ e).2 (by omega))).trans HAX.out)
            clear a0 a1 a2 az
            obtain ⟨a0, a1, a2, az⟩ := row3 HA9.out
            obtain ⟨c0, c1, c2, cz⟩ := HS9.out.cells
            have hcr := refCrash_c D (f ++ l) cd f.length r n w9 HS9.out.own.rd HS9.out.own.nil_cap HS9.out.own.le (by simp) (by have := HMR.out; simp; omega) nl nu
            rw [List.length_append, take_app] at hcr
            have HCR := Lib.hid hcr
            clear ht9 hf9 hu9 hcr
            go_wp2_with fail
            refine HCR.out.mono ?_; rintro e w10 ⟨D10, c10, rfl, ho10, hb10⟩
            have HO10 := Lib.hid ho10
            have HS10 := Lib.hid (HS9.out.below hb10)
            have HT10 := Lib.hid (HT9.out.below hb10)
            have HB10 := Lib.hid (HB9.out.trans (hb10.mono HB9.out.size))
            have HSET := Lib.hid (fun (m : Nat) hn (si ri : Int) hs hr => HS10.out.set (ho10.low (B' := T) (by have := HT9.out.lt; omega)) (new_apart HS9.out HT9.out ho10 (Nat.le_refl _)) (n := m) hn (s' := (f ++ l.take n.toNat).length) (r' := r) (si := si) (ri := ri) hs hr)
            obtain ⟨k0, k1, k2, kz⟩ := HS10.out.cells
            clear hb10 c0 c1 c2 cz ho10 a0 a1 a2 az
            go_wp2_with fail
            go_meet
            refine ⟨?_, rfl⟩
            refine ⟨0, false, f ++ l.take n.toNat, [], fb9, none, r, D10, c10, rfl, rfl, rfl, rfl, HS10.out.tapeAt HT10.out (HSET.out _ (by simp) _ _ (by simp) rfl).2, ?_, low_W HB10.out (HSET.out _ (by simp) _ _ (by simp) rfl).2 (by have := HWB.out; have := HT0.out; omega)⟩
            rw [List.append_nil]
            exact (HSET.out _ (by simp) _ _ (by simp) rfl).1
          · obtain ⟨a0, a1, a2, az⟩ := row3 HAX.out
            go_wp2_with fail
            (with_reducible refine (limit_c T w8 T f l r fb lb HTX.out n nl nu).mono ?_); rintro e w9 ⟨rfl, ht9, hu9⟩
            have HT9 := Lib.hid ht9
            have HS9 := Lib.hid (HSX.out.tape (fb' := fb) (lb' := lb) hu9 (.inl rfl) (.inl rfl))
            have HB9 := Lib.hid (far_T HBX.out hu9 HT0.out (fun b e => (HTX.out.lb_lt b e).1))
            have HA9 := Lib.hid ((hu9.block wr.heap.size (by have := HZX.out; omega) (by intro e; rcases e with e | e; exact absurd e (by have := HTL.out; omega); exact absurd (HLL.out _ e).2 (by omega))).trans HAX.out)
            clear a0 a1 a2 az
            obtain ⟨a0, a1, a2, az⟩ := row3 HA9.out
            obtain ⟨c0, c1, c2, cz⟩ := HS9.out.cells
            clear ht9 hu9
            go_wp2_with fail
            (with_reducible refine (refLimit_c D _ cd _ _ n w9).mono ?_); rintro e w10 ⟨rfl, hb10⟩
            have HS10 := Lib.hid (HS9.out.below hb10)
            have HT10 := Lib.hid (HT9.out.below hb10)
            have HB10 := Lib.hid (HB9.out.trans (hb10.mono HB9.out.size))
            have HSET := Lib.hid (fun (m : Nat) hn (si ri : Int) hs hr => HS10.out.set HS10.out.own HS10.out.apart (n := m) hn (s' := f.length) (r' := (max 0 (min n 20000)).toNat) (si := si) (ri := ri) hs hr)
            have hrm : max 0 (min n 20000) = (((max 0 (min n 20000)).toNat : Nat) : Int) := by omega
            have HRM := Lib.hid hrm
            obtain ⟨k0, k1, k2, kz⟩ := HS10.out.cells
            clear hb10 c0 c1 c2 cz a0 a1 a2 az hrm
            go_wp2_with fail
            go_meet
            refine ⟨?_, rfl⟩
            exact ⟨0, false, f, l, fb, lb, _, D, cd, rfl, rfl, rfl, rfl, HS10.out.tapeAt HT10.out (HSET.out _ (by simp) _ _ rfl HRM.out).2, (HSET.out _ (by simp) _ _ rfl HRM.out).1, low_W HB10.out (HSET.out _ (by simp) _ _ rfl HRM.out).2 (by have := HWB.out; have := HT0.out; omega)⟩
          · obtain ⟨a0, a1, a2, az⟩ := row3 HAX.out
            go_wp2_with fail
            (with_reducible refine (cut_c T w8 T f l r fb lb HTX.out n nl nu).mono ?_); rintro e w9 ⟨rfl, ht9, hu9⟩
            have HT9 := Lib.hid ht9
            have HS9 := Lib.hid (HSX.out.tape (fb' := fb) (lb' := lb) hu9 (.inl rfl) (.inl rfl))
            have HB9 := Lib.hid (far_T HBX.out hu9 HT0.out (fun b e => (HTX.out.lb_lt b e).1))
            have HA9 := Lib.hid ((hu9.block wr.heap.size (by have := HZX.out; omega) (by intro e; rcases e with e | e; exact absurd e (by have := HTL.out; omega); exact absurd (HLL.out _ e).2 (by omega))).trans HAX.out)
            clear a0 a1 a2 az
            obtain ⟨a0, a1, a2, az⟩ := row3 HA9.out
            obtain ⟨c0, c1, c2, cz⟩ := HS9.out.cells
            have hcr := refCut_c D (f ++ l) cd f.length r n w9 HS9.out.own.rd (by have := HMR.out; simp; omega)
            rw [List.take_append] at hcr
            rw [List.length_append] at hcr
            have HCR := Lib.hid hcr
            clear ht9 hu9 hcr
            go_wp2_with fail
            refine HCR.out.mono ?_; rintro e w10 ⟨D10, c10, rfl, ho10, hb10⟩
            have HO10 := Lib.hid ho10
            have HS10 := Lib.hid (HS9.out.below hb10)
            have HT10 := Lib.hid (HT9.out.below hb10)
            have HB10 := Lib.hid (HB9.out.trans (hb10.mono HB9.out.size))
            have HSET := Lib.hid (fun (m : Nat) hn (si ri : Int) hs hr => HS10.out.set (ho10.low (B' := T) (by have := HT9.out.lt; omega)) (new_apart HS9.out HT9.out ho10 (Nat.le_refl _)) (n := m) hn (s' := (f.take n.toNat).length) (r' := r) (si := si) (ri := ri) hs hr)
            obtain ⟨k0, k1, k2, kz⟩ := HS10.out.cells
            clear hb10 c0 c1 c2 cz ho10 a0 a1 a2 az
            go_wp2_with fail
            go_meet
            refine ⟨?_, rfl⟩
            exact ⟨0, false, f.take n.toNat, l.take (n.toNat - f.length), fb, lb, r, D10, c10, rfl, rfl, rfl, rfl, HS10.out.tapeAt HT10.out (HSET.out _ (by simp) _ _ (by simp; omega) rfl).2, (HSET.out _ (by simp) _ _ (by simp; omega) rfl).1, low_W HB10.out (HSET.out _ (by simp) _ _ (by simp; omega) rfl).2 (by have := HWB.out; have := HT0.out; omega)⟩
          · obtain ⟨a0, a1, a2, az⟩ := row3 HAX.out
            have hdr : (n < 0 ∨ (f.length : Int) < n) ∨ (0 ≤ n ∧ n ≤ f.length) := by omega
            rcases hdr with hno | ⟨hd1, hd2⟩
            · go_wp2_with fail
              (with_reducible refine (drop_no T w8 T f l r fb lb HTX.out n hno).mono ?_); rintro e w9 ⟨rfl, rfl⟩
              obtain ⟨c0, c1, c2, cz⟩ := HSX.out.cells
              have HNO := Lib.hid hno
              clear hno
              go_wp2_with fail
              (with_reducible refine (refDrop_no D _ cd _ _ n w8 HNO.out).mono ?_); rintro e w10 ⟨rfl, hb10⟩
              have HS10 := Lib.hid (HSX.out.below hb10)
              have HT10 := Lib.hid (HTX.out.below hb10)
              have HB10 := Lib.hid (HBX.out.trans (hb10.mono HBX.out.size))
              have HSET := Lib.hid (fun (m : Nat) hn (si ri : Int) hs hr => HS10.out.set HS10.out.own HS10.out.apart (n := m) hn (s' := f.length) (r' := r) (si := si) (ri := ri) hs hr)
              obtain ⟨k0, k1, k2, kz⟩ := HS10.out.cells
              clear hb10 c0 c1 c2 cz a0 a1 a2 az
              go_wp2_with fail
              go_meet
              refine ⟨?_, rfl⟩
              exact ⟨0, false, f, l, fb, lb, r, D, cd, rfl, rfl, rfl, rfl, HS10.out.tapeAt HT10.out (HSET.out _ (by simp) _ _ rfl rfl).2, (HSET.out _ (by simp) _ _ rfl rfl).1, low_W HB10.out (HSET.out _ (by simp) _ _ rfl rfl).2 (by have := HWB.out; have := HT0.out; omega)⟩
            · obtain ⟨m, rfl⟩ := Int.eq_ofNat_of_zero_le hd1
              have hmf : m ≤ f.length := by omega
              go_wp2_with fail
              (with_reducible refine (drop_yes T w8 T f l r fb lb HTX.out m hmf).mono ?_); rintro e w9 ⟨rfl, fb9, ht9, hf9, hu9⟩
              have HT9 := Lib.hid ht9
              have HS9 := Lib.hid (HSX.out.tape (fb' := fb9) (lb' := lb) hu9 (.inr hf9) (.inl rfl))
              have HB9 := Lib.hid (far_T HBX.out hu9 HT0.out (fun b e => (HTX.out.lb_lt b e).1))
              have HA9 := Lib.hid ((hu9.block wr.heap.size (by have := HZX.out; omega) (by intro e; rcases e with e | e; exact absurd e (by have := HTL.out; omega); exact absurd (HLL.out _ e).2 (by omega))).trans HAX.out)
              clear a0 a1 a2 az
              obtain ⟨a0, a1, a2, az⟩ := row3 HA9.out
              obtain ⟨c0, c1, c2, cz⟩ := HS9.out.cells
              have hcr := refDrop_yes D (f ++ l) cd f.length r m w9 HS9.out.own.rd HS9.out.own.nil_cap HS9.out.own.le (by omega) (by simp; omega) (by have := HMR.out; simp; omega)
              rw [List.drop_append_of_le_length hmf] at hcr
              rw [List.length_append] at hcr
              have HCR := Lib.hid hcr
              clear ht9 hf9 hu9 hcr
              go_wp2_with fail
              refine HCR.out.mono ?_; rintro e w10 ⟨D10, c10, rfl, ho10, hb10⟩
              have HO10 := Lib.hid ho10
              have HS10 := Lib.hid (HS9.out.below hb10)
              have HT10 := Lib.hid (HT9.out.below hb10)
              have HB10 := Lib.hid (HB9.out.trans (hb10.mono HB9.out.size))
              have HSET := Lib.hid (fun (m2 : Nat) hn (si ri : Int) hs hr => HS10.out.set (ho10.low (B' := T) (by have := HT9.out.lt; omega)) (new_apart HS9.out HT9.out ho10 (Nat.le_refl _)) (n := m2) hn (s' := (f.drop m).length) (r' := r) (si := si) (ri := ri) hs hr)
              obtain ⟨k0, k1, k2, kz⟩ := HS10.out.cells
              clear hb10 c0 c1 c2 cz ho10 a0 a1 a2 az
              go_wp2_with fail
              go_meet
              refine ⟨?_, rfl⟩
              exact ⟨0, true, f.drop m, l, fb9, lb, r, D10, c10, rfl, rfl, rfl, rfl, HS10.out.tapeAt HT10.out (HSET.out _ (by simp) _ _ (by simp; omega) rfl).2, (HSET.out _ (by simp) _ _ (by simp; omega) rfl).1, low_W HB10.out (HSET.out _ (by simp) _ _ (by simp; omega) rfl).2 (by have := HWB.out; have := HT0.out; omega)⟩
          · have b0 : (kd == 0) = false := by simpa using k0
            have b1 : (kd == 1) = false := by simpa using k1
            have b2 : (kd == 2) = false := by simpa using k2
            have b3 : (kd == 3) = false := by simpa using k3
            have b4 : (kd == 4) = false := by simpa using k4
            have b5 : (kd == 5) = false := by simpa using k5
            go_wp2_with fail
            go_meet
            refine ⟨?_, rfl⟩
            exact ⟨0, false, f, l, fb, lb, r, D, cd, rfl, rfl, rfl, rfl, HTX.out, HSX.out, HBX.out⟩
        case rest =>
          obtain ⟨⟨n0, b0, f2, l2, fb2, lb2, r2, D2, c2, rfl, rfl, rfl, rfl, ht, hs, hb⟩, rfl⟩ := hcut
          have HT := Lib.hid ht
          have HS := Lib.hid hs
          have HB := Lib.hid hb
          obtain ⟨c0, c1, -, -⟩ := hs.cells
          have y0 := str8 (w := wc.drew) (n := f2.length + l2.length) (c := c2) (hs.own.rd.below (Below.refl _ _).drew) (by simp)
          have hkc : ∀ w', Below wc.heap.size wc w' → w'.cell? ⟨Wb, 0, none⟩ = some (.slice D2 (f2.length + l2.length) c2) ∧ w'.cell? ⟨Wb, 1, none⟩ = some (.int .i64 (f2.length : Int)) := fun w' h => by
            obtain ⟨q0, q1, -, -⟩ := (hs.below h).cells
            rw [List.length_append] at q0
            exact ⟨q0, q1⟩
          have KC := Lib.hid hkc
          rw [List.length_append] at c0
          clear ht hs hb hkc
          go_wp2_with fail
          go_region_held_law (fun w' => w'.cell? ⟨Wb, 0, none⟩ = some (.slice D2 (f2.length + l2.length) c2) ∧ w'.cell? ⟨Wb, 1, none⟩ = some (.int .i64 (f2.length : Int))) (first | go_keep | exact KC.out _ K9.out)
            (first
              | (go_at_call 13; (with_reducible refine (bytes_c T _ T f2 l2 r2 fb2 lb2 HT.out.drew).mono ?_); rw [List.length_append]; rintro e w9 ⟨A9, c9, rfl, ho9, hb9⟩; have K9 := Lib.hid ((Below.refl wc.heap.size wc).drew.trans hb9); have HT9 := Lib.hid (HT.out.below K9.out); have HS9 := Lib.hid (HS.out.below K9.out); have HB9 := Lib.hid (HB.out.trans (K9.out.mono HB.out.size)); have y9 := str8 (n := f2.length + l2.length) (c := c9) ho9.rd (by simp); have z9 := str8 (w := w9) (n := f2.length + l2.length) (c := c2) HS9.out.own.rd (by simp); clear ho9 hb9)
              | (go_at_call 14; (with_reducible refine (safe_c T _ T f2 l2 r2 fb2 lb2 HT9.out).mono ?_); rintro e w' ⟨rfl, rfl⟩))
          all_goals
            go_wp2_with fail
            go_roundw
            case rel => exact ⟨k + 1, by omega, by go_num, f2, l2, fb2, lb2, r2, D2, c2, HT9, HS9, HB9⟩
            case measure => simp [intOf]; omega
      · go_wp2_with fail
        go_ret
        exact ⟨rfl, hb.out⟩

end Go.Proofs.Yteabhokkiggcjaa
