import Derived.Test.YteoafaofiohefaaRnK
import Derived.Deep.Cut
namespace Go.Proofs.Yteoafaofiohefaa
open Go.RowKit

set_option maxRecDepth 1000000 in
set_option maxHeartbeats 8000000 in
theorem nruns_early (A1 : Option Addr) (n1 c1 : Nat) (w : World) (hno : 200 < n1) :
    Calls Try.prog 5 #[.slice A1 n1 c1] w fun e w' => e = .returned (.bool true) ∧ Below w.heap.size w w' := by
  go_enter Try.func5, Try.ntmps5
  go_wp2_with fail
  refine (alive_c _).mono ?_; rintro e w1 ⟨rfl, hb1⟩
  have HB1 := Lib.hid hb1
  clear hb1
  go_wp2_with fail
  go_ret
  exact ⟨rfl, HB1.out⟩

set_option maxRecDepth 1000000 in
set_option maxHeartbeats 32000000 in
theorem nruns_main (A1 : Option Addr) (L : List Ac) (n1 c1 : Nat) (w : World) (hL : L.length = n1) (hb : ¬ 200 < n1) (h1 : RdN w A1 L) :
    Calls Try.prog 5 #[.slice A1 n1 c1] w fun e w' => e = .returned (.bool true) ∧ Below w.heap.size w w' := by
  have H1 := Lib.hid h1
  have HLL := Lib.hid hL
  clear h1 hL
  go_enter Try.func5, Try.ntmps5
  go_wp2_with fail
  refine (alive_c _).mono ?_; rintro e w1 ⟨rfl, hb1⟩
  have HB1 := Lib.hid hb1
  clear hb1
  go_wp2_with fail
  (with_reducible refine (new_s w1).mono ?_); rintro e w2 ⟨rfl, ht2, hb2⟩
  have HWB : Hid (w1.heap.size ≤ w2.heap.size) := hb2.size
  have hb12 := HB1.out.trans (hb2.mono HB1.out.size)
  have hrun : RunAt w w1 w2.heap.size (w2.alloc (.cells zero8 37)) (fun _ => []) (fun _ => ⟨none, 0, 0⟩) :=
    ⟨ht2.alloc _, ⟨fun _ => [], ⟨fun _ _ => RLane.nil, (fun _ _ x hx => (by cases hx)), fun _ _ => Nat.zero_le _, (fun _ _ x hx => (by cases hx)), (fun _ _ b e => (by cases e)), (fun _ _ x hx => (by cases hx))⟩, rfl⟩, heap_alloc_new w2 _, hb12.alloc hb12.size _, by simp; have := hb2.size; omega⟩
  unfold zero8 at hrun
  have HRUN := Lib.hid hrun
  clear ht2 hb2 hrun hb12
  go_wp2_with fail
  generalize w2.alloc _ = w3 at HRUN ⊢
  generalize w2.heap.size = Wb at *
  go_loopw [27] (fun i wr => ∃ k : Nat, k ≤ n1 ∧ i = .int .i64 k ∧ ∃ S P, Hid (RunAt w w1 Wb wr S P)) (fun i _ => n1 - (intOf i).toNat)
  case atStart => exact ⟨0, Nat.zero_le _, rfl, _, _, HRUN⟩
  case round =>
    obtain ⟨k, hk, rfl, S, P, hrun⟩ := hrel
    by_cases hlt : k < n1
    · obtain ⟨⟨kd, ln, n, at_, m, p⟩, hx⟩ := get_some L k (by have := HLL.out; omega)
      obtain ⟨ad, Bp, cp, rfl, hat, hok⟩ := H1.out k _ hx
      obtain ⟨d0, d1, d2, d3, d4, d5⟩ := hat.far hrun.out.below
      simp only at d0 d1 d2 d3 d4 d5
      have HOK := Lib.hid hok
      have HA1 : Hid (-9223372036854775808 ≤ at_ ∧ at_ ≤ 9223372036854775807) := hok.2.2.2.1
      have HMM : Hid (m < 65536) := hok.2.2.2.2
      have hrx : RunAt w w1 Wb (((wr.alloc (.cells #[.int .i64 kd, .int .i64 ln, .int .i64 n, .int .i64 at_, .int .u16 m, .slice Bp p.length cp] 40)).alloc (.cells #[] 5)).alloc (.cells #[] 5)) S P := hrun.out.later ((((Below.refl _ _).alloc (Nat.le_refl _) _).alloc (by simp) _).alloc (by simp; omega) _)
      have hax : (((wr.alloc (.cells #[.int .i64 kd, .int .i64 ln, .int .i64 n, .int .i64 at_, .int .u16 m, .slice Bp p.length cp] 40)).alloc (.cells #[] 5)).alloc (.cells #[] 5)).heap[wr.heap.size]? = some (.cells #[.int .i64 kd, .int .i64 ln, .int .i64 n, .int .i64 at_, .int .u16 m, .slice Bp p.length cp] 40 (0, 0)) :=
        (heap_alloc_old _ _ (by simp; omega)).trans ((heap_alloc_old _ _ (by simp)).trans (heap_alloc_new wr _))
      have hzx : wr.heap.size + 1 + 1 < (((wr.alloc (.cells #[.int .i64 kd, .int .i64 ln, .int .i64 n, .int .i64 at_, .int .u16 m, .slice Bp p.length cp] 40)).alloc (.cells #[] 5)).alloc (.cells #[] 5)).heap.size := by simp
      have HRX := Lib.hid hrx
      have HAX := Lib.hid hax
      have HZX := Lib.hid hzx
      clear hx hat hok hrx hax hzx HRUN hrun
      go_upto_region 12 with fail
      clear d0 d1 d2 d3 d4 d5
      generalize World.alloc _ (.cells #[] 5) = wx at HRX HAX HZX ⊢
      generalize wr.heap.size = Ab at *
      obtain ⟨a0, a1, a2, a3, a4, a5⟩ := row6 HAX.out
      obtain ⟨n0, n1', n2, n3, n4, n5, n6, n7⟩ := row8c HRX.out.box
      simp only [vS] at n0 n1' n2 n3 n4 n5 n6 n7
      by_cases hkd : kd = 2
      · subst hkd
        go_wp2_with fail
        (with_reducible refine (Double_u _ w1.heap.size w1.heap.size S ln n HRX.out.net).mono ?_); rintro e wa ⟨rfl, hta, hua⟩
        have HTA := Lib.hid hta
        have HUA := Lib.hid hua
        clear hta hua a0 a1 a2 a3 a4 a5 n0 n1' n2 n3 n4 n5 n6 n7
        obtain ⟨a0, a1, a2, a3, a4, a5⟩ := row6 (HUA.out.row HAX.out (by decide) (by decide))
        obtain ⟨n0, n1', n2, n3, n4, n5, n6, n7⟩ := row8c (HUA.out.row HRX.out.box (by decide) (by decide))
        simp only [vS] at n0 n1' n2 n3 n4 n5 n6 n7
        have hrc := RDouble_u (HRX.out.ref.stp HUA.out) (Nat.le_trans HRX.out.size HUA.out.size) (fun _ h => h.elim) ln n
        simp only [arr8, vS] at hrc
        have HRC := Lib.hid hrc
        clear hrc a0
        go_wp2_with fail
        (with_reducible refine HRC.out.mono ?_); rintro e wc ⟨P', rfl, h5, hb5⟩
        clear a1 a2 a3 a4 a5 n0 n1' n2 n3 n4 n5 n6 n7
        have hst := HRX.out.step HB1.out HWB.out (HUA.out) (HTA.out) (hb5) (h5)
        have hbx := HRX.out.boxed (HUA.out) (hb5)
        obtain ⟨n0, n1', n2, n3, n4, n5, n6, n7⟩ := row8c hbx
        have nz := fun q => row_thawed hbx q
        clear hbx
        have HST := Lib.hid hst
        clear hst h5 hb5 HRC
        unfold set8 at HST
        go_upto_region 34 with fail
        generalize World.setCell _ ⟨Wb, 7, none⟩ _ = w9 at HST ⊢
        clear n0 n1' n2 n3 n4 n5 n6 n7 nz
        have e1 := str8 (w := w9) (A := some ⟨Ab + 1, 0, none⟩) (n := 0) (c := 0) Rd.nil rfl
        have e2 := str8 (w := w9) (A := some ⟨Ab + 1 + 1, 0, none⟩) (n := 0) (c := 0) Rd.nil rfl
        go_wp2_with fail
        go_roundw
        case rel => exact ⟨k + 1, by omega, by go_num, _, _, HST⟩
        case measure => simp [intOf]; omega
      · by_cases hkd3 : kd = 3
        · subst hkd3
          go_wp2_with fail
          (with_reducible refine (Late_u _ w1.heap.size w1.heap.size S ln n HRX.out.net).mono ?_); rintro e wa ⟨rfl, hta, hua⟩
          have HTA := Lib.hid hta
          have HUA := Lib.hid hua
          clear hta hua a0 a1 a2 a3 a4 a5 n0 n1' n2 n3 n4 n5 n6 n7
          obtain ⟨a0, a1, a2, a3, a4, a5⟩ := row6 (HUA.out.row HAX.out (by decide) (by decide))
          obtain ⟨n0, n1', n2, n3, n4, n5, n6, n7⟩ := row8c (HUA.out.row HRX.out.box (by decide) (by decide))
          simp only [vS] at n0 n1' n2 n3 n4 n5 n6 n7
          have hrc := RLate_u (HRX.out.ref.stp HUA.out) (Nat.le_trans HRX.out.size HUA.out.size) (fun _ h => h.elim) ln n
          simp only [arr8, vS] at hrc
          have HRC := Lib.hid hrc
          clear hrc a0
          go_wp2_with fail
          (with_reducible refine HRC.out.mono ?_); rintro e wc ⟨P', rfl, h5, hb5⟩
          clear a1 a2 a3 a4 a5 n0 n1' n2 n3 n4 n5 n6 n7
          have hst := HRX.out.step HB1.out HWB.out (HUA.out) (HTA.out) (hb5) (h5)
          have hbx := HRX.out.boxed (HUA.out) (hb5)
          obtain ⟨n0, n1', n2, n3, n4, n5, n6, n7⟩ := row8c hbx
          have nz := fun q => row_thawed hbx q
          clear hbx
          have HST := Lib.hid hst
          clear hst h5 hb5 HRC
          unfold set8 at HST
          go_upto_region 34 with fail
          generalize World.setCell _ ⟨Wb, 7, none⟩ _ = w9 at HST ⊢
          clear n0 n1' n2 n3 n4 n5 n6 n7 nz
          have e1 := str8 (w := w9) (A := some ⟨Ab + 1, 0, none⟩) (n := 0) (c := 0) Rd.nil rfl
          have e2 := str8 (w := w9) (A := some ⟨Ab + 1 + 1, 0, none⟩) (n := 0) (c := 0) Rd.nil rfl
          go_wp2_with fail
          go_roundw
          case rel => exact ⟨k + 1, by omega, by go_num, _, _, HST⟩
          case measure => simp [intOf]; omega
        · by_cases hkd4 : kd = 4
          · subst hkd4
            go_wp2_with fail
            (with_reducible refine (Spoil_u _ w1.heap.size w1.heap.size S ln n at_ m HRX.out.net HMM.out HA1.out.1 HA1.out.2).mono ?_); rintro e wa ⟨rfl, hta, hua⟩
            have HTA := Lib.hid hta
            have HUA := Lib.hid hua
            clear hta hua a0 a1 a2 a3 a4 a5 n0 n1' n2 n3 n4 n5 n6 n7
            obtain ⟨a0, a1, a2, a3, a4, a5⟩ := row6 (HUA.out.row HAX.out (by decide) (by decide))
            obtain ⟨n0, n1', n2, n3, n4, n5, n6, n7⟩ := row8c (HUA.out.row HRX.out.box (by decide) (by decide))
            simp only [vS] at n0 n1' n2 n3 n4 n5 n6 n7
            have hrc := RSpoil_u (HRX.out.ref.stp HUA.out) (Nat.le_trans HRX.out.size HUA.out.size) (fun _ h => h.elim) ln n at_ m HMM.out HA1.out.1 HA1.out.2
            simp only [arr8, vS] at hrc
            have HRC := Lib.hid hrc
            clear hrc a0
            go_wp2_with fail
            (with_reducible refine HRC.out.mono ?_); rintro e wc ⟨P', rfl, h5, hb5⟩
            clear a1 a2 a3 a4 a5 n0 n1' n2 n3 n4 n5 n6 n7
            have hst := HRX.out.step HB1.out HWB.out (HUA.out) (HTA.out) (hb5) (h5)
            have hbx := HRX.out.boxed (HUA.out) (hb5)
            obtain ⟨n0, n1', n2, n3, n4, n5, n6, n7⟩ := row8c hbx
            have nz := fun q => row_thawed hbx q
            clear hbx
            have HST := Lib.hid hst
            clear hst h5 hb5 HRC
            unfold set8 at HST
            go_upto_region 34 with fail
            generalize World.setCell _ ⟨Wb, 7, none⟩ _ = w9 at HST ⊢
            clear n0 n1' n2 n3 n4 n5 n6 n7 nz
            have e1 := str8 (w := w9) (A := some ⟨Ab + 1, 0, none⟩) (n := 0) (c := 0) Rd.nil rfl
            have e2 := str8 (w := w9) (A := some ⟨Ab + 1 + 1, 0, none⟩) (n := 0) (c := 0) Rd.nil rfl
            go_wp2_with fail
            go_roundw
            case rel => exact ⟨k + 1, by omega, by go_num, _, _, HST⟩
            case measure => simp [intOf]; omega
          · by_cases hkd0 : kd = 0
            · subst hkd0
              have hbw := HRX.out.below
              have HBP := Lib.hid (HOK.out.2.2.1.below hbw)
              have HNP : Hid (Bp = none → cp = 0) := HOK.out.1
              have HLP : Hid (p.length ≤ 140737488351232) := HOK.out.2.1
              have hlp := HLP.out
              have a5' := (((Below.refl wx.heap.size wx).alloc (Nat.le_refl _) (.cells #[] 5)).cell (p := ⟨Ab, 5, none⟩) (by have := HZX.out; show Ab < _; omega)).trans a5
              clear hbw
              go_wp2_with (at_builtin; refine copy8 rfl _ _ rfl _ rfl p Bp cp HBP.out rfl rfl HNP.out (by omega) ?_)
              intro A9 c9 wq hoq hbq
              have hF : ∀ b, Of A9 b → wx.heap.size ≤ b ∧ b < wq.heap.size := fun b ⟨a, e, e2⟩ => by
                obtain ⟨q1, q2, _⟩ := hoq.lt a e
                omega
              have hWbx := (Array.getElem?_eq_some_iff.1 HRX.out.box).1
              have HNQ := Lib.hid (HRX.out.net.free (F := Of A9) (fun b h => (hF b h).1) hbq)
              have HRQ := Lib.hid ((HRX.out.ref.later (Of A9) (fun b h => (hF b h).1)).below hbq)
              have HOQ := Lib.hid hoq
              have HFQ := Lib.hid hF
              have HQS : Hid (Stp w1.heap.size wx wq) := Stp.of_below hbq
              have HBQ := Lib.hid hbq
              have HWX := Lib.hid hWbx
              have HAQ := Lib.hid ((hbq.block Ab (by have := HZX.out; omega)).trans HAX.out)
              have HBXQ := Lib.hid ((hbq.block Wb hWbx).trans HRX.out.box)
              clear a0 a1 a2 a3 a4 a5 a5' n0 n1' n2 n3 n4 n5 n6 n7 hoq hbq hF hWbx
              obtain ⟨a0, a1, a2, a3, a4, a5⟩ := row6 HAQ.out
              go_wp2_with fail
              (with_reducible refine (Put_f wq w1.heap.size w1.heap.size (Of A9) S ln HNQ.out (fun b h => (HFQ.out b h).2) A9 p p.length c9 HOQ.out.rd HOQ.out.nil_cap (by omega) rfl).mono ?_); rintro e wa ⟨rfl, hta, hua⟩
              have HTA := Lib.hid hta
              have HUA := Lib.hid hua
              clear hta hua a0 a1 a2 a3 a4 a5
              obtain ⟨a0, a1, a2, a3, a4, a5⟩ := row6 (HUA.out.row HAQ.out (by decide) (by decide))
              obtain ⟨n0, n1', n2, n3, n4, n5, n6, n7⟩ := row8c (HUA.out.row HBXQ.out (by decide) (by decide))
              simp only [vS] at n0 n1' n2 n3 n4 n5 n6 n7
              have HXA : Hid (Stp w1.heap.size wx wa) := HQS.out.trans HUA.out
              have hbwa := HXA.out.on' HRX.out.size HB1.out HRX.out.below
              have hrc := RPut_u (HRQ.out.stp HUA.out) (Nat.le_trans HRX.out.size HXA.out.size) (fun b h => Nat.lt_of_lt_of_le (HFQ.out b h).2 HUA.out.size) ln Bp p p.length cp false (HOK.out.2.2.1.below hbwa) HNP.out (by omega) rfl
              simp only [arr8, vS] at hrc
              have HRC := Lib.hid hrc
              clear hrc a0 hbwa
              go_wp2_with fail
              (with_reducible refine HRC.out.mono ?_); rintro e wc ⟨P', rfl, h5, hb5⟩
              clear a1 a2 a3 a4 a5 n0 n1' n2 n3 n4 n5 n6 n7
              have hfar : ¬ Of A9 Wb := fun h => by have := (HFQ.out Wb h).1; have := HWX.out; omega
              have hown : ∀ b, Of A9 b → w.heap.size ≤ b := fun b h => by have := (HFQ.out b h).1; have := HRX.out.below.size; omega
              have hst := HRX.out.stepF HB1.out HWB.out hfar hown HXA.out HTA.out hb5 h5
              have hbx := HRX.out.boxed HXA.out hb5
              have hoc := ((HUA.out.ow HOQ.out (by decide) (by decide)).below hb5).other (set8_upto wc Wb P') hbx (by decide)
              obtain ⟨n0, n1', n2, n3, n4, n5, n6, n7⟩ := row8c hbx
              have nz := fun q => row_thawed hbx q
              have HST := Lib.hid hst
              have HOC := Lib.hid hoc
              clear hbx hst hoc hfar hown h5 hb5 HRC
              unfold set8 at HST HOC
              go_upto_region 17 with fail
              generalize World.setCell _ ⟨Wb, 7, none⟩ _ = w9 at HST HOC ⊢
              clear n0 n1' n2 n3 n4 n5 n6 n7 nz
              go_wp2_with fail
              go_loopw [58] (fun i wr => ∃ (j : Nat) (q : List UInt8), j ≤ p.length ∧ i = .int .i64 j ∧ Hid (q.length = p.length) ∧ Hid (Ow 5 g8 wr wx.heap.size A9 q c9) ∧ Hid (RunF w w1 Wb (Of A9) wr (putS S ln (p, false)).1 P')) (fun i _ => p.length - (intOf i).toNat)
              case atStart => exact ⟨0, p, Nat.zero_le _, rfl, rfl, HOC, HST⟩
              case round =>
                obtain ⟨j, q, hj, rfl, hq, hoq, hrq⟩ := hrel
                by_cases hjl : j < p.length
                · obtain ⟨b9, rfl, hb9l⟩ := hoq.out.at_some (by have := hq.out; omega)
                  obtain ⟨x, hx⟩ := get_some q j (by have := hq.out; omega)
                  have hcx := hoq.out.cell hx
                  have hfx := hoq.out.thawed j
                  clear hx
                  go_wp2_with fail
                  have hval : ∀ v : Int, ∃ y : UInt8, Value.int .u8 (v % 256) = g8 y := fun v => ⟨UInt8.ofNat (v % 256).toNat, by
                    show Value.int .u8 (v % 256) = Value.int .u8 (((UInt8.ofNat (v % 256).toNat).toNat : Nat) : Int)
                    rw [UInt8.toNat_ofNat']; congr 1; omega⟩
                  obtain ⟨y, hy⟩ := hval ((x.toNat : Int) + 1)
                  have HY := Lib.hid hy
                  clear hval hy
                  rw [HY.out]
                  have hu := (Upto.refl (fun k => k = b9) wr).setCell (p := ⟨b9, j, none⟩) rfl (g8 y)
                  go_roundw
                  case rel => exact ⟨j + 1, q.set j y, by omega, by go_num, by unfold Hid; rw [List.length_set]; exact hq.out, hoq.out.set j y, hrq.out.write (hu.mono fun k _ e => ⟨_, rfl, e.symm⟩)⟩
                  case measure => simp [intOf]; omega
                · have e1 := str8 (w := wr) (A := some ⟨Ab + 1, 0, none⟩) (n := 0) (c := 0) Rd.nil rfl
                  have e2 := str8 (w := wr) (A := some ⟨Ab + 1 + 1, 0, none⟩) (n := 0) (c := 0) Rd.nil rfl
                  go_wp2_with fail
                  go_roundw
                  case rel => exact ⟨k + 1, by omega, by go_num, _, _, hrq.out.run⟩
                  case measure => simp [intOf]; omega
            · by_cases hkd1 : kd = 1
              · subst hkd1
                go_wp2_with fail
                (with_reducible refine (Take_u _ w1.heap.size w1.heap.size S ln n HRX.out.net).mono ?_); rintro e wa ⟨Af, nf, cf, lf, rfl, hlf, hle, hta, hua, hoa⟩
                have HTA := Lib.hid hta
                have HUA := Lib.hid hua
                have HOA := Lib.hid hoa
                have HLF := Lib.hid hlf
                have HLE := Lib.hid hle
                clear hta hua hoa hlf hle a0 a1 a2 a3 a4 a5 n0 n1' n2 n3 n4 n5 n6 n7
                obtain ⟨a0, a1, a2, a3, a4, a5⟩ := row6 (HUA.out.row HAX.out (by decide) (by decide))
                obtain ⟨n0, n1', n2, n3, n4, n5, n6, n7⟩ := row8c (HUA.out.row HRX.out.box (by decide) (by decide))
                simp only [vS] at n0 n1' n2 n3 n4 n5 n6 n7
                have hrc := RTake_u (HRX.out.ref.stp HUA.out) (Nat.le_trans HRX.out.size HUA.out.size) (fun _ h => h.elim) ln n
                simp only [arr8, vS] at hrc
                have HRC := Lib.hid hrc
                clear hrc a0
                go_wp2_with fail
                (with_reducible refine HRC.out.mono ?_); rintro e wc ⟨P', Ak, nk, ck, lk, rfl, hlk, hlk2, h5, ho5, hb5⟩
                clear a1 a2 a3 a4 a5 n0 n1' n2 n3 n4 n5 n6 n7
                have hbw := HRX.out.boxed HUA.out hb5
                have hf9 := (HOA.out.below hb5).other (set8_upto wc Wb P') hbw (by decide)
                have hk9 := ho5.other (set8_upto wc Wb P') hbw (by decide)
                have hee : lf = lk := HLE.out.trans hlk2.symm
                clear hbw
                have hst := HRX.out.step HB1.out HWB.out (HUA.out) (HTA.out) (hb5) (h5)
                have hbx := HRX.out.boxed (HUA.out) (hb5)
                obtain ⟨n0, n1', n2, n3, n4, n5, n6, n7⟩ := row8c hbx
                have nz := fun q => row_thawed hbx q
                clear hbx
                have HST := Lib.hid hst
                have HF9 := Lib.hid hf9
                have HK9 := Lib.hid hk9
                have HLK := Lib.hid hlk
                have HEE := Lib.hid hee
                clear hst h5 hb5 HRC ho5 hlk hlk2 hf9 hk9 hee HOA HLE
                unfold set8 at HST HF9 HK9
                go_upto_region 34 with fail
                generalize World.setCell _ ⟨Wb, 7, none⟩ _ = w9 at HST HF9 HK9 ⊢
                clear n0 n1' n2 n3 n4 n5 n6 n7 nz
                have e1 := str8 (n := nf) (c := cf) HF9.out.rd HLF.out
                have e2 := str8 (n := nk) (c := ck) HK9.out.rd HLK.out
                rw [← HEE.out] at e2
                go_wp2_with fail
                go_roundw
                case rel => exact ⟨k + 1, by omega, by go_num, _, _, HST⟩
                case measure => simp [intOf]; omega
              · have e1 := str8 (w := wx) (A := some ⟨Ab + 1, 0, none⟩) (n := 0) (c := 0) Rd.nil rfl
                have e2 := str8 (w := wx) (A := some ⟨Ab + 1 + 1, 0, none⟩) (n := 0) (c := 0) Rd.nil rfl
                go_wp2_with fail
                go_roundw
                case rel => exact ⟨k + 1, by omega, by go_num, _, _, HRX⟩
                case measure => simp [intOf]; omega
    · have hlen := fun j (hj : j < 8) => hrun.out.ref.length hj
      have HLEN := Lib.hid hlen
      have HN := Lib.hid hrun.out.net
      have HR := Lib.hid hrun.out.ref
      have HX := Lib.hid hrun.out.box
      have HB := Lib.hid hrun.out.below
      have HZ := Lib.hid hrun.out.size
      clear hlen HRUN hrun
      go_wp2_with fail
      go_loopw [159] (fun i wr => ∃ ln : Nat, ln ≤ 8 ∧ i = .int .i64 ln ∧ ∃ S', Hid (NetS w1.heap.size wr w1.heap.size S') ∧ Hid (∀ j, ln ≤ j → S' j = S j) ∧ Hid (RefS w1.heap.size (fun _ => False) wr (vS P) S) ∧ Hid (wr.heap[Wb]? = some (.cells (arr8 (vS P)) 37 (0, 0))) ∧ Hid (Below w.heap.size w wr) ∧ Hid (w1.heap.size ≤ wr.heap.size)) (fun i _ => 8 - (intOf i).toNat)
      case atStart => exact ⟨0, Nat.zero_le _, rfl, S, HN, fun _ _ => rfl, HR, HX, HB, HZ⟩
      case round =>
        obtain ⟨ln, hln, rfl, S', hn, he, hr, hx, hb, hz⟩ := hrel
        clear HN HR HX HB HZ
        by_cases hl8 : ln < 8
        · have hc := (box8 hx.out ln hl8).1
          unfold vS at hc
          obtain ⟨A0, hA0⟩ : ∃ A0, (P ln).a = A0 := ⟨_, rfl⟩
          rw [hA0] at hc
          have hl8i : decide ((ln : Int) < 8) = true := by simp; omega
          have hlq := HLEN.out ln hl8
          have hn200 : (P ln).n ≤ 200 := by omega
          have HSL : Hid ((S' ln).length = (P ln).n) := by unfold Hid; rw [he.out ln (Nat.le_refl _)]; exact hlq.1.symm
          clear hlq
          go_wp2_with fail
          have HQL : Hid (∀ N, Calls Try.prog 12 #[.pointer (some ⟨w1.heap.size, 0, none⟩), .int .i64 ln] (wr.drewN N) fun e w' => e = .returned (.int .i64 ((P ln).n : Nat)) ∧ ∃ m, w' = wr.drewN m) := fun N => by
            have := Len_s _ w1.heap.size w1.heap.size S' ln (hn.out.below (drewN_below wr N)) hl8
            rw [HSL.out] at this
            exact quiet_more this
          go_quiet ((go_at_call 12; exact HQL.out _))
          have HNQ := Lib.hid (hn.out.below (drewN_below wr nq))
          have HRQ := Lib.hid (hr.out.below (drewN_below wr nq))
          have HXQ : Hid ((wr.drewN nq).heap[Wb]? = some (.cells (arr8 (vS P)) 37 (0, 0))) := hx.out
          have HBQ := Lib.hid (below_drewN hb.out nq)
          have HZQ : Hid (w1.heap.size ≤ (wr.drewN nq).heap.size) := hz.out
          have hcq : (wr.drewN nq).cell? ⟨Wb, ln, none⟩ = some (.slice A0 (P ln).n (P ln).c) := hc
          have HE := Lib.hid he.out
          have HSE : Hid (S' ln = S ln) := he.out ln (Nat.le_refl _)
          clear hc hn hr hx hb hz he HQL
          generalize wr.drewN nq = wq at *
          go_wp2_with fail
          clear hcq
          go_loopw [174] (fun i wr => ∃ q : Nat, q ≤ (P ln).n ∧ i = .int .i64 q ∧ ∃ S2, Hid (NetS w1.heap.size wr w1.heap.size S2) ∧ Hid (S2 ln = (S ln).drop q) ∧ Hid (∀ j, ln < j → S2 j = S j) ∧ Hid (RefS w1.heap.size (fun _ => False) wr (vS P) S) ∧ Hid (wr.heap[Wb]? = some (.cells (arr8 (vS P)) 37 (0, 0))) ∧ Hid (Below w.heap.size w wr) ∧ Hid (w1.heap.size ≤ wr.heap.size)) (fun i _ => (P ln).n - (intOf i).toNat)
          case atStart => exact ⟨0, Nat.zero_le _, rfl, S', HNQ, HSE, fun j hj => HE.out j (Nat.le_of_lt hj), HRQ, HXQ, HBQ, HZQ⟩
          case round =>
            obtain ⟨q, hq, rfl, S2, hn, hs, he, hr, hx, hb, hz⟩ := hrel
            clear HNQ HRQ HXQ HBQ HZQ
            by_cases hql : q < (P ln).n
            · have hlq := HLEN.out ln hl8
              obtain ⟨x, hxx⟩ := get_some (S ln) q (by omega)
              obtain ⟨g, y, hA, y0, y1, hy, hoy⟩ := hr.out.item hl8 hxx
              obtain rfl : A0 = some ⟨g, 0, none⟩ := hA0.symm.trans hA
              clear hA
              have h0 : (S2 ln)[0]? = some x := by rw [hs.out, List.getElem?_drop]; simpa using hxx
              have hdel : (S2 ln).eraseIdx 0 = (S ln).drop (q + 1) := by
                rw [hs.out, List.drop_eq_getElem_cons (by omega)]; rfl
              have hyl : y.l = x.1 := by rw [← hy]; rfl
              have H0 := Lib.hid h0
              have HDEL := Lib.hid hdel
              have HYL := Lib.hid hyl
              have HOY := Lib.hid hoy
              have IT := Lib.hid (heap_alloc_new wr (.cells #[.slice y.A y.l.length y.c, .bool y.s] 44))
              have hba := (Below.refl wr.heap.size wr).alloc (Nat.le_refl _) (.cells #[.slice y.A y.l.length y.c, .bool y.s] 44)
              have HNA := Lib.hid (hn.out.below hba)
              have HRA := Lib.hid (hr.out.below hba)
              have HXA := Lib.hid ((hba.block Wb (Array.getElem?_eq_some_iff.1 hx.out).1).trans hx.out)
              have HBA := Lib.hid (hb.out.trans (hba.mono hb.out.size))
              have HZA := Lib.hid (Nat.le_trans hz.out hba.size)
              have HOYA := Lib.hid (hoy.below hba)
              clear hlq hxx hy hoy h0 hdel hyl hba hr hx hb hz hn hs
              go_wp2_with fail
              generalize World.alloc _ _ = wa at IT HNA HRA HXA HBA HZA HOYA ⊢
              generalize wr.heap.size = Zb at *
              refine (Take_s_yes wa w1.heap.size w1.heap.size S2 ln HNA.out hl8 0 x H0.out).mono ?_; rintro e wt ⟨At, ct, rfl, htt, hut, hot⟩
              rw [HDEL.out] at htt
              have HTT := Lib.hid htt
              have HUT := Lib.hid hut
              have HITT := Lib.hid (hut.row IT.out (by decide) (by decide))
              obtain ⟨x0, x1, -⟩ := row2 HITT.out
              have e1 := str8 (n := x.1.length) (c := ct) hot.rd rfl
              have e2 := str8 (n := y.l.length) (c := y.c) (hut.ow HOYA.out (by decide) (by decide)).rd rfl
              have hyl := HYL.out
              rw [hyl] at e2
              clear htt hut hot y0 y1
              go_wp2_with fail
              go_roundw
              case rel => exact ⟨q + 1, by omega, by go_num, _, HTT, upd_same _ _ _, fun j hj => by rw [upd_ne _ _ _ (by omega)]; exact he.out j hj, HRA.out.stp HUT.out, HUT.out.row HXA.out (by decide) (by decide), HUT.out.on' HZA.out HB1.out HBA.out, Nat.le_trans HZA.out HUT.out.size⟩
              case measure => simp [intOf]; omega
            · obtain rfl : q = (P ln).n := by omega
              go_wp2_with fail
              go_roundw
              case rel => exact ⟨ln + 1, by omega, by go_num, S2, hn, fun j hj => he.out j (by omega), hr, hx, hb, hz⟩
              case measure => simp [intOf]; omega
        · go_wp2_with fail
          go_ret
          exact ⟨rfl, hb.out⟩

theorem netRuns_c (A1 : Option Addr) (L : List Ac) (c1 : Nat) (w : World) (h1 : RdN w A1 L) :
    Calls Try.prog 5 #[.slice A1 L.length c1] w fun e w' => e = .returned (.bool true) ∧ Below w.heap.size w w' := by
  by_cases h3 : 200 < L.length
  · exact nruns_early A1 _ c1 w h3
  · exact nruns_main A1 L _ c1 w rfl h3 h1

end Go.Proofs.Yteoafaofiohefaa
