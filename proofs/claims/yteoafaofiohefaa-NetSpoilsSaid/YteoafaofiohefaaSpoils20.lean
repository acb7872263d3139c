import Derived.Test.YteoafaofiohefaaSpoilsP
import Derived.Test.YteoafaofiohefaaActs20
import Derived.Test.YteoafaofiohefaaCrcOpen
namespace Go.Proofs.Yteoafaofiohefaa
open Go.RowKit

theorem Stp.on' {W W1 w w' : World} (h : Stp W1.heap.size w w') (h1 : W1.heap.size ≤ w.heap.size) (hw : Below W.heap.size W W1) (hb : Below W.heap.size W w) : Below W.heap.size W w' := hb.trans ((h.below h1).mono hw.size)

set_option maxRecDepth 1000000 in
set_option maxHeartbeats 8000000 in
theorem spoils_early (A0 A1 : Option Addr) (n0 n1 c0 c1 : Nat) (w : World) (hno : 40 < n0 ∨ (¬ 40 < n0 ∧ 200 < n1)) :
    Calls Try.prog 7 #[.slice A0 n0 c0, .slice A1 n1 c1] w fun e w' => e = .returned (.bool true) ∧ Below w.heap.size w w' := by
  go_enter Try.func7, Try.ntmps7
  go_wp2_with fail
  refine (alive_c _).mono ?_; rintro e w1 ⟨rfl, hb1⟩
  have HB1 := Lib.hid hb1
  clear hb1
  rcases hno with h | ⟨h1, h2⟩
  all_goals
    go_wp2_with fail
    go_ret
    exact ⟨rfl, HB1.out⟩

set_option maxRecDepth 1000000 in
set_option maxHeartbeats 16000000 in
theorem spoils_main (A0 A1 : Option Addr) (T : List (List UInt8)) (L : List Ac) (n0 n1 c0 c1 : Nat) (w : World) (hT : T.length = n0) (hL : L.length = n1) (ha : ¬ 40 < n0) (hb : ¬ 200 < n1) (h0 : RdT w A0 T) (h1 : RdN w A1 L) :
    Calls Try.prog 7 #[.slice A0 n0 c0, .slice A1 n1 c1] w fun e w' => e = .returned (.bool true) ∧ Below w.heap.size w w' := by
  have H0 := Lib.hid h0
  have H1 := Lib.hid h1
  have HTL := Lib.hid hT
  have HLL := Lib.hid hL
  clear h0 h1 hT hL
  go_enter Try.func7, Try.ntmps7
  go_wp2_with fail
  refine (alive_c _).mono ?_; rintro e w1 ⟨rfl, hb1⟩
  have HB1 := Lib.hid hb1
  clear hb1
  go_wp2_with fail
  (with_reducible refine (new_s w1).mono ?_); rintro e w2 ⟨rfl, ht2, hb2⟩
  have HT2 := Lib.hid ht2
  have HB2 := Lib.hid (HB1.out.trans (hb2.mono HB1.out.size))
  have HZ2 := Lib.hid hb2.size
  have HG2 : Hid (Good T (fun _ => [])) := fun k hk x hx => by cases hx
  clear ht2 hb2
  go_wp2_with fail
  go_loopw [31] (fun i wr => ∃ k : Nat, k ≤ n0 ∧ i = .int .i64 k ∧ ∃ S, Hid (NetS w1.heap.size wr w1.heap.size S) ∧ Hid (Good T S) ∧ Hid (Below w.heap.size w wr) ∧ Hid (w1.heap.size ≤ wr.heap.size)) (fun i _ => n0 - (intOf i).toNat)
  case atStart => exact ⟨0, Nat.zero_le _, rfl, _, HT2, HG2, HB2, HZ2⟩
  case round =>
    obtain ⟨k, hk, rfl, S, ht, hg, hb, hz⟩ := hrel
    by_cases hlt : k < n0
    · obtain ⟨p, hp⟩ := get_some T k (by have := HTL.out; omega)
      obtain ⟨ad, Bp, cp, rfl, hc0, hn0, hlp, hrp⟩ := H0.out k p hp
      have hcell := (hb.out.cell (World.block_lt_of_cell? w _ hc0)).trans hc0
      have HP := Lib.hid hp
      have HN := Lib.hid hn0
      have HR := Lib.hid (hrp.below hb.out)
      clear hp hc0 hn0 hrp
      by_cases h5 : 500 < p.length
      · go_wp2_with fail
        go_ret
        exact ⟨rfl, hb.out⟩
      · go_wp2_with fail
        (with_reducible refine (seal_c Bp p cp wr HR.out HN.out (by omega)).mono ?_); rintro e w3 ⟨A3, c3, rfl, ho3, hb3⟩
        have HO3 := Lib.hid ho3
        have HB3 := Lib.hid (hb.out.trans (hb3.mono hb.out.size))
        have HT3 := Lib.hid (ht.out.below hb3)
        have HZ3 := Lib.hid (Nat.le_trans hz.out hb3.size)
        have hl3 : (sealN p).length = p.length + 2 := by simp [sealN]
        have HL3 := Lib.hid hl3
        clear ho3 hb3 hcell hl3
        go_wp2_with fail
        (with_reducible refine (Put_u w3 w1.heap.size w1.heap.size S ((k : Int) % 8) HT3.out A3 (sealN p) _ c3 HO3.out.rd HO3.out.nil_cap (by have := HL3.out; omega) rfl).mono ?_); rintro e w4 ⟨rfl, ht4, hs4⟩
        have HT4 := Lib.hid ht4
        have HG4 : Hid (Good T (putS S ((k : Int) % 8) (sealN p, false)).1) := hg.out.put _ _ fun _ _ => ⟨k, p, HP.out, by omega, .inl rfl⟩
        have HB4 := Lib.hid (hs4.on' HZ3.out HB1.out HB3.out)
        have HZ4 := Lib.hid (Nat.le_trans HZ3.out hs4.size)
        clear ht4 hs4
        go_wp2_with fail
        go_roundw
        case rel => exact ⟨k + 1, by omega, by go_num, _, HT4, HG4, HB4, HZ4⟩
        case measure => simp [intOf]; omega
    · have HTA := ht
      have HGA := hg
      have HBA := hb
      have HZA := hz
      go_wp2_with fail
      clear ht hg hb hz hk hlt HT2 HG2 HB2 HZ2
      go_loopw [48] (fun i wr => ∃ k : Nat, k ≤ n1 ∧ i = .int .i64 k ∧ ∃ S, Hid (NetS w1.heap.size wr w1.heap.size S) ∧ Hid (Good T S) ∧ Hid (Below w.heap.size w wr) ∧ Hid (w1.heap.size ≤ wr.heap.size)) (fun i _ => n1 - (intOf i).toNat)
      case atStart => exact ⟨0, Nat.zero_le _, rfl, _, HTA, HGA, HBA, HZA⟩
      case round =>
        obtain ⟨k, hk, rfl, S, ht, hg, hb, hz⟩ := hrel
        by_cases hlt : k < n1
        · obtain ⟨⟨kd, ln, n, at_, m, p⟩, hx⟩ := get_some L k (by have := HLL.out; omega)
          obtain ⟨ad, Bp, cp, rfl, hat, hok⟩ := H1.out k _ hx
          obtain ⟨d0, d1, d2, d3, d4, d5⟩ := hat.far hb.out
          simp only at d0 d1 d2 d3 d4 d5
          have HT3 := Lib.hid (ht.out.alloc (.cells #[.int .i64 kd, .int .i64 ln, .int .i64 n, .int .i64 at_, .int .u16 m, .slice Bp p.length cp] 40))
          have HB3 := Lib.hid (hb.out.alloc hb.out.size (.cells #[.int .i64 kd, .int .i64 ln, .int .i64 n, .int .i64 at_, .int .u16 m, .slice Bp p.length cp] 40))
          have HZ3 : Hid (w1.heap.size ≤ (wr.alloc (.cells #[.int .i64 kd, .int .i64 ln, .int .i64 n, .int .i64 at_, .int .u16 m, .slice Bp p.length cp] 40)).heap.size) := by have := hz.out; unfold Hid; simp; omega
          have HA1 : Hid (-9223372036854775808 ≤ at_ ∧ at_ ≤ 9223372036854775807) := hok.2.2.2.1
          have HMM : Hid (m < 65536) := hok.2.2.2.2
          clear hx hat hok
          by_cases hkd : kd = 2
          · subst hkd
            go_wp2_with fail
            (with_reducible refine (Double_u _ w1.heap.size w1.heap.size S ln n HT3.out).mono ?_); rintro e w4 ⟨rfl, ht4, hs4⟩
            have HT4 := Lib.hid ht4
            have HG4 := Lib.hid (hg.out.double ln n)
            have HB4 := Lib.hid (hs4.on' HZ3.out HB1.out HB3.out)
            have HZ4 := Lib.hid (Nat.le_trans HZ3.out hs4.size)
            clear ht4 hs4
            go_wp2_with fail
            go_roundw
            case rel => exact ⟨k + 1, by omega, by go_num, _, HT4, HG4, HB4, HZ4⟩
            case measure => simp [intOf]; omega
          · by_cases hkd3 : kd = 3
            · subst hkd3
              go_wp2_with fail
              (with_reducible refine (Late_u _ w1.heap.size w1.heap.size S ln n HT3.out).mono ?_); rintro e w4 ⟨rfl, ht4, hs4⟩
              have HT4 := Lib.hid ht4
              have HG4 := Lib.hid (hg.out.late ln n)
              have HB4 := Lib.hid (hs4.on' HZ3.out HB1.out HB3.out)
              have HZ4 := Lib.hid (Nat.le_trans HZ3.out hs4.size)
              clear ht4 hs4
              go_wp2_with fail
              go_roundw
              case rel => exact ⟨k + 1, by omega, by go_num, _, HT4, HG4, HB4, HZ4⟩
              case measure => simp [intOf]; omega
            · by_cases hkd4 : kd = 4
              · subst hkd4
                go_wp2_with fail
                (with_reducible refine (Spoil_u _ w1.heap.size w1.heap.size S ln n at_ m HT3.out HMM.out HA1.out.1 HA1.out.2).mono ?_); rintro e w4 ⟨rfl, ht4, hs4⟩
                have HT4 := Lib.hid ht4
                have HG4 := Lib.hid (hg.out.spoil ln n at_ m HMM.out)
                have HB4 := Lib.hid (hs4.on' HZ3.out HB1.out HB3.out)
                have HZ4 := Lib.hid (Nat.le_trans HZ3.out hs4.size)
                clear ht4 hs4
                go_wp2_with fail
                go_roundw
                case rel => exact ⟨k + 1, by omega, by go_num, _, HT4, HG4, HB4, HZ4⟩
                case measure => simp [intOf]; omega
              · go_wp2_with fail
                go_roundw
                case rel => exact ⟨k + 1, by omega, by go_num, _, HT3, hg, HB3, HZ3⟩
                case measure => simp [intOf]; omega
        · go_wp2_with fail
          clear hk hlt
          have HTC := ht
          have HGC := hg
          have HBC := hb
          have HZC := hz
          clear ht hg hb hz HTA HGA HBA HZA
          go_loopw [10] (fun i wr => ∃ ln : Nat, ln ≤ 8 ∧ i = .int .i64 ln ∧ ∃ S, Hid (NetS w1.heap.size wr w1.heap.size S) ∧ Hid (Good T S) ∧ Hid (Below w.heap.size w wr) ∧ Hid (w1.heap.size ≤ wr.heap.size)) (fun i _ => 8 - (intOf i).toNat)
          case atStart => exact ⟨0, Nat.zero_le _, rfl, _, HTC, HGC, HBC, HZC⟩
          case round =>
            obtain ⟨ln, hln, rfl, S, ht, hg, hb, hz⟩ := hrel
            by_cases hlt : ln < 8
            · have HTD := ht
              have HGD := hg
              have HBD := hb
              have HZD := hz
              clear ht hg hb hz HTC HGC HBC HZC
              go_wp2_with fail
              go_loopw [11] (fun i wr => ∃ k : Nat, k ≤ 250 ∧ i = .int .i64 k ∧ ∃ S, Hid (NetS w1.heap.size wr w1.heap.size S) ∧ Hid (Good T S) ∧ Hid (Below w.heap.size w wr) ∧ Hid (w1.heap.size ≤ wr.heap.size)) (fun i _ => 250 - (intOf i).toNat)
              case atStart => exact ⟨0, Nat.zero_le _, rfl, _, HTD, HGD, HBD, HZD⟩
              case round =>
                obtain ⟨k, hk, rfl, S, ht, hg, hb, hz⟩ := hrel
                clear HTD HGD HBD HZD
                by_cases hk2 : k < 250
                · cases hx : (S ln)[0]? with
                  | none =>
                    have hi := List.getElem?_eq_none_iff.1 hx
                    have HI := Lib.hid hi
                    clear hi hx
                    go_wp2_with fail
                    refine (Take_s_none _ _ _ _ ln ht.out hlt 0 (by have := HI.out; omega)).mono ?_; rintro e w3 ⟨rfl, hb3⟩
                    have HT3 := Lib.hid (ht.out.below hb3)
                    have HB3 := Lib.hid (hb.out.trans (hb3.mono hb.out.size))
                    have HZ3 := Lib.hid (Nat.le_trans hz.out hb3.size)
                    clear hb3
                    go_wp2_with fail
                    go_roundw
                    case rel => exact ⟨ln + 1, by omega, by go_num, _, HT3, hg, HB3, HZ3⟩
                    case measure => simp [intOf]; omega
                  | some x =>
                    have HX := Lib.hid hx
                    have HSH := Lib.hid (ht.out.short hlt (List.mem_of_getElem? hx))
                    have HOK := Lib.hid ((hg.out ln hlt x (List.mem_of_getElem? hx)).opened)
                    clear hx
                    go_wp2_with fail
                    refine (Take_s_yes _ _ _ _ ln ht.out hlt 0 x HX.out).mono ?_; rintro e w3 ⟨A3, c3, rfl, ht3, hs3, ho3⟩
                    have HT3 := Lib.hid ht3
                    have HG3 : Hid (Good T (upd S ln ((S ln).eraseIdx 0))) := hg.out.upd fun h8 y hy => hg.out ln h8 y (List.mem_of_mem_eraseIdx hy)
                    have HB3 := Lib.hid (hs3.on' hz.out HB1.out hb.out)
                    have HZ3 := Lib.hid (Nat.le_trans hz.out hs3.size)
                    have HO3 := Lib.hid ho3
                    clear ht3 hs3 ho3
                    go_wp2_with fail
                    (with_reducible refine (open_c A3 x.1 c3 w3 HO3.out.rd HO3.out.nil_cap HO3.out.le HSH.out).mono ?_); rintro e w4 ⟨A4, c4, rfl, ho4, hb4⟩
                    have HT4 := Lib.hid (HT3.out.below hb4)
                    have HB4 := Lib.hid (HB3.out.trans (hb4.mono HB3.out.size))
                    have HZ4 := Lib.hid (Nat.le_trans HZ3.out hb4.size)
                    have HO4 := Lib.hid ho4
                    clear ho4 hb4 HT3 HB3 HZ3 HO3 HX HSH
                    generalize openL x.1 = ob at *
                    generalize openE x.1 = oe at *
                    have hst : ∃ fd : Bool, (oe != 0) = fd ∧ Hid (fd = true ∨ ∃ i0, ln ≤ i0 ∧ T[i0]? = some ob ∧ i0 % 8 = ln) := by
                      rcases HOK.out with h | ⟨h, i0, h1, h2⟩
                      · exact ⟨true, by rw [h]; rfl, .inl rfl⟩
                      · exact ⟨false, by rw [h]; rfl, .inr ⟨i0, by omega, h1, h2⟩⟩
                    obtain ⟨fd0, hfd0, HFD0⟩ := hst
                    clear HOK
                    go_wp2_with fail
                    go_loopw [16, 17] (fun f i wr => ∃ (q : Nat) (fd : Bool), i = .int .i64 q ∧ q < n0 + 8 + 8 ∧ f = .bool fd ∧ Hid (q % 8 = ln) ∧ Hid (fd = true ∨ ∃ i0, q ≤ i0 ∧ T[i0]? = some ob ∧ i0 % 8 = ln) ∧ Hid (NetS w1.heap.size wr w1.heap.size (upd S ln ((S ln).eraseIdx 0))) ∧ Hid (Below w.heap.size w wr) ∧ Hid (w1.heap.size ≤ wr.heap.size) ∧ Hid (Ow 5 g8 wr w3.heap.size A4 ob c4)) (fun _ i _ => n0 + 16 - (intOf i).toNat)
                    case atStart => exact ⟨ln, fd0, rfl, by omega, rfl, by unfold Hid; omega, HFD0, HT4, HB4, HZ4, HO4⟩
                    case round =>
                      obtain ⟨q, fd, rfl, hq16, rfl, hq8, hfd, htq, hbq, hzq, hoq⟩ := hrel
                      by_cases hqn : q < n0
                      · obtain ⟨p, hp⟩ := get_some T q (by have := HTL.out; omega)
                        obtain ⟨ad, Bp, cp, rfl, hc0, hn0, hlp, hrp⟩ := H0.out q p hp
                        have hbd := hbq.out.drew
                        have hcell := (hbd.cell (World.block_lt_of_cell? w _ hc0)).trans hc0
                        have hcell' := (hbq.out.cell (World.block_lt_of_cell? w _ hc0)).trans hc0
                        have HP := Lib.hid hp
                        cases fd with
                        | true =>
                          clear hp hc0 hn0 hrp hlp hbd hcell hcell'
                          go_wp2_with fail
                          go_quiet (fail)
                          go_wp2_with fail
                          go_roundw
                          case rel => exact ⟨q + 8, true, by go_num, by omega, rfl, by have := hq8.out; unfold Hid; omega, .inl rfl, htq.out.below (drewN_below wr _), below_drewN hbq.out _, hzq.out, hoq.out.below (drewN_below wr _)⟩
                          case measure => simp [intOf]; omega
                        | false =>
                          have e1 := fun N => str8 (n := p.length) (c := cp) (hrp.below (below_drewN hbq.out N)) rfl
                          have e2 := fun N => str8 (n := ob.length) (c := c4) (hoq.out.below (drewN_below wr N)).rd rfl
                          have HFD : Hid (∃ i0, q ≤ i0 ∧ T[i0]? = some ob ∧ i0 % 8 = ln) := by
                            rcases hfd.out with h | h
                            · cases h
                            · exact h
                          clear hp hc0 hn0 hrp hlp hbd hfd
                          go_wp2_with fail
                          go_quiet (fail)
                          go_wp2_with fail
                          have hst : Hid ((p == ob) = true ∨ ∃ i0, q + 8 ≤ i0 ∧ T[i0]? = some ob ∧ i0 % 8 = ln) := by
                            obtain ⟨i0, h1, h2, h3⟩ := HFD.out
                            by_cases e : i0 = q
                            · left
                              subst e
                              rw [HP.out] at h2
                              injection h2 with h2
                              simp [h2]
                            · right
                              exact ⟨i0, by have := hq8.out; omega, h2, h3⟩
                          go_roundw
                          case rel => exact ⟨q + 8, p == ob, by go_num, by omega, rfl, by have := hq8.out; unfold Hid; omega, hst, htq.out.below (drewN_below wr _), below_drewN hbq.out _, hzq.out, hoq.out.below (drewN_below wr _)⟩
                          case measure => simp [intOf]; omega
                      · obtain rfl : fd = true := by
                            rcases hfd.out with h | ⟨i0, h1, h2, h3⟩
                            · exact h
                            · have := (List.getElem?_eq_some_iff.1 h2).1
                              have := HTL.out
                              omega
                        go_wp2_with fail
                        go_roundw
                        case rel => exact ⟨k + 1, by omega, by omega, _, htq, HG3⟩
                        case measure => simp [intOf]; omega
                · go_wp2_with fail
                  go_roundw
                  case rel => exact ⟨ln + 1, by omega, by go_num, _, ht, hg, hb, hz⟩
                  case measure => simp [intOf]; omega
            · go_wp2_with fail
              go_ret
              exact ⟨rfl, hb.out⟩

theorem netSpoils_c (A0 A1 : Option Addr) (T : List (List UInt8)) (L : List Ac) (c0 c1 : Nat) (w : World) (h0 : RdT w A0 T) (h1 : RdN w A1 L) :
    Calls Try.prog 7 #[.slice A0 T.length c0, .slice A1 L.length c1] w fun e w' => e = .returned (.bool true) ∧ Below w.heap.size w w' := by
  by_cases h2 : 40 < T.length
  · exact spoils_early A0 A1 _ _ c0 c1 w (.inl h2)
  · by_cases h3 : 200 < L.length
    · exact spoils_early A0 A1 _ _ c0 c1 w (.inr ⟨h2, h3⟩)
    · exact spoils_main A0 A1 T L _ _ c0 c1 w rfl rfl h2 h3 h0 h1

end Go.Proofs.Yteoafaofiohefaa
