import Derived.Test.YteoafaofiohefaaSls
import Derived.Deep.RegionLaw
namespace Go.Proofs.Yteoafaofiohefaa
open Go.RowKit

set_option maxRecDepth 1000000 in
set_option maxHeartbeats 8000000 in
theorem order_early (A : Option Addr) (n c : Nat) (a d : Int) (w : World) (hno : 150 < n ∨ (¬ 150 < n ∧ a < 0) ∨ (¬ 150 < n ∧ ¬ a < 0 ∧ 7 < a)) :
    Calls Try.prog 4 #[.slice A n c, .int .i64 a, .int .i64 d] w fun e w' => e = .returned (.bool true) ∧ Below w.heap.size w w' := by
  go_enter Try.func4, Try.ntmps4
  go_wp2_with fail
  refine (alive_c _).mono ?_; rintro e w1 ⟨rfl, hb1⟩
  have HB1 := Lib.hid hb1
  clear hb1
  rcases hno with h | ⟨h1, h2⟩ | ⟨h1, h2, h3⟩
  all_goals
    go_wp2_with fail
    go_ret
    exact ⟨rfl, HB1.out⟩

/-- Frames as they lie on a lane. -/
def frS (T : List Sl) : List Fr := T.map fun x => (x.l, false)
theorem frS_length (T : List Sl) : (frS T).length = T.length := by simp [frS]
theorem frS_snoc {T : List Sl} {k : Nat} {x : Sl} (h : T[k]? = some x) : frS (T.take (k + 1)) = frS (T.take k) ++ [(x.l, false)] := by
  rw [take_snoc h]; simp [frS]
theorem frS_get {T : List Sl} {k : Nat} {x : Sl} (h : T[k]? = some x) : (frS T)[k]? = some (x.l, false) := by simp [frS, h]
theorem frS_late {T : List Sl} {k : Nat} {x : Sl} : (frS T).eraseIdx k ++ [(x.l, false)] = frS (T.take k ++ T.drop (k + 1) ++ [x]) := by
  simp [frS, List.eraseIdx_eq_take_drop_succ]
theorem frS_drop {T : List Sl} {k : Nat} {x : Sl} (h : T[k]? = some x) : (frS (T.drop k))[0]? = some (x.l, false) ∧ (frS (T.drop k)).eraseIdx 0 = frS (T.drop (k + 1)) := by
  have hk := (List.getElem?_eq_some_iff.1 h).1
  have e : T.drop k = x :: T.drop (k + 1) := by
    rw [List.drop_eq_getElem_cons hk]
    congr 1
    exact (List.getElem?_eq_some_iff.1 h).2
  rw [e]
  exact ⟨rfl, rfl⟩

theorem Stp.on' {W W1 w w' : World} (h : Stp W1.heap.size w w') (h1 : W1.heap.size ≤ w.heap.size) (hw : Below W.heap.size W W1) (hb : Below W.heap.size W w) : Below W.heap.size W w' := hb.trans ((h.below h1).mono hw.size)

set_option maxRecDepth 1000000 in
set_option maxHeartbeats 16000000 in
theorem order_main (A : Option Addr) (T : List Sl) (n c : Nat) (a : Nat) (d : Int) (w : World) (hT : T.length = n) (hle : n ≤ c) (hL : ¬ 150 < n) (ha : a < 8) (h : Rd gS w A T) (hn : A = none → c = 0) (hk : ∀ x ∈ T, x.ok w) :
    Calls Try.prog 4 #[.slice A n c, .int .i64 a, .int .i64 d] w fun e w' => e = .returned (.bool true) ∧ Below w.heap.size w w' := by
  have H := Lib.hid h
  have HK := Lib.hid hk
  have HN := Lib.hid hn
  have HTL := Lib.hid hT
  have HLE := Lib.hid hle
  clear h hk hn hT hle
  have h1 : ¬ ((a : Int) < 0) := by omega
  have h2 : ¬ (7 < (a : Int)) := by omega
  go_enter Try.func4, Try.ntmps4
  go_wp2_with fail
  refine (alive_c _).mono ?_; rintro e w1 ⟨rfl, hb1⟩
  have HB1 := Lib.hid hb1
  clear hb1
  go_wp2_with fail
  (with_reducible refine (new_s w1).mono ?_); rintro e w2 ⟨rfl, ht2, hb2⟩
  rw [one_nil a] at ht2
  have HT2 := Lib.hid ht2
  have HB2 := Lib.hid (HB1.out.trans (hb2.mono HB1.out.size))
  have HZ2 := Lib.hid hb2.size
  clear ht2 hb2
  go_wp2_with fail
  go_loopw [31] (fun i wr => ∃ k : Nat, k ≤ n ∧ i = .int .i64 k ∧ Hid (NetS w1.heap.size wr w1.heap.size (one a (frS (T.take k)))) ∧ Hid (Below w.heap.size w wr) ∧ Hid (w1.heap.size ≤ wr.heap.size)) (fun i _ => n - (intOf i).toNat)
  case atStart => exact ⟨0, Nat.zero_le _, rfl, HT2, HB2, HZ2⟩
  case round =>
    obtain ⟨k, hk, rfl, ht, hb, hz⟩ := hrel
    by_cases hlt : k < n
    · obtain ⟨x, hx⟩ := get_some T k (by have := HTL.out; omega)
      obtain ⟨ad, rfl, hcell0⟩ := H.out k x hx
      have hcell := (hb.out.cell (World.block_lt_of_cell? w _ hcell0)).trans hcell0
      unfold gS at hcell
      have HX := Lib.hid hx
      have HOK := Lib.hid (HK.out x (List.mem_of_getElem? hx))
      have hlx : x.l.length ≤ 140737488351232 := HOK.out.2.1
      obtain ⟨XA, xc, xl⟩ := x
      simp only at hcell hlx
      clear hx hcell0
      go_wp2_with (at_builtin; refine copy8 rfl _ _ rfl _ rfl xl XA xc (HOK.out.2.2.below hb.out) rfl rfl HOK.out.1 (by first | omega | simp) ?_)
      intro A3 c3 w3 ho3 hb3
      have HO3 := Lib.hid ho3
      have HB3 := Lib.hid (hb.out.trans (hb3.mono hb.out.size))
      have HT3 := Lib.hid (ht.out.below hb3)
      have HZ3 := Lib.hid (Nat.le_trans hz.out hb3.size)
      have hlen : ((one a (frS (T.take k)) a).length < 200) = True := by rw [one_same, frS_length]; simp; omega
      have HLEN := Lib.hid hlen
      clear ho3 hb3 hlen
      go_wp2_with fail
      (with_reducible refine (Put_s _ _ _ _ a HT3.out ha A3 xl xl.length c3 HO3.out.rd HO3.out.nil_cap (by omega) rfl).mono ?_); rintro e w4 ⟨rfl, ht4, hs4⟩
      simp only [HLEN.out, decide_true, if_true] at ht4 ⊢
      have HB4 := Lib.hid (hs4.on' HZ3.out HB1.out HB3.out)
      have HZ4 := Lib.hid (Nat.le_trans HZ3.out hs4.size)
      rw [one_same, upd_one, ← frS_snoc (x := ⟨XA, xc, xl⟩) HX.out] at ht4
      have HT4 := Lib.hid ht4
      clear ht4 hs4
      go_wp2_with fail
      go_roundw
      case rel => exact ⟨k + 1, by omega, by go_num, HT4, HB4, HZ4⟩
      case measure => simp [intOf]; omega
    · obtain rfl : k = n := by omega
      have ht0 := ht.out
      rw [List.take_of_length_le (by have := HTL.out; omega)] at ht0
      have HT5 := Lib.hid ht0
      have hHX := H.out.below hb.out
      have HRX := Lib.hid hHX
      clear ht ht0 hHX
      go_wp2_with (at_builtin; refine copyS rfl _ _ rfl _ rfl T k HTL.out A c HRX.out rfl rfl HN.out (by omega) ?_)
      intro A6 c6 w6 ho6 hb6
      have HO6 := Lib.hid (ho6.low (B' := w.heap.size) hb.out.size)
      have HB6 := Lib.hid (hb.out.trans (hb6.mono hb.out.size))
      have HZ6 := Lib.hid (Nat.le_trans hz.out hb6.size)
      have HT6 := Lib.hid (HT5.out.below hb6)
      clear ho6 hb6
      have hcase : (0 ≤ d ∧ d < k) ∨ d < 0 ∨ (0 ≤ d ∧ ¬ d < k) := by omega
      rcases hcase with ⟨hd1, hd2⟩ | hd | ⟨hd1, hd2⟩
      · obtain ⟨dd, rfl⟩ := Int.eq_ofNat_of_zero_le hd1
        have hdk : dd < k := by omega
        obtain ⟨x, hx⟩ := get_some T dd (by have := HTL.out; omega)
        obtain ⟨ad, rfl, hcell0⟩ := H.out dd x hx
        have HX := Lib.hid hx
        have HC0 := Lib.hid hcell0
        clear hx hcell0
        go_wp2_with fail
        (with_reducible refine (Late_s_yes _ _ _ _ a HT6.out ha dd (x.l, false) (by rw [one_same]; exact frS_get HX.out)).mono ?_); rintro e w7 ⟨rfl, ht7, hs7⟩
        rw [one_same, upd_one, frS_late] at ht7
        have HB7 := Lib.hid (hs7.on' HZ6.out HB1.out HB6.out)
        have HZ7 := Lib.hid (Nat.le_trans HZ6.out hs7.size)
        have HT7 := Lib.hid ht7
        clear ht7 hs7 HT5 HT6 HO6 HB6 HZ6
        have HRD := Lib.hid (H.out.below HB7.out)
        obtain ⟨d1, hd1'⟩ : ∃ d1, d1 = dd + 1 := ⟨_, rfl⟩
        obtain ⟨X2, hX2⟩ : ∃ X2, (if c = d1 then some ad else some (ad.add d1)) = X2 := ⟨_, rfl⟩
        have HX2 : tailA (some ad) c d1 = X2 := hX2
        have e1 : IntKind.i64.wrap ((dd : Int) + 1) = (d1 : Int) := by rw [IntKind.wrap_i64]; omega
        have hd1k : d1 ≤ k := by omega
        have HD1 := Lib.hid hd1'
        clear hd1'
        have hdl : dd ≤ c := by have := HLE.out; omega
        have H1 : Hid ((T.take dd).length = dd) := by unfold Hid; rw [List.length_take]; have := HTL.out; omega
        have H2 : Hid ((T.drop d1).length = k - d1) := by unfold Hid; rw [List.length_drop]; have := HTL.out; omega
        have HN2 : Hid (X2 = none → c - d1 = 0) := by unfold Hid; rw [← HX2]; exact tailA_nil HN.out
        have HR2 : Hid (∀ W, Below w7.heap.size w7 W → Rd gS W X2 (T.drop d1)) := fun W hW => by rw [← HX2]; exact (HRD.out.below hW).tail d1 (by have := HTL.out; have := HLE.out; omega)
        go_wp2_with fail
        go_region_law (first
          | (refine step_appS (by rfl) _ _ (by rfl) (T.take dd) (T.drop d1) HO8.out dd (k - d1) H1.out H2.out (by rfl) X2 (c - d1) (HR2.out _ K8.out) (by rfl) HN2.out (by omega) HBS8.out ?_; intro A9 c9 w9 ho9 hg9; have HO9 := Lib.hid ho9; have HG9 := Lib.hid hg9; clear ho9 hg9)
          | (refine step_copyS (by rfl) _ _ (by rfl) _ (by rfl) (T.take dd) dd H1.out (some ad) c ((HRD.out.below (Below.refl _ _).drew).take dd) (by rfl) (by rfl) HN.out (by omega) ?_; intro A8 c8 w8 ho8 hb8; have HO8 := Lib.hid ho8; have K8 := Lib.hid ((Below.refl w7.heap.size w7).drew.trans hb8); have HBS8 := Lib.hid hb8.size; clear ho8 hb8))
        all_goals
          have hb9 : Below w7.heap.size w7 w9 := K8.out.grown HG9.out HBS8.out (fun q hq => (HO8.out.block q (by rw [H1.out]; exact hq)).1)
          have hcell := ((HB7.out.trans (hb9.mono HB7.out.size)).cell (World.block_lt_of_cell? w _ HC0.out)).trans HC0.out
          unfold gS at hcell
          have HOK := Lib.hid (HK.out x (List.mem_of_getElem? HX.out))
          obtain ⟨XA, xc, xl⟩ := x
          simp only at hcell
          have hb10 := hb9.alloc hb9.size (.cells #[.slice XA xl.length xc] 29)
          have HO9a := Lib.hid (HO9.out.below ((Below.refl _ _).alloc (Nat.le_refl _) (.cells #[.slice XA xl.length xc] 29)))
          have HX9 := Lib.hid (Rd.row_of (g := gS) (E := 29) w9 [⟨XA, xc, xl⟩] (cs := #[.slice XA xl.length xc]) rfl)
          have HL9 : Hid ((T.take dd ++ T.drop d1).length = dd + (k - d1)) := by unfold Hid; rw [List.length_append, H1.out, H2.out]
          have HB10 := Lib.hid hb10
          clear hb9 hb10 HG9 HO8 K8 HBS8 HO9
          go_wp2_with (at_builtin; refine appS rfl _ _ rfl (T.take dd ++ T.drop d1) [⟨XA, xc, xl⟩] HO9a.out (dd + (k - d1)) 1 HL9.out rfl rfl (some ⟨w9.heap.size, 0, none⟩) 1 HX9.out rfl (by intro h; cases h) (by omega) HB10.out.size ?_)
          intro A10 c10 w10 ho10 hg10
          have hb11 := HB10.out.grown hg10 HB10.out.size (fun q hq => (HO9a.out.block q (by rw [HL9.out]; exact hq)).1)
          have hlen : dd + (k - d1) + 1 = k := by have := HD1.out; omega
          have HB11 := Lib.hid (HB7.out.trans (hb11.mono HB7.out.size))
          have HT11 := Lib.hid (HT7.out.below hb11)
          have HZ11 := Lib.hid (Nat.le_trans HZ7.out hb11.size)
          have HO11 := Lib.hid (ho10.low (B' := w.heap.size) HB7.out.size)
          rw [hlen]
          obtain ⟨M, hM⟩ : ∃ M, M = T.take dd ++ T.drop (dd + 1) ++ [⟨XA, xc, xl⟩] := ⟨_, rfl⟩
          have ht11 := HT11.out
          have ho11 := HO11.out
          rw [HD1.out] at ho11
          simp only [List.append_assoc] at ht11 ho11 hM
          rw [← hM] at ht11 ho11
          have hMk : ∀ x ∈ M, x.ok w := fun x hx => by
            rw [hM] at hx
            rcases List.mem_append.1 hx with hx | hx
            · exact HK.out x (List.mem_of_mem_take hx)
            rcases List.mem_append.1 hx with hx | hx
            · exact HK.out x (List.mem_of_mem_drop hx)
            · obtain rfl : x = _ := by simpa using hx
              exact HOK.out
          have HMK := Lib.hid hMk
          have HML : Hid (M.length = k) := by unfold Hid; rw [hM, ← List.append_assoc, List.length_append, ← HD1.out, HL9.out]; exact hlen
          clear HT11 HO11 HT7 HB7 HZ7
          have HT7 := Lib.hid ht11
          have HO7 := Lib.hid ho11
          have HB7 := HB11
          have HZ7 := HZ11
          clear ht11 ho11 hM hMk HB11 HZ11 hb11 ho10 hg10 hcell HX9 HO9a HB10 HX HC0
          go_wp2_with fail
          go_loopw [85] (fun i wr => ∃ q : Nat, q ≤ k ∧ i = .int .i64 q ∧ Hid (NetS w1.heap.size wr w1.heap.size (one a (frS (M.drop q)))) ∧ Hid (Ow 29 gS wr w.heap.size A10 M c10) ∧ Hid (Below w.heap.size w wr) ∧ Hid (w1.heap.size ≤ wr.heap.size)) (fun i _ => k - (intOf i).toNat)
          case atStart => exact ⟨0, Nat.zero_le _, rfl, HT7, HO7, HB7, HZ7⟩
          case round =>
            obtain ⟨q, hq, rfl, htq, hoq, hbq, hzq⟩ := hrel
            by_cases hql : q < k
            · obtain ⟨x, hx⟩ := get_some M q (by have := HML.out; omega)
              obtain ⟨b7, hb7, _⟩ := hoq.out.at_some (by have := HML.out; omega)
              obtain ⟨hx1, hx2⟩ := frS_drop hx
              have HOK := Lib.hid (HMK.out x (List.mem_of_getElem? hx))
              have hoq' := hoq.out
              rw [hb7] at hoq'
              have hcell := hoq'.cell hx
              unfold gS at hcell
              subst hb7
              have HX1 := Lib.hid hx1
              have HX2 := Lib.hid hx2
              obtain ⟨XA, xc, xl⟩ := x
              simp only at hcell
              clear hx hoq' hx1 hx2
              go_wp2_with fail
              refine (Take_s_yes _ _ _ _ a htq.out ha 0 (xl, false) (by rw [one_same]; exact HX1.out)).mono ?_; rintro e w9 ⟨A9, c9, rfl, ht9, hs9, ho9⟩
              rw [one_same, upd_one, HX2.out] at ht9
              have HT9 := Lib.hid ht9
              have HB9 := Lib.hid (hs9.on' hzq.out HB1.out hbq.out)
              have HZ9 := Lib.hid (Nat.le_trans hzq.out hs9.size)
              have HO9 := Lib.hid (hs9.ow hoq.out (by decide) (by decide))
              have e1 := str8 (n := xl.length) (c := c9) ho9.rd rfl
              have e2 := str8 (n := xl.length) (c := xc) (HOK.out.2.2.below HB9.out) rfl
              clear ht9 hs9 ho9 hcell
              go_wp2_with fail
              go_roundw
              case rel => exact ⟨q + 1, by omega, by go_num, HT9, HO9, HB9, HZ9⟩
              case measure => simp [intOf]; omega
            · obtain rfl : q = k := by omega
              have he : M.drop q = [] := List.drop_eq_nil_of_le (by have := HML.out; omega)
              have htq' := htq.out
              rw [he] at htq'
              have HTQ := Lib.hid htq'
              clear htq he htq'
              go_wp2_with fail
              (with_reducible refine (Len_s _ _ _ _ a HTQ.out ha).mono ?_); rintro e w9 ⟨rfl, q9, rfl⟩
              rw [one_same]
              have HB9 := Lib.hid (below_drewN hbq.out q9)
              go_wp2_with fail
              go_ret
              exact ⟨rfl, HB9.out⟩
      · have hd' : ¬ (0 ≤ d) := by omega
        go_wp2_with fail
        (with_reducible refine (Late_s_none _ _ _ _ a HT6.out ha d (by rw [one_same, frS_length]; have := HTL.out; omega)).mono ?_); rintro e w7 ⟨rfl, hb7⟩
        have HB7 := Lib.hid (HB6.out.trans (hb7.mono HB6.out.size))
        have HZ7 := Lib.hid (Nat.le_trans HZ6.out hb7.size)
        have HT7 := Lib.hid (HT6.out.below hb7)
        have HO7 := Lib.hid (HO6.out.below hb7)
        clear hb7 HT5 HT6 HO6 HB6 HZ6
        obtain ⟨M, hM⟩ : ∃ M, M = T := ⟨_, rfl⟩
        rw [← hM] at HO7 HT7
        have hMk : ∀ x ∈ M, x.ok w := fun x hx => HK.out x (by rw [← hM]; exact hx)
        have HMK := Lib.hid hMk
        have HML : Hid (M.length = k) := by rw [hM]; exact HTL.out
        clear hM hMk
        go_wp2_with fail
        go_loopw [85] (fun i wr => ∃ q : Nat, q ≤ k ∧ i = .int .i64 q ∧ Hid (NetS w1.heap.size wr w1.heap.size (one a (frS (M.drop q)))) ∧ Hid (Ow 29 gS wr w.heap.size A6 M c6) ∧ Hid (Below w.heap.size w wr) ∧ Hid (w1.heap.size ≤ wr.heap.size)) (fun i _ => k - (intOf i).toNat)
        case atStart => exact ⟨0, Nat.zero_le _, rfl, HT7, HO7, HB7, HZ7⟩
        case round =>
          obtain ⟨q, hq, rfl, htq, hoq, hbq, hzq⟩ := hrel
          by_cases hql : q < k
          · obtain ⟨x, hx⟩ := get_some M q (by have := HML.out; omega)
            obtain ⟨b7, hb7, _⟩ := hoq.out.at_some (by have := HML.out; omega)
            obtain ⟨hx1, hx2⟩ := frS_drop hx
            have HOK := Lib.hid (HMK.out x (List.mem_of_getElem? hx))
            have hoq' := hoq.out
            rw [hb7] at hoq'
            have hcell := hoq'.cell hx
            unfold gS at hcell
            subst hb7
            have HX1 := Lib.hid hx1
            have HX2 := Lib.hid hx2
            obtain ⟨XA, xc, xl⟩ := x
            simp only at hcell
            clear hx hoq' hx1 hx2
            go_wp2_with fail
            refine (Take_s_yes _ _ _ _ a htq.out ha 0 (xl, false) (by rw [one_same]; exact HX1.out)).mono ?_; rintro e w9 ⟨A9, c9, rfl, ht9, hs9, ho9⟩
            rw [one_same, upd_one, HX2.out] at ht9
            have HT9 := Lib.hid ht9
            have HB9 := Lib.hid (hs9.on' hzq.out HB1.out hbq.out)
            have HZ9 := Lib.hid (Nat.le_trans hzq.out hs9.size)
            have HO9 := Lib.hid (hs9.ow hoq.out (by decide) (by decide))
            have e1 := str8 (n := xl.length) (c := c9) ho9.rd rfl
            have e2 := str8 (n := xl.length) (c := xc) (HOK.out.2.2.below HB9.out) rfl
            clear ht9 hs9 ho9 hcell
            go_wp2_with fail
            go_roundw
            case rel => exact ⟨q + 1, by omega, by go_num, HT9, HO9, HB9, HZ9⟩
            case measure => simp [intOf]; omega
          · obtain rfl : q = k := by omega
            have he : M.drop q = [] := List.drop_eq_nil_of_le (by have := HML.out; omega)
            have htq' := htq.out
            rw [he] at htq'
            have HTQ := Lib.hid htq'
            clear htq he htq'
            go_wp2_with fail
            (with_reducible refine (Len_s _ _ _ _ a HTQ.out ha).mono ?_); rintro e w9 ⟨rfl, q9, rfl⟩
            rw [one_same]
            have HB9 := Lib.hid (below_drewN hbq.out q9)
            go_wp2_with fail
            go_ret
            exact ⟨rfl, HB9.out⟩
      · go_wp2_with fail
        (with_reducible refine (Late_s_none _ _ _ _ a HT6.out ha d (by rw [one_same, frS_length]; have := HTL.out; omega)).mono ?_); rintro e w7 ⟨rfl, hb7⟩
        have HB7 := Lib.hid (HB6.out.trans (hb7.mono HB6.out.size))
        have HZ7 := Lib.hid (Nat.le_trans HZ6.out hb7.size)
        have HT7 := Lib.hid (HT6.out.below hb7)
        have HO7 := Lib.hid (HO6.out.below hb7)
        clear hb7 HT5 HT6 HO6 HB6 HZ6
        obtain ⟨M, hM⟩ : ∃ M, M = T := ⟨_, rfl⟩
        rw [← hM] at HO7 HT7
        have hMk : ∀ x ∈ M, x.ok w := fun x hx => HK.out x (by rw [← hM]; exact hx)
        have HMK := Lib.hid hMk
        have HML : Hid (M.length = k) := by rw [hM]; exact HTL.out
        clear hM hMk
        go_wp2_with fail
        go_loopw [85] (fun i wr => ∃ q : Nat, q ≤ k ∧ i = .int .i64 q ∧ Hid (NetS w1.heap.size wr w1.heap.size (one a (frS (M.drop q)))) ∧ Hid (Ow 29 gS wr w.heap.size A6 M c6) ∧ Hid (Below w.heap.size w wr) ∧ Hid (w1.heap.size ≤ wr.heap.size)) (fun i _ => k - (intOf i).toNat)
        case atStart => exact ⟨0, Nat.zero_le _, rfl, HT7, HO7, HB7, HZ7⟩
        case round =>
          obtain ⟨q, hq, rfl, htq, hoq, hbq, hzq⟩ := hrel
          by_cases hql : q < k
          · obtain ⟨x, hx⟩ := get_some M q (by have := HML.out; omega)
            obtain ⟨b7, hb7, _⟩ := hoq.out.at_some (by have := HML.out; omega)
            obtain ⟨hx1, hx2⟩ := frS_drop hx
            have HOK := Lib.hid (HMK.out x (List.mem_of_getElem? hx))
            have hoq' := hoq.out
            rw [hb7] at hoq'
            have hcell := hoq'.cell hx
            unfold gS at hcell
            subst hb7
            have HX1 := Lib.hid hx1
            have HX2 := Lib.hid hx2
            obtain ⟨XA, xc, xl⟩ := x
            simp only at hcell
            clear hx hoq' hx1 hx2
            go_wp2_with fail
            refine (Take_s_yes _ _ _ _ a htq.out ha 0 (xl, false) (by rw [one_same]; exact HX1.out)).mono ?_; rintro e w9 ⟨A9, c9, rfl, ht9, hs9, ho9⟩
            rw [one_same, upd_one, HX2.out] at ht9
            have HT9 := Lib.hid ht9
            have HB9 := Lib.hid (hs9.on' hzq.out HB1.out hbq.out)
            have HZ9 := Lib.hid (Nat.le_trans hzq.out hs9.size)
            have HO9 := Lib.hid (hs9.ow hoq.out (by decide) (by decide))
            have e1 := str8 (n := xl.length) (c := c9) ho9.rd rfl
            have e2 := str8 (n := xl.length) (c := xc) (HOK.out.2.2.below HB9.out) rfl
            clear ht9 hs9 ho9 hcell
            go_wp2_with fail
            go_roundw
            case rel => exact ⟨q + 1, by omega, by go_num, HT9, HO9, HB9, HZ9⟩
            case measure => simp [intOf]; omega
          · obtain rfl : q = k := by omega
            have he : M.drop q = [] := List.drop_eq_nil_of_le (by have := HML.out; omega)
            have htq' := htq.out
            rw [he] at htq'
            have HTQ := Lib.hid htq'
            clear htq he htq'
            go_wp2_with fail
            (with_reducible refine (Len_s _ _ _ _ a HTQ.out ha).mono ?_); rintro e w9 ⟨rfl, q9, rfl⟩
            rw [one_same]
            have HB9 := Lib.hid (below_drewN hbq.out q9)
            go_wp2_with fail
            go_ret
            exact ⟨rfl, HB9.out⟩

theorem order_c (A : Option Addr) (L : List (List UInt8)) (c : Nat) (a d : Int) (w : World) (h : RdT w A L) (hn : A = none → c = 0) (hle : L.length ≤ c) :
    Calls Try.prog 4 #[.slice A L.length c, .int .i64 a, .int .i64 d] w fun e w' => e = .returned (.bool true) ∧ Below w.heap.size w w' := by
  by_cases h1 : 150 < L.length
  · exact order_early A _ c a d w (.inl h1)
  · by_cases h2 : a < 0
    · exact order_early A _ c a d w (.inr (.inl ⟨h1, h2⟩))
    · by_cases h3 : 7 < a
      · exact order_early A _ c a d w (.inr (.inr ⟨h1, h2, h3⟩))
      · obtain ⟨x, rfl⟩ := Int.eq_ofNat_of_zero_le (a := a) (by omega)
        obtain ⟨T, hTn, _, hTr, hTk⟩ := h.sls
        exact order_main A T L.length c x d w hTn hle h1 (by omega) hTr hn hTk

end Go.Proofs.Yteoafaofiohefaa
