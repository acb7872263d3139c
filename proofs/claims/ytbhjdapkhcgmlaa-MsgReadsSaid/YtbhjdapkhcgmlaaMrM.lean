import Derived.Test.YtbhjdapkhcgmlaaMrK
import Derived.Test.YtbhjdapkhcgmlaaMsgZ
import Derived.Test.YtbhjdapkhcgmlaaMsgM

set_option linter.unusedSimpArgs false
set_option linter.unusedVariables false
set_option linter.unnecessarySimpa false

namespace Go.Proofs.Ytbhjdapkhcgmlaa
open Go.RowKit

/-! The plain law: msg.Read and the reference's Read answer alike. -/

theorem numsX_inv {s : RState} {m : Nat} (h : (numsX s m).2.2 = false) : s.2 = false ∧ numsB (numsX s m).1 ++ (numsX s m).2.1 = s.1 := by
  by_cases g : s.2 = false ∧ 3 * m ≤ s.1.length
  · rw [numsX_yes g.1 g.2]
    refine ⟨g.1, ?_⟩
    show numsB (ints3 s.1 m) ++ s.1.drop (3 * m) = s.1
    rw [(nums_ints3 s.1 m g.2).1, List.take_append_drop]
  · rw [numsX_no g] at h
    cases h

theorem valX_inv {s : RState} (h : (valX s).2.2 = false) : s.2 = false ∧ valB (valX s).1.1 (valX s).1.2 ++ (valX s).2.1 = s.1 := by
  by_cases g : s.2 = false ∧ 16 ≤ s.1.length ∧ valOk s.1 = true
  · rw [valX_yes g.1 g.2.1 g.2.2]
    refine ⟨g.1, ?_⟩
    show valB (reB s.1) (imB s.1) ++ s.1.drop 16 = s.1
    have e : valB (reB s.1) (imB s.1) = s.1.take 16 := of_decide_eq_true g.2.2
    rw [e, List.take_append_drop]
  · rw [valX_no g] at h
    cases h

theorem stepX_inv {s : RState} (h : (stepX s).2.2 = false) : s.2 = false ∧ put1 (stepX s).1 ++ (stepX s).2.1 = s.1 := by
  obtain ⟨x, y, exy⟩ := two (numsX_length s 2)
  have hv := valX_inv (s := (numsX s 2).2) h
  have hn := numsX_inv (s := s) (m := 2) hv.1
  refine ⟨hn.1, ?_⟩
  have e1 : (stepX s).1 = ⟨x, y, (valX (numsX s 2).2).1.1, (valX (numsX s 2).2).1.2⟩ := by unfold stepX; rw [exy]; rfl
  rw [e1]
  show (numsB [x, y] ++ valB _ _) ++ (valX (numsX s 2).2).2.1 = s.1
  rw [List.append_assoc, hv.2, ← exy]
  exact hn.2

theorem putsX_inv (s : RState) : ∀ k, (putsX s k).2.2 = false → s.2 = false ∧ putsB (putsX s k).1 ++ (putsX s k).2.1 = s.1
  | 0, h => ⟨h, rfl⟩
  | k + 1, h => by
    have h1 := stepX_inv (s := (putsX s k).2) h
    have ih := putsX_inv s k h1.1
    refine ⟨ih.1, ?_⟩
    show putsB ((putsX s k).1 ++ [(stepX (putsX s k).2).1]) ++ (stepX (putsX s k).2).2.1 = s.1
    rw [putsB_snoc, List.append_assoc, h1.2, ih.2]

theorem afterV_inv4 (s : RState) (h : (afterV s 4).2 = false) : s.2 = false ∧ flatV [atV s 0, atV s 1, atV s 2, atV s 3] ++ (afterV s 4).1 = s.1 := by
  have h3 := valX_inv (s := afterV s 3) h
  have h2 := valX_inv (s := afterV s 2) h3.1
  have h1 := valX_inv (s := afterV s 1) h2.1
  have h0 := valX_inv (s := afterV s 0) h1.1
  refine ⟨h0.1, ?_⟩
  rw [flatV_cons, flatV_cons, flatV_cons, flatV_cons]
  show (valB _ _ ++ (valB _ _ ++ (valB _ _ ++ (valB _ _ ++ flatV [])))) ++ (afterV s 4).1 = s.1
  have e0 : flatV [] = ([] : List UInt8) := rfl
  rw [e0, List.append_nil]
  simp only [List.append_assoc]
  have h3' : valB (atV s 3).1 (atV s 3).2 ++ (afterV s 4).1 = (afterV s 3).1 := h3.2
  have h2' : valB (atV s 2).1 (atV s 2).2 ++ (afterV s 3).1 = (afterV s 2).1 := h2.2
  have h1' : valB (atV s 1).1 (atV s 1).2 ++ (afterV s 2).1 = (afterV s 1).1 := h1.2
  have h0' : valB (atV s 0).1 (atV s 0).2 ++ (afterV s 1).1 = s.1 := h0.2
  rw [h3', h2', h1', h0']

/-- What was read, written again, is what was there. -/
theorem body_inv (b : List UInt8) (h0 h1 h2 h3 h4 h5 h6 : Int) (N : Nat) (hH : ints3 b 8 = [h0, h1, h2, h3, h4, h5, h6, (N : Int)]) (hl : 24 ≤ b.length) (h60 : 0 ≤ h6) (h61 : h6 ≤ 1)
    (hg : (bodyX [h0, h1, h2, h3, h4, h5, h6, (N : Int)] (b.drop 24, false)).2.2 = false) :
    bytesM (bodyX [h0, h1, h2, h3, h4, h5, h6, (N : Int)] (b.drop 24, false)).1 ++ (bodyX [h0, h1, h2, h3, h4, h5, h6, (N : Int)] (b.drop 24, false)).2.1 = b := by
  have hb : numsB [h0, h1, h2, h3, h4, h5, h6, (N : Int)] ++ b.drop 24 = b := by
    rw [← hH, (nums_ints3 b 8 hl).1]
    exact List.take_append_drop 24 b
  have hw : numB (h6 == 1) = h6 := by
    obtain rfl | rfl : h6 = 0 ∨ h6 = 1 := by omega
    · rfl
    · rfl
  by_cases k5 : h0 = 5
  · subst k5
    rw [body_5] at hg ⊢
    have ha := afterV_inv4 _ hg
    have hp := putsX_inv (b.drop 24, false) N ha.1
    have e : headM 5 h1 h2 h3 h4 h5 (h6 == 1) (putsX (b.drop 24, false) N).1.length = [5, h1, h2, h3, h4, h5, h6, (N : Int)] := by unfold headM; rw [hw, putsX_length]
    show (numsB (headM 5 h1 h2 h3 h4 h5 (h6 == 1) (putsX (b.drop 24, false) N).1.length) ++ putsB (putsX (b.drop 24, false) N).1 ++ flatV [atV (putsX (b.drop 24, false) N).2 0, atV (putsX (b.drop 24, false) N).2 1, atV (putsX (b.drop 24, false) N).2 2, atV (putsX (b.drop 24, false) N).2 3]) ++ (afterV (putsX (b.drop 24, false) N).2 4).1 = b
    rw [e, List.append_assoc, ha.2, List.append_assoc, hp.2]
    exact hb
  · rw [body_no5 h0 h1 h2 h3 h4 h5 h6 N _ k5] at hg ⊢
    have hp := putsX_inv (b.drop 24, false) N hg
    have e : headM h0 h1 h2 h3 h4 h5 (h6 == 1) (putsX (b.drop 24, false) N).1.length = [h0, h1, h2, h3, h4, h5, h6, (N : Int)] := by unfold headM; rw [hw, putsX_length]
    have et : tailV h0 (0, 0) (0, 0) (0, 0) (0, 0) = [] := if_neg k5
    show (numsB (headM h0 h1 h2 h3 h4 h5 (h6 == 1) (putsX (b.drop 24, false) N).1.length) ++ putsB (putsX (b.drop 24, false) N).1 ++ tailV h0 (0, 0) (0, 0) (0, 0) (0, 0)) ++ (putsX (b.drop 24, false) N).2.1 = b
    rw [e, et, List.append_nil, List.append_assoc, hp.2]
    exact hb

theorem putsOk_len {ps : List PutV} (h : putsOk ps = true) : ps.length ≤ 24 := by
  unfold putsOk at h
  rw [Bool.and_eq_true] at h
  exact of_decide_eq_true h.2
theorem mright_len {m : MsgM} (h : mright m = true) : m.ps.length ≤ 24 := by
  unfold mright rightM at h
  rw [Bool.and_eq_true, Bool.and_eq_true] at h
  exact putsOk_len h.2.2

theorem readO_short {b : List UInt8} (h : b.length < 24) : readO b = none := by
  have e : numsX (b, false) 8 = (List.replicate 8 0, b, true) := numsX_no (fun q => by have : 3 * 8 ≤ b.length := q.2; omega)
  unfold readO
  rw [e]
  rfl

theorem read_eq (b : List UInt8) : readO b = readRO b := by
  by_cases hs : b.length < 24
  · rw [readO_short hs, rr_short hs]
  · have hn : numsX (b, false) 8 = (ints3 b 8, b.drop 24, false) := numsX_yes rfl (by show 3 * 8 ≤ b.length; omega)
    have hbnd := ints3_bound b 8 (by omega)
    obtain ⟨h0, h1, h2, h3, h4, h5, h6, h7, hH⟩ := eight (ints3_length b 8)
    rw [hH] at hbnd
    have b0 := hbnd h0 (by simp)
    have b1 := hbnd h1 (by simp)
    have b2 := hbnd h2 (by simp)
    have b3 := hbnd h3 (by simp)
    have b4 := hbnd h4 (by simp)
    have b5 := hbnd h5 (by simp)
    have b6 := hbnd h6 (by simp)
    have b7 := hbnd h7 (by simp)
    obtain ⟨N, rfl⟩ := Int.eq_ofNat_of_zero_le b7.1
    rw [hH] at hn
    have hpr : putsR b = putsX (b.drop 24, false) (min N 25) := by unfold putsR; rw [hH]; show putsX _ (min ((N : Int).toNat) 25) = _; rw [Int.toNat_natCast]
    by_cases g : 1 < h6 ∨ 24 < (N : Int)
    · rw [read_no1 hn g]
      symm
      refine rr_no (fun q => ?_)
      have hlen : (bodyB b).1.ps.length = min N 25 := by
        have : (bodyB b).1.ps = (putsR b).1 := by unfold bodyB bodyR; split <;> rfl
        rw [this, hpr, putsX_length]
      have hm := mright_len q.2.1
      rw [hlen] at hm
      rcases g with g | g
      · -- the seventh number would be a flag
        have hwr : ∃ k pg ob tx cp ow wr n, headM (bodyB b).1.k (bodyB b).1.pg (bodyB b).1.ob (bodyB b).1.tx (bodyB b).1.cp (bodyB b).1.ow (bodyB b).1.wr (bodyB b).1.ps.length = headM k pg ob tx cp ow wr n ∧ (0 ≤ k ∧ k ≤ 16777215) ∧ (0 ≤ pg ∧ pg ≤ 16777215) ∧ (0 ≤ ob ∧ ob ≤ 16777215) ∧ (0 ≤ tx ∧ tx ≤ 16777215) ∧ (0 ≤ cp ∧ cp ≤ 16777215) ∧ (0 ≤ ow ∧ ow ≤ 16777215) ∧ n ≤ 24 := by
          have hk : (bodyB b).1.k = h0 ∧ (bodyB b).1.pg = h1 ∧ (bodyB b).1.ob = h2 ∧ (bodyB b).1.tx = h3 ∧ (bodyB b).1.cp = h4 ∧ (bodyB b).1.ow = h5 := by
            unfold bodyB bodyR
            rw [hH]
            split <;> exact ⟨rfl, rfl, rfl, rfl, rfl, rfl⟩
          exact ⟨_, _, _, _, _, _, _, _, rfl, by rw [hk.1]; exact b0, by rw [hk.2.1]; exact b1, by rw [hk.2.2.1]; exact b2, by rw [hk.2.2.2.1]; exact b3, by rw [hk.2.2.2.2.1]; exact b4, by rw [hk.2.2.2.2.2]; exact b5, by rw [hlen]; exact hm⟩
        obtain ⟨k, pg, ob, tx, cp, ow, wr, n, he, c0, c1, c2, c3, c4, c5, c7⟩ := hwr
        have hok : okN (headM k pg ob tx cp ow wr n) = true := by unfold okN headM numB; cases wr <;> simp <;> omega
        have hb2 : ints3 b 8 = headM k pg ob tx cp ow wr n := by
          have e := q.2.2
          unfold bytesM at e
          rw [he, List.append_assoc] at e
          rw [← e]
          exact ints3_nums (headM k pg ob tx cp ow wr n) _ hok
        rw [hH] at hb2
        unfold headM at hb2
        simp only [List.cons.injEq] at hb2
        have h6e := hb2.2.2.2.2.2.2.1
        unfold numB at h6e
        cases wr <;> simp at h6e <;> omega
      · omega
    · have hN : N ≤ 24 := by omega
      have h61 : h6 ≤ 1 := by omega
      have hw : (h6 != 0) = (h6 == 1) := by
        obtain rfl | rfl : h6 = 0 ∨ h6 = 1 := by omega
        · rfl
        · rfl
      have hBB : bodyB b = bodyX [h0, h1, h2, h3, h4, h5, h6, (N : Int)] (b.drop 24, false) := by
        by_cases k5 : h0 = 5
        · subst k5
          rw [body_5]
          unfold bodyB bodyR
          rw [hH, hpr, Nat.min_eq_left (by omega), ← hw]
          rfl
        · rw [body_no5 _ _ _ _ _ _ _ _ _ k5]
          unfold bodyB bodyR
          rw [hH, hpr, Nat.min_eq_left (by omega), ← hw]
          exact if_neg k5
      obtain ⟨m, s2, hB⟩ : ∃ m s2, bodyX [h0, h1, h2, h3, h4, h5, h6, (N : Int)] (b.drop 24, false) = (m, s2) := ⟨_, _, rfl⟩
      cases hbad : s2.2 with
      | true =>
        rw [read_no2 hn (by omega) (by omega) hB (.inl hbad)]
        symm
        exact rr_no (fun q => by have := q.1; rw [hBB, hB] at this; rw [hbad] at this; cases this)
      | false =>
        cases hmr : mright m with
        | false =>
          rw [read_no2 hn (by omega) (by omega) hB (.inr (.inr hmr))]
          symm
          exact rr_no (fun q => by have := q.2.1; rw [hBB, hB] at this; rw [hmr] at this; cases this)
        | true =>
          have hinv := body_inv b h0 h1 h2 h3 h4 h5 h6 N hH (by omega) b6.1 h61 (by rw [hB]; exact hbad)
          rw [hB] at hinv
          by_cases hz : 0 < s2.1.length
          · rw [read_no2 hn (by omega) (by omega) hB (.inr (.inl hz))]
            symm
            refine rr_no (fun q => ?_)
            have e := q.2.2
            rw [hBB, hB] at e
            have e2 := congrArg List.length hinv
            rw [List.length_append] at e2
            have e3 := congrArg List.length e
            simp only at e2 e3
            omega
          · have hnil : s2.1 = [] := List.eq_nil_of_length_eq_zero (by omega)
            rw [read_some hn (by omega) (by omega) hB hbad (by omega) hmr]
            symm
            have hbm : bytesM m = b := by
              have e := hinv
              simp only at e
              rw [hnil, List.append_nil] at e
              exact e
            have := rr_some (b := b) hs (by rw [hBB, hB]; exact hbad) (by rw [hBB, hB]; exact hmr) (by rw [hBB, hB]; exact hbm)
            rw [this, hBB, hB]

end Go.Proofs.Ytbhjdapkhcgmlaa
