import Derived.Test.YticnofemjnpjoaaPtP
import Derived.WalkMore

set_option linter.unusedSimpArgs false
set_option linter.unusedVariables false
set_option linter.unnecessarySimpa false

namespace Go.Proofs.Yticnofemjnpjoaa
open Go.RowKit

/-! past.Order. -/

/-- Does each deal that ended ahead of another's beginning stand ahead of it? pos: where a deal's name stands. -/
def orderIn (pos : Nat → Nat) (a : DealV) : List DealV → Bool
  | [] => true
  | b :: r => if decide (a.en < b.bg) = true then (if decide (pos b.tx.toNat ≤ pos a.tx.toNat) = true then false else orderIn pos a r) else orderIn pos a r

def orderM (pos : Nat → Nat) (l : List DealV) : List DealV → Bool
  | [] => true
  | a :: r => if orderIn pos a l = true then orderM pos l r else false

theorem nodup_pos {txs : List Nat} {i j t : Nat} (hd : txs.Nodup) (hi : txs[i]? = some t) (hj : txs[j]? = some t) : i = j := by
  obtain ⟨h1, h2⟩ := List.getElem?_eq_some_iff.1 hi
  obtain ⟨h3, h4⟩ := List.getElem?_eq_some_iff.1 hj
  rcases Nat.lt_trichotomy i j with h | h | h
  · exact absurd (h2.trans h4.symm) ((List.pairwise_iff_getElem.1 hd) i j h1 h3 h)
  · exact h
  · exact absurd (h4.trans h2.symm) ((List.pairwise_iff_getElem.1 hd) j i h3 h1 h)

set_option maxRecDepth 100000 in
set_option maxHeartbeats 8000000 in
theorem order_c (b b2 : Nat) (l : List DealV) (log : List BatV) (txs : List Nat) (pos : Nat → Nat) (n c m c2 : Nat) (hn : l.length = n) (hl : n ≤ 1000) (hm : log.length = m) (hl2 : m ≤ 1000) (ht : Txs log txs) (hdn : Done l) (hpos : ∀ d ∈ l, txs[pos d.tx.toNat]? = some d.tx.toNat) (w : World) (h : RdD w b l) (h2 : RdB w b2 log) :
    Calls Try.prog 7 #[.slice (some ⟨b, 0, none⟩) n c, .slice (some ⟨b2, 0, none⟩) m c2] w fun e w' => e = .returned (.bool (orderM pos l l)) ∧ Below w.heap.size w w' := by
  have HD := Lib.hid h
  have HDN := Lib.hid hdn
  have HT := Lib.hid ht
  have HL := Lib.hid h2
  have HP := Lib.hid hpos
  clear h h2 hdn ht hpos
  go_enter Try.func7, Try.ntmps7
  go_wp2_with fail
  go_step3
  go_wp2_with fail
  refine (places_c b2 log txs m c2 hm hl2 HT.out w HL.out).mono ?_; rintro e w1 ⟨F, M, rfl, hF, -, hF1, hM1, hb1⟩
  have HF1 := Lib.hid hF
  have HB1 := Lib.hid hb1
  clear hF hF1 hM1 hb1
  go_wp2_with fail
  go_step3
  go_wp2_with fail
  go_loopw [22] (fun i wr => ∃ k : Nat, k ≤ n ∧ i = .int .i64 k ∧ Hid (orderM pos l l = orderM pos l (l.drop k)) ∧ Hid (wr.heap[F]? = some (.map (ents (fun i => (i : Int)) txs) m)) ∧ Hid (Below w.heap.size w wr)) (fun i _ => n - (intOf i).toNat)
  case atStart => exact ⟨0, Nat.zero_le _, rfl, rfl, HF1, HB1⟩
  case round =>
    clear HF1 HB1
    obtain ⟨k, hk, rfl, hmm, hF, hbr⟩ := hrel
    by_cases hlt : k < n
    · obtain ⟨⟨cl, ep, tx, bg, en, st, A, nd, cd⟩, hd⟩ := get_some l k (by omega)
      obtain ⟨y0, y1, y2, y3, y4, y5, y6⟩ := HD.out.below hbr.out k _ hd
      obtain ⟨rfl, rfl, rfl, t, ht4, htx⟩ := HDN.out _ (List.mem_of_getElem? hd)
      have hps := HP.out _ (List.mem_of_getElem? hd)
      dsimp only at y0 y1 y2 y3 y4 y5 y6 htx hps
      subst htx
      rw [Int.toNat_natCast] at hps
      have hdr : l.drop k = ⟨1, 1, t, bg, en, 1, A, nd, cd⟩ :: l.drop (k + 1) := by
        obtain ⟨hlt2, e⟩ := List.getElem?_eq_some_iff.1 hd
        rw [← e]; exact List.drop_eq_getElem_cons hlt2
      have HE : Hid (orderM pos l l = if orderIn pos ⟨1, 1, t, bg, en, 1, A, nd, cd⟩ l = true then orderM pos l (l.drop (k + 1)) else false) := by unfold Hid; rw [hmm.out, hdr, orderM]
      have hal := (Below.refl wr.heap.size wr).alloc (Nat.le_refl _) (.cells #[.int .i64 1, .int .i64 1, .int .i64 t, .int .i64 bg, .int .i64 en, .int .i64 1, .slice A nd cd] 33)
      have hq := heap_alloc_new wr (.cells #[.int .i64 1, .int .i64 1, .int .i64 t, .int .i64 bg, .int .i64 en, .int .i64 1, .slice A nd cd] 33)
      have hF2 := (hal.block F (Array.getElem?_eq_some_iff.1 hF.out).1).trans hF.out
      have HB2 := Lib.hid (hbr.out.trans (hal.mono hbr.out.size))
      clear hd hdr hal hmm hF hbr
      go_upto_region 5 with fail
      generalize wr.alloc (.cells #[.int .i64 1, .int .i64 1, .int .i64 t, .int .i64 bg, .int .i64 en, .int .i64 1, .slice A nd cd] 33) = W1 at *
      generalize wr.heap.size = q at *
      clear y0 y1 y2 y3 y4 y5 y6
      obtain ⟨x0, x1, x2, x3, x4, x5, x6, -⟩ := row7' hq
      go_wp2_with fail
      refine (named_c 1 1 t bg en 1 A nd cd W1).mono ?_; rintro e w3 ⟨rfl, hb3⟩
      have hq3 := (hb3.block q (Array.getElem?_eq_some_iff.1 hq).1).trans hq
      have hF3 := (hb3.block F (Array.getElem?_eq_some_iff.1 hF2).1).trans hF2
      have HB3 := Lib.hid (HB2.out.trans (hb3.mono HB2.out.size))
      have HF3 := Lib.hid hF3
      have HQ3 := Lib.hid hq3
      clear x0 x1 x2 x3 x4 x5 x6 hb3 hq hF2
      obtain ⟨x0, x1, x2, x3, x4, x5, x6, -⟩ := row7' hq3
      have HL3 : (Instr.lookup 47 (.map (some F)) (.agg #[.int .i64 1, .int .i64 1, .int .i64 t]) true).run Try.prog w3 = .ok (.tuple #[.int .i64 (pos t : Int), .bool true]) w3 := names_hit (v := fun i => (i : Int)) hF3 HT.out.2.1 hps (fun j hj => by rw [nodup_pos HT.out.2.2.1 hj hps]) true
      clear hq3 hF3 hps
      go_wp2_with fail
      clear x0 x1 x2 x3 x4 x5 x6 HL3
      go_loopw [42] (fun i wr => ∃ j : Nat, j ≤ n ∧ i = .int .i64 j ∧ Hid (orderIn pos ⟨1, 1, t, bg, en, 1, A, nd, cd⟩ l = orderIn pos ⟨1, 1, t, bg, en, 1, A, nd, cd⟩ (l.drop j)) ∧ Hid (wr.heap[F]? = some (.map (ents (fun i => (i : Int)) txs) m)) ∧ Hid (wr.heap[q]? = some (.cells #[.int .i64 1, .int .i64 1, .int .i64 t, .int .i64 bg, .int .i64 en, .int .i64 1, .slice A nd cd] 33)) ∧ Hid (Below w.heap.size w wr)) (fun i _ => n - (intOf i).toNat)
      case atStart => exact ⟨0, Nat.zero_le _, rfl, rfl, HF3, HQ3, HB3⟩
      case round =>
        clear HF3 HQ3 HB3
        obtain ⟨j, hj, rfl, hmm, hF, hQ, hbr⟩ := hrel
        by_cases hjt : j < n
        · obtain ⟨⟨cl, ep, tx, bg2, en2, st, A2, nd2, cd2⟩, hd⟩ := get_some l j (by omega)
          obtain ⟨y0, y1, y2, y3, y4, y5, y6⟩ := HD.out.below hbr.out j _ hd
          obtain ⟨rfl, rfl, rfl, t2, ht4', htx⟩ := HDN.out _ (List.mem_of_getElem? hd)
          have hps := HP.out _ (List.mem_of_getElem? hd)
          dsimp only at y0 y1 y2 y3 y4 y5 y6 htx hps
          subst htx
          rw [Int.toNat_natCast] at hps
          have hdr : l.drop j = ⟨1, 1, t2, bg2, en2, 1, A2, nd2, cd2⟩ :: l.drop (j + 1) := by
            obtain ⟨hlt2, e⟩ := List.getElem?_eq_some_iff.1 hd
            rw [← e]; exact List.drop_eq_getElem_cons hlt2
          have HE2 : Hid (orderIn pos ⟨1, 1, t, bg, en, 1, A, nd, cd⟩ l = if decide (en < bg2) = true then (if decide (pos t2 ≤ pos t) = true then false else orderIn pos ⟨1, 1, t, bg, en, 1, A, nd, cd⟩ (l.drop (j + 1))) else orderIn pos ⟨1, 1, t, bg, en, 1, A, nd, cd⟩ (l.drop (j + 1))) := by unfold Hid; rw [hmm.out, hdr, orderIn]; rfl
          have hal := (Below.refl wr.heap.size wr).alloc (Nat.le_refl _) (.cells #[.int .i64 1, .int .i64 1, .int .i64 t2, .int .i64 bg2, .int .i64 en2, .int .i64 1, .slice A2 nd2 cd2] 33)
          have hq := heap_alloc_new wr (.cells #[.int .i64 1, .int .i64 1, .int .i64 t2, .int .i64 bg2, .int .i64 en2, .int .i64 1, .slice A2 nd2 cd2] 33)
          have hF2 := (hal.block F (Array.getElem?_eq_some_iff.1 hF.out).1).trans hF.out
          have hQ2 := (hal.block q (Array.getElem?_eq_some_iff.1 hQ.out).1).trans hQ.out
          have HB2 := Lib.hid (hbr.out.trans (hal.mono hbr.out.size))
          clear hd hdr hal hmm hF hQ hbr
          go_upto_region 10 with fail
          generalize wr.alloc (.cells #[.int .i64 1, .int .i64 1, .int .i64 t2, .int .i64 bg2, .int .i64 en2, .int .i64 1, .slice A2 nd2 cd2] 33) = W1 at *
          generalize wr.heap.size = q2 at *
          clear y0 y1 y2 y3 y4 y5 y6
          obtain ⟨x0, x1, x2, x3, x4, x5, x6, -⟩ := row7' hq
          go_wp2_with fail
          refine (named_c 1 1 t2 bg2 en2 1 A2 nd2 cd2 W1).mono ?_; rintro e w3 ⟨rfl, hb3⟩
          have hq3 := (hb3.block q2 (Array.getElem?_eq_some_iff.1 hq).1).trans hq
          have hF3 := (hb3.block F (Array.getElem?_eq_some_iff.1 hF2).1).trans hF2
          have hQ3 := (hb3.block q (Array.getElem?_eq_some_iff.1 hQ2).1).trans hQ2
          have HB3 := Lib.hid (HB2.out.trans (hb3.mono HB2.out.size))
          have HF3 := Lib.hid hF3
          have HQ3 := Lib.hid hQ3
          clear x0 x1 x2 x3 x4 x5 x6 hb3 hq hF2 hQ2
          obtain ⟨x0, x1, x2, x3, x4, x5, x6, -⟩ := row7' hq3
          obtain ⟨v0, v1, v2, v3, v4, v5, v6, -⟩ := row7' hQ3
          have HL3 : (Instr.lookup 47 (.map (some F)) (.agg #[.int .i64 1, .int .i64 1, .int .i64 t2]) true).run Try.prog w3 = .ok (.tuple #[.int .i64 (pos t2 : Int), .bool true]) w3 := names_hit (v := fun i => (i : Int)) hF3 HT.out.2.1 hps (fun j hj => by rw [nodup_pos HT.out.2.2.1 hj hps]) true
          clear hq3 hF3 hQ3 hps
          cases h1 : decide (en < bg2) with
          | false =>
            have HE3 : Hid (orderIn pos ⟨1, 1, t, bg, en, 1, A, nd, cd⟩ l = orderIn pos ⟨1, 1, t, bg, en, 1, A, nd, cd⟩ (l.drop (j + 1))) := by unfold Hid; rw [HE2.out, h1]; rfl
            go_wp2_with fail
            go_roundw
            case rel => exact ⟨j + 1, by omega, by simp, HE3, HF3, HQ3, HB3⟩
            case measure => simp [intOf]; omega
          | true =>
            have hge : decide ((pos t2 : Int) ≤ (pos t : Int)) = decide (pos t2 ≤ pos t) := by simp
            cases h2 : decide (pos t2 ≤ pos t) with
            | true =>
              have HE3 : Hid (orderM pos l l = false) := by unfold Hid; rw [HE.out, HE2.out, h1, h2]; rfl
              have h2p : pos t2 ≤ pos t := of_decide_eq_true h2
              rw [h2] at hge
              clear h2
              go_wp2_with fail
              try rw [Exit.noGoto_ret]
              go_ret
              exact ⟨ret_bool (by rw [HE3.out]), HB3.out⟩
            | false =>
              have HE3 : Hid (orderIn pos ⟨1, 1, t, bg, en, 1, A, nd, cd⟩ l = orderIn pos ⟨1, 1, t, bg, en, 1, A, nd, cd⟩ (l.drop (j + 1))) := by unfold Hid; rw [HE2.out, h1, h2]; rfl
              have h2p : ¬ pos t2 ≤ pos t := of_decide_eq_false h2
              rw [h2] at hge
              clear h2
              go_wp2_with fail
              go_roundw
              case rel => exact ⟨j + 1, by omega, by simp, HE3, HF3, HQ3, HB3⟩
              case measure => simp [intOf]; omega
        · have he : j = n := by omega
          subst he
          have HE2 : Hid (orderM pos l l = orderM pos l (l.drop (k + 1))) := by unfold Hid; rw [HE.out, hmm.out, ← hn, List.drop_length]; rfl
          clear hmm hQ
          go_wp2_with fail
          go_roundw
          case rel => exact ⟨k + 1, by omega, by simp, HE2, hF, hbr⟩
          case measure => simp [intOf]; omega
    · have he : k = n := by omega
      subst he
      have HE : Hid (orderM pos l l = true) := by unfold Hid; rw [hmm.out, ← hn, List.drop_length]; rfl
      clear hmm hF
      go_wp2_with fail
      try rw [Exit.noGoto_ret]
      go_ret
      exact ⟨ret_bool (by rw [HE.out]), hbr.out⟩

set_option maxHeartbeats 4000000 in
theorem order_nil (w : World) :
    Calls Try.prog 7 #[.slice none 0 0, .slice none 0 0] w fun e w' => e = .returned (.bool true) ∧ Below w.heap.size w w' := by
  go_enter Try.func7, Try.ntmps7
  go_wp2_with fail
  go_step3
  go_wp2_with fail
  refine (places_nil w).mono ?_; rintro e w1 ⟨F, M, rfl, hb1⟩
  have HB1 := Lib.hid hb1
  clear hb1
  go_wp2_with fail
  go_step3
  go_wp2_with fail
  go_loopw [22] (fun i wr => i = .int .i64 0 ∧ Hid (Below w.heap.size w wr)) (fun i _ => 0)
  case atStart => exact ⟨rfl, HB1⟩
  case round =>
    clear HB1
    obtain ⟨rfl, hbr⟩ := hrel
    go_wp2_with fail
    try rw [Exit.noGoto_ret]
    go_ret
    exact ⟨rfl, hbr.out⟩

end Go.Proofs.Yticnofemjnpjoaa
