import Derived.Test.YticnofemjnpjoaaPtO

set_option linter.unusedSimpArgs false
set_option linter.unusedVariables false
set_option linter.unnecessarySimpa false

namespace Go.Proofs.Yticnofemjnpjoaa
open Go.RowKit

/-! past.Told. -/

set_option maxHeartbeats 4000000 in
theorem places_nil (w : World) :
    Calls Try.prog 16 #[.slice none 0 0] w fun e w' => ∃ F M, e = .returned (.tuple #[.map (some F), .map (some M)]) ∧ Below w.heap.size w w' := by
  have hmm := @run_makeMap Try.prog
  have hb := below2 w (.map #[] 0) (.map #[] 0)
  go_enter Try.func16, Try.ntmps16
  go_wp2_with fail
  generalize (w.alloc (.map #[] 0)).alloc (.map #[] 0) = W0 at *
  go_loopw [13] (fun i wr => i = .int .i64 0 ∧ Hid (Below w.heap.size w wr)) (fun i _ => 0)
  case atStart => exact ⟨rfl, hb⟩
  case round =>
    obtain ⟨rfl, hbr⟩ := hrel
    clear hb
    go_wp2_with fail
    go_ret2
    exact ⟨_, _, rfl, hbr.out⟩

/-- Deals that are done, of client 1 in epoch 1. -/
def Done (l : List DealV) : Prop := ∀ d ∈ l, d.cl = 1 ∧ d.ep = 1 ∧ d.st = 1 ∧ ∃ t : Nat, t < 4 ∧ d.tx = t

def toldM (txs : List Nat) : List DealV → Bool
  | [] => true
  | d :: r => if d.tx.toNat ∈ txs then toldM txs r else false

set_option maxHeartbeats 4000000 in
theorem told_c (b b2 : Nat) (l : List DealV) (log : List BatV) (txs : List Nat) (n c m c2 : Nat) (hn : l.length = n) (hl : n ≤ 1000) (hm : log.length = m) (hl2 : m ≤ 1000) (ht : Txs log txs) (hdn : Done l) (w : World) (h : RdD w b l) (h2 : RdB w b2 log) :
    Calls Try.prog 6 #[.slice (some ⟨b, 0, none⟩) n c, .slice (some ⟨b2, 0, none⟩) m c2] w fun e w' => e = .returned (.bool (toldM txs l)) ∧ Below w.heap.size w w' := by
  have HD := Lib.hid h
  have HDN := Lib.hid hdn
  have HT := Lib.hid ht
  have HL := Lib.hid h2
  clear h h2 hdn ht
  go_enter Try.func6, Try.ntmps6
  go_wp2_with fail
  refine (places_c b2 log txs m c2 hm hl2 HT.out w HL.out).mono ?_; rintro e w1 ⟨F, M, rfl, -, hM, hF1, hM1, hb1⟩
  have HM1 := Lib.hid hM
  have HB1 := Lib.hid hb1
  clear hM hF1 hM1 hb1
  go_wp2_with fail
  go_loopw [17] (fun i wr => ∃ k : Nat, k ≤ n ∧ i = .int .i64 k ∧ Hid (toldM txs l = toldM txs (l.drop k)) ∧ Hid (wr.heap[M]? = some (.map (ents (fun _ => 1) txs) m)) ∧ Hid (Below w.heap.size w wr)) (fun i _ => n - (intOf i).toNat)
  case atStart => exact ⟨0, Nat.zero_le _, rfl, rfl, HM1, HB1⟩
  case round =>
    clear HM1 HB1
    obtain ⟨k, hk, rfl, hmm, hM, hbr⟩ := hrel
    by_cases hlt : k < n
    · obtain ⟨⟨cl, ep, tx, bg, en, st, A, nd, cd⟩, hd⟩ := get_some l k (by omega)
      obtain ⟨y0, y1, y2, y3, y4, y5, y6⟩ := HD.out.below hbr.out k _ hd
      obtain ⟨rfl, rfl, rfl, t, ht4, htx⟩ := HDN.out _ (List.mem_of_getElem? hd)
      dsimp only at y0 y1 y2 y3 y4 y5 y6 htx
      subst htx
      have hdr : l.drop k = ⟨1, 1, t, bg, en, 1, A, nd, cd⟩ :: l.drop (k + 1) := by
        obtain ⟨hlt2, e⟩ := List.getElem?_eq_some_iff.1 hd
        rw [← e]; exact List.drop_eq_getElem_cons hlt2
      have HE : Hid (toldM txs l = if t ∈ txs then toldM txs (l.drop (k + 1)) else false) := by unfold Hid; rw [hmm.out, hdr, toldM]; rfl
      have hal := (Below.refl wr.heap.size wr).alloc (Nat.le_refl _) (.cells #[.int .i64 1, .int .i64 1, .int .i64 t, .int .i64 bg, .int .i64 en, .int .i64 1, .slice A nd cd] 33)
      have hq := heap_alloc_new wr (.cells #[.int .i64 1, .int .i64 1, .int .i64 t, .int .i64 bg, .int .i64 en, .int .i64 1, .slice A nd cd] 33)
      have hM2 := (hal.block M (Array.getElem?_eq_some_iff.1 hM.out).1).trans hM.out
      have HB2 := Lib.hid (hbr.out.trans (hal.mono hbr.out.size))
      clear hd hdr hal hmm hM hbr
      go_upto_region 5 with fail
      generalize wr.alloc (.cells #[.int .i64 1, .int .i64 1, .int .i64 t, .int .i64 bg, .int .i64 en, .int .i64 1, .slice A nd cd] 33) = W1 at *
      generalize wr.heap.size = q at *
      clear y0 y1 y2 y3 y4 y5 y6
      obtain ⟨x0, x1, x2, x3, x4, x5, x6, -⟩ := row7' hq
      go_wp2_with fail
      refine (named_c 1 1 t bg en 1 A nd cd W1).mono ?_; rintro e w3 ⟨rfl, hb3⟩
      have hq3 := (hb3.block q (Array.getElem?_eq_some_iff.1 hq).1).trans hq
      have hM3 := (hb3.block M (Array.getElem?_eq_some_iff.1 hM2).1).trans hM2
      have HB3 := Lib.hid (HB2.out.trans (hb3.mono HB2.out.size))
      have HM3 := Lib.hid hM3
      clear x0 x1 x2 x3 x4 x5 x6 hb3 hq hM2
      obtain ⟨x0, x1, x2, x3, x4, x5, x6, -⟩ := row7' hq3
      clear hq3
      by_cases hin : t ∈ txs
      · obtain ⟨i, hi⟩ := List.getElem?_of_mem hin
        have HL3 : (Instr.lookup 47 (.map (some M)) (.agg #[.int .i64 1, .int .i64 1, .int .i64 t]) false).run Try.prog w3 = .ok (.int .i64 1) w3 := names_hit hM3 HT.out.2.1 hi (fun _ _ => rfl) false
        have HE2 : Hid (toldM txs l = toldM txs (l.drop (k + 1))) := by unfold Hid; rw [HE.out, if_pos hin]
        clear hin hi hM3
        go_wp2_with fail
        go_roundw
        case rel => exact ⟨k + 1, by omega, by simp, HE2, HM3, HB3⟩
        case measure => simp [intOf]; omega
      · have HL3 : (Instr.lookup 47 (.map (some M)) (.agg #[.int .i64 1, .int .i64 1, .int .i64 t]) false).run Try.prog w3 = .ok (.int .i64 0) w3 := names_miss hM3 HT.out.2.1 ht4 hin false
        have HE2 : Hid (toldM txs l = false) := by unfold Hid; rw [HE.out, if_neg hin]
        clear hin hM3
        go_wp2_with fail
        go_ret
        exact ⟨ret_bool (by rw [HE2.out]), HB3.out⟩
    · have he : k = n := by omega
      subst he
      have HE : Hid (toldM txs l = true) := by unfold Hid; rw [hmm.out, ← hn, List.drop_length]; rfl
      clear hmm hM
      go_wp2_with fail
      go_ret
      exact ⟨ret_bool (by rw [HE.out]), hbr.out⟩

set_option maxHeartbeats 4000000 in
theorem told_nil (w : World) :
    Calls Try.prog 6 #[.slice none 0 0, .slice none 0 0] w fun e w' => e = .returned (.bool true) ∧ Below w.heap.size w w' := by
  go_enter Try.func6, Try.ntmps6
  go_wp2_with fail
  refine (places_nil w).mono ?_; rintro e w1 ⟨F, M, rfl, hb1⟩
  have HB1 := Lib.hid hb1
  clear hb1
  go_wp2_with fail
  go_loopw [17] (fun i wr => i = .int .i64 0 ∧ Hid (Below w.heap.size w wr)) (fun i _ => 0)
  case atStart => exact ⟨rfl, HB1⟩
  case round =>
    clear HB1
    obtain ⟨rfl, hbr⟩ := hrel
    go_wp2_with fail
    go_ret
    exact ⟨rfl, hbr.out⟩

end Go.Proofs.Yticnofemjnpjoaa
