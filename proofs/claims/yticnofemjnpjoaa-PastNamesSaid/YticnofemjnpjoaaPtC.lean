import Derived.Test.YticnofemjnpjoaaPtB

set_option linter.unusedSimpArgs false
set_option linter.unusedVariables false
set_option linter.unnecessarySimpa false

namespace Go.Proofs.Yticnofemjnpjoaa
open Go.RowKit

/-! past.Find. -/

/-- Where a batch's deal stands. -/
def findFrom (cl ep tx : Int) : Nat → List DealV → Int
  | _, [] => -1
  | i, d :: r => if ofB d cl ep tx = true then (i : Int) else findFrom cl ep tx (i + 1) r

set_option maxHeartbeats 4000000 in
theorem indexfunc_c (b q : Nat) (l : List DealV) (n c : Nat) (ls bcl bep btx : Int) (pv : Value) (hn : l.length = n) (hl : n ≤ 1000) (w : World) (h : RdD w b l) (hq : w.heap[q]? = some (.cells #[.int .i64 ls, .int .i64 bcl, .int .i64 bep, .int .i64 btx, pv] 27 (0, 0))) :
    Calls Try.prog 18 #[.slice (some ⟨b, 0, none⟩) n c, .func (.func 19) #[] #[.pointer (some ⟨q, 0, none⟩)]] w fun e w' => e = .returned (.int .i64 (findFrom bcl bep btx 0 l)) ∧ Below w.heap.size w w' := by
  go_enter Try.func18, Try.ntmps18
  go_wp2_with fail
  go_loopw [8] (fun i wr => ∃ k : Nat, k ≤ n ∧ i = .int .i64 k ∧ Hid (findFrom bcl bep btx 0 l = findFrom bcl bep btx k (l.drop k)) ∧ Hid (Below w.heap.size w wr)) (fun i _ => n - (intOf i).toNat)
  case atStart => exact ⟨0, Nat.zero_le _, rfl, rfl, Below.refl _ _⟩
  case round =>
    obtain ⟨k, hk, rfl, hf, hb⟩ := hrel
    by_cases hlt : k < n
    · obtain ⟨d, hd⟩ := get_some l k (by omega)
      obtain ⟨y0, y1, y2, y3, y4, y5, y6⟩ := h.below hb.out k d hd
      have hq1 := (hb.out.block q (Array.getElem?_eq_some_iff.1 hq).1).trans hq
      have HF := Lib.hid (find1_c d.cl d.ep d.tx d.bg d.en d.st d.A d.n d.c ls bcl bep btx pv q wr hq1)
      have hdr : l.drop k = d :: l.drop (k + 1) := by
        obtain ⟨hlt2, e⟩ := List.getElem?_eq_some_iff.1 hd
        rw [← e]; exact List.drop_eq_getElem_cons hlt2
      have HDR := Lib.hid hdr
      clear h hq hq1 hd hdr
      have hof : (decide (d.cl = bcl) && (decide (d.ep = bep) && decide (d.tx = btx))) = ofB d bcl bep btx := rfl
      rw [hof] at HF
      cases ho : ofB d bcl bep btx with
      | true =>
        rw [ho] at HF
        have HE : Hid (findFrom bcl bep btx 0 l = (k : Int)) := by unfold Hid; rw [hf.out, HDR.out, findFrom, if_pos ho]
        clear ho hof
        go_wp2_with fail
        refine HF.out.mono ?_; rintro e w1 ⟨rfl, hb1⟩
        have HB1 := Lib.hid (hb.out.trans (hb1.mono hb.out.size))
        clear hb1
        go_wp2_with fail
        go_ret
        exact ⟨ret_int (by rw [HE.out]), HB1.out⟩
      | false =>
        rw [ho] at HF
        have HE : Hid (findFrom bcl bep btx 0 l = findFrom bcl bep btx (k + 1) (l.drop (k + 1))) := by unfold Hid; rw [hf.out, HDR.out, findFrom, if_neg (by rw [ho]; decide)]
        clear ho hof
        go_wp2_with fail
        refine HF.out.mono ?_; rintro e w1 ⟨rfl, hb1⟩
        have HB1 := Lib.hid (hb.out.trans (hb1.mono hb.out.size))
        clear hb1
        go_wp2_with fail
        go_roundw
        case rel => exact ⟨k + 1, by omega, by simp, HE, HB1⟩
        case measure => simp [intOf]; omega
    · have he : k = n := by omega
      subst he
      have HE : Hid (findFrom bcl bep btx 0 l = -1) := by unfold Hid; rw [hf.out, ← hn, List.drop_length]; rfl
      clear h hq hf
      go_wp2_with fail
      go_ret
      exact ⟨ret_int (by rw [HE.out]), hb.out⟩

end Go.Proofs.Yticnofemjnpjoaa
