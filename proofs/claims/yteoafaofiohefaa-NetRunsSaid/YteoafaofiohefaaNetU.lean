import Derived.Test.YteoafaofiohefaaNetT
namespace Go.Proofs.Yteoafaofiohefaa
open Go.RowKit

/-! net.Spoil: bits of a frame are turned. -/

theorem burst_n (A : Option Addr) (l : List UInt8) (n c : Nat) (at_ : Int) (m : Nat) (w : World) (h : Rd g8 w A l) (hn : A = none → c = 0) (hlen : l.length ≤ 140737488355328) (hm : m < 65536) (ha1 : -9223372036854775808 ≤ at_) (ha2 : at_ ≤ 9223372036854775807) (he : l.length = n) :
    Calls Try.prog 28 #[.slice A n c, .int .i64 at_, .int .u16 m] w fun e w' => ∃ A' c', e = .returned (.slice A' n c') ∧ Ow 5 g8 w' w.heap.size A' (burstN l at_ m) c' ∧ Below w.heap.size w w' := by
  subst he; exact burst_c A l c at_ m w h hn hlen hm ha1 ha2

set_option maxRecDepth 100000 in
set_option maxHeartbeats 8000000 in
theorem Spoil_of (w : World) (B nb : Nat) (V : Nat → Value) (I : Nat → List It) (k : Nat) (h : NetAt w B nb V I) (hk : k < 8) (i : Nat) (x : It) (hx : (I k)[i]? = some x) (hs : x.s = false) (at_ : Int) (mm : Nat) (hm : mm < 65536) (ha1 : -9223372036854775808 ≤ at_) (ha2 : at_ ≤ 9223372036854775807) :
    Calls Try.prog 20 #[.pointer (some ⟨nb, 0, none⟩), .int .i64 k, .int .i64 i, .int .i64 at_, .int .u16 mm] w fun e w' =>
      (burstN x.l at_ mm = x.l ∧ e = .returned (.bool false) ∧ Below w.heap.size w w') ∨
      (burstN x.l at_ mm ≠ x.l ∧ e = .returned (.bool true) ∧ ∃ y, y.l = burstN x.l at_ mm ∧ y.s = true ∧ NetAt w' B nb V (upd I k ((I k).set i y)) ∧ Upto (Turn nb (V k)) w w') := by
  have hi := (List.getElem?_eq_some_iff.1 hx).1
  obtain ⟨g, c, cur, hv, hB, hr, hsz, hc, hmx, ht⟩ := h.form hk (by omega)
  obtain ⟨m, hm1⟩ : ∃ m, (I k).length = m + 1 := ⟨(I k).length - 1, by omega⟩
  have hcell := h.cell k hk
  have hmem : x ∈ I k := List.mem_of_getElem? hx
  have hfr := h.frame k hk x hmem
  have hshort := h.short k hk x hmem
  have hgown := h.own hk (b := g) (by rw [hv]; rfl)
  have HSET : Hid (∀ (w2 : World) (y : It), Below w.heap.size w w2 → Ow 5 g8 w2 w.heap.size y.A y.l y.c → y.l.length ≤ 140737488355328 →
      NetAt ((w2.setCell ⟨g, i * 2, none⟩ (.slice y.A y.l.length y.c)).setCell ⟨g, i * 2 + 1, none⟩ (.bool y.s)) B nb V (upd I k ((I k).set i y)) ∧ Upto (Turn nb (V k)) w ((w2.setCell ⟨g, i * 2, none⟩ (.slice y.A y.l.length y.c)).setCell ⟨g, i * 2 + 1, none⟩ (.bool y.s))) := fun w2 y hb hy hys => h.set hk hv hb i hi y hy hys
  rw [hv, hm1] at hcell
  have hitem := fun (w' : World) (hb : Below w.heap.size w w') => NetAt.item ((hb.block g hgown.1).trans hr) ht hx
  rw [hs] at hitem
  have HKC : Hid (∀ w', Below w.heap.size w w' → w'.cell? ⟨g, i * 2, none⟩ = some (.slice x.A x.l.length x.c) ∧ w'.cell? ⟨g, i * 2 + 1, none⟩ = some (.bool false) ∧ (∀ j, w'.frozen? ⟨g, j, none⟩ = false) ∧ w'.cell? ⟨nb, k, none⟩ = some (.slice (some ⟨g, 0, none⟩) (m + 1) c)) := fun w' hb => ⟨(hitem w' hb).1, (hitem w' hb).2, fun j => row_thawed ((hb.block g hgown.1).trans hr) j, (hb.cell (p := ⟨nb, k, none⟩) h.lt).trans hcell⟩
  have hat := at_yes nb k (m + 1) c (some ⟨g, 0, none⟩) i hk w hcell
  rw [decide_eq_true (by omega)] at hat
  have HAT := Lib.hid hat
  have HFR := Lib.hid hfr
  have HSH := Lib.hid hshort
  have hi0 : i < m + 1 := by omega
  have HA1 := Lib.hid ha1
  have HA2 := Lib.hid ha2
  have HMM := Lib.hid hm
  clear hat hv hr hsz hc hmx ht hx h hB hi hm1 hs hmem hfr hshort hgown hitem hcell ha1 ha2 hm
  obtain ⟨n, hn⟩ : ∃ n, n = x.l.length := ⟨_, rfl⟩
  have HN := Lib.hid hn
  rw [← hn] at HKC
  clear hn
  go_enter Try.func20, Try.ntmps20
  go_wp2_with fail
  (with_reducible refine HAT.out.mono ?_); rintro e w1 ⟨rfl, q, rfl⟩
  have hb1 := drewN_below w q
  obtain ⟨f0, f1, f2, f3⟩ := HKC.out _ hb1
  have HB1 := Lib.hid hb1
  clear hb1
  generalize w.drewN q = w1 at *
  go_wp2_with fail
  (with_reducible refine (burst_n x.A x.l n x.c at_ mm w1 (HFR.out.below HB1.out).rd HFR.out.nil_cap HSH.out HMM.out HA1.out HA2.out HN.out.symm).mono ?_); rintro e w2 ⟨A2, c2, rfl, ho2, hb2⟩
  have hbb := HB1.out.trans (hb2.mono HB1.out.size)
  have HO2 := Lib.hid (ho2.low (B' := w.heap.size) HB1.out.size)
  have HB2 := Lib.hid hbb
  clear f0 f1 f2 f3 ho2 hb2
  obtain ⟨f0, f1, f2, f3⟩ := HKC.out _ hbb
  clear hbb
  go_wp2_with fail
  (with_reducible refine (bequal_c A2 x.A (burstN x.l at_ mm) x.l n n c2 x.c w2 HO2.out.rd (HFR.out.below HB2.out).rd (by rw [burstN_length]; exact HN.out.symm) HN.out.symm).mono ?_); rintro e w3 ⟨rfl, rfl⟩
  by_cases hq : burstN x.l at_ mm = x.l
  · have HQ := Lib.hid hq
    rw [decide_eq_true hq]
    clear hq
    go_wp2_with fail
    go_ret
    exact .inl ⟨HQ.out, rfl, HB2.out⟩
  · have HQ := Lib.hid hq
    rw [decide_eq_false hq]
    have hfin := HSET.out w2 ⟨A2, c2, burstN x.l at_ mm, true⟩ HB2.out HO2.out (by rw [burstN_length]; exact HSH.out)
    rw [show (burstN x.l at_ mm).length = n from by rw [burstN_length]; exact HN.out.symm] at hfin
    have HF := Lib.hid hfin
    clear hq hfin HSET
    have f2' := f2
    go_wp2_with fail
    go_ret
    exact .inr ⟨HQ.out, rfl, _, rfl, rfl, HF.out⟩

end Go.Proofs.Yteoafaofiohefaa
