import Derived.Test.YtbhjdapkhcgmlaaMrD
import Derived.Test.YtbhjdapkhcgmlaaMrE
import Derived.Test.YtbhjdapkhcgmlaaMrF
import Derived.Test.YtbhjdapkhcgmlaaMrG
import Derived.Test.YtbhjdapkhcgmlaaMsgY
import Derived.Test.YtbhjdapkhcgmlaaMsgL
import Derived.Handy

set_option linter.unusedSimpArgs false
set_option linter.unusedVariables false
set_option linter.unnecessarySimpa false

namespace Go.Proofs.Ytbhjdapkhcgmlaa
open Go.RowKit

attribute [local go_sem] run_store_complex

/-! The reference's Right of a message that was read; its Nums of eight numbers and of two. -/

set_option maxRecDepth 100000 in
set_option maxHeartbeats 8000000 in
theorem rright_big (k pg ob tx cp ow : Int) (wr : Bool) (A : Option Addr) (n c : Nat) (a0 b0 a1 b1 a2 b2 a3 b3 : Nat) (w : World) (hk : 8 < k) :
    Calls Try.prog 52 #[.agg #[.int .i64 k, .int .i64 pg, .int .i64 ob, .int .i64 tx, .int .i64 cp, .int .i64 ow, .bool wr, .slice A n c, .complex .f64 a0 b0, .complex .f64 a1 b1, .complex .f64 a2 b2, .complex .f64 a3 b3]] w fun e w' => e = .returned (.bool false) ∧ Below w.heap.size w w' := by
  have hb := (Below.refl w.heap.size w).alloc (Nat.le_refl _) (.cells #[.int .i64 k, .int .i64 pg, .int .i64 ob, .int .i64 tx, .int .i64 cp, .int .i64 ow, .bool wr, .slice A n c, .complex .f64 a0 b0, .complex .f64 a1 b1, .complex .f64 a2 b2, .complex .f64 a3 b3] 30)
  have hk0 : ¬ k < 0 := by omega
  go_enter Try.func52, Try.ntmps52
  go_wp2_with fail
  go_ret
  exact ⟨rfl, hb⟩

theorem rright_c (k pg ob tx cp ow : Int) (wr : Bool) (A : Option Addr) (n c : Nat) (a0 b0 a1 b1 a2 b2 a3 b3 : Nat) (ps : List PutV) (w : World)
    (hk : 0 ≤ k) (hpg : 0 ≤ pg) (hob : 0 ≤ ob) (htx : 0 ≤ tx) (htx2 : tx ≤ 16777215) (hcp : 0 ≤ cp) (how : 0 ≤ ow) (h : PutsAt w A c ps) (hn : ps.length = n) (hl : n ≤ 1000) (hr : Small ps)
    (hv : k ≠ 5 → a0 = 0 ∧ b0 = 0 ∧ a1 = 0 ∧ b1 = 0 ∧ a2 = 0 ∧ b2 = 0 ∧ a3 = 0 ∧ b3 = 0) :
    From w 52 #[.agg #[.int .i64 k, .int .i64 pg, .int .i64 ob, .int .i64 tx, .int .i64 cp, .int .i64 ow, .bool wr, .slice A n c, .complex .f64 a0 b0, .complex .f64 a1 b1, .complex .f64 a2 b2, .complex .f64 a3 b3]] (.bool (rightM k pg ob tx cp ow wr ps)) := by
  have h3 := rputs_at h hn hl hr
  by_cases k8 : k ≤ 8
  · obtain rfl | rfl | rfl | rfl | rfl | rfl | rfl | rfl | rfl : k = 0 ∨ k = 1 ∨ k = 2 ∨ k = 3 ∨ k = 4 ∨ k = 5 ∨ k = 6 ∨ k = 7 ∨ k = 8 := by omega
    · obtain ⟨rfl, rfl, rfl, rfl, rfl, rfl, rfl, rfl⟩ := hv (by decide)
      exact rrightA 0 pg ob tx cp ow wr A n c ps w hk (by decide) (by decide) hpg hob htx htx2 hcp how hn rfl rfl rfl rfl (by decide) (fun W => has0_c W) h3
    · obtain ⟨rfl, rfl, rfl, rfl, rfl, rfl, rfl, rfl⟩ := hv (by decide)
      exact rrightA 1 pg ob tx cp ow wr A n c ps w hk (by decide) (by decide) hpg hob htx htx2 hcp how hn rfl rfl rfl rfl (by decide) (fun W => has1_c W) h3
    · obtain ⟨rfl, rfl, rfl, rfl, rfl, rfl, rfl, rfl⟩ := hv (by decide)
      exact rrightB 2 pg ob tx cp ow wr A n c ps w hk (by decide) (by decide) hpg hob htx htx2 hcp how hn rfl rfl rfl rfl rfl (fun W => has2_c W) h3
    · obtain ⟨rfl, rfl, rfl, rfl, rfl, rfl, rfl, rfl⟩ := hv (by decide)
      exact rrightC 3 pg ob tx cp ow wr A n c ps w hk (by decide) (by decide) hpg hob htx htx2 hcp how hn rfl rfl rfl rfl (by decide) (fun W => has3_c W) h3
    · obtain ⟨rfl, rfl, rfl, rfl, rfl, rfl, rfl, rfl⟩ := hv (by decide)
      exact rrightD 4 pg ob tx cp ow wr A n c ps w hk (by decide) (by decide) hpg hob htx htx2 hcp how hn rfl rfl rfl rfl (by decide) (fun W => has4_c W) h3
    · skip
      exact rrightE 5 pg ob tx cp ow wr A n c a0 b0 a1 b1 a2 b2 a3 b3 ps w hk (by decide) (by decide) hpg hob htx htx2 hcp how hn rfl rfl rfl rfl (by decide) (fun W => has5_c W) h3
    · obtain ⟨rfl, rfl, rfl, rfl, rfl, rfl, rfl, rfl⟩ := hv (by decide)
      exact rrightD 6 pg ob tx cp ow wr A n c ps w hk (by decide) (by decide) hpg hob htx htx2 hcp how hn rfl rfl rfl rfl (by decide) (fun W => has6_c W) h3
    · obtain ⟨rfl, rfl, rfl, rfl, rfl, rfl, rfl, rfl⟩ := hv (by decide)
      exact rrightF 7 pg ob tx cp ow wr A n c ps w hk (by decide) (by decide) hpg hob htx htx2 hcp how hn rfl rfl rfl rfl (by decide) (fun W => has7_c W) h3
    · obtain ⟨rfl, rfl, rfl, rfl, rfl, rfl, rfl, rfl⟩ := hv (by decide)
      exact rrightG pg ob tx cp ow wr A n c ps w hpg hob htx htx2 hcp how hn rfl rfl rfl rfl (fun W => has8_c W) h3
  · have e : numsIn k pg ob cp ow = false := by unfold numsIn; simp [k8]
    have e2 : rightM k pg ob tx cp ow wr ps = false := by unfold rightM; rw [e]; rfl
    rw [e2]
    intro W hW
    exact rright_big k pg ob tx cp ow wr A n c a0 b0 a1 b1 a2 b2 a3 b3 W (by omega)

theorem rnums8 (B : Nat) (n0 n1 n2 n3 n4 n5 n6 n7 : Int) (hok : okN [n0, n1, n2, n3, n4, n5, n6, n7] = true) (w : World) (hB : w.heap.size = B) :
    Calls Try.prog 32 #[.slice (some ⟨B, 0, none⟩) 8 8] (w.alloc (.cells #[.int .i64 n0, .int .i64 n1, .int .i64 n2, .int .i64 n3, .int .i64 n4, .int .i64 n5, .int .i64 n6, .int .i64 n7] 3)).drew fun e w' => ∃ A' c', e = .returned (.tuple #[.slice A' 24 c', .int .i64 0]) ∧ Ow 5 g8 w' w.heap.size A' (numsB [n0, n1, n2, n3, n4, n5, n6, n7]) c' ∧ Below w.heap.size w w' := by
  subst hB
  have hb := ((Below.refl w.heap.size w).alloc (Nat.le_refl _) (.cells #[.int .i64 n0, .int .i64 n1, .int .i64 n2, .int .i64 n3, .int .i64 n4, .int .i64 n5, .int .i64 n6, .int .i64 n7] 3)).drew
  have hN := refNums_c (some ⟨w.heap.size, 0, none⟩) [n0, n1, n2, n3, n4, n5, n6, n7] 8 _ ((Rd.row_of (g := g64) (E := 3) w [n0, n1, n2, n3, n4, n5, n6, n7] (cs := #[.int .i64 n0, .int .i64 n1, .int .i64 n2, .int .i64 n3, .int .i64 n4, .int .i64 n5, .int .i64 n6, .int .i64 n7]) rfl).below (Below.refl _ _).drew) (by simp)
  obtain ⟨e1, e2⟩ := numsR_yes hok
  rw [e1, e2] at hN
  have e3 : (numsB [n0, n1, n2, n3, n4, n5, n6, n7]).length = 24 := by rw [numsB_length]; rfl
  rw [e3] at hN
  refine hN.mono ?_
  rintro e w' ⟨A', c', rfl, h1, h2⟩
  exact ⟨A', c', rfl, h1.low hb.size, hb.trans (h2.mono hb.size)⟩

theorem rnums2 (B : Nat) (n0 n1 : Int) (hok : okN [n0, n1] = true) (w : World) (hB : w.heap.size = B) :
    Calls Try.prog 32 #[.slice (some ⟨B, 0, none⟩) 2 2] (w.alloc (.cells #[.int .i64 n0, .int .i64 n1] 3)) fun e w' => ∃ A' c', e = .returned (.tuple #[.slice A' 6 c', .int .i64 0]) ∧ Ow 5 g8 w' w.heap.size A' (numsB [n0, n1]) c' ∧ Below w.heap.size w w' := by
  subst hB
  have hb := ((Below.refl w.heap.size w).alloc (Nat.le_refl _) (.cells #[.int .i64 n0, .int .i64 n1] 3))
  have hN := refNums_c (some ⟨w.heap.size, 0, none⟩) [n0, n1] 2 _ (Rd.row_of (g := g64) (E := 3) w [n0, n1] (cs := #[.int .i64 n0, .int .i64 n1]) rfl) (by simp)
  obtain ⟨e1, e2⟩ := numsR_yes hok
  rw [e1, e2] at hN
  have e3 : (numsB [n0, n1]).length = 6 := by rw [numsB_length]; rfl
  rw [e3] at hN
  refine hN.mono ?_
  rintro e w' ⟨A', c', rfl, h1, h2⟩
  exact ⟨A', c', rfl, h1.low hb.size, hb.trans (h2.mono hb.size)⟩

end Go.Proofs.Ytbhjdapkhcgmlaa
