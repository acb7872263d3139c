import Derived.Test.YtbhjdapkhcgmlaaMsgV
import Derived.Handy

set_option linter.unusedSimpArgs false
set_option linter.unusedVariables false
set_option linter.unnecessarySimpa false

namespace Go.Proofs.Ytbhjdapkhcgmlaa
open Go.RowKit

/-! msg.Right of a message that was read: as a plain law says. -/

/-- The puts of a slice. -/
def PutsAt (w : World) (A : Option Addr) (c : Nat) (ps : List PutV) : Prop := (A = none ∧ c = 0 ∧ ps = []) ∨ ∃ b, A = some ⟨b, 0, none⟩ ∧ ps ≠ [] ∧ RdP w b ps

theorem PutsAt.below {w w' : World} {A : Option Addr} {c : Nat} {ps : List PutV} (h : PutsAt w A c ps) (hb : Below w.heap.size w w') : PutsAt w' A c ps := by
  rcases h with h | ⟨b, e, h1, h2⟩
  · exact .inl h
  · exact .inr ⟨b, e, h1, h2.below hb⟩

theorem PutsAt.below' {K : Nat → Prop} {w w' : World} {A : Option Addr} {n c : Nat} {ps : List PutV} (h : PutsAt w A c ps) (u : Upto K w w') (hK : ∀ j, (Value.slice A n c).ownBlock = some j → ¬ K j) : PutsAt w' A c ps := by
  rcases h with h | ⟨b, e, h1, h2⟩
  · exact .inl h
  · subst e
    have hk := hK b rfl
    refine .inr ⟨b, rfl, h1, fun i p hp => ?_⟩
    obtain ⟨t0, t1, t2⟩ := h2 i p hp
    exact ⟨(u.cell (p := ⟨b, i * 3, none⟩) (World.block_lt_of_cell? w _ t0) hk).trans t0, (u.cell (p := ⟨b, i * 3 + 1, none⟩) (World.block_lt_of_cell? w _ t1) hk).trans t1, (u.cell (p := ⟨b, i * 3 + 2, none⟩) (World.block_lt_of_cell? w _ t2) hk).trans t2⟩

theorem puts_self {w : World} {A : Option Addr} {n c : Nat} {ps : List PutV} (h : PutsAt w A c ps) (hn : ps.length = n) (hl : n ≤ 1000) (hr : Small ps) :
    From w 76 #[.slice A n c, .slice A n c, .func (.func 77) #[] #[]] (.bool true) := by
  intro W hW
  rcases h.below hW with ⟨rfl, rfl, rfl⟩ | ⟨b, rfl, h1, h2⟩
  · subst hn
    refine (eqf_put _ W).mono ?_
    rintro e w' ⟨rfl, rfl⟩
    exact ⟨rfl, Below.refl _ _⟩
  · exact eqf_puts_same b ps n c c hn hl W h2 hr

theorem puts_nil {w : World} {A : Option Addr} {n c : Nat} {ps : List PutV} (h : PutsAt w A c ps) (hn : ps.length = n) :
    From w 76 #[.slice A n c, .slice none 0 0, .func (.func 77) #[] #[]] (.bool ps.isEmpty) := by
  intro W hW
  rcases h with ⟨rfl, rfl, rfl⟩ | ⟨b, rfl, h1, -⟩
  · subst hn
    refine (eqf_put _ W).mono ?_
    rintro e w' ⟨rfl, rfl⟩
    exact ⟨rfl, Below.refl _ _⟩
  · have h0 : ps.isEmpty = false := by cases ps; exact absurd rfl h1; rfl
    rw [h0]
    refine (eqf_puts_diff _ none n 0 c 0 (by cases ps; exact absurd rfl h1; simp at hn; omega) _ W).mono ?_
    rintro e w' ⟨rfl, rfl⟩
    exact ⟨rfl, Below.refl _ _⟩

theorem puts_right {w : World} {A : Option Addr} {n c : Nat} {ps : List PutV} (h : PutsAt w A c ps) (hn : ps.length = n) (hl : n ≤ 1000) (hr : Small ps) :
    From w 73 #[.slice A n c] (.bool (putsOk ps)) := by
  intro W hW
  rcases h.below hW with ⟨rfl, rfl, rfl⟩ | ⟨b, rfl, h1, h2⟩
  · subst hn
    refine (puts_c W).mono ?_
    rintro e w' ⟨rfl, rfl⟩
    exact ⟨rfl, Below.refl _ _⟩
  · exact wputs_c b ps n c hn hl W h2 hr

theorem sameV_refl (x : Nat × Nat) : sameV x x = true := by unfold sameV; simp
theorem same4_refl (x y z u : Nat × Nat) : same4 x y z u x y z u = true := by unfold same4; simp [sameV_refl]

/-! What a kind has. -/
def hasPlace (k : Int) : Bool := decide (k = 0) || (decide (k = 1) || (decide (k = 4) || decide (k = 6)))
def hasTxn (k : Int) : Bool := decide (k = 2) || (decide (k = 7) || decide (k = 8))
def hasMasks (k : Int) : Bool := decide (k = 3) || decide (k = 5)
def hasWrite (k : Int) : Bool := decide (k = 4) || decide (k = 6)
/-- It has what its kind has alone. -/
def fits (k pg ob tx cp ow : Int) (wr : Bool) (ps : List PutV) : Bool :=
  (hasPlace k || decide (ob = 0)) && ((hasPlace k || (hasMasks k || decide (pg = 0))) && ((hasTxn k || decide (tx = 0)) && ((hasMasks k || decide (ow = 0)) && ((hasMasks k || (decide (k = 8) || decide (cp = 0))) && ((hasWrite k || !wr) && (decide (k = 2) || ps.isEmpty))))))
def rightM (k pg ob tx cp ow : Int) (wr : Bool) (ps : List PutV) : Bool := numsIn k pg ob cp ow && (fits k pg ob tx cp ow wr ps && putsOk ps)

theorem mright_c (k pg ob tx cp ow : Int) (wr : Bool) (A : Option Addr) (n c : Nat) (a0 b0 a1 b1 a2 b2 a3 b3 : Nat) (ps : List PutV) (w : World)
    (hk : 0 ≤ k) (hpg : 0 ≤ pg) (hob : 0 ≤ ob) (htx : 0 ≤ tx) (htx2 : tx ≤ 16777215) (hcp : 0 ≤ cp) (how : 0 ≤ ow) (h : PutsAt w A c ps) (hn : ps.length = n) (hl : n ≤ 1000) (hr : Small ps)
    (hv : k ≠ 5 → a0 = 0 ∧ b0 = 0 ∧ a1 = 0 ∧ b1 = 0 ∧ a2 = 0 ∧ b2 = 0 ∧ a3 = 0 ∧ b3 = 0) :
    From w 16 #[.agg #[.int .i64 k, .int .i64 pg, .int .i64 ob, .int .i64 tx, .int .i64 cp, .int .i64 ow, .bool wr, .slice A n c, .complex .f64 a0 b0, .complex .f64 a1 b1, .complex .f64 a2 b2, .complex .f64 a3 b3]] (.bool (rightM k pg ob tx cp ow wr ps)) := by
  have h1 := puts_self h hn hl hr
  have h2 := puts_nil h hn
  have h3 := puts_right h hn hl hr
  by_cases k8 : k ≤ 8
  · obtain rfl | rfl | rfl | rfl | rfl | rfl | rfl | rfl | rfl : k = 0 ∨ k = 1 ∨ k = 2 ∨ k = 3 ∨ k = 4 ∨ k = 5 ∨ k = 6 ∨ k = 7 ∨ k = 8 := by omega
    · obtain ⟨rfl, rfl, rfl, rfl, rfl, rfl, rfl, rfl⟩ := hv (by decide)
      have hm := mright_h 0 pg ob tx cp ow wr A n c 0 0 0 0 0 0 0 0 pg ob 0 0 0 (false) none 0 0 0 0 0 0 0 0 0 0 ps.isEmpty (putsOk ps) w hk hpg hob htx htx2 hcp how (fun _ W => bare0_g pg ob tx cp ow wr A n c 0 0 0 0 0 0 0 0 W) h2 h3
      rw [same4_refl] at hm
      have e : (numsIn 0 pg ob cp ow && ((headsEq pg ob tx cp ow wr pg ob 0 0 0 false && (true && ps.isEmpty)) && putsOk ps)) = rightM 0 pg ob tx cp ow wr ps := by
        unfold rightM fits headsEq hasPlace hasTxn hasMasks hasWrite
        cases wr <;> simp [Bool.and_assoc, Bool.and_comm, Bool.and_left_comm]
      rw [e] at hm
      exact hm
    · obtain ⟨rfl, rfl, rfl, rfl, rfl, rfl, rfl, rfl⟩ := hv (by decide)
      have hm := mright_h 1 pg ob tx cp ow wr A n c 0 0 0 0 0 0 0 0 pg ob 0 0 0 (false) none 0 0 0 0 0 0 0 0 0 0 ps.isEmpty (putsOk ps) w hk hpg hob htx htx2 hcp how (fun _ W => bare1_g pg ob tx cp ow wr A n c 0 0 0 0 0 0 0 0 W) h2 h3
      rw [same4_refl] at hm
      have e : (numsIn 1 pg ob cp ow && ((headsEq pg ob tx cp ow wr pg ob 0 0 0 false && (true && ps.isEmpty)) && putsOk ps)) = rightM 1 pg ob tx cp ow wr ps := by
        unfold rightM fits headsEq hasPlace hasTxn hasMasks hasWrite
        cases wr <;> simp [Bool.and_assoc, Bool.and_comm, Bool.and_left_comm]
      rw [e] at hm
      exact hm
    · obtain ⟨rfl, rfl, rfl, rfl, rfl, rfl, rfl, rfl⟩ := hv (by decide)
      have hm := mright_h 2 pg ob tx cp ow wr A n c 0 0 0 0 0 0 0 0 0 0 tx 0 0 (false) A n c 0 0 0 0 0 0 0 0 true (putsOk ps) w hk hpg hob htx htx2 hcp how (fun _ W => bare2_g pg ob tx cp ow wr A n c 0 0 0 0 0 0 0 0 W) h1 h3
      rw [same4_refl] at hm
      have e : (numsIn 2 pg ob cp ow && ((headsEq pg ob tx cp ow wr 0 0 tx 0 0 false && (true && true)) && putsOk ps)) = rightM 2 pg ob tx cp ow wr ps := by
        unfold rightM fits headsEq hasPlace hasTxn hasMasks hasWrite
        cases wr <;> simp [Bool.and_assoc, Bool.and_comm, Bool.and_left_comm]
      rw [e] at hm
      exact hm
    · obtain ⟨rfl, rfl, rfl, rfl, rfl, rfl, rfl, rfl⟩ := hv (by decide)
      have hm := mright_h 3 pg ob tx cp ow wr A n c 0 0 0 0 0 0 0 0 pg 0 0 cp ow (false) none 0 0 0 0 0 0 0 0 0 0 ps.isEmpty (putsOk ps) w hk hpg hob htx htx2 hcp how (fun _ W => bare3_g pg ob tx cp ow wr A n c 0 0 0 0 0 0 0 0 W) h2 h3
      rw [same4_refl] at hm
      have e : (numsIn 3 pg ob cp ow && ((headsEq pg ob tx cp ow wr pg 0 0 cp ow false && (true && ps.isEmpty)) && putsOk ps)) = rightM 3 pg ob tx cp ow wr ps := by
        unfold rightM fits headsEq hasPlace hasTxn hasMasks hasWrite
        cases wr <;> simp [Bool.and_assoc, Bool.and_comm, Bool.and_left_comm]
      rw [e] at hm
      exact hm
    · obtain ⟨rfl, rfl, rfl, rfl, rfl, rfl, rfl, rfl⟩ := hv (by decide)
      have hm := mright_h 4 pg ob tx cp ow wr A n c 0 0 0 0 0 0 0 0 pg ob 0 0 0 (wr) none 0 0 0 0 0 0 0 0 0 0 ps.isEmpty (putsOk ps) w hk hpg hob htx htx2 hcp how (fun _ W => bare4_g pg ob tx cp ow wr A n c 0 0 0 0 0 0 0 0 W) h2 h3
      rw [same4_refl] at hm
      have e : (numsIn 4 pg ob cp ow && ((headsEq pg ob tx cp ow wr pg ob 0 0 0 wr && (true && ps.isEmpty)) && putsOk ps)) = rightM 4 pg ob tx cp ow wr ps := by
        unfold rightM fits headsEq hasPlace hasTxn hasMasks hasWrite
        cases wr <;> simp [Bool.and_assoc, Bool.and_comm, Bool.and_left_comm]
      rw [e] at hm
      exact hm
    · skip
      have hm := mright_h 5 pg ob tx cp ow wr A n c a0 b0 a1 b1 a2 b2 a3 b3 pg 0 0 cp ow (false) none 0 0 a0 b0 a1 b1 a2 b2 a3 b3 ps.isEmpty (putsOk ps) w hk hpg hob htx htx2 hcp how (fun _ W => bare5_g pg ob tx cp ow wr A n c a0 b0 a1 b1 a2 b2 a3 b3 W) h2 h3
      rw [same4_refl] at hm
      have e : (numsIn 5 pg ob cp ow && ((headsEq pg ob tx cp ow wr pg 0 0 cp ow false && (true && ps.isEmpty)) && putsOk ps)) = rightM 5 pg ob tx cp ow wr ps := by
        unfold rightM fits headsEq hasPlace hasTxn hasMasks hasWrite
        cases wr <;> simp [Bool.and_assoc, Bool.and_comm, Bool.and_left_comm]
      rw [e] at hm
      exact hm
    · obtain ⟨rfl, rfl, rfl, rfl, rfl, rfl, rfl, rfl⟩ := hv (by decide)
      have hm := mright_h 6 pg ob tx cp ow wr A n c 0 0 0 0 0 0 0 0 pg ob 0 0 0 (wr) none 0 0 0 0 0 0 0 0 0 0 ps.isEmpty (putsOk ps) w hk hpg hob htx htx2 hcp how (fun _ W => bare6_g pg ob tx cp ow wr A n c 0 0 0 0 0 0 0 0 W) h2 h3
      rw [same4_refl] at hm
      have e : (numsIn 6 pg ob cp ow && ((headsEq pg ob tx cp ow wr pg ob 0 0 0 wr && (true && ps.isEmpty)) && putsOk ps)) = rightM 6 pg ob tx cp ow wr ps := by
        unfold rightM fits headsEq hasPlace hasTxn hasMasks hasWrite
        cases wr <;> simp [Bool.and_assoc, Bool.and_comm, Bool.and_left_comm]
      rw [e] at hm
      exact hm
    · obtain ⟨rfl, rfl, rfl, rfl, rfl, rfl, rfl, rfl⟩ := hv (by decide)
      have hm := mright_h 7 pg ob tx cp ow wr A n c 0 0 0 0 0 0 0 0 0 0 tx 0 0 (false) none 0 0 0 0 0 0 0 0 0 0 ps.isEmpty (putsOk ps) w hk hpg hob htx htx2 hcp how (fun _ W => bare7_g pg ob tx cp ow wr A n c 0 0 0 0 0 0 0 0 W) h2 h3
      rw [same4_refl] at hm
      have e : (numsIn 7 pg ob cp ow && ((headsEq pg ob tx cp ow wr 0 0 tx 0 0 false && (true && ps.isEmpty)) && putsOk ps)) = rightM 7 pg ob tx cp ow wr ps := by
        unfold rightM fits headsEq hasPlace hasTxn hasMasks hasWrite
        cases wr <;> simp [Bool.and_assoc, Bool.and_comm, Bool.and_left_comm]
      rw [e] at hm
      exact hm
    · obtain ⟨rfl, rfl, rfl, rfl, rfl, rfl, rfl, rfl⟩ := hv (by decide)
      have hm := mright_h 8 pg ob tx cp ow wr A n c 0 0 0 0 0 0 0 0 0 0 tx cp 0 (false) none 0 0 0 0 0 0 0 0 0 0 ps.isEmpty (putsOk ps) w hk hpg hob htx htx2 hcp how (fun _ W => bare8_g pg ob tx cp ow wr A n c 0 0 0 0 0 0 0 0 W) h2 h3
      rw [same4_refl] at hm
      have e : (numsIn 8 pg ob cp ow && ((headsEq pg ob tx cp ow wr 0 0 tx cp 0 false && (true && ps.isEmpty)) && putsOk ps)) = rightM 8 pg ob tx cp ow wr ps := by
        unfold rightM fits headsEq hasPlace hasTxn hasMasks hasWrite
        cases wr <;> simp [Bool.and_assoc, Bool.and_comm, Bool.and_left_comm]
      rw [e] at hm
      exact hm
  · have hm := mright_h k pg ob tx cp ow wr A n c a0 b0 a1 b1 a2 b2 a3 b3 0 0 0 0 0 false A n c 0 0 0 0 0 0 0 0 true (putsOk ps) w hk hpg hob htx htx2 hcp how (fun e => absurd e k8) h1 h3
    have e : numsIn k pg ob cp ow = false := by unfold numsIn; simp [k8]
    have e2 : rightM k pg ob tx cp ow wr ps = false := by unfold rightM; rw [e]; rfl
    rw [e] at hm
    rw [e2]
    exact hm

end Go.Proofs.Ytbhjdapkhcgmlaa
