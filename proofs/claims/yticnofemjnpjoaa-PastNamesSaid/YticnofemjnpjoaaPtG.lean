import Derived.Test.YticnofemjnpjoaaPtF
import Derived.Deep.AppendLies
import Derived.Handy

set_option linter.unusedSimpArgs false
set_option linter.unusedVariables false
set_option linter.unnecessarySimpa false

namespace Go.Proofs.Yticnofemjnpjoaa
open Go.RowKit

attribute [local go_sem] run_store_complex

/-! Puts that are the call's own; past.Puts. -/

def pcl (p : PutV) : List Value := [.int .i64 p.pg, .int .i64 p.ob, .complex .f64 p.re p.im]
def pcells (ps : List PutV) : List Value := (ps.map pcl).flatten
theorem pcells_snoc (ps : List PutV) (p : PutV) : pcells (ps ++ [p]) = pcells ps ++ pcl p := by unfold pcells; simp
theorem pcells_length (ps : List PutV) : (pcells ps).length = ps.length * 3 := by
  induction ps with
  | nil => rfl
  | cons p r ih => unfold pcells at *; simp [pcl] at *; omega
theorem pcells_at : ∀ (ps : List PutV) (i : Nat) (p : PutV), ps[i]? = some p → (pcells ps)[i * 3]? = some (.int .i64 p.pg) ∧ (pcells ps)[i * 3 + 1]? = some (.int .i64 p.ob) ∧ (pcells ps)[i * 3 + 2]? = some (.complex .f64 p.re p.im)
  | [], i, p, h => by simp at h
  | q :: r, 0, p, h => by simp at h; subst h; exact ⟨rfl, rfl, rfl⟩
  | q :: r, i + 1, p, h => by
    have ih := pcells_at r i p (by simpa using h)
    have e : pcells (q :: r) = .int .i64 q.pg :: .int .i64 q.ob :: .complex .f64 q.re q.im :: pcells r := by unfold pcells; simp [pcl]
    rw [e]
    have e1 : (i + 1) * 3 = i * 3 + 1 + 1 + 1 := by omega
    rw [e1]
    refine ⟨ih.1, ?_, ?_⟩
    · rw [show i * 3 + 1 + 1 + 1 + 1 = (i * 3 + 1) + 1 + 1 + 1 by omega]; exact ih.2.1
    · rw [show i * 3 + 1 + 1 + 1 + 2 = (i * 3 + 2) + 1 + 1 + 1 by omega]; exact ih.2.2

def OwP (w : World) (B : Nat) (A : Option Addr) (n : Nat) (ps : List PutV) (c : Nat) : Prop := w.ownsRow B 62 3 (.slice A n c) n (pcells ps)

theorem OwP.nil (w : World) (B : Nat) : OwP w B none 0 [] 0 := World.ownsRow_nil w B 62 3

theorem OwP.length {w : World} {B : Nat} {A : Option Addr} {n : Nat} {ps : List PutV} {c : Nat} (h : OwP w B A n ps c) : ps.length = n := by
  have h1 := h.1
  rw [pcells_length] at h1
  omega

theorem OwP.upto {K : Nat → Prop} {w w' : World} {B : Nat} {A : Option Addr} {n : Nat} {ps : List PutV} {c : Nat} (h : OwP w B A n ps c) (u : Upto K w w') (hK : ∀ k, (Value.slice A n c).ownBlock = some k → ¬ K k) : OwP w' B A n ps c := by
  refine ⟨h.1, ?_⟩
  rcases h.2 with hn | ⟨b, cap, cur, hv, hbg, hgg, rest⟩
  · exact .inl hn
  · have hk : (Value.slice A n c).ownBlock = some b := by rw [hv]; rfl
    exact .inr ⟨b, cap, cur, hv, hbg, by rw [u.block b (Array.getElem?_eq_some_iff.1 hgg).1 (hK b hk)]; exact hgg, rest⟩

theorem OwP.below {w w' : World} {B : Nat} {A : Option Addr} {n : Nat} {ps : List PutV} {c : Nat} (h : OwP w B A n ps c) (hb : Below w.heap.size w w') : OwP w' B A n ps c := h.upto (Upto.of_below (K := fun _ => False) hb) (fun _ _ e => e)

theorem OwP.lt {w : World} {B : Nat} {A : Option Addr} {n : Nat} {ps : List PutV} {c : Nat} (h : OwP w B A n ps c) : ∀ k, (Value.slice A n c).ownBlock = some k → B ≤ k ∧ k < w.heap.size := World.ownsRow.lt h

theorem infoP : (Try.prog.info? 62).map (fun i => (i.zero, i.size, i.bytes)) = some (some (.agg #[.int .i64 0, .int .i64 0, .complex .f64 0 0]), 3, 32) := by kernel_rfl
theorem one_put (p : PutV) : ∀ u ∈ pcl p, u.oneCell' = true := by
  intro u hu; simp [pcl] at hu; rcases hu with rfl | rfl | rfl <;> rfl


theorem zero_c (w : World) : (zeroValue 35).run Try.prog w = .ok (.complex .f64 0 0) w := by kernel_rfl

/-- The puts behind so many places. -/
def oneUp (re im : Nat) : Nat → List PutV
  | 0 => []
  | _ + 1 => [⟨0, 0, re, im⟩]

theorem look_first {re im B : Nat} {w : World} (hm : w.heap[B]? = some (.map #[⟨.agg #[.int .i64 0, .int .i64 0], .complex .f64 re im, 0⟩] 1)) : (Instr.lookup 56 (.map (some B)) (.agg #[.int .i64 0, .int .i64 0]) true).run Try.prog w = .ok (.tuple #[.complex .f64 re im, .bool true]) w := by
  have hk := place_key (p := 0) (o := 0) (by omega) (by omega)
  exact look_hit place_law Try.underlying56 hm hk.choose_spec (by simp; exact hk) (by simp) (by simp) true

theorem look_other {re im B k j : Nat} {w : World} (hm : w.heap[B]? = some (.map #[⟨.agg #[.int .i64 0, .int .i64 0], .complex .f64 re im, 0⟩] 1)) (hk : k < 6) (hj : j < 4) (h : ¬ (k = 0 ∧ j = 0)) : (Instr.lookup 56 (.map (some B)) (.agg #[.int .i64 k, .int .i64 j]) true).run Try.prog w = .ok (.tuple #[.complex .f64 0 0, .bool false]) w := by
  have h0 := place_key (p := 0) (o := 0) (by omega) (by omega)
  exact look_miss place_law Try.underlying56 (zero_c w) hm (place_key hk hj).choose_spec (by simp; exact h0) (by simp; omega) true

set_option maxHeartbeats 4000000 in
theorem puts_c (cl ep tx bg en st : Int) (A n c : Nat) (l : List DeedV) (re im : Nat) (hn : l.length = n) (hl : n ≤ 1000) (hs : Simple l) (he : wrE l = (#[⟨.agg #[.int .i64 0, .int .i64 0], .complex .f64 re im, 0⟩], 1)) (w : World) (h : RdE w A l) : Calls Try.prog 10 #[.agg #[.int .i64 cl, .int .i64 ep, .int .i64 tx, .int .i64 bg, .int .i64 en, .int .i64 st, .slice (some ⟨A, 0, none⟩) n c]] w fun e w' => ∃ A' c', e = .returned (.slice A' 1 c') ∧ OwP w' w.heap.size A' 1 [⟨0, 0, re, im⟩] c' ∧ Below w.heap.size w w' := by
  have hb := (Below.refl w.heap.size w).alloc (Nat.le_refl _) (.cells #[.int .i64 cl, .int .i64 ep, .int .i64 tx, .int .i64 bg, .int .i64 en, .int .i64 st, .slice (some ⟨A, 0, none⟩) n c] 33)
  have hr := heap_alloc_new w (.cells #[.int .i64 cl, .int .i64 ep, .int .i64 tx, .int .i64 bg, .int .i64 en, .int .i64 st, .slice (some ⟨A, 0, none⟩) n c] 33)
  have h1 := h.below hb
  have hsz := hb.size
  clear h
  go_enter Try.func10, Try.ntmps10
  go_wp2_with fail
  generalize w.alloc (.cells #[.int .i64 cl, .int .i64 ep, .int .i64 tx, .int .i64 bg, .int .i64 en, .int .i64 st, .slice (some ⟨A, 0, none⟩) n c] 33) = W0 at *
  obtain ⟨x0, x1, x2, x3, x4, x5, x6, xz⟩ := row7' hr
  go_wp2_with fail
  refine (wrote_c cl ep tx bg en st A n c l hn hl hs W0 h1).mono ?_; rintro e w1 ⟨B, rfl, hm, hB, hb1⟩
  rw [he] at hm
  have HB0 := Lib.hid (hb.trans (hb1.mono hsz))
  have HBB := Lib.hid (Nat.le_trans hsz hB)
  have HM0 := Lib.hid hm
  clear hb hr h1 hb1 hm hB hs he hn hl x0 x1 x2 x3 x4 x5 x6 xz hsz
  go_wp2_with fail
  go_loopw [4, 11] (fun o i wr => ∃ (k n' c' : Nat) (A' : Option Addr), k ≤ 6 ∧ i = .int .i64 k ∧ o = .slice A' n' c' ∧ Hid (OwP wr w.heap.size A' n' (oneUp re im (k * 4)) c') ∧ Hid (n' = (oneUp re im (k * 4)).length ∧ (n' = 0 → A' = none)) ∧ Hid (wr.heap[B]? = some (.map #[⟨.agg #[.int .i64 0, .int .i64 0], .complex .f64 re im, 0⟩] 1)) ∧ Hid (Below w.heap.size w wr)) (fun _ i _ => 6 - (intOf i).toNat)
  case atStart => exact ⟨0, 0, 0, none, by omega, rfl, rfl, OwP.nil _ _, ⟨rfl, fun _ => rfl⟩, HM0.out, HB0.out⟩
  case round =>
    obtain ⟨k, n', c', A', hk, rfl, rfl, ho, hnn, hm, hb⟩ := hrel
    by_cases hlt : k < 6
    · have hdk : decide ((k : Int) < 6) = true := by simp; omega
      go_wp2_with fail
      go_loopw [4, 14] (fun o i wr => ∃ (j n' c' : Nat) (A' : Option Addr), j ≤ 4 ∧ i = .int .i64 j ∧ o = .slice A' n' c' ∧ Hid (OwP wr w.heap.size A' n' (oneUp re im (k * 4 + j)) c') ∧ Hid (n' = (oneUp re im (k * 4 + j)).length ∧ (n' = 0 → A' = none)) ∧ Hid (wr.heap[B]? = some (.map #[⟨.agg #[.int .i64 0, .int .i64 0], .complex .f64 re im, 0⟩] 1)) ∧ Hid (Below w.heap.size w wr)) (fun _ i _ => 4 - (intOf i).toNat)
      case atStart => exact ⟨0, n', c', A', by omega, rfl, rfl, ho, hnn, hm, hb⟩
      case round =>
        clear ho hnn hm hb
        obtain ⟨j, n2, c2, A2, hj, rfl, rfl, ho, hnn, hm, hb⟩ := hrel
        by_cases hjt : j < 4
        · by_cases hz : k = 0 ∧ j = 0
          · have HKZ := Lib.hid hz
            have hup : oneUp re im (k * 4 + j) = [] := by rw [hz.1, hz.2]; rfl
            rw [hup] at ho hnn
            have hn0 : n2 = 0 := hnn.out.1
            subst hn0
            have ha0 : A2 = none := hnn.out.2 rfl
            subst ha0
            have HL : (Instr.lookup 56 (.map (some B)) (.agg #[.int .i64 k, .int .i64 j]) true).run Try.prog wr = .ok (.tuple #[.complex .f64 re im, .bool true]) wr := by rw [hz.1, hz.2]; exact look_first hm.out
            clear hz hup
            obtain ⟨t0, hti, hz0, hz1, hz2⟩ := info_parts infoP
            have HTI := Lib.hid hti
            have hal := (Below.refl wr.heap.size wr).alloc (Nat.le_refl _) (.cells #[.int .i64 k, .int .i64 j, .complex .f64 re im] 62)
            have HO := Lib.hid (ho.out.below hal)
            have HS := Lib.hid (Nat.le_trans hb.out.size hal.size)
            have HM := Lib.hid ((hal.block B (Array.getElem?_eq_some_iff.1 hm.out).1).trans hm.out)
            have HLT := Lib.hid (Nat.lt_of_lt_of_le (Array.getElem?_eq_some_iff.1 hm.out).1 hal.size)
            have HB := Lib.hid (hb.out.trans (hal.mono hb.out.size))
            clear ho hnn hti hal hm hb
            go_wp2_with (at_builtin; go_loud (refine wpList_append_lies _ (by rfl) _ _ _ (by rfl) w.heap.size 62 t0 _ 3 32 Try.underlying25 HTI.out hz0 hz1 hz2 rfl (by decide) (.slice none 0 c2) 0 (pcells []) (by rfl) HO.out ⟨wr.heap.size, 0, none⟩ 1 1 [.int .i64 k, .int .i64 j, .complex .f64 re im] (by rfl) rfl (World.news_of_block (heap_alloc_new wr _)) (one_put ⟨k, j, re, im⟩) (by decide) (by simp only [maxLen]; omega) (by omega) HS.out _ rfl ?_; intro g cap w7 ho7 hg7 hat7 hlt7; have HO7 := Lib.hid ho7; have HG7 := Lib.hid hg7; clear ho7 hg7 hat7 hlt7))
            go_roundw
            case rel =>
              have hg := HG7.out
              have ho := HO7.out
              obtain ⟨rfl, rfl⟩ := HKZ.out
              exact ⟨1, 1, cap, some ⟨g, 0, none⟩, by omega, by simp, by simp, ho, ⟨rfl, fun e => absurd e (by decide)⟩, (hg.block B HLT.out (by simp [Value.ownBlock])).trans HM.out, HB.out.grown hg HS.out (fun k e => by simp [Value.ownBlock] at e)⟩
            case measure => simp [intOf]; omega
          · have HL := look_other hm.out hlt hjt hz
            have HO : Hid (OwP wr w.heap.size A2 n2 (oneUp re im (k * 4 + (j + 1))) c2) := by
              have h := ho.out
              obtain ⟨m, hm⟩ : ∃ m, k * 4 + j = m + 1 := ⟨k * 4 + j - 1, by omega⟩
              rw [hm] at h
              rw [show k * 4 + (j + 1) = m + 1 + 1 by omega]
              exact h
            have HN : Hid (n2 = (oneUp re im (k * 4 + (j + 1))).length ∧ (n2 = 0 → A2 = none)) := by
              have h := hnn.out
              obtain ⟨m, hm⟩ : ∃ m, k * 4 + j = m + 1 := ⟨k * 4 + j - 1, by omega⟩
              rw [hm] at h
              rw [show k * 4 + (j + 1) = m + 1 + 1 by omega]
              exact h
            clear ho hnn
            go_wp2_with fail
            go_roundw
            case rel => exact ⟨j + 1, n2, c2, A2, by omega, by simp, rfl, HO, HN, hm, hb⟩
            case measure => simp [intOf]; omega
        · have hj4 : j = 4 := by omega
          subst hj4
          have HO : Hid (OwP wr w.heap.size A2 n2 (oneUp re im ((k + 1) * 4)) c2) := by rw [show (k + 1) * 4 = k * 4 + 4 by omega]; exact ho
          have HN : Hid (n2 = (oneUp re im ((k + 1) * 4)).length ∧ (n2 = 0 → A2 = none)) := by rw [show (k + 1) * 4 = k * 4 + 4 by omega]; exact hnn
          clear ho hnn
          go_wp2_with fail
          go_roundw
          case rel => exact ⟨k + 1, n2, c2, A2, by omega, by simp, rfl, HO, HN, hm, hb⟩
          case measure => simp [intOf]; omega
    · have hk6 : k = 6 := by omega
      subst hk6
      have hn1 : n' = 1 := hnn.out.1
      subst hn1
      have HO := Lib.hid ho.out
      clear ho hnn hk hlt hm
      go_wp2_with fail
      go_ret
      exact ⟨_, _, rfl, HO.out, hb.out⟩

end Go.Proofs.Yticnofemjnpjoaa
