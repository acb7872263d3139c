import Derived.Test.YtbbpombjpfkpnaaAlive03
import Derived.Test.YtbbpombjpfkpnaaCrcPlain
import Derived.Deep.RegionLaw
import Derived.Deep.RegionHeld3
namespace Go.Proofs.Ytbbpombjpfkpnaa
open Go.RowKit

theorem RdS.mk3 {w : World} {n : Nat} {E : TypeId} {m : Nat × Nat} {A1 A2 A3 : Option Addr} {l1 l2 l3 : List UInt8} {c1 c2 c3 : Nat} (h : w.heap[n]? = some (.cells #[.slice A1 l1.length c1, .slice A2 l2.length c2, .slice A3 l3.length c3] E m))
    (h1 : Rd g8 w A1 l1) (n1 : A1 = none → c1 = 0) (b1 : l1.length ≤ 140737488351232) (h2 : Rd g8 w A2 l2) (n2 : A2 = none → c2 = 0) (b2 : l2.length ≤ 140737488351232)
    (h3 : Rd g8 w A3 l3) (n3 : A3 = none → c3 = 0) (b3 : l3.length ≤ 140737488351232) : RdS w (some ⟨n, 0, none⟩) [l1, l2, l3] := fun i p hp => by
  have hc := fun j => cell_of_row w n j _ E m h
  match i with
  | 0 => simp at hp; subst hp; exact ⟨_, A1, c1, rfl, (hc 0).trans (by simp), n1, by omega, h1⟩
  | 1 => simp at hp; subst hp; exact ⟨_, A2, c2, rfl, (hc 1).trans (by simp), n2, by omega, h2⟩
  | 2 => simp at hp; subst hp; exact ⟨_, A3, c3, rfl, (hc 2).trans (by simp), n3, by omega, h3⟩
  | i + 3 => simp at hp

theorem part8 (w : World) (cs : Array Value) (off : Nat) (k : IntKind) (x : Int) (h : cs[off]? = some (.int k x)) : (part 5 cs off).run Try.prog w = .ok (.int k x) w := by
  have : (isAgg 5).run Try.prog w = .ok false w := by
    simp [isAgg, run_underlying Try.underlying5]
  simp [part, this, h]

/-- '==' of two arrays of two bytes. -/
theorem eq2 (w : World) (x y z t : Int) : (Op.equalIn 10000 36 (.agg #[.int .u8 x, .int .u8 y]) (.agg #[.int .u8 z, .int .u8 t])).run Try.prog w = .ok (x == z && y == t) w := by
  obtain ⟨i0, hi, hz0, hz1, hz2⟩ := info_parts info8
  show (Op.equalIn (9998 + 1 + 1) 36 _ _).run Try.prog w = _
  have p0 := fun (w : World) (x y : Int) => part8 w #[.int .u8 x, .int .u8 y] 0 .u8 x rfl
  have p1 := fun (w : World) (x y : Int) => part8 w #[.int .u8 x, .int .u8 y] 1 .u8 y rfl
  rw [Op.equalIn]
  simp only [Sem.run_bind, run_underlying Try.underlying36, Result.andThen_ok]
  simp [sizeOf, typeInfo, hi, hz1, List.range', p0, p1, run_equalIn_int _ _ _ _ _ _ _ Try.underlying5]
  by_cases h1 : x = z <;> by_cases h2 : y = t <;> simp [*]

/-- The law's answer. -/
theorem one_bool (l1 l2 : List UInt8) (a b c d : UInt8) : (((sumN [l1, [a, b], l2].flatten : Nat) : Int) == ((sumN [l1, [c, d], l2].flatten : Nat) : Int)) = ((a.toNat : Int) == (c.toNat : Int) && (b.toNat : Int) == (d.toNat : Int)) := by
  have h := one_law l1 l2 a b c d
  have e : ∀ x y : UInt8, [l1, [x, y], l2].flatten = l1 ++ [x, y] ++ l2 := fun x y => by simp
  rw [e, e, Bool.eq_iff_iff]
  simp only [beq_iff_eq, Bool.and_eq_true, Int.natCast_inj, UInt8.toNat_inj]
  exact h

theorem two_rows (w1 : World) (E : TypeId) (l m : List UInt8) (cs ds : Array Value) (hcs : cs = (l.map g8).toArray) (hds : ds = (m.map g8).toArray) :
    Rd g8 (((w1.alloc (.cells cs E)).alloc (.cells ds E)).drew) (some ⟨w1.heap.size, 0, none⟩) l ∧ Rd g8 (((w1.alloc (.cells cs E)).alloc (.cells ds E)).drew) (some ⟨w1.heap.size + 1, 0, none⟩) m ∧
      Below w1.heap.size w1 (((w1.alloc (.cells cs E)).alloc (.cells ds E)).drew) ∧ w1.heap.size + 1 < (((w1.alloc (.cells cs E)).alloc (.cells ds E)).drew).heap.size := by
  subst hcs hds
  refine ⟨(Rd.row w1 l).below ((Below.refl _ _).alloc (Nat.le_refl _) _).drew, ?_, (((Below.refl _ _).alloc (Nat.le_refl _) _).alloc (by simp) _).drew, by simp⟩
  have := (Rd.row (g := g8) (E := E) (w1.alloc (.cells (l.map g8).toArray E)) m).below (Below.refl _ _).drew
  rwa [show (w1.alloc (.cells (l.map g8).toArray E)).heap.size = w1.heap.size + 1 from by simp] at this

set_option maxRecDepth 1000000 in
set_option maxHeartbeats 8000000 in
theorem one_c (A1 A2 : Option Addr) (l1 l2 : List UInt8) (c1 c2 : Nat) (a b c d : UInt8) (w : World) (h1 : Rd g8 w A1 l1) (hn1 : A1 = none → c1 = 0) (hl1 : l1.length ≤ 140737488351232)
    (h2 : Rd g8 w A2 l2) (hn2 : A2 = none → c2 = 0) (hl2 : l2.length ≤ 140737488351232) :
    Calls Try.prog 5 #[.slice A1 l1.length c1, .slice A2 l2.length c2, .agg #[.int .u8 (a.toNat : Int), .int .u8 (b.toNat : Int), .int .u8 (c.toNat : Int), .int .u8 (d.toNat : Int)]] w fun e w' => e = .returned (.bool true) ∧ Below w.heap.size w w' := by
  have H1 := Lib.hid h1
  have H2 := Lib.hid h2
  have N1 := Lib.hid hn1
  have N2 := Lib.hid hn2
  clear h1 h2 hn1 hn2
  go_enter Try.func5, Try.ntmps5
  have hb0 : Below w.heap.size w (w.alloc (.cells #[.int .u8 (a.toNat : Int), .int .u8 (b.toNat : Int), .int .u8 (c.toNat : Int), .int .u8 (d.toNat : Int)] 37)) := (Below.refl _ _).alloc (Nat.le_refl _) _
  have HB0 := Lib.hid hb0
  clear hb0
  go_wp2_with fail
  refine (alive_c _).mono ?_; rintro e w1 ⟨rfl, hb1⟩
  have HB1 := Lib.hid (HB0.out.trans (hb1.mono HB0.out.size))
  have hc := fun (j : Nat) => (hb1.cell (p := ⟨w.heap.size, j, none⟩) (by simp)).trans (cell_of_row _ w.heap.size j _ _ (0, 0) (heap_alloc_new w _))
  have hc0 := hc 0
  have hc1 := hc 1
  have hc2 := hc 2
  have hc3 := hc 3
  simp at hc0 hc1 hc2 hc3
  have hsz : w.heap.size < w1.heap.size := by have := hb1.size; simp at this; omega
  clear hb1 hc
  by_cases hlen : 3000 < l1.length
  · go_wp2_with fail
    go_ret
    exact ⟨rfl, HB1.out⟩
  · by_cases hlen2 : 3000 < l2.length
    · go_wp2_with fail
      go_ret
      exact ⟨rfl, HB1.out⟩
    · go_wp2_with fail
      go_region
      · obtain ⟨RP, RQ, KB0, hs0⟩ := two_rows w1 36 [a, b] [c, d] #[.int .u8 (a.toNat : Int), .int .u8 (b.toNat : Int)] #[.int .u8 (c.toNat : Int), .int .u8 (d.toNat : Int)] rfl rfl
        have KB := HB1.out.trans (KB0.mono (by omega))
        have h1 := H1.out.below KB
        have h2 := H2.out.below KB
        clear KB0
        go_wp2_with fail
        generalize ((w1.alloc (.cells #[.int .u8 (a.toNat : Int), .int .u8 (b.toNat : Int)] 36)).alloc (.cells #[.int .u8 (c.toNat : Int), .int .u8 (d.toNat : Int)] 36)).drew = w0 at *
        have p0 : w0.cell? ⟨w1.heap.size, 0, none⟩ = _ := RP.cells 0 _ rfl
        have p1 : w0.cell? ⟨w1.heap.size, 1, none⟩ = _ := RP.cells 1 _ rfl
        have q0 : w0.cell? ⟨w1.heap.size + 1, 0, none⟩ = _ := RQ.cells 0 _ rfl
        have q1 : w0.cell? ⟨w1.heap.size + 1, 1, none⟩ = _ := RQ.cells 1 _ rfl
        have heq := fun W => eq2 W (a.toNat : Int) (b.toNat : Int) (c.toNat : Int) (d.toNat : Int)
        have hob := one_bool l1 l2 a b c d
        generalize hbb : ((a.toNat : Int) == (c.toNat : Int) && (b.toNat : Int) == (d.toNat : Int)) = bb at heq hob
        generalize hs1 : sumN [l1, [a, b], l2].flatten = s1 at hob
        generalize hs2 : sumN [l1, [c, d], l2].flatten = s2 at hob
        have HS1 := Lib.hid hs1; have HS2 := Lib.hid hs2; have HOB := Lib.hid hob
        replace RP := Lib.hid RP; replace RQ := Lib.hid RQ; replace KB := Lib.hid KB; replace h1 := Lib.hid h1; replace h2 := Lib.hid h2
        clear H1 H2 HB0 HB1 hc0 hc1 hc2 hc3 hbb hs1 hs2 hob
        go_region_held3 (fun w' => w'.cell? ⟨w1.heap.size, 0, none⟩ = some (g8 a) ∧ w'.cell? ⟨w1.heap.size, 1, none⟩ = some (g8 b) ∧ w'.cell? ⟨w1.heap.size + 1, 0, none⟩ = some (g8 c) ∧ w'.cell? ⟨w1.heap.size + 1, 1, none⟩ = some (g8 d))
          (go_keep)
          (first
            | (go_at_call 12; refine (of_c _ [l1, [a, b], l2] 3 _ (RdS.mk3 (E := 22) (m := (0, 0)) (c1 := c1) (c2 := 2) (c3 := c2) (by first | exact heap_alloc_new _ _ | exact heap_alloc2_new w0 _ _ | exact heap_alloc2_old w0 _ _) (h1.out.below (by first | exact ((Below.refl _ _).alloc (Nat.le_refl _) _).drew | exact (((Below.refl _ _).alloc (Nat.le_refl _) _).alloc (by simp) _).drew)) N1.out (by omega) (RP.out.below (by first | exact ((Below.refl _ _).alloc (Nat.le_refl _) _).drew | exact (((Below.refl _ _).alloc (Nat.le_refl _) _).alloc (by simp) _).drew)) (by intro h; cases h) (by simp) (h2.out.below (by first | exact ((Below.refl _ _).alloc (Nat.le_refl _) _).drew | exact (((Below.refl _ _).alloc (Nat.le_refl _) _).alloc (by simp) _).drew)) N2.out (by omega)) (by simp)).mono ?_; rw [HS1.out]; rintro e w2 ⟨rfl, rfl⟩)
            | (go_at_call 12; refine (of_c _ [l1, [c, d], l2] 3 _ (RdS.mk3 (E := 22) (m := (0, 0)) (c1 := c1) (c2 := 2) (c3 := c2) (by first | exact heap_alloc_new _ _ | exact heap_alloc2_new w0 _ _ | exact heap_alloc2_old w0 _ _) (h1.out.below (by first | exact ((Below.refl _ _).alloc (Nat.le_refl _) _).drew | exact (((Below.refl _ _).alloc (Nat.le_refl _) _).alloc (by simp) _).drew)) N1.out (by omega) (RQ.out.below (by first | exact ((Below.refl _ _).alloc (Nat.le_refl _) _).drew | exact (((Below.refl _ _).alloc (Nat.le_refl _) _).alloc (by simp) _).drew)) (by intro h; cases h) (by simp) (h2.out.below (by first | exact ((Below.refl _ _).alloc (Nat.le_refl _) _).drew | exact (((Below.refl _ _).alloc (Nat.le_refl _) _).alloc (by simp) _).drew)) N2.out (by omega)) (by simp)).mono ?_; rw [HS2.out]; rintro e w2 ⟨rfl, rfl⟩))
        all_goals
          go_wp2_with fail
          go_ret
          exact ⟨ret_bool (by rw [HOB.out]; simp), (KB.out.trans ((((Below.refl _ _).alloc (Nat.le_refl _) _).alloc (by simp) _).drew.mono (by have := KB.out.size; omega)))⟩
      · obtain ⟨RP, RQ, KB0, hs0⟩ := two_rows w1 36 [c, d] [a, b] #[.int .u8 (c.toNat : Int), .int .u8 (d.toNat : Int)] #[.int .u8 (a.toNat : Int), .int .u8 (b.toNat : Int)] rfl rfl
        have KB := HB1.out.trans (KB0.mono (by omega))
        have h1 := H1.out.below KB
        have h2 := H2.out.below KB
        clear KB0
        go_wp2_with fail
        generalize ((w1.alloc (.cells #[.int .u8 (c.toNat : Int), .int .u8 (d.toNat : Int)] 36)).alloc (.cells #[.int .u8 (a.toNat : Int), .int .u8 (b.toNat : Int)] 36)).drew = w0 at *
        have p0 : w0.cell? ⟨w1.heap.size, 0, none⟩ = _ := RP.cells 0 _ rfl
        have p1 : w0.cell? ⟨w1.heap.size, 1, none⟩ = _ := RP.cells 1 _ rfl
        have q0 : w0.cell? ⟨w1.heap.size + 1, 0, none⟩ = _ := RQ.cells 0 _ rfl
        have q1 : w0.cell? ⟨w1.heap.size + 1, 1, none⟩ = _ := RQ.cells 1 _ rfl
        have heq := fun W => eq2 W (a.toNat : Int) (b.toNat : Int) (c.toNat : Int) (d.toNat : Int)
        have hob := one_bool l1 l2 a b c d
        generalize hbb : ((a.toNat : Int) == (c.toNat : Int) && (b.toNat : Int) == (d.toNat : Int)) = bb at heq hob
        generalize hs1 : sumN [l1, [a, b], l2].flatten = s1 at hob
        generalize hs2 : sumN [l1, [c, d], l2].flatten = s2 at hob
        have HS1 := Lib.hid hs1; have HS2 := Lib.hid hs2; have HOB := Lib.hid hob
        replace RP := Lib.hid RP; replace RQ := Lib.hid RQ; replace KB := Lib.hid KB; replace h1 := Lib.hid h1; replace h2 := Lib.hid h2
        clear H1 H2 HB0 HB1 hc0 hc1 hc2 hc3 hbb hs1 hs2 hob
        go_region_held3 (fun w' => w'.cell? ⟨w1.heap.size, 0, none⟩ = some (g8 c) ∧ w'.cell? ⟨w1.heap.size, 1, none⟩ = some (g8 d) ∧ w'.cell? ⟨w1.heap.size + 1, 0, none⟩ = some (g8 a) ∧ w'.cell? ⟨w1.heap.size + 1, 1, none⟩ = some (g8 b))
          (go_keep)
          (first
            | (go_at_call 12; refine (of_c _ [l1, [a, b], l2] 3 _ (RdS.mk3 (E := 22) (m := (0, 0)) (c1 := c1) (c2 := 2) (c3 := c2) (by first | exact heap_alloc_new _ _ | exact heap_alloc2_new w0 _ _ | exact heap_alloc2_old w0 _ _) (h1.out.below (by first | exact ((Below.refl _ _).alloc (Nat.le_refl _) _).drew | exact (((Below.refl _ _).alloc (Nat.le_refl _) _).alloc (by simp) _).drew)) N1.out (by omega) (RQ.out.below (by first | exact ((Below.refl _ _).alloc (Nat.le_refl _) _).drew | exact (((Below.refl _ _).alloc (Nat.le_refl _) _).alloc (by simp) _).drew)) (by intro h; cases h) (by simp) (h2.out.below (by first | exact ((Below.refl _ _).alloc (Nat.le_refl _) _).drew | exact (((Below.refl _ _).alloc (Nat.le_refl _) _).alloc (by simp) _).drew)) N2.out (by omega)) (by simp)).mono ?_; rw [HS1.out]; rintro e w2 ⟨rfl, rfl⟩)
            | (go_at_call 12; refine (of_c _ [l1, [c, d], l2] 3 _ (RdS.mk3 (E := 22) (m := (0, 0)) (c1 := c1) (c2 := 2) (c3 := c2) (by first | exact heap_alloc_new _ _ | exact heap_alloc2_new w0 _ _ | exact heap_alloc2_old w0 _ _) (h1.out.below (by first | exact ((Below.refl _ _).alloc (Nat.le_refl _) _).drew | exact (((Below.refl _ _).alloc (Nat.le_refl _) _).alloc (by simp) _).drew)) N1.out (by omega) (RP.out.below (by first | exact ((Below.refl _ _).alloc (Nat.le_refl _) _).drew | exact (((Below.refl _ _).alloc (Nat.le_refl _) _).alloc (by simp) _).drew)) (by intro h; cases h) (by simp) (h2.out.below (by first | exact ((Below.refl _ _).alloc (Nat.le_refl _) _).drew | exact (((Below.refl _ _).alloc (Nat.le_refl _) _).alloc (by simp) _).drew)) N2.out (by omega)) (by simp)).mono ?_; rw [HS2.out]; rintro e w2 ⟨rfl, rfl⟩))
        all_goals
          go_wp2_with fail
          go_ret
          exact ⟨ret_bool (by rw [HOB.out]; simp), (KB.out.trans ((((Below.refl _ _).alloc (Nat.le_refl _) _).alloc (by simp) _).drew.mono (by have := KB.out.size; omega)))⟩

end Go.Proofs.Ytbbpombjpfkpnaa
