import Derived.Test.YteoafaofiohefaaRnB
import Derived.Deep.RegionHeldLaw
import Derived.Deep.Cut
namespace Go.Proofs.Yteoafaofiohefaa
open Go.RowKit

/-! The reference's Put. -/

/-- Where a slice lies. -/
structure Sh where
  a : Option Addr
  n : Nat
  c : Nat
def vS (P : Nat → Sh) (k : Nat) : Value := .slice (P k).a (P k).n (P k).c
theorem vS_upd (P : Nat → Sh) (k : Nat) (a : Option Addr) (n c : Nat) : upd (vS P) k (.slice a n c) = vS (upd P k ⟨a, n, c⟩) := by
  funext j; unfold vS upd; split <;> rfl

set_option maxRecDepth 100000 in
set_option maxHeartbeats 8000000 in
theorem RPut_bad (P : Nat → Sh) (k : Int) (hk : k < 0 ∨ 8 ≤ k) (X : Option Addr) (n c : Nat) (s : Bool) (w : World) :
    Calls Try.prog 15 #[.agg (arr8 (vS P)), .int .i64 k, .agg #[.slice X n c, .bool s]] w fun e w' => e = .returned (.tuple #[.agg (arr8 (vS P)), .bool false]) ∧ Below w.heap.size w w' := by
  simp only [arr8, vS]
  go_enter Try.func15, Try.ntmps15
  rcases hk with hk | hk
  all_goals
    go_wp2_with fail
    refine bodyPost_ret (by simp [results, Try.results15, go_sem]; try rfl) rfl ?_
    exact ⟨rfl, (((Below.refl _ _).alloc (Nat.le_refl _) _).alloc (by simp) _).alloc (by simp; omega) _⟩

def zero8 : Array Value := #[.slice none 0 0, .slice none 0 0, .slice none 0 0, .slice none 0 0, .slice none 0 0, .slice none 0 0, .slice none 0 0, .slice none 0 0]

/-- The three boxes of Put. -/
def putW (w : World) (P : Nat → Sh) (X : Option Addr) (n c : Nat) (s : Bool) : World :=
  ((w.alloc (.cells (arr8 (vS P)) 37)).alloc (.cells #[.slice X n c, .bool s] 44)).alloc (.cells zero8 37)

theorem putW_below (w : World) (P : Nat → Sh) (X : Option Addr) (n c : Nat) (s : Bool) : Below w.heap.size w (putW w P X n c s) := (((Below.refl _ _).alloc (Nat.le_refl _) _).alloc (by simp) _).alloc (by simp; omega) _
theorem putW_size (w : World) (P : Nat → Sh) (X : Option Addr) (n c : Nat) (s : Bool) : (putW w P X n c s).heap.size = w.heap.size + 1 + 1 + 1 := by simp [putW]
theorem putW_net (w : World) (P : Nat → Sh) (X : Option Addr) (n c : Nat) (s : Bool) : (putW w P X n c s).heap[w.heap.size]? = some (.cells (arr8 (vS P)) 37 (0, 0)) := by
  exact (heap_alloc_old _ _ (by simp; omega)).trans ((heap_alloc_old _ _ (by simp)).trans (heap_alloc_new w _))
theorem putW_item (w : World) (P : Nat → Sh) (X : Option Addr) (n c : Nat) (s : Bool) : (putW w P X n c s).heap[w.heap.size + 1]? = some (.cells #[.slice X n c, .bool s] 44 (0, 0)) := by
  refine (heap_alloc_old _ _ (by simp)).trans ?_
  have := heap_alloc_new (w.alloc (.cells (arr8 (vS P)) 37)) (.cells #[.slice X n c, .bool s] 44)
  rw [World.size_alloc] at this
  exact this
theorem putW_res (w : World) (P : Nat → Sh) (X : Option Addr) (n c : Nat) (s : Bool) : (putW w P X n c s).heap[w.heap.size + 1 + 1]? = some (.cells zero8 37 (0, 0)) := by
  have := heap_alloc_new ((w.alloc (.cells (arr8 (vS P)) 37)).alloc (.cells #[.slice X n c, .bool s] 44)) (.cells zero8 37)
  rw [World.size_alloc, World.size_alloc] at this
  exact this

theorem row8c {w : World} {b : Nat} {V : Nat → Value} {T : TypeId} (h : w.heap[b]? = some (.cells (arr8 V) T (0, 0))) :
    w.cell? ⟨b, 0, none⟩ = some (V 0) ∧ w.cell? ⟨b, 1, none⟩ = some (V 1) ∧ w.cell? ⟨b, 2, none⟩ = some (V 2) ∧ w.cell? ⟨b, 3, none⟩ = some (V 3) ∧ w.cell? ⟨b, 4, none⟩ = some (V 4) ∧ w.cell? ⟨b, 5, none⟩ = some (V 5) ∧ w.cell? ⟨b, 6, none⟩ = some (V 6) ∧ w.cell? ⟨b, 7, none⟩ = some (V 7) :=
  ⟨(box8 h 0 (by decide)).1, (box8 h 1 (by decide)).1, (box8 h 2 (by decide)).1, (box8 h 3 (by decide)).1, (box8 h 4 (by decide)).1, (box8 h 5 (by decide)).1, (box8 h 6 (by decide)).1, (box8 h 7 (by decide)).1⟩

theorem zero8_arr : zero8 = arr8 (fun _ => .slice none 0 0) := rfl

set_option maxRecDepth 100000 in
set_option maxHeartbeats 8000000 in
theorem RPut_full (P : Nat → Sh) (k : Nat) (hk : k < 8) (hf : 200 ≤ (P k).n) (X : Option Addr) (n c : Nat) (s : Bool) (w : World) :
    Calls Try.prog 15 #[.agg (arr8 (vS P)), .int .i64 k, .agg #[.slice X n c, .bool s]] w fun e w' => e = .returned (.tuple #[.agg (arr8 (vS P)), .bool false]) ∧ Below w.heap.size w w' := by
  obtain ⟨hc, -⟩ := box8 (putW_net w P X n c s) k hk
  have h1 : ¬ ((k : Int) < 0) := by omega
  have h2 : ¬ (7 < (k : Int)) := by omega
  have h3 : 200 ≤ ((P k).n : Int) := by omega
  simp only [putW, arr8, vS, zero8] at hc ⊢
  go_enter Try.func15, Try.ntmps15
  go_wp2_with fail
  refine bodyPost_ret (by simp [results, Try.results15, go_sem]; try rfl) rfl ?_
  exact ⟨rfl, (((Below.refl _ _).alloc (Nat.le_refl _) _).alloc (by simp) _).alloc (by simp; omega) _⟩

set_option maxRecDepth 100000 in
set_option maxHeartbeats 8000000 in
theorem RPut_ok (P : Nat → Sh) (k : Nat) (hk : k < 8) (X : Option Addr) (l : List UInt8) (n c : Nat) (s : Bool) (w : World) (B : Nat) (L : List It) (hB : B ≤ w.heap.size) (hL : L.length = (P k).n) (hf : (P k).n < 200) (h : RLane w B (.slice (P k).a L.length (P k).c) L) (hcap : (P k).a = none → (P k).n = 0 ∧ (P k).c = 0)
    (hX : Rd g8 w X l) (hn : X = none → c = 0) (hlen : l.length ≤ 140737488355328) (he : l.length = n) :
    Calls Try.prog 15 #[.agg (arr8 (vS P)), .int .i64 k, .agg #[.slice X n c, .bool s]] w fun e w' => ∃ a' n' c' x, e = .returned (.tuple #[.agg (arr8 (vS (upd P k ⟨a', n', c'⟩))), .bool true]) ∧ x.l = l ∧ x.s = s ∧ n' = L.length + 1 ∧
      RLane w' w.heap.size (.slice a' n' c') (L ++ [x]) ∧ Ow 5 g8 w' w.heap.size x.A x.l x.c ∧ Below w.heap.size w w' := by
  obtain ⟨hc, hz⟩ := box8 (putW_net w P X n c s) k hk
  have hb := putW_below w P X n c s
  obtain ⟨x0, x1, -⟩ := row2 (putW_item w P X n c s)
  have hsz := putW_size w P X n c s
  have HRES := Lib.hid (putW_res w P X n c s)
  have HNET := Lib.hid (putW_net w P X n c s)
  have HRD := Lib.hid (h.rd.below hb)
  have HX := Lib.hid (hX.below hb)
  have HLEN := Lib.hid hlen
  subst he
  have HL := Lib.hid hL
  have HF := Lib.hid hf
  have HX0 := Lib.hid x0
  have HX1 := Lib.hid x1
  have HCAP := Lib.hid hcap
  have HN := Lib.hid hn
  have h1 : ¬ ((k : Int) < 0) := by omega
  have h2 : ¬ (7 < (k : Int)) := by omega
  have h3 : ¬ (200 ≤ ((P k).n : Int)) := by omega
  clear h hX hlen hL hcap hn hf
  obtain ⟨W3, hW3⟩ : ∃ W3, putW w P X l.length c s = W3 := ⟨_, rfl⟩
  rw [hW3] at hc hz hb x0 x1 hsz HRES HNET HRD HX HX0 HX1
  have HNET0 := HNET
  have HRES0 := HRES
  unfold vS at hc
  have HB := Lib.hid hb
  have HSZ := Lib.hid hsz
  clear hb hsz
  simp only [putW, arr8, vS, zero8] at hW3 ⊢
  go_enter Try.func15, Try.ntmps15
  go_upto_region 1 with fail
  clear hW3
  have hc2 := (((Below.refl W3.heap.size W3).alloc (Nat.le_refl _) (.cells #[] 44)).cell (p := ⟨w.heap.size, k, none⟩) (by have := HSZ.out; show w.heap.size < _; omega)).trans hc
  go_wp2_with (at_builtin; refine copy_it rfl _ _ rfl _ rfl L (P k).n HL.out (P k).a (P k).c HRD.out rfl rfl HCAP.out (by omega) ?_)
  intro A4 c4 w4 hr4 hb4
  have HR4 := Lib.hid hr4
  have HB4 := Lib.hid hb4
  have HX4 := Lib.hid (HX.out.below hb4)
  have hlt := HSZ.out
  replace x0 := (hb4.cell (p := ⟨w.heap.size + 1, 0, none⟩) (by show w.heap.size + 1 < _; omega)).trans x0
  replace x1 := (hb4.cell (p := ⟨w.heap.size + 1, 1, none⟩) (by show w.heap.size + 1 < _; omega)).trans x1
  have hnet := (hb4.block w.heap.size (by omega)).trans HNET.out
  have hres := (hb4.block (w.heap.size + 1 + 1) (by omega)).trans HRES.out
  have HNET4 := Lib.hid hnet
  have HRES4 := Lib.hid hres
  clear hr4 hb4 hlt hnet hres hc hc2 hz HNET HRES HX
  have HBOX : Hid (∀ W, Below W3.heap.size W3 W → W.cell? ⟨w.heap.size + 1, 0, none⟩ = some (.slice X l.length c) ∧ W.cell? ⟨w.heap.size + 1, 1, none⟩ = some (.bool s)) := fun W hW => ⟨(hW.cell (p := ⟨w.heap.size + 1, 0, none⟩) (by have := HSZ.out; show w.heap.size + 1 < _; omega)).trans HX0.out, (hW.cell (p := ⟨w.heap.size + 1, 1, none⟩) (by have := HSZ.out; show w.heap.size + 1 < _; omega)).trans HX1.out⟩
  have HKC : Hid (∀ W, Below W3.heap.size W3 W → W.cell? ⟨w.heap.size, k, none⟩ = some (.slice (P k).a (P k).n (P k).c) ∧ W.frozen? ⟨w.heap.size, k, none⟩ = false ∧ W.heap[w.heap.size]? = some (.cells (arr8 (vS P)) 37 (0, 0)) ∧ W.heap[w.heap.size + 1 + 1]? = some (.cells zero8 37 (0, 0))) := fun W hW => by
    have q := (hW.block w.heap.size (by have := HSZ.out; omega)).trans HNET0.out
    obtain ⟨q1, q2⟩ := box8 q k hk
    exact ⟨q1, q2, q, (hW.block (w.heap.size + 1 + 1) (by have := HSZ.out; omega)).trans HRES0.out⟩
  have KB := HB4
  have KB4 := HB4
  go_wp2_with fail
  go_region_held_law (fun w' => w'.cell? ⟨w.heap.size + 1, 0, none⟩ = some (.slice X l.length c) ∧ w'.cell? ⟨w.heap.size + 1, 1, none⟩ = some (.bool s)) (first | go_keep | exact HBOX.out _ KB.out)
    (first
      | (refine step_copy8 (by rfl) _ _ (by rfl) _ (by rfl) l X c (HX4.out.below (Below.refl _ _).drew) (by rfl) (by rfl) HN.out HLEN.out ?_; intro A5 c5 w5 ho5 hb5; have HO5 := Lib.hid ho5; have K5 := Lib.hid (KB.out.trans (((Below.refl w4.heap.size w4).drew.trans hb5).mono KB.out.size)); have HR5 := Lib.hid (HR4.out.below ((Below.refl w4.heap.size w4).drew.trans hb5)); clear ho5 hb5 KB HX4; have KB := K5)
      | (refine step_app_it (by rfl) _ _ (by rfl) L [⟨A5, c5, l, s⟩] (P k).n 1 (HR5.out.below ((Below.refl _ _).alloc (Nat.le_refl _) _)) HL.out rfl (by rfl) (some ⟨w5.heap.size, 0, none⟩) 1 (RdI.one w5 ⟨A5, c5, l, s⟩) (by rfl) (by intro h; cases h) (by have := HF.out; omega) (K5.out.alloc K5.out.size _).size ?_; intro A6 c6 w6 hr6 hg6; have HR6 := Lib.hid hr6; have HG6 := Lib.hid hg6; have K6 := Lib.hid ((K5.out.alloc K5.out.size _).grown hg6 (K5.out.alloc K5.out.size _).size (fun q hq => (HR5.out.typed q hq).1)); clear hr6 hg6 KB; have KB := K6; obtain ⟨p6, z6, _⟩ := HKC.out _ K6.out))
  obtain ⟨-, -, q2, q3⟩ := HKC.out _ K6.out
  have hlt6 : w.heap.size + 1 + 1 + 1 ≤ w6.heap.size := by have := K6.out.size; have := HSZ.out; omega
  have hnet := row_set q2 k (.slice A6 ((P k).n + 1) c6)
  rw [arr8_set _ _ hk, vS_upd] at hnet
  have hres : (w6.setCell ⟨w.heap.size, k, none⟩ (.slice A6 ((P k).n + 1) c6)).heap[w.heap.size + 1 + 1]? = some (.cells zero8 37 (0, 0)) :=
    (((Upto.refl (fun j => j = w.heap.size) w6).setCell (p := ⟨w.heap.size, k, none⟩) rfl (.slice A6 ((P k).n + 1) c6)).block (w.heap.size + 1 + 1) (by omega) (by omega)).trans q3
  rw [zero8_arr] at hres
  obtain ⟨n0, n1, n2, n3, n4, n5, n6, n7⟩ := row8c hnet
  obtain ⟨r0, r1, r2, r3, r4, r5, r6, r7⟩ := row8c hres
  have rz := fun j => row_thawed hres j
  have hb4s := KB4.out.size
  have hb6s := K6.out.size
  have u0 := (Upto.refl (fun j => j = w.heap.size) w6).setCell (p := ⟨w.heap.size, k, none⟩) rfl (.slice A6 ((P k).n + 1) c6)
  have hL6 := HR6.out.upto u0 (fun q hq e => by have := (HR6.out.typed q hq).1; have := HSZ.out; omega)
  have hL6b : ∀ q, (Value.slice A6 ((P k).n + 1) c6).ownBlock = some q → W3.heap.size ≤ q := fun q hq => (HR6.out.typed q hq).1
  have hO6 := (HO5.out.below ((Below.refl _ _).alloc (Nat.le_refl _) (.cells #[.slice A5 l.length c5, .bool s] 44))).upto ((Upto.refl (fun j => (Value.slice A4 (P k).n c4).ownBlock = some j) _).grown HG6.out (fun j e _ => e)) (fun a e hq => by have q1 : w4.heap.size ≤ a.block := (HO5.out.lt a e).1; have q2 := (HR4.out.typed _ hq).2.1; omega)
  have hO6b : ∀ a, A5 = some a → W3.heap.size ≤ a.block := fun a e => by have q1 : w4.heap.size ≤ a.block := (HO5.out.lt a e).1; omega
  have hO7 := hO6.upto u0 (fun a e e2 => by have := hO6b a e; have := HSZ.out; omega)
  have hb7 := (HB.out.trans (K6.out.mono (by have := HSZ.out; omega))).setCell (p := ⟨w.heap.size, k, none⟩) (Nat.le_refl _) (.slice A6 ((P k).n + 1) c6)
  clear hO6 u0 hb4s hb6s
  generalize w6.setCell ⟨w.heap.size, k, none⟩ (.slice A6 ((P k).n + 1) c6) = w7 at *
  unfold vS at n0 n1 n2 n3 n4 n5 n6 n7
  generalize hP' : upd P k ⟨A6, (P k).n + 1, c6⟩ = P' at *
  have HP := Lib.hid hP'
  have HL6 := Lib.hid hL6
  have HL6B := Lib.hid hL6b
  have HO6B := Lib.hid hO6b
  have HO7 := Lib.hid hO7
  have HB7 := Lib.hid hb7
  have hU := ((((((((Upto.refl (fun j => j = w.heap.size + 1 + 1) w7).setCell (p := ⟨w.heap.size + 1 + 1, 0, none⟩) rfl (.slice (P' 0).a (P' 0).n (P' 0).c)).setCell (p := ⟨w.heap.size + 1 + 1, 1, none⟩) rfl (.slice (P' 1).a (P' 1).n (P' 1).c)).setCell (p := ⟨w.heap.size + 1 + 1, 2, none⟩) rfl (.slice (P' 2).a (P' 2).n (P' 2).c)).setCell (p := ⟨w.heap.size + 1 + 1, 3, none⟩) rfl (.slice (P' 3).a (P' 3).n (P' 3).c)).setCell (p := ⟨w.heap.size + 1 + 1, 4, none⟩) rfl (.slice (P' 4).a (P' 4).n (P' 4).c)).setCell (p := ⟨w.heap.size + 1 + 1, 5, none⟩) rfl (.slice (P' 5).a (P' 5).n (P' 5).c)).setCell (p := ⟨w.heap.size + 1 + 1, 6, none⟩) rfl (.slice (P' 6).a (P' 6).n (P' 6).c)).setCell (p := ⟨w.heap.size + 1 + 1, 7, none⟩) rfl (.slice (P' 7).a (P' 7).n (P' 7).c)
  have HU := Lib.hid hU
  have hb8 := hU.below (B := w.heap.size) hb7.size (fun k hk e => by omega)
  have HB8 := Lib.hid (hb7.trans hb8)
  clear hL6 hnet hres q2 q3 p6 z6 hP' hL6b hO6b hO7 hb7 hU hb8
  go_wp2_with fail
  refine bodyPost_ret (by simp [results, Try.results15, go_sem, r0, r1, r2, r3, r4, r5, r6, r7]; try rfl) rfl ?_
  refine ⟨A6, (P k).n + 1, c6, ⟨A5, c5, l, s⟩, by rw [HP.out], rfl, rfl, by rw [HL.out], ?_, ?_, HB8.out⟩
  · exact (HL6.out.upto HU.out (fun q hq e => by have := HL6B.out q hq; have := HSZ.out; omega)).low (by have := HSZ.out; omega)
  · exact (HO7.out.upto HU.out (fun a e e2 => by have := HO6B.out a e; have := HSZ.out; omega)).low (by have := KB4.out.size; have := HSZ.out; show w.heap.size ≤ w4.drew.heap.size; show w.heap.size ≤ w4.heap.size; omega)

end Go.Proofs.Yteoafaofiohefaa
