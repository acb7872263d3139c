import Derived.Test.YteabhokkiggcjaaDropsA
import Derived.Deep.RegionHeldLaw
namespace Go.Proofs.Yteabhokkiggcjaa
open Go.RowKit

set_option maxRecDepth 1000000 in
set_option maxHeartbeats 16000000 in
theorem drops_main (A : Option Addr) (l : List UInt8) (c : Nat) (a b d : Int) (w : World) (h : Rd g8 w A l) (hn : A = none → c = 0) (hc : l.length ≤ c) (h1 : ¬ 5000 < (l.length : Int)) (h2 : 0 ≤ a) (h3 : 0 ≤ b) (h4 : ¬ (l.length : Int) < a) (h5 : ¬ (l.length : Int) - a < b) (h6 : ¬ d < a) (h7 : ¬ (l.length : Int) < d) :
    Calls Try.prog 7 #[.slice A l.length c, .agg #[.int .i64 a, .int .i64 b], .int .i64 d] w fun e w' => e = .returned (.bool true) ∧ Below w.heap.size w w' := by
  have H := Lib.hid h
  have HN := Lib.hid hn
  have hwb : Below w.heap.size w (w.alloc (.cells #[.int .i64 a, .int .i64 b] 29)) := (Below.refl _ _).alloc (Nat.le_refl _) _
  have hbx := heap_alloc_new w (.cells #[.int .i64 a, .int .i64 b] 29)
  have HWB := Lib.hid hwb
  have HBX := Lib.hid hbx
  clear hwb hbx h hn
  go_enter Try.func7, Try.ntmps7
  go_wp2_with fail
  have hs0 : (w.alloc (.cells #[.int .i64 a, .int .i64 b] 29)).heap.size = w.heap.size + 1 := by simp
  generalize w.alloc (.cells #[.int .i64 a, .int .i64 b] 29) = w0 at *
  have HS0 := Lib.hid hs0
  clear hs0
  have hbox : ∀ w', Below w0.heap.size w0 w' → w'.cell? ⟨w.heap.size, 0, none⟩ = some (.int .i64 a) ∧ w'.cell? ⟨w.heap.size, 1, none⟩ = some (.int .i64 b) := fun w' hw => by
    have hr := (hw.block w.heap.size (by have := HS0.out; omega)).trans HBX.out
    exact ⟨(cell_of_row w' w.heap.size 0 _ _ _ hr).trans rfl, (cell_of_row w' w.heap.size 1 _ _ _ hr).trans rfl⟩
  have HBOX := Lib.hid hbox
  clear hbox
  refine (alive_c _).mono ?_; rintro e w1 ⟨rfl, hb1⟩
  have HB1 := Lib.hid hb1
  obtain ⟨x0, x1⟩ := HBOX.out w1 hb1
  clear hb1
  obtain ⟨na, rfl⟩ := Int.eq_ofNat_of_zero_le h2
  obtain ⟨nb, rfl⟩ := Int.eq_ofNat_of_zero_le h3
  obtain ⟨nd, rfl⟩ := Int.eq_ofNat_of_zero_le (show 0 ≤ d by omega)
  have q1 : na ≤ l.length := by omega
  have q2 : nb ≤ l.length - na := by omega
  have q3 : na ≤ nd := by omega
  have q4 : nd ≤ l.length := by omega
  have q5 : l.length ≤ 5000 := by omega
  go_wp2_with fail
  have hrr : ((max 0 (min (20000 : Int) 20000)).toNat) = 20000 := by decide
  have HRR := Lib.hid hrr
  have HS1 := Lib.hid HB1.out.size
  clear hrr x0 x1
  (with_reducible refine (new_c w1 20000 (by decide) (by decide)).mono ?_); rintro e w2 ⟨rfl, ht2, hb2⟩
  rw [HRR.out] at ht2
  have HT2 := Lib.hid ht2
  have HB2 := Lib.hid (HB1.out.trans (hb2.mono HB1.out.size))
  have hz2 : w1.heap.size < w2.heap.size := ht2.lt
  have HZ2 := Lib.hid hz2
  clear ht2 hb2 hz2
  go_wp2_with fail
  (with_reducible refine (new_c w2 20000 (by decide) (by decide)).mono ?_); rintro e w3 ⟨rfl, ht3, hb3⟩
  rw [HRR.out] at ht3
  have HT3 := Lib.hid ht3
  have HT23 := Lib.hid (HT2.out.below hb3)
  have HB3 := Lib.hid (HB2.out.trans (hb3.mono HB2.out.size))
  have hz3 : w2.heap.size < w3.heap.size := ht3.lt
  have HZ3 := Lib.hid hz3
  clear ht3 hb3 hz3
  go_wp2_with fail
  (with_reducible refine (new_c w3 20000 (by decide) (by decide)).mono ?_); rintro e w4 ⟨rfl, ht4, hb4⟩
  rw [HRR.out] at ht4
  have hst : St w1.heap.size w2.heap.size w3.heap.size l w4 0 := ⟨none, none, none, HT23.out.below hb4, HT3.out.below hb4, ht4, by simp, by simp, by simp⟩
  have HST := Lib.hid hst
  have HB4 := Lib.hid (HB3.out.trans (hb4.mono HB3.out.size))
  have HV4 := Lib.hid ht4.lt
  have HT0 := Lib.hid HB1.out.size
  clear ht4 hb4 hst HT2 HT3 HT23
  generalize hT : w1.heap.size = T at *
  generalize hU : w2.heap.size = U at *
  generalize hV : w3.heap.size = V at *
  clear hT hU hV
  go_wp2_with fail
  go_loopw [63] (fun i wr => ∃ k : Nat, k ≤ 3 ∧ i = .int .i64 k ∧ Hid (V < wr.heap.size) ∧ Hid (St T U V l wr k) ∧ Hid (Below w0.heap.size w0 wr)) (fun i _ => 3 - (intOf i).toNat)
  case atStart => exact ⟨0, Nat.zero_le _, rfl, HV4, HST, HB4⟩
  case round =>
    obtain ⟨k, hk, rfl, hv, hst, hb⟩ := hrel
    have HRW := Lib.hid (H.out.below (HWB.out.trans (hb.out.mono (by have := HS0.out; omega))))
    have hTV : Hid (T < U ∧ U < V) := ⟨HZ2.out, HZ3.out⟩
    obtain rfl | rfl | rfl | rfl : k = 0 ∨ k = 1 ∨ k = 2 ∨ k = 3 := by omega
    · obtain ⟨fb, gb, hb1, ht, hu, hw, ⟨s1, s2⟩, ⟨s3, s4⟩, ⟨s5, s6⟩⟩ := hst.out
      replace ht : TapeAt wr T T [] [] 20000 fb none := ht
      replace hu : TapeAt wr U U [] [] 20000 gb none := hu
      replace hw : TapeAt wr V V [] [] 20000 hb1 none := hw
      have S1 := Lib.hid s1
      have S2 := Lib.hid s2
      have S3 := Lib.hid s3
      have S4 := Lib.hid s4
      have S5 := Lib.hid s5
      have S6 := Lib.hid s6
      clear s1 s2 s3 s4 s5 s6 hst
      have hix := fun W => idx0 W (some ⟨T, 0, none⟩) (some ⟨U, 0, none⟩) (some ⟨V, 0, none⟩)
      go_wp2_with (at_builtin; refine copy8 rfl _ _ rfl _ rfl l A c HRW.out rfl rfl HN.out (by omega) ?_)
      intro A5 c5 w5 ho5 hb5
      have HO5 := Lib.hid ho5
      have HB5 := Lib.hid (hb.out.trans (hb5.mono hb.out.size))
      have HT5 := Lib.hid (ht.below hb5)
      have HU5 := Lib.hid (hu.below hb5)
      have HW5 := Lib.hid (hw.below hb5)
      have HV5 : Hid (V < w5.heap.size) := Nat.lt_of_lt_of_le hv.out hb5.size
      clear ho5 hb5 ht hu hw
      go_wp2_with fail
      (with_reducible refine (append_ok T w5 T [] [] 20000 fb none HT5.out A5 l c5 HO5.out.rd HO5.out.nil_cap (by omega) (by simp; omega)).mono ?_)
      rintro e w6 ⟨rfl, lb6, ht6, hn6, hu6⟩
      have HT6 := Lib.hid ht6
      have HN6 := Lib.hid hn6
      have HU6 := Lib.hid hu6
      clear ht6 hn6 hu6
      go_wp2_with fail
      (with_reducible refine (sync_c T w6 T [] _ 20000 fb lb6 HT6.out).mono ?_)
      rintro e w7 ⟨rfl, fb7, ht7, hf7, hu7⟩
      have h57 := put_sync HN6.out HU6.out hu7 hf7
      simp only [List.nil_append] at ht7
      have HT7 := Lib.hid ht7
      have HU7 := Lib.hid h57.1
      have HF7 := Lib.hid h57.2
      have HB7 := Lib.hid (HB5.out.trans (h57.1.below (B := w0.heap.size) (by have := HV5.out; have := HT0.out; have := hTV.out; omega) (fun k hk e => by have := HT0.out; have := hTV.out; omega)))
      have HV7 : Hid (V < w7.heap.size) := Nat.lt_of_lt_of_le HV5.out h57.1.size
      clear ht7 hf7 hu7 h57
      go_wp2_with fail
      go_roundw
      case rel => exact ⟨1, by omega, rfl, HV7, ⟨fb7, gb, hb1, HT7.out, HU5.out.far HU7.out (by have := hTV.out; omega) S3.out, HW5.out.far HU7.out (by have := hTV.out; omega) S5.out, ⟨new_far HF7.out (by have := HV5.out; have := hTV.out; omega), new_far HF7.out (by have := HV5.out; have := hTV.out; omega)⟩, ⟨S3.out, S4.out⟩, ⟨S5.out, S6.out⟩⟩, HB7⟩
      case measure => simp [intOf]
    · obtain ⟨fb, gb, hb1, ht, hu, hw, ⟨s1, s2⟩, ⟨s3, s4⟩, ⟨s5, s6⟩⟩ := hst.out
      replace ht : TapeAt wr T T l [] 20000 fb none := ht
      replace hu : TapeAt wr U U [] [] 20000 gb none := hu
      replace hw : TapeAt wr V V [] [] 20000 hb1 none := hw
      have S1 := Lib.hid s1
      have S2 := Lib.hid s2
      have S3 := Lib.hid s3
      have S4 := Lib.hid s4
      have S5 := Lib.hid s5
      have S6 := Lib.hid s6
      clear s1 s2 s3 s4 s5 s6 hst
      have hix := fun W => idx1 W (some ⟨T, 0, none⟩) (some ⟨U, 0, none⟩) (some ⟨V, 0, none⟩)
      go_wp2_with (at_builtin; refine copy8 rfl _ _ rfl _ rfl l A c HRW.out rfl rfl HN.out (by omega) ?_)
      intro A5 c5 w5 ho5 hb5
      have HO5 := Lib.hid ho5
      have HB5 := Lib.hid (hb.out.trans (hb5.mono hb.out.size))
      have HT5 := Lib.hid (ht.below hb5)
      have HU5 := Lib.hid (hu.below hb5)
      have HW5 := Lib.hid (hw.below hb5)
      have HV5 : Hid (V < w5.heap.size) := Nat.lt_of_lt_of_le hv.out hb5.size
      clear ho5 hb5 ht hu hw
      go_wp2_with fail
      (with_reducible refine (append_ok U w5 U [] [] 20000 gb none HU5.out A5 l c5 HO5.out.rd HO5.out.nil_cap (by omega) (by simp; omega)).mono ?_)
      rintro e w6 ⟨rfl, lb6, ht6, hn6, hu6⟩
      have HT6 := Lib.hid ht6
      have HN6 := Lib.hid hn6
      have HU6 := Lib.hid hu6
      clear ht6 hn6 hu6
      go_wp2_with fail
      (with_reducible refine (sync_c U w6 U [] _ 20000 gb lb6 HT6.out).mono ?_)
      rintro e w7 ⟨rfl, fb7, ht7, hf7, hu7⟩
      have h57 := put_sync HN6.out HU6.out hu7 hf7
      simp only [List.nil_append] at ht7
      have HT7 := Lib.hid ht7
      have HU7 := Lib.hid h57.1
      have HF7 := Lib.hid h57.2
      have HB7 := Lib.hid (HB5.out.trans (h57.1.below (B := w0.heap.size) (by have := HV5.out; have := HT0.out; have := hTV.out; omega) (fun k hk e => by have := HT0.out; have := hTV.out; omega)))
      have HV7 : Hid (V < w7.heap.size) := Nat.lt_of_lt_of_le HV5.out h57.1.size
      clear ht7 hf7 hu7 h57
      go_wp2_with fail
      go_roundw
      case rel => exact ⟨2, by omega, rfl, HV7, ⟨fb, fb7, hb1, HT5.out.far HU7.out (by have := hTV.out; omega) S1.out, HT7.out, HW5.out.far HU7.out (by have := hTV.out; omega) S6.out, ⟨S1.out, S2.out⟩, ⟨new_far HF7.out (by have := HV5.out; have := hTV.out; omega), new_far HF7.out (by have := HV5.out; have := hTV.out; omega)⟩, ⟨S5.out, S6.out⟩⟩, HB7⟩
      case measure => simp [intOf]
    · obtain ⟨fb, gb, hb1, ht, hu, hw, ⟨s1, s2⟩, ⟨s3, s4⟩, ⟨s5, s6⟩⟩ := hst.out
      replace ht : TapeAt wr T T l [] 20000 fb none := ht
      replace hu : TapeAt wr U U l [] 20000 gb none := hu
      replace hw : TapeAt wr V V [] [] 20000 hb1 none := hw
      have S1 := Lib.hid s1
      have S2 := Lib.hid s2
      have S3 := Lib.hid s3
      have S4 := Lib.hid s4
      have S5 := Lib.hid s5
      have S6 := Lib.hid s6
      clear s1 s2 s3 s4 s5 s6 hst
      have hix := fun W => idx2 W (some ⟨T, 0, none⟩) (some ⟨U, 0, none⟩) (some ⟨V, 0, none⟩)
      go_wp2_with (at_builtin; refine copy8 rfl _ _ rfl _ rfl l A c HRW.out rfl rfl HN.out (by omega) ?_)
      intro A5 c5 w5 ho5 hb5
      have HO5 := Lib.hid ho5
      have HB5 := Lib.hid (hb.out.trans (hb5.mono hb.out.size))
      have HT5 := Lib.hid (ht.below hb5)
      have HU5 := Lib.hid (hu.below hb5)
      have HW5 := Lib.hid (hw.below hb5)
      have HV5 : Hid (V < w5.heap.size) := Nat.lt_of_lt_of_le hv.out hb5.size
      clear ho5 hb5 ht hu hw
      go_wp2_with fail
      (with_reducible refine (append_ok V w5 V [] [] 20000 hb1 none HW5.out A5 l c5 HO5.out.rd HO5.out.nil_cap (by omega) (by simp; omega)).mono ?_)
      rintro e w6 ⟨rfl, lb6, ht6, hn6, hu6⟩
      have HT6 := Lib.hid ht6
      have HN6 := Lib.hid hn6
      have HU6 := Lib.hid hu6
      clear ht6 hn6 hu6
      go_wp2_with fail
      (with_reducible refine (sync_c V w6 V [] _ 20000 hb1 lb6 HT6.out).mono ?_)
      rintro e w7 ⟨rfl, fb7, ht7, hf7, hu7⟩
      have h57 := put_sync HN6.out HU6.out hu7 hf7
      simp only [List.nil_append] at ht7
      have HT7 := Lib.hid ht7
      have HU7 := Lib.hid h57.1
      have HF7 := Lib.hid h57.2
      have HB7 := Lib.hid (HB5.out.trans (h57.1.below (B := w0.heap.size) (by have := HV5.out; have := HT0.out; have := hTV.out; omega) (fun k hk e => by have := HT0.out; have := hTV.out; omega)))
      have HV7 : Hid (V < w7.heap.size) := Nat.lt_of_lt_of_le HV5.out h57.1.size
      clear ht7 hf7 hu7 h57
      go_wp2_with fail
      go_roundw
      case rel => exact ⟨3, by omega, rfl, HV7, ⟨fb, gb, fb7, HT5.out.far HU7.out (by have := hTV.out; omega) S2.out, HU5.out.far HU7.out (by have := hTV.out; omega) S4.out, HT7.out, ⟨S1.out, S2.out⟩, ⟨S3.out, S4.out⟩, ⟨new_far HF7.out (by have := HV5.out; have := hTV.out; omega), new_far HF7.out (by have := HV5.out; have := hTV.out; omega)⟩⟩, HB7⟩
      case measure => simp [intOf]
    · obtain ⟨fb, gb, hb1, ht, hu, hw, ⟨s1, s2⟩, ⟨s3, s4⟩, ⟨s5, s6⟩⟩ := hst.out
      replace ht : TapeAt wr T T l [] 20000 fb none := ht
      replace hu : TapeAt wr U U l [] 20000 gb none := hu
      replace hw : TapeAt wr V V l [] 20000 hb1 none := hw
      have S1 := Lib.hid s1
      have S2 := Lib.hid s2
      have S3 := Lib.hid s3
      have S4 := Lib.hid s4
      have S5 := Lib.hid s5
      have S6 := Lib.hid s6
      have HT := Lib.hid ht
      have HU := Lib.hid hu
      have HW := Lib.hid hw
      have KB := Lib.hid hb.out.drew
      obtain ⟨x0, x1⟩ := HBOX.out wr hb.out
      have hwadd : IntKind.i64.wrap ((na : Int) + (nb : Int)) = (na : Int) + (nb : Int) := by rw [IntKind.wrap_i64]; omega
      have hdd : (l.drop na).drop nb = l.drop (na + nb) := by rw [List.drop_drop]
      have HDD := Lib.hid hdd
      have HLB : Hid (V < wr.heap.size) := hv
      clear s1 s2 s3 s4 s5 s6 hst ht hu hw hb hdd hv
      go_wp2_with fail
      go_region_held_law (fun w' => w'.cell? ⟨w.heap.size, 0, none⟩ = some (.int .i64 (na : Int)) ∧ w'.cell? ⟨w.heap.size, 1, none⟩ = some (.int .i64 (nb : Int))) (first | go_keep | exact HBOX.out _ KB.out)
        (first
          | (go_at_call 15; (with_reducible refine (drop_yes T _ T l [] 20000 fb none HT.out.drew na q1).mono ?_); rintro e w5 ⟨rfl, fb5, ht5, hf5, hu5⟩; have HT5 := Lib.hid ht5; have HU5 := Lib.hid ((HU.out.drew).far (hu5.mono own_t) (by have := hTV.out; omega) S3.out); have HW5 := Lib.hid ((HW.out.drew).far (hu5.mono own_t) (by have := hTV.out; omega) S5.out); have K5 := Lib.hid (tape_below KB.out (hu5.mono own_t) HT0.out); have F5 := Lib.hid (new_far hf5 (show U < wr.drew.heap.size from Nat.lt_trans hTV.out.2 HLB.out)); have F5V := Lib.hid (new_far hf5 (show V < wr.drew.heap.size from HLB.out)); have L5 : Hid (V < w5.heap.size) := Nat.lt_of_lt_of_le HLB.out hu5.size; clear HT HU HW KB ht5 hf5 hu5; have KB := K5)
          | (go_at_call 15; (with_reducible refine (drop_yes T _ T (l.drop na) [] 20000 fb5 none HT5.out nb (by simp; omega)).mono ?_); rintro e w6 ⟨rfl, fb6, ht6, hf6, hu6⟩; have HT6 := Lib.hid ht6; have HU6 := Lib.hid (HU5.out.far (hu6.mono own_t) (by have := hTV.out; omega) S3.out); have HW6 := Lib.hid (HW5.out.far (hu6.mono own_t) (by have := hTV.out; omega) S5.out); have K6 := Lib.hid (tape_below KB.out (hu6.mono own_t) HT0.out); have F6 := Lib.hid (new_far hf6 (Nat.lt_trans hTV.out.2 L5.out)); have F6V := Lib.hid (new_far hf6 L5.out); have L6 : Hid (V < w6.heap.size) := Nat.lt_of_lt_of_le L5.out hu6.size; clear HT5 HU5 HW5 KB ht6 hf6 hu6; have KB := K6)
          | (go_at_call 15; (with_reducible refine (drop_yes_i U _ U l [] 20000 gb none HU6.out (na + nb) ((na : Int) + (nb : Int)) (by omega) (by omega)).mono ?_); rintro e w7 ⟨rfl, fb7, ht7, hf7, hu7⟩; have HU7 := Lib.hid ht7; have HT7 := Lib.hid (HT6.out.far (hu7.mono own_t) (by have := hTV.out; omega) F6.out); have HW7 := Lib.hid (HW6.out.far (hu7.mono own_t) (by have := hTV.out; omega) S6.out); have K7 := Lib.hid (tape_below KB.out (hu7.mono own_t) (by have := hTV.out; have := HT0.out; omega)); have L7 : Hid (V < w7.heap.size) := Nat.lt_of_lt_of_le L6.out hu7.size; clear HT6 HU6 HW6 KB ht7 hf7 hu7; have KB := K7)
          | (go_at_call 13; (with_reducible refine (bytes_c T _ T ((l.drop na).drop nb) [] 20000 fb6 none HT7.out).mono ?_); rw [List.append_nil, HDD.out]; rintro e w8 ⟨A8, c8, rfl, ho8, hb8⟩; have HO8 := Lib.hid ho8; have HU8 := Lib.hid (HU7.out.below hb8); have HW8 := Lib.hid (HW7.out.below hb8); have K8 := Lib.hid (KB.out.trans (hb8.mono KB.out.size)); have y8 := str8 (n := l.length - (na + nb)) (c := c8) ho8.rd (by simp); have L8 : Hid (V < w8.heap.size) := Nat.lt_of_lt_of_le L7.out hb8.size; clear HT7 HU7 HW7 KB ho8 hb8; have KB := K8)
          | (go_at_call 13; (with_reducible refine (bytes_c U _ U (l.drop (na + nb)) [] 20000 fb7 none HU8.out).mono ?_); rw [List.append_nil]; rintro e w9 ⟨A9, c9, rfl, ho9, hb9⟩; have HW9 := Lib.hid (HW8.out.below hb9); have K9 := Lib.hid (KB.out.trans (hb9.mono KB.out.size)); have y9 := str8 (n := l.length - (na + nb)) (c := c9) ho9.rd (by simp); have z9 := str8 (n := l.length - (na + nb)) (c := c8) (HO8.out.below hb9).rd (by simp); have L9 : Hid (V < w9.heap.size) := Nat.lt_of_lt_of_le L8.out hb9.size; clear HU8 HW8 KB ho9 hb9; have KB := K9))
      all_goals
        go_wp2_with fail
        (with_reducible refine (cut_c V w9 V l [] 20000 hb1 none HW9.out nd (by omega) (by omega)).mono ?_)
        rintro e w10 ⟨rfl, ht10, hu10⟩
        simp only [Int.toNat_natCast, List.take_nil] at ht10
        have HW10 := Lib.hid ht10
        have K10 := Lib.hid (tape_below KB.out (hu10.mono own_t) (by have := hTV.out; have := HT0.out; omega)).drew
        obtain ⟨x0, x1⟩ := HBOX.out w10 (tape_below KB.out (hu10.mono own_t) (by have := hTV.out; have := HT0.out; omega))
        have hmid := fun W => run_mid W A l.length c na nd q3 (by omega)
        have hwsub : IntKind.i64.wrap ((nd : Int) - (na : Int)) = (nd : Int) - (na : Int) := by rw [IntKind.wrap_i64]; omega
        have hgl : ((l.take nd).drop na).length = nd - na := by simp; omega
        have HGL := Lib.hid hgl
        have hcast : ((nd - na : Nat) : Int) = (nd : Int) - (na : Int) := by omega
        have HCA := Lib.hid hcast
        have hna : na ≤ (l.take nd).length := by simp; omega
        have HNA := Lib.hid hna
        have HBM := Lib.hid (H.out.mid na nd hc)
        have HKW : Hid (∀ w', Below w0.heap.size w0 w' → Below w.heap.size w w') := fun w' h => HWB.out.trans (h.mono (by have := HS0.out; omega))
        clear ht10 hu10 KB y8 y9 z9 hgl hcast hna
        go_wp2_with fail
        go_region_held_law (fun w' => w'.cell? ⟨w.heap.size, 0, none⟩ = some (.int .i64 (na : Int)) ∧ w'.cell? ⟨w.heap.size, 1, none⟩ = some (.int .i64 (nb : Int))) (first | go_keep | exact HBOX.out _ KC.out)
          (first
            | (go_at_call 15; (with_reducible refine (drop_yes V _ V (l.take nd) [] 20000 hb1 none HW10.out.drew na HNA.out).mono ?_); rintro e w11 ⟨rfl, fb11, ht11, hf11, hu11⟩; have HW11 := Lib.hid ht11; have K11 := Lib.hid (tape_below K10.out (hu11.mono own_t) (by have := hTV.out; have := HT0.out; omega)); have zb := str8 (w := w11) (n := nd - na) (c := c - na) (HBM.out.below (HKW.out w11 K11.out)) HGL.out; clear HW10 K10 ht11 hf11 hu11; have KC := K11)
            | (go_at_call 13; (with_reducible refine (bytes_c V _ V ((l.take nd).drop na) [] 20000 fb11 none HW11.out).mono ?_); rw [List.append_nil, HGL.out]; rintro e w12 ⟨A12, c12, rfl, ho12, hb12⟩; have HW12 := Lib.hid (HW11.out.below hb12); have K12 := Lib.hid (KC.out.trans (hb12.mono KC.out.size)); have zb2 := str8 (w := w12) (n := nd - na) (c := c - na) (HBM.out.below (HKW.out w12 K12.out)) HGL.out; have y12 := str8 (n := nd - na) (c := c12) ho12.rd HGL.out; clear HW11 KC ho12 hb12; have KC := K12)
            | (go_at_call 14; (with_reducible refine (safe_c V _ V ((l.take nd).drop na) [] 20000 fb11 none HW12.out).mono ?_); rw [HGL.out, HCA.out]; rintro e w' ⟨rfl, rfl⟩))
        all_goals
          go_wp2_with fail
          go_ret
          exact ⟨ret_bool (by first | rfl | simp), HKW.out _ KC.out⟩

theorem drops_c (A : Option Addr) (l : List UInt8) (c : Nat) (a b d : Int) (w : World) (h : Rd g8 w A l) (hn : A = none → c = 0) (hc : l.length ≤ c) :
    Calls Try.prog 7 #[.slice A l.length c, .agg #[.int .i64 a, .int .i64 b], .int .i64 d] w fun e w' => e = .returned (.bool true) ∧ Below w.heap.size w w' := by
  have hcase : (5000 < (l.length : Int)) ∨ (¬ 5000 < (l.length : Int) ∧ a < 0) ∨ (¬ 5000 < (l.length : Int) ∧ ¬ a < 0 ∧ b < 0) ∨ (¬ 5000 < (l.length : Int) ∧ ¬ a < 0 ∧ ¬ b < 0 ∧ (l.length : Int) < a) ∨ (¬ 5000 < (l.length : Int) ∧ 0 ≤ a ∧ ¬ b < 0 ∧ ¬ (l.length : Int) < a ∧ (l.length : Int) - a < b) ∨
    (¬ 5000 < (l.length : Int) ∧ 0 ≤ a ∧ ¬ b < 0 ∧ ¬ (l.length : Int) < a ∧ ¬ (l.length : Int) - a < b ∧ d < a) ∨ (¬ 5000 < (l.length : Int) ∧ 0 ≤ a ∧ ¬ b < 0 ∧ ¬ (l.length : Int) < a ∧ ¬ (l.length : Int) - a < b ∧ ¬ d < a ∧ (l.length : Int) < d) ∨
    (¬ 5000 < (l.length : Int) ∧ 0 ≤ a ∧ 0 ≤ b ∧ ¬ (l.length : Int) < a ∧ ¬ (l.length : Int) - a < b ∧ ¬ d < a ∧ ¬ (l.length : Int) < d) := by omega
  rcases hcase with h1 | h1 | h1 | h1 | h1 | h1 | h1 | ⟨h1, h2, h3, h4, h5, h6, h7⟩
  · exact drops_early A l c a b d w (.inl h1)
  · exact drops_early A l c a b d w (.inr (.inl h1))
  · exact drops_early A l c a b d w (.inr (.inr (.inl h1)))
  · exact drops_early A l c a b d w (.inr (.inr (.inr (.inl h1))))
  · exact drops_early A l c a b d w (.inr (.inr (.inr (.inr (.inl h1)))))
  · exact drops_early A l c a b d w (.inr (.inr (.inr (.inr (.inr (.inl h1))))))
  · exact drops_early A l c a b d w (.inr (.inr (.inr (.inr (.inr (.inr h1))))))
  · exact drops_main A l c a b d w h hn hc h1 h2 h3 h4 h5 h6 h7

end Go.Proofs.Yteabhokkiggcjaa
