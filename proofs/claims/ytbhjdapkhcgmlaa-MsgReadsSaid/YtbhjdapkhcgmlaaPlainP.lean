import Derived.Test.YtbhjdapkhcgmlaaTakeP

set_option linter.unusedSimpArgs false
set_option linter.unusedVariables false
set_option linter.unnecessarySimpa false

namespace Go.Proofs.Ytbhjdapkhcgmlaa
open Go.RowKit

/-! Plain laws: numbers there and back. -/

theorem getN_cons (x : UInt8) (l : List UInt8) : getN (x :: l) = x.toNat * 256 ^ l.length + getN l := by
  have key : ∀ (l : List UInt8) (a : Nat), l.foldl (fun n x => 256 * n + x.toNat) a = a * 256 ^ l.length + getN l := by
    intro l
    induction l with
    | nil => intro a; simp [getN]
    | cons y l ih =>
      intro a
      rw [List.foldl_cons, ih]
      have h2 : getN (y :: l) = (0 * 256 + y.toNat) * 256 ^ l.length + getN l := by
        show (y :: l).foldl (fun n x => 256 * n + x.toNat) 0 = _
        rw [List.foldl_cons, ih]
      rw [h2, List.length_cons, Nat.pow_succ]
      simp only [Nat.add_mul, Nat.mul_assoc, Nat.zero_mul, Nat.zero_add]
      rw [Nat.mul_comm (256 ^ l.length) 256, ← Nat.mul_assoc 256 a, Nat.mul_comm 256 a]
      simp only [Nat.mul_assoc]
      try omega
  show (x :: l).foldl (fun n x => 256 * n + x.toNat) 0 = _
  rw [List.foldl_cons, key]; simp

theorem getN_putB (n : Nat) : ∀ k, getN (putB n k) = n % 2 ^ (8 * k)
  | 0 => by simp [putB, getN, Nat.mod_one]
  | k + 1 => by
    show getN (UInt8.ofNat (n / 2 ^ (8 * k)) :: putB n k) = _
    rw [getN_cons, putB_length, getN_putB n k, UInt8.toNat_ofNat']
    have e : (256 : Nat) ^ k = 2 ^ (8 * k) := by rw [Nat.pow_mul]
    rw [e, show 8 * (k + 1) = 8 * k + 8 from by omega, Nat.pow_add]
    have := Nat.mod_mul (x := n) (a := 2 ^ (8 * k)) (b := 2 ^ 8)
    rw [this, Nat.mul_comm]
    omega

theorem okN_append (a b : List Int) : okN (a ++ b) = (okN a && okN b) := by unfold okN; simp
theorem numsB_append (a b : List Int) : numsB (a ++ b) = numsB a ++ numsB b := by unfold numsB; simp
theorem okN_mem {l : List Int} (h : okN l = true) {n : Int} (hn : n ∈ l) : 0 ≤ n ∧ n ≤ 16777215 := by
  unfold okN at h
  rw [List.all_eq_true] at h
  have := h n hn
  simpa using this

/-- The k-th number's three bytes. -/
theorem nums_at : ∀ (l : List Int) (r : List UInt8) (k : Nat) (n : Int), l[k]? = some n → ((numsB l ++ r).take (3 * k + 3)).drop (3 * k) = putB n.toNat 3
  | [], _, k, n, h => by simp at h
  | x :: l, r, 0, n, h => by
    simp at h; subst h
    have : numsB (x :: l) = putB x.toNat 3 ++ numsB l := by unfold numsB; simp
    rw [this]
    simp [putB]
  | x :: l, r, k + 1, n, h => by
    have e : numsB (x :: l) = putB x.toNat 3 ++ numsB l := by unfold numsB; simp
    have ih := nums_at l r k n (by simpa using h)
    rw [e, List.append_assoc, show 3 * (k + 1) + 3 = 3 + (3 * k + 3) from by omega, show 3 * (k + 1) = 3 + 3 * k from by omega]
    have hp : (putB x.toNat 3).length = 3 := putB_length _ _
    rw [List.take_append, hp, show 3 + (3 * k + 3) - 3 = 3 * k + 3 from by omega, List.take_of_length_le (by omega), List.drop_append, hp, show 3 + 3 * k - 3 = 3 * k from by omega, List.drop_eq_nil_of_le (by omega), List.nil_append]
    exact ih

theorem ints3_nums (l : List Int) (r : List UInt8) (h : okN l = true) : ints3 (numsB l ++ r) l.length = l := by
  apply List.ext_getElem?
  intro k
  unfold ints3
  rw [List.getElem?_map]
  by_cases hk : k < l.length
  · obtain ⟨n, hn⟩ := get_some l k hk
    rw [List.getElem?_range hk, hn, Option.map_some, nums_at l r k n hn, getN_putB]
    have := okN_mem h (List.mem_of_getElem? hn)
    congr 1
    omega
  · rw [List.getElem?_eq_none (by simp; omega), List.getElem?_eq_none (by omega)]; rfl

theorem drop_nums (l : List Int) (r : List UInt8) : (numsB l ++ r).drop (3 * l.length) = r := by
  rw [List.drop_append, numsB_length, Nat.sub_self, List.drop_eq_nil_of_le (by rw [numsB_length]; omega)]; rfl

theorem putB_getN (x y z : UInt8) : putB (getN [x, y, z]) 3 = [x, y, z] := by
  have hx := UInt8.toNat_lt x
  have hy := UInt8.toNat_lt y
  have hz := UInt8.toNat_lt z
  rw [put3]
  have e : getN [x, y, z] = 65536 * x.toNat + 256 * y.toNat + z.toNat := by simp [getN]; omega
  rw [e]
  have h1 : (65536 * x.toNat + 256 * y.toNat + z.toNat) / 65536 = x.toNat := by omega
  rw [h1]
  congr 1
  · simp
  · congr 1
    · apply UInt8.toNat_inj.1; rw [UInt8.toNat_ofNat']; omega
    · congr 1
      apply UInt8.toNat_inj.1; rw [UInt8.toNat_ofNat']; omega

/-- What is read is just what would be written. -/
theorem nums_ints3 (l : List UInt8) : ∀ m, 3 * m ≤ l.length → numsB (ints3 l m) = l.take (3 * m) ∧ okN (ints3 l m) = true
  | 0, _ => by simp [ints3, numsB, okN]
  | m + 1, h => by
    obtain ⟨h1, h2⟩ := nums_ints3 l m (by omega)
    have h0 : 3 * m < l.length := by omega
    have h01 : 3 * m + 1 < l.length := by omega
    have h02 : 3 * m + 2 < l.length := by omega
    have e : (l.take (3 * m + 3)).drop (3 * m) = [l[3 * m], l[3 * m + 1], l[3 * m + 2]] := by
      rw [List.drop_take, show 3 * m + 3 - 3 * m = 3 from by omega, List.drop_eq_getElem_cons h0, List.drop_eq_getElem_cons h01, List.drop_eq_getElem_cons h02]
      rfl
    have hl : ((l.take (3 * m + 3)).drop (3 * m)).length = 3 := mid3 l m (by omega)
    have hlt := getN_lt24 _ hl
    rw [ints3_snoc, numsB_snoc, okN_snoc, h1, h2, e]
    rw [e] at hlt
    constructor
    · rw [Int.toNat_natCast, putB_getN, ← e]
      have := List.take_append_drop (3 * m) (l.take (3 * m + 3))
      rw [List.take_take, show min (3 * m) (3 * m + 3) = 3 * m from by omega] at this
      rw [this]; rfl
    · simp; omega

theorem packGet_n (A : Option Addr) (l : List UInt8) (c n many : Nat) (w : World) (h : Rd g8 w A l) (hn : A = none → c = 0) (hc : l.length ≤ c) (hc2 : c ≤ 9223372036854775807) (hm : many ≤ 1000) (hl : 3 * many ≤ l.length) (hl2 : l.length ≤ 140737488355328) (hnn : l.length = n) :
    Calls Try.prog 47 #[.slice A n c, .int .i64 many] w fun e w' => ∃ A1 c1 A2 c2, e = .returned (.tuple #[.slice A1 many c1, .slice A2 (l.drop (3 * many)).length c2, .int .i64 0]) ∧ Ow 3 g64 w' w.heap.size A1 (ints3 l many) c1 ∧ Ow 5 g8 w' w.heap.size A2 (l.drop (3 * many)) c2 ∧ Below w.heap.size w w' := by
  subst hnn
  exact packGet_c A l c many w h hn hc hc2 hm hl hl2

theorem str_add (a b : List UInt8) : (⟨a.toArray⟩ : ByteArray) ++ ⟨b.toArray⟩ = ⟨(a ++ b).toArray⟩ := by
  apply ByteArray.ext; simp

theorem str_size (a : List UInt8) : (⟨a.toArray⟩ : ByteArray).size = a.length := by simp [ByteArray.size]

end Go.Proofs.Ytbhjdapkhcgmlaa
