import Derived.Test.YteabhokkiggcjaaAlive06
namespace Go.Proofs.Yteabhokkiggcjaa
open Go.RowKit

/-! Strings of bytes: joined, cut, measured; a tape that is synced, alone among the old blocks. -/

theorem str_add (a b : List UInt8) : (⟨a.toArray⟩ : ByteArray) ++ ⟨b.toArray⟩ = ⟨(a ++ b).toArray⟩ := by
  apply ByteArray.ext; simp

theorem str_size (a : List UInt8) : (⟨a.toArray⟩ : ByteArray).size = a.length := by simp [ByteArray.size]

theorem str_drop (a : List UInt8) (n : Nat) : (⟨a.toArray⟩ : ByteArray).extract n a.length = ⟨(a.drop n).toArray⟩ := by
  apply ByteArray.ext; simp
  exact List.take_of_length_le (by simp)

theorem str_take (a : List UInt8) (n : Nat) (h : n ≤ a.length) : (⟨a.toArray⟩ : ByteArray).extract 0 n = ⟨(a.take n).toArray⟩ := by
  apply ByteArray.ext; simp

theorem str_inj {a b : List UInt8} : ((⟨a.toArray⟩ : ByteArray) = ⟨b.toArray⟩) ↔ a = b := by
  constructor
  · intro h; injection h with h; simpa using h
  · intro h; rw [h]

end Go.Proofs.Yteabhokkiggcjaa
