import Derived.Test.YteoafaofiohefaaUpto
import Derived.Test.YteoafaofiohefaaBurst
namespace Go.Proofs.Yteoafaofiohefaa
open Go.RowKit

/-! A net: eight lanes of frames. -/

/-- A frame on its way: where it lies, its bytes, whether it is spoilt. -/
structure It where
  A : Option Addr
  c : Nat
  l : List UInt8
  s : Bool

def It.cells (x : It) : List Value := [.slice x.A x.l.length x.c, .bool x.s]
def lcells (L : List It) : List Value := L.flatMap It.cells

theorem lcells_nil : lcells [] = [] := rfl
theorem lcells_append (L M : List It) : lcells (L ++ M) = lcells L ++ lcells M := by unfold lcells; simp
theorem lcells_length (L : List It) : (lcells L).length = L.length * 2 := by
  induction L with
  | nil => rfl
  | cons x L ih =>
    have : lcells (x :: L) = x.cells ++ lcells L := rfl
    rw [this, List.length_append, ih]
    simp [It.cells]; omega

theorem lcells_at : ∀ (L : List It) (i : Nat) (x : It), L[i]? = some x → (lcells L)[i * 2]? = some (.slice x.A x.l.length x.c) ∧ (lcells L)[i * 2 + 1]? = some (.bool x.s)
  | [], i, x, h => by simp at h
  | y :: L, 0, x, h => by
    simp at h; subst h
    exact ⟨rfl, rfl⟩
  | y :: L, i + 1, x, h => by
    have ih := lcells_at L i x (by simpa using h)
    have e : lcells (y :: L) = .slice y.A y.l.length y.c :: .bool y.s :: lcells L := rfl
    rw [e, show (i + 1) * 2 = i * 2 + 1 + 1 from by omega]
    exact ⟨by simpa using ih.1, by simpa using ih.2⟩

theorem lcells_take : ∀ (L : List It) (i : Nat), (lcells L).take (i * 2) = lcells (L.take i)
  | [], i => by simp [lcells]
  | y :: L, 0 => by simp [lcells]
  | y :: L, i + 1 => by
    have ih := lcells_take L i
    have e : ∀ M, lcells (y :: M) = .slice y.A y.l.length y.c :: .bool y.s :: lcells M := fun _ => rfl
    rw [List.take_succ_cons, e, e, show (i + 1) * 2 = i * 2 + 1 + 1 from by omega, List.take_succ_cons, List.take_succ_cons, ih]

theorem lcells_drop : ∀ (L : List It) (i : Nat), (lcells L).drop (i * 2) = lcells (L.drop i)
  | [], i => by simp [lcells]
  | y :: L, 0 => by simp
  | y :: L, i + 1 => by
    have ih := lcells_drop L i
    have e : lcells (y :: L) = .slice y.A y.l.length y.c :: .bool y.s :: lcells L := rfl
    rw [e, show (i + 1) * 2 = i * 2 + 1 + 1 from by omega, List.drop_succ_cons, List.drop_succ_cons, List.drop_succ_cons, ih]

/-- A lane's row: nothing, or the first elements of a row of the call's own. -/
def Lane (w : World) (B : Nat) (v : Value) (L : List It) : Prop := w.ownsRow B 65 2 v L.length (lcells L)

theorem Lane.nil {w : World} {B : Nat} : Lane w B (.slice none 0 0) [] := World.ownsRow_nil w B _ 2

theorem Lane.upto {w w' : World} {B : Nat} {v : Value} {L : List It} {K : Nat → Prop} (h : Lane w B v L) (u : Upto K w w') (hn : ∀ b, v.ownBlock = some b → ¬ K b) : Lane w' B v L := by
  refine ⟨h.1, ?_⟩
  rcases h.2 with hn0 | ⟨b, cap, cur, hv, hbg, hgg, rest⟩
  · exact .inl hn0
  · exact .inr ⟨b, cap, cur, hv, hbg, by rw [u.block b (Array.getElem?_eq_some_iff.1 hgg).1 (hn b (by rw [hv]; rfl))]; exact hgg, rest⟩

theorem Lane.typed {w : World} {B : Nat} {v : Value} {L : List It} (h : Lane w B v L) : ∀ b, v.ownBlock = some b → B ≤ b ∧ ∃ cur, w.heap[b]? = some (.cells cur 65 (0, 0)) := fun b e => by
  rcases h.2 with ⟨hn0, _⟩ | ⟨g, cap, cur, hv, hbg, hgg, rest⟩
  · rw [hn0] at e; cases e
  · rw [hv] at e; cases e
    exact ⟨hbg, cur, hgg⟩

theorem Ow.typed {α : Type} {g : α → Value} {E : TypeId} {w : World} {B : Nat} {A : Option Addr} {l : List α} {c : Nat} (h : Ow E g w B A l c) : ∀ a, A = some a → ∃ cur, w.heap[a.block]? = some (.cells cur E (0, 0)) := fun a e => by
  subst e
  rcases h.2 with ⟨e, _⟩ | ⟨b, cap, cur, e, hb, hg, _⟩
  · injection e with e1; cases e1
  · injection e with e1 _ _
    cases e1
    exact ⟨cur, hg⟩

end Go.Proofs.Yteoafaofiohefaa
