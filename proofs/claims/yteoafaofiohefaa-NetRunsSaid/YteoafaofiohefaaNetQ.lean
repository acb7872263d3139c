import Derived.Test.YteoafaofiohefaaNetP
namespace Go.Proofs.Yteoafaofiohefaa
open Go.RowKit

/-! An item of a lane is written anew. -/

theorem lcells_set : ∀ (L : List It) (i : Nat) (y : It), lcells (L.set i y) = ((lcells L).set (i * 2) (.slice y.A y.l.length y.c)).set (i * 2 + 1) (.bool y.s)
  | [], i, y => by simp [lcells]
  | x :: L, 0, y => rfl
  | x :: L, i + 1, y => by
    have ih := lcells_set L i y
    have e : ∀ (z : It) M, lcells (z :: M) = .slice z.A z.l.length z.c :: .bool z.s :: lcells M := fun _ _ => rfl
    rw [List.set_cons_succ, e, e, ih, show (i + 1) * 2 = i * 2 + 1 + 1 from by omega]
    rfl

end Go.Proofs.Yteoafaofiohefaa
