/- LexisJoins: tokens as they are written, one behind the other: the pure part. -/
import Derived.Test.YthklnopfgoekeaaDoorPJoin
import Derived.Test.YthklnopfgoekeaaDoorX12
namespace Go.Proofs.YthklnopfgoekeaaDoor.X
open Go.RowKit Go.Proofs.YthklnopfgoekeaaDoorW.PrintWords Go.Proofs.YthklnopfgoekeaaDoorW.PrintLast Go.Proofs.YthklnopfgoekeaaDoorW.PrintMore
set_option linter.unusedVariables false
theorem lexisJoins_pure (l0 : List S38) (hn : l0.length ≤ 1099511627776) (ht : l0.all (fun t => decide (t.f1.size ≤ 1099511627776)) = true) : tribunallaw06_LexisJoins.f l0 = some true := by
  have hj : lexis_Join.f l0 = some (joinR l0) := by unfold lexis_Join.f; rw [if_pos ⟨hn, ht⟩]
  have hr : tribunalref06_Join.f l0 = some (joinR l0) := by unfold tribunalref06_Join.f; rw [if_pos ⟨hn, ht⟩]
  unfold tribunallaw06_LexisJoins.f
  rw [hj, Option.bind_some, hr, Option.bind_some, if_pos rfl, if_pos rfl, awake_told, Option.bind_some]
end Go.Proofs.YthklnopfgoekeaaDoor.X
