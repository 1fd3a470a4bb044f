/- SexpParses: what every row of tokens says, or its first fault: the pure part. -/
import Derived.Test.YthklnopfgoekeaaDoorPAlive
import Derived.Test.YthklnopfgoekeaaDoorHParses
namespace Go.Proofs.YthklnopfgoekeaaDoor.X
open Go.RowKit Go.Proofs.YthklnopfgoekeaaDoorW.PrintWords Go.Proofs.YthklnopfgoekeaaDoorW.PrintLast Go.Proofs.YthklnopfgoekeaaDoorW.PrintMore
set_option linter.unusedVariables false
theorem sexpParses_pure (l0 : List S38) (hn : l0.length ≤ 1048576) (ht : ∀ t ∈ l0, t.f1.size ≤ 1048576) : ∃ k, tribunallaw07_SexpParses.f k l0 = some true := by
  have hc : l0.length ≤ 1099511627776 ∧ l0.all (fun t => decide (t.f1.size ≤ 1099511627776)) = true := ⟨by omega, List.all_eq_true.2 fun t h => decide_eq_true (by have := ht t h; omega)⟩
  have hp : sexp_Parse.f l0 = some (parseR l0) := by unfold sexp_Parse.f; rw [if_pos hc]
  have hq : tribunalref07_Parse.f l0 = some (parseR l0) := by unfold tribunalref07_Parse.f; rw [if_pos hc]
  have hs : tribunalref07_Same.f (parseR l0).1 (parseR l0).1 = some true := by unfold tribunalref07_Same.f; rw [if_pos (sameL_self _)]
  have hi : tribunalref07_SameInts.f (parseR l0).2.1 (parseR l0).2.1 = some true := by unfold tribunalref07_SameInts.f; rw [if_pos rfl]
  refine ⟨42, ?_⟩
  unfold tribunallaw07_SexpParses.f
  rw [hp, Option.bind_some, hq, Option.bind_some, hs, Option.bind_some, if_pos rfl, hi, Option.bind_some, if_pos rfl, if_pos rfl, if_pos rfl, if_pos rfl, alive_told, Option.bind_some]
end Go.Proofs.YthklnopfgoekeaaDoor.X
