/- LexisBack: what is joined is scanned as the tokens: the pure part. -/
import Derived.Test.YthklnopfgoekeaaDoorPJoin
import Derived.Test.YthklnopfgoekeaaDoorX13
namespace Go.Proofs.YthklnopfgoekeaaDoor.X
open Go.RowKit Go.Proofs.YthklnopfgoekeaaDoorW.PrintWords Go.Proofs.YthklnopfgoekeaaDoorW.PrintLast Go.Proofs.YthklnopfgoekeaaDoorW.PrintMore
set_option linter.unusedVariables false
theorem lexisBack_pure (l0 : List S38) (hn : l0.length ≤ 1099511627776) (ht : l0.all (fun t => decide (t.f1.size ≤ 1099511627776)) = true) : ∃ k, tribunallaw06_LexisBack.f k l0 = some true := by
  have hj : lexis_Join.f l0 = some (joinR l0) := by unfold lexis_Join.f; rw [if_pos ⟨hn, ht⟩]
  rcases joinR_cases l0 with ⟨h1, h2, h3⟩ | ⟨h1, h2⟩
  · obtain ⟨m, hm, hb⟩ := join_scan h1 h2
    obtain ⟨k, hk⟩ := same_bare hb hn
    refine ⟨k + 1, ?_⟩
    unfold tribunallaw06_LexisBack.f
    rw [hj, Option.bind_some, awake_told, Option.bind_some, if_pos rfl, h3]
    show tribunallaw06_LexisBack.j0 (k + 1) l0 (strOf (joinL l0 true)) 0 false = _
    have hs : lexis_Scan.f (strOf (joinL l0 true)) = some (m, 0, 0, 0) := congrArg some hm
    rw [tribunallaw06_LexisBack.j0, if_neg (by decide), hs, Option.bind_some, if_pos rfl, hk, Option.bind_some]
  · refine ⟨1, ?_⟩
    unfold tribunallaw06_LexisBack.f
    have hne : ((joinR l0).2 != 0) = true := bne_iff_ne.2 h1
    rw [hj, Option.bind_some, awake_told, Option.bind_some, if_pos rfl, hne, tribunallaw06_LexisBack.j0, if_pos rfl, if_neg h1, h2]
    rw [ByteArray.toList_eq]
    rfl
end Go.Proofs.YthklnopfgoekeaaDoor.X
