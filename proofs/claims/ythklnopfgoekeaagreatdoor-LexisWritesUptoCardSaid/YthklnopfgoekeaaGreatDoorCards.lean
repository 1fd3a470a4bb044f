/-
  DERIVED. GIVEN WITH THE SEED: THE CARDS: each row of YthklnopfgoekeaaGreatDoorRows.lean that lists a variable, with what it lists TIED to the program's text (the seventh form; the later family's looks); each row that meets fmt, with fmt's text TOLD by the authors' own Lean function (tested against real Go, not proved from fmt's source: count such statements apart). THE CARD IS WHAT COUNTS. Prove the row's statement (the work); the ties are given (YthklnopfgoekeaaGreatDoorTie.lean); close each card by the builder's one call (the guide's Derived/Test/ToyasCard.lean, 'card_holds'). Laid BY PROGRAM, IN A SANDBOX (cutbox-door.mjs). By AI agents, Wed Nov 11 2026. No macro, syntax, notation, axiom, sorry.
-/
import Derived.Test.YthklnopfgoekeaaGreatDoorRows
import GoSem.ClaimSeven
namespace Go.Proofs.YthklnopfgoekeaaGreatDoor
namespace Rows

/-- THE TIED CARD OF 'tribunallaw07.SexpLooks'. -/
def sexpLooksCard : Claim7 := { stood := { row := sexpLooksRow, standIns := [], harness := (true, "de57ea7ff4ac400e8ce36dee5796a9dcb006a19ac0150625bcda224cfefdb02e"), looks := false }, kinds := [], alts := [], laidByText := true, laidKinds := [.data, .pinned, .pinned], laidTests := true, laidLooks := .later }
def SexpLooksCardSaid : Prop := Claim7.holds Tryz.pinned (.plain (OpenSpec.ofChange sexpLooksSpec)) sexpLooksCard

/-- THE TIED CARD OF 'tribunallaw06.LexisWrites'. -/
def lexisWritesCard : Claim7 := { stood := { row := lexisWritesRow, standIns := [], harness := (true, "de57ea7ff4ac400e8ce36dee5796a9dcb006a19ac0150625bcda224cfefdb02e"), looks := false }, kinds := [], alts := [], laidByText := true, laidKinds := [.data, .listed, .data, .pinned, .pinned], laidTests := true, laidLooks := .later }
def LexisWritesCardSaid : Prop := Claim7.holds Tryz.pinned (.plain (OpenSpec.ofChange lexisWritesSpec)) lexisWritesCard

/-- THE TIED CARD OF 'tribunallaw07.SexpTexts'. -/
def sexpTextsCard : Claim7 := { stood := { row := sexpTextsRow, standIns := [], harness := (true, "de57ea7ff4ac400e8ce36dee5796a9dcb006a19ac0150625bcda224cfefdb02e"), looks := false }, kinds := [], alts := [], laidByText := true, laidKinds := [.data, .pinned, .pinned], laidTests := true, laidLooks := .later }
def SexpTextsCardSaid : Prop := Claim7.holds Tryz.pinned (.plain (OpenSpec.ofChange sexpTextsSpec)) sexpTextsCard

/-- THE TIED CARD OF 'tribunallaw07.SexpOwn'. -/
def sexpOwnCard : Claim7 := { stood := { row := sexpOwnRow, standIns := [], harness := (true, "de57ea7ff4ac400e8ce36dee5796a9dcb006a19ac0150625bcda224cfefdb02e"), looks := false }, kinds := [], alts := [], laidByText := true, laidKinds := [.data, .pinned, .pinned], laidTests := true, laidLooks := .later }
def SexpOwnCardSaid : Prop := Claim7.holds Tryz.pinned (.plain (OpenSpec.ofChange sexpOwnSpec)) sexpOwnCard

/-- THE SECOND FORM's CARD OF 'tribunallaw07.SexpLooks'. -/
def sexpLooksUptoCard : Claim7 := { stood := { row := sexpLooksUptoRow, standIns := [], harness := (true, "de57ea7ff4ac400e8ce36dee5796a9dcb006a19ac0150625bcda224cfefdb02e"), looks := false }, kinds := [], alts := [], laidByText := true, laidKinds := [.data, .pinned, .pinned], laidTests := true, laidLooks := .later }
def SexpLooksUptoCardSaid : Prop := Claim7.holds Tryz.pinned (.plain (OpenSpec.upto sexpLooksSpec)) sexpLooksUptoCard

/-- THE SECOND FORM's CARD OF 'tribunallaw06.LexisWrites'. -/
def lexisWritesUptoCard : Claim7 := { stood := { row := lexisWritesUptoRow, standIns := [], harness := (true, "de57ea7ff4ac400e8ce36dee5796a9dcb006a19ac0150625bcda224cfefdb02e"), looks := false }, kinds := [], alts := [], laidByText := true, laidKinds := [.data, .listed, .data, .pinned, .pinned], laidTests := true, laidLooks := .later }
def LexisWritesUptoCardSaid : Prop := Claim7.holds Tryz.pinned (.plain (OpenSpec.upto lexisWritesSpec)) lexisWritesUptoCard

/-- THE SECOND FORM's CARD OF 'tribunallaw07.SexpTexts'. -/
def sexpTextsUptoCard : Claim7 := { stood := { row := sexpTextsUptoRow, standIns := [], harness := (true, "de57ea7ff4ac400e8ce36dee5796a9dcb006a19ac0150625bcda224cfefdb02e"), looks := false }, kinds := [], alts := [], laidByText := true, laidKinds := [.data, .pinned, .pinned], laidTests := true, laidLooks := .later }
def SexpTextsUptoCardSaid : Prop := Claim7.holds Tryz.pinned (.plain (OpenSpec.upto sexpTextsSpec)) sexpTextsUptoCard

/-- THE SECOND FORM's CARD OF 'tribunallaw07.SexpOwn'. -/
def sexpOwnUptoCard : Claim7 := { stood := { row := sexpOwnUptoRow, standIns := [], harness := (true, "de57ea7ff4ac400e8ce36dee5796a9dcb006a19ac0150625bcda224cfefdb02e"), looks := false }, kinds := [], alts := [], laidByText := true, laidKinds := [.data, .pinned, .pinned], laidTests := true, laidLooks := .later }
def SexpOwnUptoCardSaid : Prop := Claim7.holds Tryz.pinned (.plain (OpenSpec.upto sexpOwnSpec)) sexpOwnUptoCard
end Rows
end Go.Proofs.YthklnopfgoekeaaGreatDoor
