/-
  DERIVED. GIVEN WITH THE SEED: THE CARDS: each row of YthklnopfgoekeaaDoorRows.lean that lists a variable, with what it lists TIED to the program's text (the seventh form; the later family's looks); each row that meets fmt, with fmt's text TOLD by the authors' own Lean function (tested against real Go, not proved from fmt's source: count such statements apart). THE CARD IS WHAT COUNTS. Prove the row's statement (the work); the ties are given (YthklnopfgoekeaaDoorTie.lean); close each card by the builder's one call (the guide's Derived/Test/ToyasCard.lean, 'card_holds'). Laid BY PROGRAM, IN A SANDBOX (cutbox-door.mjs). By AI agents, Wed Nov 11 2026. No macro, syntax, notation, axiom, sorry.
-/
import Derived.Test.YthklnopfgoekeaaDoorRows
import GoSem.ClaimSeven
namespace Go.Proofs.YthklnopfgoekeaaDoor
namespace Rows

/-- THE TIED CARD OF 'tribunallaw06.LexisScans'. -/
def lexisScansCard : Claim7 := { stood := { row := lexisScansRow, standIns := [], harness := (true, "dee6ef5f3e9bc62c996dd4fa6bdedbe6d4ea9111f84961a541eef724aa98195a"), looks := false }, kinds := [], alts := [], laidByText := true, laidKinds := [.data, .pinned, .pinned], laidTests := true, laidLooks := .later }
def LexisScansCardSaid : Prop := Claim7.holds Tryd.pinned (.plain (OpenSpec.ofChange lexisScansSpec)) lexisScansCard

/-- THE TIED CARD OF 'tribunallaw06.LexisJoins'. -/
def lexisJoinsCard : Claim7 := { stood := { row := lexisJoinsRow, standIns := [], harness := (true, "dee6ef5f3e9bc62c996dd4fa6bdedbe6d4ea9111f84961a541eef724aa98195a"), looks := false }, kinds := [], alts := [], laidByText := true, laidKinds := [.data, .pinned, .pinned], laidTests := true, laidLooks := .later }
def LexisJoinsCardSaid : Prop := Claim7.holds Tryd.pinned (.plain (OpenSpec.ofChange lexisJoinsSpec)) lexisJoinsCard

/-- THE TIED CARD OF 'tribunallaw06.LexisBack'. -/
def lexisBackCard : Claim7 := { stood := { row := lexisBackRow, standIns := [], harness := (true, "dee6ef5f3e9bc62c996dd4fa6bdedbe6d4ea9111f84961a541eef724aa98195a"), looks := false }, kinds := [], alts := [], laidByText := true, laidKinds := [.data, .pinned, .pinned], laidTests := true, laidLooks := .later }
def LexisBackCardSaid : Prop := Claim7.holds Tryd.pinned (.plain (OpenSpec.ofChange lexisBackSpec)) lexisBackCard

/-- THE TIED CARD OF 'tribunallaw06.LexisAgain'. -/
def lexisAgainCard : Claim7 := { stood := { row := lexisAgainRow, standIns := [], harness := (true, "dee6ef5f3e9bc62c996dd4fa6bdedbe6d4ea9111f84961a541eef724aa98195a"), looks := false }, kinds := [], alts := [], laidByText := true, laidKinds := [.data, .pinned, .pinned], laidTests := true, laidLooks := .later }
def LexisAgainCardSaid : Prop := Claim7.holds Tryd.pinned (.plain (OpenSpec.ofChange lexisAgainSpec)) lexisAgainCard

/-- THE TIED CARD OF 'tribunallaw06.LexisPlaces'. -/
def lexisPlacesCard : Claim7 := { stood := { row := lexisPlacesRow, standIns := [], harness := (true, "dee6ef5f3e9bc62c996dd4fa6bdedbe6d4ea9111f84961a541eef724aa98195a"), looks := false }, kinds := [], alts := [], laidByText := true, laidKinds := [.data, .pinned, .pinned], laidTests := true, laidLooks := .later }
def LexisPlacesCardSaid : Prop := Claim7.holds Tryd.pinned (.plain (OpenSpec.ofChange lexisPlacesSpec)) lexisPlacesCard

/-- THE TIED CARD OF 'tribunallaw06.LexisBlanks'. -/
def lexisBlanksCard : Claim7 := { stood := { row := lexisBlanksRow, standIns := [], harness := (true, "dee6ef5f3e9bc62c996dd4fa6bdedbe6d4ea9111f84961a541eef724aa98195a"), looks := false }, kinds := [], alts := [], laidByText := true, laidKinds := [.data, .pinned, .pinned], laidTests := true, laidLooks := .later }
def LexisBlanksCardSaid : Prop := Claim7.holds Tryd.pinned (.plain (OpenSpec.ofChange lexisBlanksSpec)) lexisBlanksCard

/-- THE TIED CARD OF 'tribunallaw06.LexisFirst'. -/
def lexisFirstCard : Claim7 := { stood := { row := lexisFirstRow, standIns := [], harness := (true, "dee6ef5f3e9bc62c996dd4fa6bdedbe6d4ea9111f84961a541eef724aa98195a"), looks := false }, kinds := [], alts := [], laidByText := true, laidKinds := [.data, .pinned, .pinned], laidTests := true, laidLooks := .later }
def LexisFirstCardSaid : Prop := Claim7.holds Tryd.pinned (.plain (OpenSpec.ofChange lexisFirstSpec)) lexisFirstCard

/-- THE TIED CARD OF 'tribunallaw07.SexpParses'. -/
def sexpParsesCard : Claim7 := { stood := { row := sexpParsesRow, standIns := [], harness := (true, "dee6ef5f3e9bc62c996dd4fa6bdedbe6d4ea9111f84961a541eef724aa98195a"), looks := false }, kinds := [], alts := [], laidByText := true, laidKinds := [.data, .pinned, .pinned], laidTests := true, laidLooks := .later }
def SexpParsesCardSaid : Prop := Claim7.holds Tryd.pinned (.plain (OpenSpec.ofChange sexpParsesSpec)) sexpParsesCard

/-- THE TIED CARD OF 'tribunallaw07.SexpBack'. -/
def sexpBackCard : Claim7 := { stood := { row := sexpBackRow, standIns := [], harness := (true, "dee6ef5f3e9bc62c996dd4fa6bdedbe6d4ea9111f84961a541eef724aa98195a"), looks := false }, kinds := [], alts := [], laidByText := true, laidKinds := [.data, .pinned, .pinned], laidTests := true, laidLooks := .later }
def SexpBackCardSaid : Prop := Claim7.holds Tryd.pinned (.plain (OpenSpec.ofChange sexpBackSpec)) sexpBackCard

/-- THE TIED CARD OF 'tribunallaw07.SexpJoins'. -/
def sexpJoinsCard : Claim7 := { stood := { row := sexpJoinsRow, standIns := [], harness := (true, "dee6ef5f3e9bc62c996dd4fa6bdedbe6d4ea9111f84961a541eef724aa98195a"), looks := false }, kinds := [], alts := [], laidByText := true, laidKinds := [.data, .pinned, .pinned], laidTests := true, laidLooks := .later }
def SexpJoinsCardSaid : Prop := Claim7.holds Tryd.pinned (.plain (OpenSpec.ofChange sexpJoinsSpec)) sexpJoinsCard

/-- THE TIED CARD OF 'tribunallaw07.SexpOnce'. -/
def sexpOnceCard : Claim7 := { stood := { row := sexpOnceRow, standIns := [], harness := (true, "dee6ef5f3e9bc62c996dd4fa6bdedbe6d4ea9111f84961a541eef724aa98195a"), looks := false }, kinds := [], alts := [], laidByText := true, laidKinds := [.data, .pinned, .pinned], laidTests := true, laidLooks := .later }
def SexpOnceCardSaid : Prop := Claim7.holds Tryd.pinned (.plain (OpenSpec.ofChange sexpOnceSpec)) sexpOnceCard

/-- THE TIED CARD OF 'tribunallaw07.SexpDeep'. -/
def sexpDeepCard : Claim7 := { stood := { row := sexpDeepRow, standIns := [], harness := (true, "dee6ef5f3e9bc62c996dd4fa6bdedbe6d4ea9111f84961a541eef724aa98195a"), looks := false }, kinds := [], alts := [], laidByText := true, laidKinds := [.data, .pinned, .pinned], laidTests := true, laidLooks := .later }
def SexpDeepCardSaid : Prop := Claim7.holds Tryd.pinned (.plain (OpenSpec.ofChange sexpDeepSpec)) sexpDeepCard

/-- THE SECOND FORM's CARD OF 'tribunallaw06.LexisScans'. -/
def lexisScansUptoCard : Claim7 := { stood := { row := lexisScansUptoRow, standIns := [], harness := (true, "dee6ef5f3e9bc62c996dd4fa6bdedbe6d4ea9111f84961a541eef724aa98195a"), looks := false }, kinds := [], alts := [], laidByText := true, laidKinds := [.data, .pinned, .pinned], laidTests := true, laidLooks := .later }
def LexisScansUptoCardSaid : Prop := Claim7.holds Tryd.pinned (.plain (OpenSpec.upto lexisScansSpec)) lexisScansUptoCard

/-- THE SECOND FORM's CARD OF 'tribunallaw06.LexisJoins'. -/
def lexisJoinsUptoCard : Claim7 := { stood := { row := lexisJoinsUptoRow, standIns := [], harness := (true, "dee6ef5f3e9bc62c996dd4fa6bdedbe6d4ea9111f84961a541eef724aa98195a"), looks := false }, kinds := [], alts := [], laidByText := true, laidKinds := [.data, .pinned, .pinned], laidTests := true, laidLooks := .later }
def LexisJoinsUptoCardSaid : Prop := Claim7.holds Tryd.pinned (.plain (OpenSpec.upto lexisJoinsSpec)) lexisJoinsUptoCard

/-- THE SECOND FORM's CARD OF 'tribunallaw06.LexisBack'. -/
def lexisBackUptoCard : Claim7 := { stood := { row := lexisBackUptoRow, standIns := [], harness := (true, "dee6ef5f3e9bc62c996dd4fa6bdedbe6d4ea9111f84961a541eef724aa98195a"), looks := false }, kinds := [], alts := [], laidByText := true, laidKinds := [.data, .pinned, .pinned], laidTests := true, laidLooks := .later }
def LexisBackUptoCardSaid : Prop := Claim7.holds Tryd.pinned (.plain (OpenSpec.upto lexisBackSpec)) lexisBackUptoCard

/-- THE SECOND FORM's CARD OF 'tribunallaw06.LexisAgain'. -/
def lexisAgainUptoCard : Claim7 := { stood := { row := lexisAgainUptoRow, standIns := [], harness := (true, "dee6ef5f3e9bc62c996dd4fa6bdedbe6d4ea9111f84961a541eef724aa98195a"), looks := false }, kinds := [], alts := [], laidByText := true, laidKinds := [.data, .pinned, .pinned], laidTests := true, laidLooks := .later }
def LexisAgainUptoCardSaid : Prop := Claim7.holds Tryd.pinned (.plain (OpenSpec.upto lexisAgainSpec)) lexisAgainUptoCard

/-- THE SECOND FORM's CARD OF 'tribunallaw06.LexisPlaces'. -/
def lexisPlacesUptoCard : Claim7 := { stood := { row := lexisPlacesUptoRow, standIns := [], harness := (true, "dee6ef5f3e9bc62c996dd4fa6bdedbe6d4ea9111f84961a541eef724aa98195a"), looks := false }, kinds := [], alts := [], laidByText := true, laidKinds := [.data, .pinned, .pinned], laidTests := true, laidLooks := .later }
def LexisPlacesUptoCardSaid : Prop := Claim7.holds Tryd.pinned (.plain (OpenSpec.upto lexisPlacesSpec)) lexisPlacesUptoCard

/-- THE SECOND FORM's CARD OF 'tribunallaw06.LexisBlanks'. -/
def lexisBlanksUptoCard : Claim7 := { stood := { row := lexisBlanksUptoRow, standIns := [], harness := (true, "dee6ef5f3e9bc62c996dd4fa6bdedbe6d4ea9111f84961a541eef724aa98195a"), looks := false }, kinds := [], alts := [], laidByText := true, laidKinds := [.data, .pinned, .pinned], laidTests := true, laidLooks := .later }
def LexisBlanksUptoCardSaid : Prop := Claim7.holds Tryd.pinned (.plain (OpenSpec.upto lexisBlanksSpec)) lexisBlanksUptoCard

/-- THE SECOND FORM's CARD OF 'tribunallaw06.LexisFirst'. -/
def lexisFirstUptoCard : Claim7 := { stood := { row := lexisFirstUptoRow, standIns := [], harness := (true, "dee6ef5f3e9bc62c996dd4fa6bdedbe6d4ea9111f84961a541eef724aa98195a"), looks := false }, kinds := [], alts := [], laidByText := true, laidKinds := [.data, .pinned, .pinned], laidTests := true, laidLooks := .later }
def LexisFirstUptoCardSaid : Prop := Claim7.holds Tryd.pinned (.plain (OpenSpec.upto lexisFirstSpec)) lexisFirstUptoCard

/-- THE SECOND FORM's CARD OF 'tribunallaw07.SexpParses'. -/
def sexpParsesUptoCard : Claim7 := { stood := { row := sexpParsesUptoRow, standIns := [], harness := (true, "dee6ef5f3e9bc62c996dd4fa6bdedbe6d4ea9111f84961a541eef724aa98195a"), looks := false }, kinds := [], alts := [], laidByText := true, laidKinds := [.data, .pinned, .pinned], laidTests := true, laidLooks := .later }
def SexpParsesUptoCardSaid : Prop := Claim7.holds Tryd.pinned (.plain (OpenSpec.upto sexpParsesSpec)) sexpParsesUptoCard

/-- THE SECOND FORM's CARD OF 'tribunallaw07.SexpBack'. -/
def sexpBackUptoCard : Claim7 := { stood := { row := sexpBackUptoRow, standIns := [], harness := (true, "dee6ef5f3e9bc62c996dd4fa6bdedbe6d4ea9111f84961a541eef724aa98195a"), looks := false }, kinds := [], alts := [], laidByText := true, laidKinds := [.data, .pinned, .pinned], laidTests := true, laidLooks := .later }
def SexpBackUptoCardSaid : Prop := Claim7.holds Tryd.pinned (.plain (OpenSpec.upto sexpBackSpec)) sexpBackUptoCard

/-- THE SECOND FORM's CARD OF 'tribunallaw07.SexpJoins'. -/
def sexpJoinsUptoCard : Claim7 := { stood := { row := sexpJoinsUptoRow, standIns := [], harness := (true, "dee6ef5f3e9bc62c996dd4fa6bdedbe6d4ea9111f84961a541eef724aa98195a"), looks := false }, kinds := [], alts := [], laidByText := true, laidKinds := [.data, .pinned, .pinned], laidTests := true, laidLooks := .later }
def SexpJoinsUptoCardSaid : Prop := Claim7.holds Tryd.pinned (.plain (OpenSpec.upto sexpJoinsSpec)) sexpJoinsUptoCard

/-- THE SECOND FORM's CARD OF 'tribunallaw07.SexpOnce'. -/
def sexpOnceUptoCard : Claim7 := { stood := { row := sexpOnceUptoRow, standIns := [], harness := (true, "dee6ef5f3e9bc62c996dd4fa6bdedbe6d4ea9111f84961a541eef724aa98195a"), looks := false }, kinds := [], alts := [], laidByText := true, laidKinds := [.data, .pinned, .pinned], laidTests := true, laidLooks := .later }
def SexpOnceUptoCardSaid : Prop := Claim7.holds Tryd.pinned (.plain (OpenSpec.upto sexpOnceSpec)) sexpOnceUptoCard

/-- THE SECOND FORM's CARD OF 'tribunallaw07.SexpDeep'. -/
def sexpDeepUptoCard : Claim7 := { stood := { row := sexpDeepUptoRow, standIns := [], harness := (true, "dee6ef5f3e9bc62c996dd4fa6bdedbe6d4ea9111f84961a541eef724aa98195a"), looks := false }, kinds := [], alts := [], laidByText := true, laidKinds := [.data, .pinned, .pinned], laidTests := true, laidLooks := .later }
def SexpDeepUptoCardSaid : Prop := Claim7.holds Tryd.pinned (.plain (OpenSpec.upto sexpDeepSpec)) sexpDeepUptoCard
end Rows
end Go.Proofs.YthklnopfgoekeaaDoor
