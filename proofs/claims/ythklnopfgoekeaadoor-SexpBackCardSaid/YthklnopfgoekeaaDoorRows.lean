/-
  NARROWER THAN 'FOR EVERY INPUT', by the rows' own cells (each row's printed sentence says how): LexisScans: laid · LexisJoins: laid · LexisBack: laid · LexisAgain: laid · LexisPlaces: laid · LexisBlanks: laid · LexisFirst: laid · SexpParses: laid · SexpBack: laid · SexpJoins: laid · SexpOnce: laid · SexpDeep: laid.
  DERIVED. THE GIVEN ROWS OF THIS SEAT. 12 by the template 'for every input the law returns true; each argument reads behind the call as it read before'; 0 by the template 'total and deterministic' (their statements: YthklnopfgoekeaaDoorTotals.lean).
  GIVEN WITH THE SEED: the statements are not yours to turn. If you find one false, say at which input.
  Laid BY PROGRAM, IN A SANDBOX (cutbox-rows.mjs): the forced cells as the released guide's own fill.sh prints them over the translation e67a9418d8faae20… (all of the seat's roots in one cut). By AI agents, Wed Nov 11 2026. No macro, syntax, notation, axiom, sorry.
-/
import Derived.Test.YthklnopfgoekeaaDoorChecked
import GoSem.PinnedTables
import GoSem.Claim
import GoSem.ClaimJoined
import GoSem.ClaimMapViews
import Derived.JoinedTies
import Derived.KernelRfl
namespace Go.Proofs.YthklnopfgoekeaaDoor
/- THE CELL 'sum', in the pinned program and in every row, IS THE sha256 OF THE DUMP (.gsa) THAT YthklnopfgoekeaaDoorProg.lean LOADS. Nothing in Lean hashes anything: it is a label: what it is worth is what the hold of that sum in a sandbox is worth. -/
noncomputable def Tryd.pinned : Pinned := { name := "ythklnopfgoekeaadoor", sum := "e67a9418d8faae207112a1937e8a3e0e165f432299ca6576c09e7bff832665b4", checked := Tryd.checked }
namespace Rows
def none {H : Type} : Left H := { results := [], args := [] }

/- WHAT THE LISTED PACKAGE-LEVEL VARIABLES READ AS WHEN THE CALL BEGINS. Each datum BY PROGRAM (the guide's laid-datum.mjs) off the statement by which the dump's own 'gosem.cut.vars' lays the variable. In a bare row this is a premise. The card (YthklnopfgoekeaaDoorCards.lean) ties it to the program's text. -/
def laid_unicode_utf8_acceptRanges {H : Type} : DataW H := .agg [.agg [.lit (.int .u8 128), .lit (.int .u8 191)], .agg [.lit (.int .u8 160), .lit (.int .u8 191)], .agg [.lit (.int .u8 128), .lit (.int .u8 159)], .agg [.lit (.int .u8 144), .lit (.int .u8 191)], .agg [.lit (.int .u8 128), .lit (.int .u8 143)], .agg [.lit (.int .u8 0), .lit (.int .u8 0)], .agg [.lit (.int .u8 0), .lit (.int .u8 0)], .agg [.lit (.int .u8 0), .lit (.int .u8 0)], .agg [.lit (.int .u8 0), .lit (.int .u8 0)], .agg [.lit (.int .u8 0), .lit (.int .u8 0)], .agg [.lit (.int .u8 0), .lit (.int .u8 0)], .agg [.lit (.int .u8 0), .lit (.int .u8 0)], .agg [.lit (.int .u8 0), .lit (.int .u8 0)], .agg [.lit (.int .u8 0), .lit (.int .u8 0)], .agg [.lit (.int .u8 0), .lit (.int .u8 0)], .agg [.lit (.int .u8 0), .lit (.int .u8 0)]]
/-- One of Go's own tables, pinned by name: the form's constant. -/
def laid_unicode_CaseRanges : DataW Unit := Go.Pinned.caseRanges
/-- One of Go's own tables, pinned by name: the form's constant. -/
def laid_unicode_utf8_first : DataW Unit := Go.Pinned.utf8First

/-- 'tribunallaw06.LexisScans': WHATEVER THE INPUT: true; the input reads as it did. -/
def lexisScansSpec : ChangeSpec := { name := "lexisScans", fn := fun _ => fun
  | [d] => { results := [.lit (.bool true)], args := [d] }
  | _ => none }
def lexisScansRow : OpenClaim := { program := "ythklnopfgoekeaadoor", sum := "e67a9418d8faae207112a1937e8a3e0e165f432299ca6576c09e7bff832665b4", func := "tribunal/tribunallaw06.LexisScans", spec := "lexisScans", inPlace := ["internal/abi.NoEscape", "internal/bytealg.MakeNoZero", "internal/bytealg.CountString", "internal/bytealg.IndexByteString", "internal/bytealg.IndexString"], unfollowed := true, recurses := true, named := ["unicode/utf8.first", "unicode/utf8.acceptRanges", "unicode.CaseRanges", "internal/bytealg.MaxLen"], apart := false, laid := [("unicode/utf8.acceptRanges", laid_unicode_utf8_acceptRanges), ("unicode.CaseRanges", laid_unicode_CaseRanges), ("unicode/utf8.first", laid_unicode_utf8_first)] }
def LexisScansSaid : Prop := lexisScansRow.holds Tryd.pinned (OpenSpec.ofChange lexisScansSpec)

/-- ITS FALSE NEIGHBOUR: 'it returns false'. Refute it at one input. -/
def lexisScansWrong : ChangeSpec := { name := "lexisScans", fn := fun _ => fun
  | [d] => { results := [.lit (.bool false)], args := [d] }
  | _ => none }
def LexisScansWrongFalsely : Prop := lexisScansRow.holds Tryd.pinned (OpenSpec.ofChange lexisScansWrong)

/-- 'tribunallaw06.LexisJoins': WHATEVER THE INPUT: true; the input reads as it did. -/
def lexisJoinsSpec : ChangeSpec := { name := "lexisJoins", fn := fun _ => fun
  | [d] => { results := [.lit (.bool true)], args := [d] }
  | _ => none }
def lexisJoinsRow : OpenClaim := { program := "ythklnopfgoekeaadoor", sum := "e67a9418d8faae207112a1937e8a3e0e165f432299ca6576c09e7bff832665b4", func := "tribunal/tribunallaw06.LexisJoins", spec := "lexisJoins", inPlace := ["internal/bytealg.CountString", "internal/bytealg.IndexByteString", "internal/bytealg.IndexString", "internal/abi.NoEscape", "internal/bytealg.MakeNoZero"], unfollowed := true, recurses := true, named := ["internal/bytealg.MaxLen", "unicode/utf8.first", "unicode/utf8.acceptRanges", "unicode.CaseRanges"], apart := false, laid := [("unicode/utf8.acceptRanges", laid_unicode_utf8_acceptRanges), ("unicode.CaseRanges", laid_unicode_CaseRanges), ("unicode/utf8.first", laid_unicode_utf8_first)] }
def LexisJoinsSaid : Prop := lexisJoinsRow.holds Tryd.pinned (OpenSpec.ofChange lexisJoinsSpec)

/-- ITS FALSE NEIGHBOUR: 'it returns false'. Refute it at one input. -/
def lexisJoinsWrong : ChangeSpec := { name := "lexisJoins", fn := fun _ => fun
  | [d] => { results := [.lit (.bool false)], args := [d] }
  | _ => none }
def LexisJoinsWrongFalsely : Prop := lexisJoinsRow.holds Tryd.pinned (OpenSpec.ofChange lexisJoinsWrong)

/-- 'tribunallaw06.LexisBack': WHATEVER THE INPUT: true; the input reads as it did. -/
def lexisBackSpec : ChangeSpec := { name := "lexisBack", fn := fun _ => fun
  | [d] => { results := [.lit (.bool true)], args := [d] }
  | _ => none }
def lexisBackRow : OpenClaim := { program := "ythklnopfgoekeaadoor", sum := "e67a9418d8faae207112a1937e8a3e0e165f432299ca6576c09e7bff832665b4", func := "tribunal/tribunallaw06.LexisBack", spec := "lexisBack", inPlace := ["internal/bytealg.CountString", "internal/bytealg.IndexByteString", "internal/bytealg.IndexString", "internal/abi.NoEscape", "internal/bytealg.MakeNoZero"], unfollowed := true, recurses := true, named := ["internal/bytealg.MaxLen", "unicode/utf8.first", "unicode/utf8.acceptRanges", "unicode.CaseRanges"], apart := false, laid := [("unicode/utf8.acceptRanges", laid_unicode_utf8_acceptRanges), ("unicode.CaseRanges", laid_unicode_CaseRanges), ("unicode/utf8.first", laid_unicode_utf8_first)] }
def LexisBackSaid : Prop := lexisBackRow.holds Tryd.pinned (OpenSpec.ofChange lexisBackSpec)

/-- ITS FALSE NEIGHBOUR: 'it returns false'. Refute it at one input. -/
def lexisBackWrong : ChangeSpec := { name := "lexisBack", fn := fun _ => fun
  | [d] => { results := [.lit (.bool false)], args := [d] }
  | _ => none }
def LexisBackWrongFalsely : Prop := lexisBackRow.holds Tryd.pinned (OpenSpec.ofChange lexisBackWrong)

/-- 'tribunallaw06.LexisAgain': WHATEVER THE INPUT: true; the input reads as it did. -/
def lexisAgainSpec : ChangeSpec := { name := "lexisAgain", fn := fun _ => fun
  | [d] => { results := [.lit (.bool true)], args := [d] }
  | _ => none }
def lexisAgainRow : OpenClaim := { program := "ythklnopfgoekeaadoor", sum := "e67a9418d8faae207112a1937e8a3e0e165f432299ca6576c09e7bff832665b4", func := "tribunal/tribunallaw06.LexisAgain", spec := "lexisAgain", inPlace := ["internal/abi.NoEscape", "internal/bytealg.MakeNoZero", "internal/bytealg.CountString", "internal/bytealg.IndexByteString", "internal/bytealg.IndexString"], unfollowed := true, recurses := true, named := ["unicode/utf8.first", "unicode/utf8.acceptRanges", "unicode.CaseRanges", "internal/bytealg.MaxLen"], apart := false, laid := [("unicode/utf8.acceptRanges", laid_unicode_utf8_acceptRanges), ("unicode.CaseRanges", laid_unicode_CaseRanges), ("unicode/utf8.first", laid_unicode_utf8_first)] }
def LexisAgainSaid : Prop := lexisAgainRow.holds Tryd.pinned (OpenSpec.ofChange lexisAgainSpec)

/-- ITS FALSE NEIGHBOUR: 'it returns false'. Refute it at one input. -/
def lexisAgainWrong : ChangeSpec := { name := "lexisAgain", fn := fun _ => fun
  | [d] => { results := [.lit (.bool false)], args := [d] }
  | _ => none }
def LexisAgainWrongFalsely : Prop := lexisAgainRow.holds Tryd.pinned (OpenSpec.ofChange lexisAgainWrong)

/-- 'tribunallaw06.LexisPlaces': WHATEVER THE INPUT: true; the input reads as it did. -/
def lexisPlacesSpec : ChangeSpec := { name := "lexisPlaces", fn := fun _ => fun
  | [d] => { results := [.lit (.bool true)], args := [d] }
  | _ => none }
def lexisPlacesRow : OpenClaim := { program := "ythklnopfgoekeaadoor", sum := "e67a9418d8faae207112a1937e8a3e0e165f432299ca6576c09e7bff832665b4", func := "tribunal/tribunallaw06.LexisPlaces", spec := "lexisPlaces", inPlace := ["internal/abi.NoEscape", "internal/bytealg.MakeNoZero", "internal/bytealg.CountString", "internal/bytealg.IndexByteString", "internal/bytealg.IndexString"], unfollowed := true, recurses := true, named := ["unicode/utf8.first", "unicode/utf8.acceptRanges", "unicode.CaseRanges", "internal/bytealg.MaxLen"], apart := false, laid := [("unicode/utf8.acceptRanges", laid_unicode_utf8_acceptRanges), ("unicode.CaseRanges", laid_unicode_CaseRanges), ("unicode/utf8.first", laid_unicode_utf8_first)] }
def LexisPlacesSaid : Prop := lexisPlacesRow.holds Tryd.pinned (OpenSpec.ofChange lexisPlacesSpec)

/-- ITS FALSE NEIGHBOUR: 'it returns false'. Refute it at one input. -/
def lexisPlacesWrong : ChangeSpec := { name := "lexisPlaces", fn := fun _ => fun
  | [d] => { results := [.lit (.bool false)], args := [d] }
  | _ => none }
def LexisPlacesWrongFalsely : Prop := lexisPlacesRow.holds Tryd.pinned (OpenSpec.ofChange lexisPlacesWrong)

/-- 'tribunallaw06.LexisBlanks': WHATEVER THE INPUT: true; the input reads as it did. -/
def lexisBlanksSpec : ChangeSpec := { name := "lexisBlanks", fn := fun _ => fun
  | [d1, d2] => { results := [.lit (.bool true)], args := [d1, d2] }
  | _ => none }
def lexisBlanksRow : OpenClaim := { program := "ythklnopfgoekeaadoor", sum := "e67a9418d8faae207112a1937e8a3e0e165f432299ca6576c09e7bff832665b4", func := "tribunal/tribunallaw06.LexisBlanks", spec := "lexisBlanks", inPlace := ["internal/abi.NoEscape", "internal/bytealg.MakeNoZero", "internal/bytealg.CountString", "internal/bytealg.IndexByteString", "internal/bytealg.IndexString"], unfollowed := true, recurses := true, named := ["unicode/utf8.first", "unicode/utf8.acceptRanges", "unicode.CaseRanges", "internal/bytealg.MaxLen"], apart := false, laid := [("unicode/utf8.acceptRanges", laid_unicode_utf8_acceptRanges), ("unicode.CaseRanges", laid_unicode_CaseRanges), ("unicode/utf8.first", laid_unicode_utf8_first)] }
def LexisBlanksSaid : Prop := lexisBlanksRow.holds Tryd.pinned (OpenSpec.ofChange lexisBlanksSpec)

/-- ITS FALSE NEIGHBOUR: 'it returns false'. Refute it at one input. -/
def lexisBlanksWrong : ChangeSpec := { name := "lexisBlanks", fn := fun _ => fun
  | [d1, d2] => { results := [.lit (.bool false)], args := [d1, d2] }
  | _ => none }
def LexisBlanksWrongFalsely : Prop := lexisBlanksRow.holds Tryd.pinned (OpenSpec.ofChange lexisBlanksWrong)

/-- 'tribunallaw06.LexisFirst': WHATEVER THE INPUT: true; the input reads as it did. -/
def lexisFirstSpec : ChangeSpec := { name := "lexisFirst", fn := fun _ => fun
  | [d1, d2] => { results := [.lit (.bool true)], args := [d1, d2] }
  | _ => none }
def lexisFirstRow : OpenClaim := { program := "ythklnopfgoekeaadoor", sum := "e67a9418d8faae207112a1937e8a3e0e165f432299ca6576c09e7bff832665b4", func := "tribunal/tribunallaw06.LexisFirst", spec := "lexisFirst", inPlace := ["internal/abi.NoEscape", "internal/bytealg.MakeNoZero", "internal/bytealg.CountString", "internal/bytealg.IndexByteString", "internal/bytealg.IndexString"], unfollowed := true, recurses := true, named := ["unicode/utf8.first", "unicode/utf8.acceptRanges", "unicode.CaseRanges", "internal/bytealg.MaxLen"], apart := false, laid := [("unicode/utf8.acceptRanges", laid_unicode_utf8_acceptRanges), ("unicode.CaseRanges", laid_unicode_CaseRanges), ("unicode/utf8.first", laid_unicode_utf8_first)] }
def LexisFirstSaid : Prop := lexisFirstRow.holds Tryd.pinned (OpenSpec.ofChange lexisFirstSpec)

/-- ITS FALSE NEIGHBOUR: 'it returns false'. Refute it at one input. -/
def lexisFirstWrong : ChangeSpec := { name := "lexisFirst", fn := fun _ => fun
  | [d1, d2] => { results := [.lit (.bool false)], args := [d1, d2] }
  | _ => none }
def LexisFirstWrongFalsely : Prop := lexisFirstRow.holds Tryd.pinned (OpenSpec.ofChange lexisFirstWrong)

/-- 'tribunallaw07.SexpParses': WHATEVER THE INPUT: true; the input reads as it did. -/
def sexpParsesSpec : ChangeSpec := { name := "sexpParses", fn := fun _ => fun
  | [d] => { results := [.lit (.bool true)], args := [d] }
  | _ => none }
def sexpParsesRow : OpenClaim := { program := "ythklnopfgoekeaadoor", sum := "e67a9418d8faae207112a1937e8a3e0e165f432299ca6576c09e7bff832665b4", func := "tribunal/tribunallaw07.SexpParses", spec := "sexpParses", inPlace := ["internal/bytealg.CountString", "internal/bytealg.IndexByteString", "internal/bytealg.IndexString", "internal/abi.NoEscape", "internal/bytealg.MakeNoZero"], unfollowed := true, recurses := true, named := ["internal/bytealg.MaxLen", "unicode/utf8.first", "unicode/utf8.acceptRanges", "unicode.CaseRanges"], apart := false, laid := [("unicode/utf8.acceptRanges", laid_unicode_utf8_acceptRanges), ("unicode.CaseRanges", laid_unicode_CaseRanges), ("unicode/utf8.first", laid_unicode_utf8_first)] }
def SexpParsesSaid : Prop := sexpParsesRow.holds Tryd.pinned (OpenSpec.ofChange sexpParsesSpec)

/-- ITS FALSE NEIGHBOUR: 'it returns false'. Refute it at one input. -/
def sexpParsesWrong : ChangeSpec := { name := "sexpParses", fn := fun _ => fun
  | [d] => { results := [.lit (.bool false)], args := [d] }
  | _ => none }
def SexpParsesWrongFalsely : Prop := sexpParsesRow.holds Tryd.pinned (OpenSpec.ofChange sexpParsesWrong)

/-- 'tribunallaw07.SexpBack': WHATEVER THE INPUT: true; the input reads as it did. -/
def sexpBackSpec : ChangeSpec := { name := "sexpBack", fn := fun _ => fun
  | [d] => { results := [.lit (.bool true)], args := [d] }
  | _ => none }
def sexpBackRow : OpenClaim := { program := "ythklnopfgoekeaadoor", sum := "e67a9418d8faae207112a1937e8a3e0e165f432299ca6576c09e7bff832665b4", func := "tribunal/tribunallaw07.SexpBack", spec := "sexpBack", inPlace := ["internal/abi.NoEscape", "internal/bytealg.MakeNoZero", "internal/bytealg.CountString", "internal/bytealg.IndexByteString", "internal/bytealg.IndexString"], unfollowed := true, recurses := true, named := ["unicode/utf8.first", "unicode/utf8.acceptRanges", "unicode.CaseRanges", "internal/bytealg.MaxLen"], apart := false, laid := [("unicode/utf8.acceptRanges", laid_unicode_utf8_acceptRanges), ("unicode.CaseRanges", laid_unicode_CaseRanges), ("unicode/utf8.first", laid_unicode_utf8_first)] }
def SexpBackSaid : Prop := sexpBackRow.holds Tryd.pinned (OpenSpec.ofChange sexpBackSpec)

/-- ITS FALSE NEIGHBOUR: 'it returns false'. Refute it at one input. -/
def sexpBackWrong : ChangeSpec := { name := "sexpBack", fn := fun _ => fun
  | [d] => { results := [.lit (.bool false)], args := [d] }
  | _ => none }
def SexpBackWrongFalsely : Prop := sexpBackRow.holds Tryd.pinned (OpenSpec.ofChange sexpBackWrong)

/-- 'tribunallaw07.SexpJoins': WHATEVER THE INPUT: true; the input reads as it did. -/
def sexpJoinsSpec : ChangeSpec := { name := "sexpJoins", fn := fun _ => fun
  | [d1, d2] => { results := [.lit (.bool true)], args := [d1, d2] }
  | _ => none }
def sexpJoinsRow : OpenClaim := { program := "ythklnopfgoekeaadoor", sum := "e67a9418d8faae207112a1937e8a3e0e165f432299ca6576c09e7bff832665b4", func := "tribunal/tribunallaw07.SexpJoins", spec := "sexpJoins", inPlace := ["internal/bytealg.CountString", "internal/bytealg.IndexByteString", "internal/bytealg.IndexString", "internal/abi.NoEscape", "internal/bytealg.MakeNoZero"], unfollowed := true, recurses := true, named := ["internal/bytealg.MaxLen", "unicode/utf8.first", "unicode/utf8.acceptRanges", "unicode.CaseRanges"], apart := false, laid := [("unicode/utf8.acceptRanges", laid_unicode_utf8_acceptRanges), ("unicode.CaseRanges", laid_unicode_CaseRanges), ("unicode/utf8.first", laid_unicode_utf8_first)] }
def SexpJoinsSaid : Prop := sexpJoinsRow.holds Tryd.pinned (OpenSpec.ofChange sexpJoinsSpec)

/-- ITS FALSE NEIGHBOUR: 'it returns false'. Refute it at one input. -/
def sexpJoinsWrong : ChangeSpec := { name := "sexpJoins", fn := fun _ => fun
  | [d1, d2] => { results := [.lit (.bool false)], args := [d1, d2] }
  | _ => none }
def SexpJoinsWrongFalsely : Prop := sexpJoinsRow.holds Tryd.pinned (OpenSpec.ofChange sexpJoinsWrong)

/-- 'tribunallaw07.SexpOnce': WHATEVER THE INPUT: true; the input reads as it did. -/
def sexpOnceSpec : ChangeSpec := { name := "sexpOnce", fn := fun _ => fun
  | [d] => { results := [.lit (.bool true)], args := [d] }
  | _ => none }
def sexpOnceRow : OpenClaim := { program := "ythklnopfgoekeaadoor", sum := "e67a9418d8faae207112a1937e8a3e0e165f432299ca6576c09e7bff832665b4", func := "tribunal/tribunallaw07.SexpOnce", spec := "sexpOnce", inPlace := ["internal/bytealg.CountString", "internal/bytealg.IndexByteString", "internal/bytealg.IndexString", "internal/abi.NoEscape", "internal/bytealg.MakeNoZero"], unfollowed := true, recurses := true, named := ["internal/bytealg.MaxLen", "unicode/utf8.first", "unicode/utf8.acceptRanges", "unicode.CaseRanges"], apart := false, laid := [("unicode/utf8.acceptRanges", laid_unicode_utf8_acceptRanges), ("unicode.CaseRanges", laid_unicode_CaseRanges), ("unicode/utf8.first", laid_unicode_utf8_first)] }
def SexpOnceSaid : Prop := sexpOnceRow.holds Tryd.pinned (OpenSpec.ofChange sexpOnceSpec)

/-- ITS FALSE NEIGHBOUR: 'it returns false'. Refute it at one input. -/
def sexpOnceWrong : ChangeSpec := { name := "sexpOnce", fn := fun _ => fun
  | [d] => { results := [.lit (.bool false)], args := [d] }
  | _ => none }
def SexpOnceWrongFalsely : Prop := sexpOnceRow.holds Tryd.pinned (OpenSpec.ofChange sexpOnceWrong)

/-- 'tribunallaw07.SexpDeep': WHATEVER THE INPUT: true; the input reads as it did. -/
def sexpDeepSpec : ChangeSpec := { name := "sexpDeep", fn := fun _ => fun
  | [d1, d2] => { results := [.lit (.bool true)], args := [d1, d2] }
  | _ => none }
def sexpDeepRow : OpenClaim := { program := "ythklnopfgoekeaadoor", sum := "e67a9418d8faae207112a1937e8a3e0e165f432299ca6576c09e7bff832665b4", func := "tribunal/tribunallaw07.SexpDeep", spec := "sexpDeep", inPlace := ["internal/bytealg.CountString", "internal/bytealg.IndexByteString", "internal/bytealg.IndexString", "internal/abi.NoEscape", "internal/bytealg.MakeNoZero"], unfollowed := true, recurses := true, named := ["internal/bytealg.MaxLen", "unicode/utf8.first", "unicode/utf8.acceptRanges", "unicode.CaseRanges"], apart := false, laid := [("unicode/utf8.acceptRanges", laid_unicode_utf8_acceptRanges), ("unicode.CaseRanges", laid_unicode_CaseRanges), ("unicode/utf8.first", laid_unicode_utf8_first)] }
def SexpDeepSaid : Prop := sexpDeepRow.holds Tryd.pinned (OpenSpec.ofChange sexpDeepSpec)

/-- ITS FALSE NEIGHBOUR: 'it returns false'. Refute it at one input. -/
def sexpDeepWrong : ChangeSpec := { name := "sexpDeep", fn := fun _ => fun
  | [d1, d2] => { results := [.lit (.bool false)], args := [d1, d2] }
  | _ => none }
def SexpDeepWrongFalsely : Prop := sexpDeepRow.holds Tryd.pinned (OpenSpec.ofChange sexpDeepWrong)

/- THE SECOND FORM. 'bulk': how many values and letters a reading holds, each counted each time it is reached (what is shared counts as often as it is met; a slice's spare places count too). A statement '..UptoSaid' is the law's where the arguments, and the package variables that the reading takes, are together of bulk at most 1048576: NARROWER than '..Said'. Prove '..Said' where nothing that the law and all that it calls make is longer than what came in: it says more and counts as full. Else prove '..UptoSaid'. A law counts once. -/
mutual
def uptoBulk {H : Type} : DataW H → Nat
  | .lit (.string bytes) => bytes.length + 1
  | .lit _ => 1
  | .nil => 1
  | .ptr d => uptoBulk d + 1
  | .slice elems spare => uptoBulkAll elems + uptoBulkAll spare + 1
  | .agg parts => uptoBulkAll parts + 1
  | .iface _ d => uptoBulk d + 1
  | .map entries => uptoBulkEntries entries + 1
  | .held _ => 1
def uptoBulkAll {H : Type} : List (DataW H) → Nat
  | [] => 0
  | d :: r => uptoBulk d + uptoBulkAll r
def uptoBulkEntries {H : Type} : List (Lit × DataW H) → Nat
  | [] => 0
  | x :: r => uptoBulkEntry x + uptoBulkEntries r
def uptoBulkEntry {H : Type} : Lit × DataW H → Nat
  | (.string bytes, d) => bytes.length + uptoBulk d + 1
  | (_, d) => uptoBulk d + 1
 end
def uptoSmall : (H : Type) → List (DataW H) → Bool := fun _ ds => decide (uptoBulkAll ds ≤ 1048576)
def OpenSpec.upto (s : _root_.Go.ChangeSpec) : _root_.Go.OpenSpec := { _root_.Go.OpenSpec.ofChange s with cond := some uptoSmall }

/-- 'tribunallaw06.LexisScans', WHERE WHAT IT READS IS OF BULK AT MOST 1048576: true; the input reads as it did. -/
def lexisScansUptoRow : OpenClaim := { program := "ythklnopfgoekeaadoor", sum := "e67a9418d8faae207112a1937e8a3e0e165f432299ca6576c09e7bff832665b4", func := "tribunal/tribunallaw06.LexisScans", spec := "lexisScans", inPlace := ["internal/abi.NoEscape", "internal/bytealg.MakeNoZero", "internal/bytealg.CountString", "internal/bytealg.IndexByteString", "internal/bytealg.IndexString"], unfollowed := true, recurses := true, named := ["unicode/utf8.first", "unicode/utf8.acceptRanges", "unicode.CaseRanges", "internal/bytealg.MaxLen"], apart := false, laid := [("unicode/utf8.acceptRanges", laid_unicode_utf8_acceptRanges), ("unicode.CaseRanges", laid_unicode_CaseRanges), ("unicode/utf8.first", laid_unicode_utf8_first)], narrowed := true }
def LexisScansUptoSaid : Prop := lexisScansUptoRow.holds Tryd.pinned (OpenSpec.upto lexisScansSpec)

/-- 'tribunallaw06.LexisJoins', WHERE WHAT IT READS IS OF BULK AT MOST 1048576: true; the input reads as it did. -/
def lexisJoinsUptoRow : OpenClaim := { program := "ythklnopfgoekeaadoor", sum := "e67a9418d8faae207112a1937e8a3e0e165f432299ca6576c09e7bff832665b4", func := "tribunal/tribunallaw06.LexisJoins", spec := "lexisJoins", inPlace := ["internal/bytealg.CountString", "internal/bytealg.IndexByteString", "internal/bytealg.IndexString", "internal/abi.NoEscape", "internal/bytealg.MakeNoZero"], unfollowed := true, recurses := true, named := ["internal/bytealg.MaxLen", "unicode/utf8.first", "unicode/utf8.acceptRanges", "unicode.CaseRanges"], apart := false, laid := [("unicode/utf8.acceptRanges", laid_unicode_utf8_acceptRanges), ("unicode.CaseRanges", laid_unicode_CaseRanges), ("unicode/utf8.first", laid_unicode_utf8_first)], narrowed := true }
def LexisJoinsUptoSaid : Prop := lexisJoinsUptoRow.holds Tryd.pinned (OpenSpec.upto lexisJoinsSpec)

/-- 'tribunallaw06.LexisBack', WHERE WHAT IT READS IS OF BULK AT MOST 1048576: true; the input reads as it did. -/
def lexisBackUptoRow : OpenClaim := { program := "ythklnopfgoekeaadoor", sum := "e67a9418d8faae207112a1937e8a3e0e165f432299ca6576c09e7bff832665b4", func := "tribunal/tribunallaw06.LexisBack", spec := "lexisBack", inPlace := ["internal/bytealg.CountString", "internal/bytealg.IndexByteString", "internal/bytealg.IndexString", "internal/abi.NoEscape", "internal/bytealg.MakeNoZero"], unfollowed := true, recurses := true, named := ["internal/bytealg.MaxLen", "unicode/utf8.first", "unicode/utf8.acceptRanges", "unicode.CaseRanges"], apart := false, laid := [("unicode/utf8.acceptRanges", laid_unicode_utf8_acceptRanges), ("unicode.CaseRanges", laid_unicode_CaseRanges), ("unicode/utf8.first", laid_unicode_utf8_first)], narrowed := true }
def LexisBackUptoSaid : Prop := lexisBackUptoRow.holds Tryd.pinned (OpenSpec.upto lexisBackSpec)

/-- 'tribunallaw06.LexisAgain', WHERE WHAT IT READS IS OF BULK AT MOST 1048576: true; the input reads as it did. -/
def lexisAgainUptoRow : OpenClaim := { program := "ythklnopfgoekeaadoor", sum := "e67a9418d8faae207112a1937e8a3e0e165f432299ca6576c09e7bff832665b4", func := "tribunal/tribunallaw06.LexisAgain", spec := "lexisAgain", inPlace := ["internal/abi.NoEscape", "internal/bytealg.MakeNoZero", "internal/bytealg.CountString", "internal/bytealg.IndexByteString", "internal/bytealg.IndexString"], unfollowed := true, recurses := true, named := ["unicode/utf8.first", "unicode/utf8.acceptRanges", "unicode.CaseRanges", "internal/bytealg.MaxLen"], apart := false, laid := [("unicode/utf8.acceptRanges", laid_unicode_utf8_acceptRanges), ("unicode.CaseRanges", laid_unicode_CaseRanges), ("unicode/utf8.first", laid_unicode_utf8_first)], narrowed := true }
def LexisAgainUptoSaid : Prop := lexisAgainUptoRow.holds Tryd.pinned (OpenSpec.upto lexisAgainSpec)

/-- 'tribunallaw06.LexisPlaces', WHERE WHAT IT READS IS OF BULK AT MOST 1048576: true; the input reads as it did. -/
def lexisPlacesUptoRow : OpenClaim := { program := "ythklnopfgoekeaadoor", sum := "e67a9418d8faae207112a1937e8a3e0e165f432299ca6576c09e7bff832665b4", func := "tribunal/tribunallaw06.LexisPlaces", spec := "lexisPlaces", inPlace := ["internal/abi.NoEscape", "internal/bytealg.MakeNoZero", "internal/bytealg.CountString", "internal/bytealg.IndexByteString", "internal/bytealg.IndexString"], unfollowed := true, recurses := true, named := ["unicode/utf8.first", "unicode/utf8.acceptRanges", "unicode.CaseRanges", "internal/bytealg.MaxLen"], apart := false, laid := [("unicode/utf8.acceptRanges", laid_unicode_utf8_acceptRanges), ("unicode.CaseRanges", laid_unicode_CaseRanges), ("unicode/utf8.first", laid_unicode_utf8_first)], narrowed := true }
def LexisPlacesUptoSaid : Prop := lexisPlacesUptoRow.holds Tryd.pinned (OpenSpec.upto lexisPlacesSpec)

/-- 'tribunallaw06.LexisBlanks', WHERE WHAT IT READS IS OF BULK AT MOST 1048576: true; the input reads as it did. -/
def lexisBlanksUptoRow : OpenClaim := { program := "ythklnopfgoekeaadoor", sum := "e67a9418d8faae207112a1937e8a3e0e165f432299ca6576c09e7bff832665b4", func := "tribunal/tribunallaw06.LexisBlanks", spec := "lexisBlanks", inPlace := ["internal/abi.NoEscape", "internal/bytealg.MakeNoZero", "internal/bytealg.CountString", "internal/bytealg.IndexByteString", "internal/bytealg.IndexString"], unfollowed := true, recurses := true, named := ["unicode/utf8.first", "unicode/utf8.acceptRanges", "unicode.CaseRanges", "internal/bytealg.MaxLen"], apart := false, laid := [("unicode/utf8.acceptRanges", laid_unicode_utf8_acceptRanges), ("unicode.CaseRanges", laid_unicode_CaseRanges), ("unicode/utf8.first", laid_unicode_utf8_first)], narrowed := true }
def LexisBlanksUptoSaid : Prop := lexisBlanksUptoRow.holds Tryd.pinned (OpenSpec.upto lexisBlanksSpec)

/-- 'tribunallaw06.LexisFirst', WHERE WHAT IT READS IS OF BULK AT MOST 1048576: true; the input reads as it did. -/
def lexisFirstUptoRow : OpenClaim := { program := "ythklnopfgoekeaadoor", sum := "e67a9418d8faae207112a1937e8a3e0e165f432299ca6576c09e7bff832665b4", func := "tribunal/tribunallaw06.LexisFirst", spec := "lexisFirst", inPlace := ["internal/abi.NoEscape", "internal/bytealg.MakeNoZero", "internal/bytealg.CountString", "internal/bytealg.IndexByteString", "internal/bytealg.IndexString"], unfollowed := true, recurses := true, named := ["unicode/utf8.first", "unicode/utf8.acceptRanges", "unicode.CaseRanges", "internal/bytealg.MaxLen"], apart := false, laid := [("unicode/utf8.acceptRanges", laid_unicode_utf8_acceptRanges), ("unicode.CaseRanges", laid_unicode_CaseRanges), ("unicode/utf8.first", laid_unicode_utf8_first)], narrowed := true }
def LexisFirstUptoSaid : Prop := lexisFirstUptoRow.holds Tryd.pinned (OpenSpec.upto lexisFirstSpec)

/-- 'tribunallaw07.SexpParses', WHERE WHAT IT READS IS OF BULK AT MOST 1048576: true; the input reads as it did. -/
def sexpParsesUptoRow : OpenClaim := { program := "ythklnopfgoekeaadoor", sum := "e67a9418d8faae207112a1937e8a3e0e165f432299ca6576c09e7bff832665b4", func := "tribunal/tribunallaw07.SexpParses", spec := "sexpParses", inPlace := ["internal/bytealg.CountString", "internal/bytealg.IndexByteString", "internal/bytealg.IndexString", "internal/abi.NoEscape", "internal/bytealg.MakeNoZero"], unfollowed := true, recurses := true, named := ["internal/bytealg.MaxLen", "unicode/utf8.first", "unicode/utf8.acceptRanges", "unicode.CaseRanges"], apart := false, laid := [("unicode/utf8.acceptRanges", laid_unicode_utf8_acceptRanges), ("unicode.CaseRanges", laid_unicode_CaseRanges), ("unicode/utf8.first", laid_unicode_utf8_first)], narrowed := true }
def SexpParsesUptoSaid : Prop := sexpParsesUptoRow.holds Tryd.pinned (OpenSpec.upto sexpParsesSpec)

/-- 'tribunallaw07.SexpBack', WHERE WHAT IT READS IS OF BULK AT MOST 1048576: true; the input reads as it did. -/
def sexpBackUptoRow : OpenClaim := { program := "ythklnopfgoekeaadoor", sum := "e67a9418d8faae207112a1937e8a3e0e165f432299ca6576c09e7bff832665b4", func := "tribunal/tribunallaw07.SexpBack", spec := "sexpBack", inPlace := ["internal/abi.NoEscape", "internal/bytealg.MakeNoZero", "internal/bytealg.CountString", "internal/bytealg.IndexByteString", "internal/bytealg.IndexString"], unfollowed := true, recurses := true, named := ["unicode/utf8.first", "unicode/utf8.acceptRanges", "unicode.CaseRanges", "internal/bytealg.MaxLen"], apart := false, laid := [("unicode/utf8.acceptRanges", laid_unicode_utf8_acceptRanges), ("unicode.CaseRanges", laid_unicode_CaseRanges), ("unicode/utf8.first", laid_unicode_utf8_first)], narrowed := true }
def SexpBackUptoSaid : Prop := sexpBackUptoRow.holds Tryd.pinned (OpenSpec.upto sexpBackSpec)

/-- 'tribunallaw07.SexpJoins', WHERE WHAT IT READS IS OF BULK AT MOST 1048576: true; the input reads as it did. -/
def sexpJoinsUptoRow : OpenClaim := { program := "ythklnopfgoekeaadoor", sum := "e67a9418d8faae207112a1937e8a3e0e165f432299ca6576c09e7bff832665b4", func := "tribunal/tribunallaw07.SexpJoins", spec := "sexpJoins", inPlace := ["internal/bytealg.CountString", "internal/bytealg.IndexByteString", "internal/bytealg.IndexString", "internal/abi.NoEscape", "internal/bytealg.MakeNoZero"], unfollowed := true, recurses := true, named := ["internal/bytealg.MaxLen", "unicode/utf8.first", "unicode/utf8.acceptRanges", "unicode.CaseRanges"], apart := false, laid := [("unicode/utf8.acceptRanges", laid_unicode_utf8_acceptRanges), ("unicode.CaseRanges", laid_unicode_CaseRanges), ("unicode/utf8.first", laid_unicode_utf8_first)], narrowed := true }
def SexpJoinsUptoSaid : Prop := sexpJoinsUptoRow.holds Tryd.pinned (OpenSpec.upto sexpJoinsSpec)

/-- 'tribunallaw07.SexpOnce', WHERE WHAT IT READS IS OF BULK AT MOST 1048576: true; the input reads as it did. -/
def sexpOnceUptoRow : OpenClaim := { program := "ythklnopfgoekeaadoor", sum := "e67a9418d8faae207112a1937e8a3e0e165f432299ca6576c09e7bff832665b4", func := "tribunal/tribunallaw07.SexpOnce", spec := "sexpOnce", inPlace := ["internal/bytealg.CountString", "internal/bytealg.IndexByteString", "internal/bytealg.IndexString", "internal/abi.NoEscape", "internal/bytealg.MakeNoZero"], unfollowed := true, recurses := true, named := ["internal/bytealg.MaxLen", "unicode/utf8.first", "unicode/utf8.acceptRanges", "unicode.CaseRanges"], apart := false, laid := [("unicode/utf8.acceptRanges", laid_unicode_utf8_acceptRanges), ("unicode.CaseRanges", laid_unicode_CaseRanges), ("unicode/utf8.first", laid_unicode_utf8_first)], narrowed := true }
def SexpOnceUptoSaid : Prop := sexpOnceUptoRow.holds Tryd.pinned (OpenSpec.upto sexpOnceSpec)

/-- 'tribunallaw07.SexpDeep', WHERE WHAT IT READS IS OF BULK AT MOST 1048576: true; the input reads as it did. -/
def sexpDeepUptoRow : OpenClaim := { program := "ythklnopfgoekeaadoor", sum := "e67a9418d8faae207112a1937e8a3e0e165f432299ca6576c09e7bff832665b4", func := "tribunal/tribunallaw07.SexpDeep", spec := "sexpDeep", inPlace := ["internal/bytealg.CountString", "internal/bytealg.IndexByteString", "internal/bytealg.IndexString", "internal/abi.NoEscape", "internal/bytealg.MakeNoZero"], unfollowed := true, recurses := true, named := ["internal/bytealg.MaxLen", "unicode/utf8.first", "unicode/utf8.acceptRanges", "unicode.CaseRanges"], apart := false, laid := [("unicode/utf8.acceptRanges", laid_unicode_utf8_acceptRanges), ("unicode.CaseRanges", laid_unicode_CaseRanges), ("unicode/utf8.first", laid_unicode_utf8_first)], narrowed := true }
def SexpDeepUptoSaid : Prop := sexpDeepUptoRow.holds Tryd.pinned (OpenSpec.upto sexpDeepSpec)

end Rows
end Go.Proofs.YthklnopfgoekeaaDoor
