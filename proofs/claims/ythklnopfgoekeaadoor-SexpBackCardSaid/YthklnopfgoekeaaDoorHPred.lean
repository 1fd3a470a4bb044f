import Derived.Test.YthklnopfgoekeaaDoorX3
import Derived.Test.YthklnopfgoekeaaDoorHSimple
namespace Go.Proofs.YthklnopfgoekeaaDoor.X
open Go.RowKit Go.Proofs.YthklnopfgoekeaaDoorW.PrintWords Go.Proofs.YthklnopfgoekeaaDoorW.PrintLast Go.Proofs.YthklnopfgoekeaaDoorW.PrintMore
set_option linter.unusedVariables false

def digitB (c : Int) : Bool := decide (48 ≤ c) && decide (c ≤ 57)
/-- What a byte begins: the program's numbers. -/
def classI (c : Int) : Int :=
  if c = 9 then 1 else if c = 10 then 1 else if c = 13 then 1 else if c = 32 then 1 else if c = 59 then 2 else if c = 40 then 3 else if c = 41 then 3 else if c = 35 then 5 else if c = 34 then 6 else if c = 124 then 7 else if c = 58 then 8 else if digitB c = true then 4 else if simpleB c = true then 9 else 0
def printB (c : Int) : Bool := (decide (32 ≤ c) && decide (c ≤ 126)) || decide (128 ≤ c) || classI c == 1
theorem digit_f (c : Int) : lexis_digit.f c = some (digitB c) := by
  unfold lexis_digit.f digitB
  by_cases h : c ≥ 48
  · rw [if_pos h]; simp [h]
  · rw [if_neg h]; simp [h]
theorem class_f (c : Int) : lexis_class.f 3 c = some (classI c) := by
  unfold lexis_class.f classI
  simp only [lexis_class.j0, digit_f, lexis_simple.f, Option.bind_some]
  by_cases h9 : c = 9
  · rw [if_pos h9, if_pos h9]
  rw [if_neg h9, if_neg h9]
  by_cases h10 : c = 10
  · rw [if_pos h10, if_pos h10]
  rw [if_neg h10, if_neg h10]
  by_cases h13 : c = 13
  · rw [if_pos h13, if_pos h13]
  rw [if_neg h13, if_neg h13]
  by_cases h32 : c = 32
  · rw [if_pos h32, if_pos h32]
  rw [if_neg h32, if_neg h32]
  by_cases h59 : c = 59
  · rw [if_pos h59, if_pos h59]
  rw [if_neg h59, if_neg h59]
  by_cases h40 : c = 40
  · subst h40; rfl
  rw [if_neg h40, if_neg h40]
  by_cases h41 : c = 41
  · subst h41; rfl
  rw [if_neg h41, if_neg (by simpa using h41)]
  by_cases h35 : c = 35
  · rw [if_pos h35, if_pos h35]
  rw [if_neg h35, if_neg h35]
  by_cases h34 : c = 34
  · rw [if_pos h34, if_pos h34]
  rw [if_neg h34, if_neg h34]
  by_cases h124 : c = 124
  · rw [if_pos h124, if_pos h124]
  rw [if_neg h124, if_neg h124]
  by_cases h58 : c = 58
  · rw [if_pos h58, if_pos h58]
  rw [if_neg h58, if_neg h58]
  split
  · rfl
  · split
    · rfl
    · rfl
theorem print_f (c : Int) : lexis_printable.f 3 c = some (printB c) := by
  unfold lexis_printable.f printB
  simp only [class_f, Option.bind_some]
  by_cases h1 : 32 ≤ c <;> by_cases h2 : c ≤ 126 <;> by_cases h3 : 128 ≤ c <;> simp [h1, h2, h3]
theorem class_calls (c : Int) (w : World) : Calls Tryd.prog 32 #[.int .u8 c] w fun e w' => e = .returned (.int .i64 (classI c)) ∧ Below w.heap.size w w' := lexis_class.calls 3 c _ w (class_f c)
def notNlB (c : Int) : Bool := c != 10
def binB (c : Int) : Bool := c == 48 || c == 49
def hexB (c : Int) : Bool := digitB c || (decide (97 ≤ bits .or .u8 c 32) && decide (bits .or .u8 c 32 ≤ 102))
def quoteB (c : Int) : Bool := c != 34 && printB c
def barB (c : Int) : Bool := c != 124 && c != 92 && printB c
/-- A function value of bytes: what it answers, and that it leaves what lies there. -/
def Pred (F : Nat) (p : Int → Bool) : Prop := ∀ (c : Int) (w : World), Calls Tryd.prog F #[.int .u8 c] w fun e w' => e = .returned (.bool (p c)) ∧ Below w.heap.size w w'
theorem pred_digit : Pred 55 digitB := fun c w => (lexis_digit.calls c _ w (digit_f c)).mono fun _ _ h => ⟨h.1, h.2.below⟩
theorem pred_simple : Pred 56 simpleB := fun c w => lexis_simple.calls c _ w rfl
theorem pred_notNl : Pred 67 notNlB := fun c w => (lexis_scanner_comments_1.calls c _ w rfl).mono fun _ _ h => ⟨h.1, h.2.below⟩
theorem pred_bin : Pred 70 binB := fun c w => (lexis_scanner_hashes_1.calls c _ w (by unfold lexis_scanner_hashes_1.f binB; split <;> simp_all)).mono fun _ _ h => ⟨h.1, h.2.below⟩
theorem pred_hex : Pred 71 hexB := fun c w => (lexis_scanner_hashes_2.calls c _ w (by unfold lexis_scanner_hashes_2.f hexB; simp only [digit_f, Option.bind_some]; by_cases h1 : digitB c = true <;> by_cases h2 : 97 ≤ bits .or .u8 c 32 <;> simp [h1, h2])).mono fun _ _ h => ⟨h.1, h.2.below⟩
theorem pred_quote : Pred 73 quoteB := fun c w => (lexis_scanner_quotes_1.calls 3 c _ w (by unfold lexis_scanner_quotes_1.f quoteB; simp only [print_f, Option.bind_some]; by_cases h1 : c = 34 <;> simp [h1]))
theorem pred_bar : Pred 75 barB := fun c w => (lexis_scanner_bars_1.calls 3 c _ w (by unfold lexis_scanner_bars_1.f barB; simp only [print_f, Option.bind_some]; by_cases h1 : c = 124 <;> by_cases h2 : c = 92 <;> simp [h1, h2]))
end Go.Proofs.YthklnopfgoekeaaDoor.X
