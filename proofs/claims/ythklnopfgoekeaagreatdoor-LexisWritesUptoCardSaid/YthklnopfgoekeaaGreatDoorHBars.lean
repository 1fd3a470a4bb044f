/- Texts of one kind, joined by wip/merge.py: HPred, HStep, HRun, HPut, HBare, HWords, HBars. -/
import Derived.Test.YthklnopfgoekeaaGreatDoorX3
import Derived.Test.YthklnopfgoekeaaGreatDoorHSimple
import Derived.Deep.RegionLaw
import Derived.BigRegion
import Derived.StillTailTactics
namespace Go.Proofs.YthklnopfgoekeaaGreatDoor.X
section
open Go.RowKit Go.Proofs.YthklnopfgoekeaaGreatDoorW.PrintWords Go.Proofs.YthklnopfgoekeaaGreatDoorW.PrintLast Go.Proofs.YthklnopfgoekeaaGreatDoorW.PrintMore
set_option linter.unusedVariables false

def digitB (c : Int) : Bool := decide (48 ≤ c) && decide (c ≤ 57)
/-- What a byte begins: the program's numbers. -/
def classI (c : Int) : Int :=
  if c = 9 then 1 else if c = 10 then 1 else if c = 13 then 1 else if c = 32 then 1 else if c = 59 then 2 else if c = 40 then 3 else if c = 41 then 3 else if c = 35 then 5 else if c = 34 then 6 else if c = 124 then 7 else if c = 58 then 8 else if digitB c = true then 4 else if simpleB c = true then 9 else 0
def printB (c : Int) : Bool := (decide (32 ≤ c) && decide (c ≤ 126)) || decide (128 ≤ c) || classI c == 1
theorem digit_f (c : Int) : lexis_digit.f c = some (digitB c) := by
  unfold lexis_digit.f digitB
  by_cases h : c ≥ 48
  · rw [if_pos h]; simp [h]
  · rw [if_neg h]; simp [h]
theorem class_f (c : Int) : lexis_class.f 3 c = some (classI c) := by
  unfold lexis_class.f classI
  simp only [lexis_class.j0, digit_f, lexis_simple.f, Option.bind_some]
  by_cases h9 : c = 9
  · rw [if_pos h9, if_pos h9]
  rw [if_neg h9, if_neg h9]
  by_cases h10 : c = 10
  · rw [if_pos h10, if_pos h10]
  rw [if_neg h10, if_neg h10]
  by_cases h13 : c = 13
  · rw [if_pos h13, if_pos h13]
  rw [if_neg h13, if_neg h13]
  by_cases h32 : c = 32
  · rw [if_pos h32, if_pos h32]
  rw [if_neg h32, if_neg h32]
  by_cases h59 : c = 59
  · rw [if_pos h59, if_pos h59]
  rw [if_neg h59, if_neg h59]
  by_cases h40 : c = 40
  · subst h40; rfl
  rw [if_neg h40, if_neg h40]
  by_cases h41 : c = 41
  · subst h41; rfl
  rw [if_neg h41, if_neg (by simpa using h41)]
  by_cases h35 : c = 35
  · rw [if_pos h35, if_pos h35]
  rw [if_neg h35, if_neg h35]
  by_cases h34 : c = 34
  · rw [if_pos h34, if_pos h34]
  rw [if_neg h34, if_neg h34]
  by_cases h124 : c = 124
  · rw [if_pos h124, if_pos h124]
  rw [if_neg h124, if_neg h124]
  by_cases h58 : c = 58
  · rw [if_pos h58, if_pos h58]
  rw [if_neg h58, if_neg h58]
  split
  · rfl
  · split
    · rfl
    · rfl
theorem print_f (c : Int) : lexis_printable.f 3 c = some (printB c) := by
  unfold lexis_printable.f printB
  simp only [class_f, Option.bind_some]
  by_cases h1 : 32 ≤ c <;> by_cases h2 : c ≤ 126 <;> by_cases h3 : 128 ≤ c <;> simp [h1, h2, h3]
theorem class_calls (c : Int) (w : World) : Calls Tryz.prog 51 #[.int .u8 c] w fun e w' => e = .returned (.int .i64 (classI c)) ∧ Below w.heap.size w w' := lexis_class.calls 3 c _ w (class_f c)
def notNlB (c : Int) : Bool := c != 10
def binB (c : Int) : Bool := c == 48 || c == 49
def hexB (c : Int) : Bool := digitB c || (decide (97 ≤ bits .or .u8 c 32) && decide (bits .or .u8 c 32 ≤ 102))
def quoteB (c : Int) : Bool := c != 34 && printB c
def barB (c : Int) : Bool := c != 124 && c != 92 && printB c
/-- A function value of bytes: what it answers, and that it leaves what lies there. -/
def Pred (F : Nat) (p : Int → Bool) : Prop := ∀ (c : Int) (w : World), Calls Tryz.prog F #[.int .u8 c] w fun e w' => e = .returned (.bool (p c)) ∧ Below w.heap.size w w'
theorem pred_digit : Pred 72 digitB := fun c w => (lexis_digit.calls c _ w (digit_f c)).mono fun _ _ h => ⟨h.1, h.2.below⟩
theorem pred_simple : Pred 73 simpleB := fun c w => lexis_simple.calls c _ w rfl
theorem pred_notNl : Pred 89 notNlB := fun c w => (lexis_scanner_comments_1.calls c _ w rfl).mono fun _ _ h => ⟨h.1, h.2.below⟩
theorem pred_bin : Pred 92 binB := fun c w => (lexis_scanner_hashes_1.calls c _ w (by unfold lexis_scanner_hashes_1.f binB; split <;> simp_all)).mono fun _ _ h => ⟨h.1, h.2.below⟩
theorem pred_hex : Pred 93 hexB := fun c w => (lexis_scanner_hashes_2.calls c _ w (by unfold lexis_scanner_hashes_2.f hexB; simp only [digit_f, Option.bind_some]; by_cases h1 : digitB c = true <;> by_cases h2 : 97 ≤ bits .or .u8 c 32 <;> simp [h1, h2])).mono fun _ _ h => ⟨h.1, h.2.below⟩
theorem pred_quote : Pred 95 quoteB := fun c w => (lexis_scanner_quotes_1.calls 3 c _ w (by unfold lexis_scanner_quotes_1.f quoteB; simp only [print_f, Option.bind_some]; by_cases h1 : c = 34 <;> simp [h1]))
theorem pred_bar : Pred 96 barB := fun c w => (lexis_scanner_bars_1.calls 3 c _ w (by unfold lexis_scanner_bars_1.f barB; simp only [print_f, Option.bind_some]; by_cases h1 : c = 124 <;> by_cases h2 : c = 92 <;> simp [h1, h2]))
end
section
open Go.RowKit Go.Proofs.YthklnopfgoekeaaGreatDoorW.PrintWords Go.Proofs.YthklnopfgoekeaaGreatDoorW.PrintLast Go.Proofs.YthklnopfgoekeaaGreatDoorW.PrintMore
set_option linter.unusedVariables false

set_option maxHeartbeats 2000000 in
theorem step_calls (g : Nat) (s : ByteArray) (x l c : Int) (v : Value) (n : Nat) (w : World) (h : Cells g s x l c v w) (hb : Nb s x l c) (hn : x + n ≤ s.size) :
    Calls Tryz.prog 87 #[.pointer (some ⟨g, 0, none⟩), .int .i64 n] w fun e w' => e = .returned (.tuple #[]) ∧ Cells g s (x + n) (lc s x l c n).1 (lc s x l c n).2 v w' ∧ Only g w w' := by
  have hs := hb.size
  have hx0 := hb.x0
  have H := Aside0.mk h
  have HB := Aside0.mk hb
  clear h hb
  go_enter Tryz.func87, Tryz.ntmps87
  go_wp2
  go_loopw [5] (fun i wr => ∃ (k : Nat) (x1 l1 c1 : Int), k ≤ n ∧ i = .int .i64 k ∧ Aside0 (x1 = x + k ∧ lc s x l c k = (l1, c1)) ∧ Aside0 (Nb s x1 l1 c1) ∧ Aside0 (Cells g s x1 l1 c1 v wr) ∧ Aside0 (Only g w wr)) (fun i _ => n - (intOf i).toNat)
  case atStart => exact ⟨0, x, l, c, by omega, rfl, ⟨by omega, rfl⟩, HB, H, ⟨Only.refl _ _⟩⟩
  case round =>
    obtain ⟨k, x1, l1, c1, hk, rfl, HE, HN, HC, HF⟩ := hrel
    by_cases hlt : k < n
    · have q1 : x1 < (s.size : Int) := by have := HE.out.1; omega
      have q0 : 0 ≤ x1 := HN.out.x0
      have r1 := HN.out.l1
      have r2 := HN.out.l2
      have r3 := HN.out.c1
      have r4 := HN.out.c2
      have hc0 := HC.out.c0
      have hc1 := HC.out.c1
      have hc2 := HC.out.c2
      have hc3 := HC.out.c3
      have hf1 := HC.out.fz 1
      have hf2 := HC.out.fz 2
      have hf3 := HC.out.fz 3
      have hx := bt_at s x1
      by_cases hnl : (bt s x1 == 10) = true
      · go_wp2
        go_quiet (fail)
        go_wp2
        go_roundw
        case rel => exact ⟨k + 1, x1 + 1, l1 + 1, 1, by omega, by go_num, ⟨by have := HE.out.1; omega, by rw [lc_nl (by rw [← HE.out.1]; exact hnl), HE.out.2]⟩, ⟨by obtain ⟨a1, a2, a3, a4, a5, a6, a7⟩ := HN.out; exact ⟨a1, by omega, by omega, by omega, by omega, by omega, by omega⟩⟩, ⟨((((HC.out.drewN _).set2 _).set3 _).set3 _).set1 _⟩, ⟨((((HF.out.drewN _).set_ _ _).set_ _ _).set_ _ _).set_ _ _⟩⟩
        case measure => simp [intOf]; omega
      · replace hnl := Bool.eq_false_iff.mpr hnl
        go_wp2
        go_quiet (fail)
        go_wp2
        go_roundw
        case rel => exact ⟨k + 1, x1 + 1, l1, c1 + 1, by omega, by go_num, ⟨by have := HE.out.1; omega, by rw [lc_no (by rw [← HE.out.1]; exact hnl), HE.out.2]⟩, ⟨by obtain ⟨a1, a2, a3, a4, a5, a6, a7⟩ := HN.out; exact ⟨a1, by omega, by omega, by omega, by omega, by omega, by omega⟩⟩, ⟨((HC.out.drewN _).set3 _).set1 _⟩, ⟨((HF.out.drewN _).set_ _ _).set_ _ _⟩⟩
        case measure => simp [intOf]; omega
    · obtain rfl : k = n := by omega
      go_wp2
      go_end0
      obtain ⟨he1, he2⟩ := HE.out
      subst he1
      rw [he2]
      exact ⟨rfl, HC.out, HF.out⟩
end
section
open Go.RowKit Go.Proofs.YthklnopfgoekeaaGreatDoorW.PrintWords Go.Proofs.YthklnopfgoekeaaGreatDoorW.PrintLast Go.Proofs.YthklnopfgoekeaaGreatDoorW.PrintMore
set_option linter.unusedVariables false

def runK (p : Int → Bool) (s : ByteArray) : Nat → Nat → Nat
  | _, 0 => 0
  | y, d + 1 => if p (bt s y) = true then runK p s (y + 1) d + 1 else 0
/-- How many bytes from place y on meet p. -/
def runN (p : Int → Bool) (s : ByteArray) (y : Nat) : Nat := runK p s y (s.size - y)
theorem runK_eq (p : Int → Bool) (s : ByteArray) : ∀ (d y k : Nat), y + d = s.size → (∀ j, j < k → p (bt s ((y : Int) + (j : Nat))) = true) → k ≤ d → (k = d ∨ p (bt s ((y : Int) + k)) = false) → runK p s y d = k
  | 0, y, k, hd, h, hk, hs => by
    have : k = 0 := by omega
    subst this; rfl
  | d + 1, y, 0, hd, h, hk, hs => by
    rcases hs with hs | hs
    · omega
    · have hs' : p (bt s y) = false := by simpa using hs
      rw [runK, if_neg (by rw [hs']; decide)]
  | d + 1, y, k + 1, hd, h, hk, hs => by
    have h0 : p (bt s y) = true := by simpa using h 0 (by omega)
    rw [runK, if_pos h0]
    have := runK_eq p s d (y + 1) k (by omega) (fun j hj => by
      have := h (j + 1) (by omega)
      have e : (y : Int) + ((j + 1 : Nat) : Int) = ((y + 1 : Nat) : Int) + (j : Nat) := by omega
      rw [e] at this
      exact this) (by omega) (by
      rcases hs with hs | hs
      · exact .inl (by omega)
      · right
        have e : (y : Int) + ((k + 1 : Nat) : Int) = ((y + 1 : Nat) : Int) + (k : Nat) := by omega
        rw [e] at hs
        exact hs)
    omega
theorem runN_eq {p : Int → Bool} {s : ByteArray} {y k : Nat} (hy : y + k ≤ s.size) (h : ∀ j, j < k → p (bt s ((y : Int) + (j : Nat))) = true) (hs : y + k = s.size ∨ p (bt s ((y : Int) + k)) = false) : runN p s y = k := by
  unfold runN
  refine runK_eq p s _ y k (by omega) h (by omega) ?_
  rcases hs with hs | hs
  · exact .inl (by omega)
  · exact .inr hs
theorem runK_le (p : Int → Bool) (s : ByteArray) : ∀ (d y : Nat), runK p s y d ≤ d
  | 0, _ => Nat.le_refl _
  | d + 1, y => by
    rw [runK]
    split
    · have := runK_le p s d (y + 1); omega
    · omega
theorem runN_le (p : Int → Bool) (s : ByteArray) (y : Nat) (hy : y ≤ s.size) : y + runN p s y ≤ s.size := by
  have := runK_le p s (s.size - y) y
  unfold runN
  omega
theorem bt_nat (s : ByteArray) (i : Nat) (h : i < s.size) : ((s[i]'h).toNat : Int) = bt s i := by
  have := bt_at s i (by simpa using h)
  simpa using this

set_option maxHeartbeats 2000000 in
theorem run_digit (g : Nat) (s : ByteArray) (y : Nat) (hy : y ≤ s.size) (hs : s.size ≤ 1048576) (w : World) (h : w.cell? ⟨g, 0, none⟩ = some (.string s)) :
    Calls Tryz.prog 88 #[.pointer (some ⟨g, 0, none⟩), .int .i64 y, .func (.func 72) #[] #[]] w fun e w' => e = .returned (.int .i64 (runN digitB s y)) ∧ Below w.heap.size w w' := by
  have H := Aside0.mk h
  clear h
  go_enter Tryz.func88, Tryz.ntmps88
  go_wp2
  go_loopw [7] (fun i wr => ∃ (k : Nat), y + k ≤ s.size ∧ i = .int .i64 k ∧ Aside0 (∀ j, j < k → digitB (bt s ((y : Int) + (j : Nat))) = true) ∧ Aside0 (Below w.heap.size w wr)) (fun i _ => s.size - y - (intOf i).toNat)
  case atStart => exact ⟨0, by omega, rfl, ⟨fun j hj => by omega⟩, ⟨Below.refl _ _⟩⟩
  case round =>
    obtain ⟨k, hk, rfl, HP, HB⟩ := hrel
    have hc0 := pw_cell_below HB.out H.out
    by_cases hlt : y + k < s.size
    · have HX := Aside0.mk (bt_nat s (y + k) hlt)
      by_cases hp : digitB (bt s ((y : Int) + k)) = true
      · have HY := Aside0.mk hp
        clear hp
        go_wp2_with fail
        rw [HX.out]
        refine (pred_digit _ _).mono ?_
        rintro e w1 ⟨rfl, hb1⟩
        have e1 : digitB (bt s ((y + k : Nat) : Int)) = true := by rw [show ((y + k : Nat) : Int) = (y : Int) + k from by omega]; exact HY.out
        rw [e1]
        have HB1 := Aside0.mk hb1
        clear hb1 e1
        go_wp2
        go_roundw
        case rel => exact ⟨k + 1, by omega, by go_num, ⟨fun j hj => by
          rcases Nat.lt_or_ge j k with h1 | h1
          · exact HP.out j h1
          · obtain rfl : j = k := by omega
            exact HY.out⟩, ⟨below_then HB.out HB.out.size HB1.out⟩⟩
        case measure => simp [intOf]; omega
      · replace hp := Bool.eq_false_iff.mpr hp
        have HY := Aside0.mk hp
        clear hp
        go_wp2_with fail
        rw [HX.out]
        refine (pred_digit _ _).mono ?_
        rintro e w1 ⟨rfl, hb1⟩
        have e1 : digitB (bt s ((y + k : Nat) : Int)) = false := by rw [show ((y + k : Nat) : Int) = (y : Int) + k from by omega]; exact HY.out
        rw [e1]
        have HB1 := Aside0.mk hb1
        clear hb1 e1
        go_wp2
        go_ret
        exact ⟨by rw [runN_eq (by omega) HP.out (.inr HY.out)]; rfl, below_then HB.out HB.out.size HB1.out⟩
    · go_wp2
      go_ret
      exact ⟨by rw [runN_eq (by omega) HP.out (.inl (by omega))]; rfl, HB.out⟩

set_option maxHeartbeats 2000000 in
theorem run_simple (g : Nat) (s : ByteArray) (y : Nat) (hy : y ≤ s.size) (hs : s.size ≤ 1048576) (w : World) (h : w.cell? ⟨g, 0, none⟩ = some (.string s)) :
    Calls Tryz.prog 88 #[.pointer (some ⟨g, 0, none⟩), .int .i64 y, .func (.func 73) #[] #[]] w fun e w' => e = .returned (.int .i64 (runN simpleB s y)) ∧ Below w.heap.size w w' := by
  have H := Aside0.mk h
  clear h
  go_enter Tryz.func88, Tryz.ntmps88
  go_wp2
  go_loopw [7] (fun i wr => ∃ (k : Nat), y + k ≤ s.size ∧ i = .int .i64 k ∧ Aside0 (∀ j, j < k → simpleB (bt s ((y : Int) + (j : Nat))) = true) ∧ Aside0 (Below w.heap.size w wr)) (fun i _ => s.size - y - (intOf i).toNat)
  case atStart => exact ⟨0, by omega, rfl, ⟨fun j hj => by omega⟩, ⟨Below.refl _ _⟩⟩
  case round =>
    obtain ⟨k, hk, rfl, HP, HB⟩ := hrel
    have hc0 := pw_cell_below HB.out H.out
    by_cases hlt : y + k < s.size
    · have HX := Aside0.mk (bt_nat s (y + k) hlt)
      by_cases hp : simpleB (bt s ((y : Int) + k)) = true
      · have HY := Aside0.mk hp
        clear hp
        go_wp2_with fail
        rw [HX.out]
        refine (pred_simple _ _).mono ?_
        rintro e w1 ⟨rfl, hb1⟩
        have e1 : simpleB (bt s ((y + k : Nat) : Int)) = true := by rw [show ((y + k : Nat) : Int) = (y : Int) + k from by omega]; exact HY.out
        rw [e1]
        have HB1 := Aside0.mk hb1
        clear hb1 e1
        go_wp2
        go_roundw
        case rel => exact ⟨k + 1, by omega, by go_num, ⟨fun j hj => by
          rcases Nat.lt_or_ge j k with h1 | h1
          · exact HP.out j h1
          · obtain rfl : j = k := by omega
            exact HY.out⟩, ⟨below_then HB.out HB.out.size HB1.out⟩⟩
        case measure => simp [intOf]; omega
      · replace hp := Bool.eq_false_iff.mpr hp
        have HY := Aside0.mk hp
        clear hp
        go_wp2_with fail
        rw [HX.out]
        refine (pred_simple _ _).mono ?_
        rintro e w1 ⟨rfl, hb1⟩
        have e1 : simpleB (bt s ((y + k : Nat) : Int)) = false := by rw [show ((y + k : Nat) : Int) = (y : Int) + k from by omega]; exact HY.out
        rw [e1]
        have HB1 := Aside0.mk hb1
        clear hb1 e1
        go_wp2
        go_ret
        exact ⟨by rw [runN_eq (by omega) HP.out (.inr HY.out)]; rfl, below_then HB.out HB.out.size HB1.out⟩
    · go_wp2
      go_ret
      exact ⟨by rw [runN_eq (by omega) HP.out (.inl (by omega))]; rfl, HB.out⟩

set_option maxHeartbeats 2000000 in
theorem run_notNl (g : Nat) (s : ByteArray) (y : Nat) (hy : y ≤ s.size) (hs : s.size ≤ 1048576) (w : World) (h : w.cell? ⟨g, 0, none⟩ = some (.string s)) :
    Calls Tryz.prog 88 #[.pointer (some ⟨g, 0, none⟩), .int .i64 y, .func (.func 89) #[] #[]] w fun e w' => e = .returned (.int .i64 (runN notNlB s y)) ∧ Below w.heap.size w w' := by
  have H := Aside0.mk h
  clear h
  go_enter Tryz.func88, Tryz.ntmps88
  go_wp2
  go_loopw [7] (fun i wr => ∃ (k : Nat), y + k ≤ s.size ∧ i = .int .i64 k ∧ Aside0 (∀ j, j < k → notNlB (bt s ((y : Int) + (j : Nat))) = true) ∧ Aside0 (Below w.heap.size w wr)) (fun i _ => s.size - y - (intOf i).toNat)
  case atStart => exact ⟨0, by omega, rfl, ⟨fun j hj => by omega⟩, ⟨Below.refl _ _⟩⟩
  case round =>
    obtain ⟨k, hk, rfl, HP, HB⟩ := hrel
    have hc0 := pw_cell_below HB.out H.out
    by_cases hlt : y + k < s.size
    · have HX := Aside0.mk (bt_nat s (y + k) hlt)
      by_cases hp : notNlB (bt s ((y : Int) + k)) = true
      · have HY := Aside0.mk hp
        clear hp
        go_wp2_with fail
        rw [HX.out]
        refine (pred_notNl _ _).mono ?_
        rintro e w1 ⟨rfl, hb1⟩
        have e1 : notNlB (bt s ((y + k : Nat) : Int)) = true := by rw [show ((y + k : Nat) : Int) = (y : Int) + k from by omega]; exact HY.out
        rw [e1]
        have HB1 := Aside0.mk hb1
        clear hb1 e1
        go_wp2
        go_roundw
        case rel => exact ⟨k + 1, by omega, by go_num, ⟨fun j hj => by
          rcases Nat.lt_or_ge j k with h1 | h1
          · exact HP.out j h1
          · obtain rfl : j = k := by omega
            exact HY.out⟩, ⟨below_then HB.out HB.out.size HB1.out⟩⟩
        case measure => simp [intOf]; omega
      · replace hp := Bool.eq_false_iff.mpr hp
        have HY := Aside0.mk hp
        clear hp
        go_wp2_with fail
        rw [HX.out]
        refine (pred_notNl _ _).mono ?_
        rintro e w1 ⟨rfl, hb1⟩
        have e1 : notNlB (bt s ((y + k : Nat) : Int)) = false := by rw [show ((y + k : Nat) : Int) = (y : Int) + k from by omega]; exact HY.out
        rw [e1]
        have HB1 := Aside0.mk hb1
        clear hb1 e1
        go_wp2
        go_ret
        exact ⟨by rw [runN_eq (by omega) HP.out (.inr HY.out)]; rfl, below_then HB.out HB.out.size HB1.out⟩
    · go_wp2
      go_ret
      exact ⟨by rw [runN_eq (by omega) HP.out (.inl (by omega))]; rfl, HB.out⟩

set_option maxHeartbeats 2000000 in
theorem run_bin (g : Nat) (s : ByteArray) (y : Nat) (hy : y ≤ s.size) (hs : s.size ≤ 1048576) (w : World) (h : w.cell? ⟨g, 0, none⟩ = some (.string s)) :
    Calls Tryz.prog 88 #[.pointer (some ⟨g, 0, none⟩), .int .i64 y, .func (.func 92) #[] #[]] w fun e w' => e = .returned (.int .i64 (runN binB s y)) ∧ Below w.heap.size w w' := by
  have H := Aside0.mk h
  clear h
  go_enter Tryz.func88, Tryz.ntmps88
  go_wp2
  go_loopw [7] (fun i wr => ∃ (k : Nat), y + k ≤ s.size ∧ i = .int .i64 k ∧ Aside0 (∀ j, j < k → binB (bt s ((y : Int) + (j : Nat))) = true) ∧ Aside0 (Below w.heap.size w wr)) (fun i _ => s.size - y - (intOf i).toNat)
  case atStart => exact ⟨0, by omega, rfl, ⟨fun j hj => by omega⟩, ⟨Below.refl _ _⟩⟩
  case round =>
    obtain ⟨k, hk, rfl, HP, HB⟩ := hrel
    have hc0 := pw_cell_below HB.out H.out
    by_cases hlt : y + k < s.size
    · have HX := Aside0.mk (bt_nat s (y + k) hlt)
      by_cases hp : binB (bt s ((y : Int) + k)) = true
      · have HY := Aside0.mk hp
        clear hp
        go_wp2_with fail
        rw [HX.out]
        refine (pred_bin _ _).mono ?_
        rintro e w1 ⟨rfl, hb1⟩
        have e1 : binB (bt s ((y + k : Nat) : Int)) = true := by rw [show ((y + k : Nat) : Int) = (y : Int) + k from by omega]; exact HY.out
        rw [e1]
        have HB1 := Aside0.mk hb1
        clear hb1 e1
        go_wp2
        go_roundw
        case rel => exact ⟨k + 1, by omega, by go_num, ⟨fun j hj => by
          rcases Nat.lt_or_ge j k with h1 | h1
          · exact HP.out j h1
          · obtain rfl : j = k := by omega
            exact HY.out⟩, ⟨below_then HB.out HB.out.size HB1.out⟩⟩
        case measure => simp [intOf]; omega
      · replace hp := Bool.eq_false_iff.mpr hp
        have HY := Aside0.mk hp
        clear hp
        go_wp2_with fail
        rw [HX.out]
        refine (pred_bin _ _).mono ?_
        rintro e w1 ⟨rfl, hb1⟩
        have e1 : binB (bt s ((y + k : Nat) : Int)) = false := by rw [show ((y + k : Nat) : Int) = (y : Int) + k from by omega]; exact HY.out
        rw [e1]
        have HB1 := Aside0.mk hb1
        clear hb1 e1
        go_wp2
        go_ret
        exact ⟨by rw [runN_eq (by omega) HP.out (.inr HY.out)]; rfl, below_then HB.out HB.out.size HB1.out⟩
    · go_wp2
      go_ret
      exact ⟨by rw [runN_eq (by omega) HP.out (.inl (by omega))]; rfl, HB.out⟩

set_option maxHeartbeats 2000000 in
theorem run_hex (g : Nat) (s : ByteArray) (y : Nat) (hy : y ≤ s.size) (hs : s.size ≤ 1048576) (w : World) (h : w.cell? ⟨g, 0, none⟩ = some (.string s)) :
    Calls Tryz.prog 88 #[.pointer (some ⟨g, 0, none⟩), .int .i64 y, .func (.func 93) #[] #[]] w fun e w' => e = .returned (.int .i64 (runN hexB s y)) ∧ Below w.heap.size w w' := by
  have H := Aside0.mk h
  clear h
  go_enter Tryz.func88, Tryz.ntmps88
  go_wp2
  go_loopw [7] (fun i wr => ∃ (k : Nat), y + k ≤ s.size ∧ i = .int .i64 k ∧ Aside0 (∀ j, j < k → hexB (bt s ((y : Int) + (j : Nat))) = true) ∧ Aside0 (Below w.heap.size w wr)) (fun i _ => s.size - y - (intOf i).toNat)
  case atStart => exact ⟨0, by omega, rfl, ⟨fun j hj => by omega⟩, ⟨Below.refl _ _⟩⟩
  case round =>
    obtain ⟨k, hk, rfl, HP, HB⟩ := hrel
    have hc0 := pw_cell_below HB.out H.out
    by_cases hlt : y + k < s.size
    · have HX := Aside0.mk (bt_nat s (y + k) hlt)
      by_cases hp : hexB (bt s ((y : Int) + k)) = true
      · have HY := Aside0.mk hp
        clear hp
        go_wp2_with fail
        rw [HX.out]
        refine (pred_hex _ _).mono ?_
        rintro e w1 ⟨rfl, hb1⟩
        have e1 : hexB (bt s ((y + k : Nat) : Int)) = true := by rw [show ((y + k : Nat) : Int) = (y : Int) + k from by omega]; exact HY.out
        rw [e1]
        have HB1 := Aside0.mk hb1
        clear hb1 e1
        go_wp2
        go_roundw
        case rel => exact ⟨k + 1, by omega, by go_num, ⟨fun j hj => by
          rcases Nat.lt_or_ge j k with h1 | h1
          · exact HP.out j h1
          · obtain rfl : j = k := by omega
            exact HY.out⟩, ⟨below_then HB.out HB.out.size HB1.out⟩⟩
        case measure => simp [intOf]; omega
      · replace hp := Bool.eq_false_iff.mpr hp
        have HY := Aside0.mk hp
        clear hp
        go_wp2_with fail
        rw [HX.out]
        refine (pred_hex _ _).mono ?_
        rintro e w1 ⟨rfl, hb1⟩
        have e1 : hexB (bt s ((y + k : Nat) : Int)) = false := by rw [show ((y + k : Nat) : Int) = (y : Int) + k from by omega]; exact HY.out
        rw [e1]
        have HB1 := Aside0.mk hb1
        clear hb1 e1
        go_wp2
        go_ret
        exact ⟨by rw [runN_eq (by omega) HP.out (.inr HY.out)]; rfl, below_then HB.out HB.out.size HB1.out⟩
    · go_wp2
      go_ret
      exact ⟨by rw [runN_eq (by omega) HP.out (.inl (by omega))]; rfl, HB.out⟩

set_option maxHeartbeats 2000000 in
theorem run_quote (g : Nat) (s : ByteArray) (y : Nat) (hy : y ≤ s.size) (hs : s.size ≤ 1048576) (w : World) (h : w.cell? ⟨g, 0, none⟩ = some (.string s)) :
    Calls Tryz.prog 88 #[.pointer (some ⟨g, 0, none⟩), .int .i64 y, .func (.func 95) #[] #[]] w fun e w' => e = .returned (.int .i64 (runN quoteB s y)) ∧ Below w.heap.size w w' := by
  have H := Aside0.mk h
  clear h
  go_enter Tryz.func88, Tryz.ntmps88
  go_wp2
  go_loopw [7] (fun i wr => ∃ (k : Nat), y + k ≤ s.size ∧ i = .int .i64 k ∧ Aside0 (∀ j, j < k → quoteB (bt s ((y : Int) + (j : Nat))) = true) ∧ Aside0 (Below w.heap.size w wr)) (fun i _ => s.size - y - (intOf i).toNat)
  case atStart => exact ⟨0, by omega, rfl, ⟨fun j hj => by omega⟩, ⟨Below.refl _ _⟩⟩
  case round =>
    obtain ⟨k, hk, rfl, HP, HB⟩ := hrel
    have hc0 := pw_cell_below HB.out H.out
    by_cases hlt : y + k < s.size
    · have HX := Aside0.mk (bt_nat s (y + k) hlt)
      by_cases hp : quoteB (bt s ((y : Int) + k)) = true
      · have HY := Aside0.mk hp
        clear hp
        go_wp2_with fail
        rw [HX.out]
        refine (pred_quote _ _).mono ?_
        rintro e w1 ⟨rfl, hb1⟩
        have e1 : quoteB (bt s ((y + k : Nat) : Int)) = true := by rw [show ((y + k : Nat) : Int) = (y : Int) + k from by omega]; exact HY.out
        rw [e1]
        have HB1 := Aside0.mk hb1
        clear hb1 e1
        go_wp2
        go_roundw
        case rel => exact ⟨k + 1, by omega, by go_num, ⟨fun j hj => by
          rcases Nat.lt_or_ge j k with h1 | h1
          · exact HP.out j h1
          · obtain rfl : j = k := by omega
            exact HY.out⟩, ⟨below_then HB.out HB.out.size HB1.out⟩⟩
        case measure => simp [intOf]; omega
      · replace hp := Bool.eq_false_iff.mpr hp
        have HY := Aside0.mk hp
        clear hp
        go_wp2_with fail
        rw [HX.out]
        refine (pred_quote _ _).mono ?_
        rintro e w1 ⟨rfl, hb1⟩
        have e1 : quoteB (bt s ((y + k : Nat) : Int)) = false := by rw [show ((y + k : Nat) : Int) = (y : Int) + k from by omega]; exact HY.out
        rw [e1]
        have HB1 := Aside0.mk hb1
        clear hb1 e1
        go_wp2
        go_ret
        exact ⟨by rw [runN_eq (by omega) HP.out (.inr HY.out)]; rfl, below_then HB.out HB.out.size HB1.out⟩
    · go_wp2
      go_ret
      exact ⟨by rw [runN_eq (by omega) HP.out (.inl (by omega))]; rfl, HB.out⟩

set_option maxHeartbeats 2000000 in
theorem run_bar (g : Nat) (s : ByteArray) (y : Nat) (hy : y ≤ s.size) (hs : s.size ≤ 1048576) (w : World) (h : w.cell? ⟨g, 0, none⟩ = some (.string s)) :
    Calls Tryz.prog 88 #[.pointer (some ⟨g, 0, none⟩), .int .i64 y, .func (.func 96) #[] #[]] w fun e w' => e = .returned (.int .i64 (runN barB s y)) ∧ Below w.heap.size w w' := by
  have H := Aside0.mk h
  clear h
  go_enter Tryz.func88, Tryz.ntmps88
  go_wp2
  go_loopw [7] (fun i wr => ∃ (k : Nat), y + k ≤ s.size ∧ i = .int .i64 k ∧ Aside0 (∀ j, j < k → barB (bt s ((y : Int) + (j : Nat))) = true) ∧ Aside0 (Below w.heap.size w wr)) (fun i _ => s.size - y - (intOf i).toNat)
  case atStart => exact ⟨0, by omega, rfl, ⟨fun j hj => by omega⟩, ⟨Below.refl _ _⟩⟩
  case round =>
    obtain ⟨k, hk, rfl, HP, HB⟩ := hrel
    have hc0 := pw_cell_below HB.out H.out
    by_cases hlt : y + k < s.size
    · have HX := Aside0.mk (bt_nat s (y + k) hlt)
      by_cases hp : barB (bt s ((y : Int) + k)) = true
      · have HY := Aside0.mk hp
        clear hp
        go_wp2_with fail
        rw [HX.out]
        refine (pred_bar _ _).mono ?_
        rintro e w1 ⟨rfl, hb1⟩
        have e1 : barB (bt s ((y + k : Nat) : Int)) = true := by rw [show ((y + k : Nat) : Int) = (y : Int) + k from by omega]; exact HY.out
        rw [e1]
        have HB1 := Aside0.mk hb1
        clear hb1 e1
        go_wp2
        go_roundw
        case rel => exact ⟨k + 1, by omega, by go_num, ⟨fun j hj => by
          rcases Nat.lt_or_ge j k with h1 | h1
          · exact HP.out j h1
          · obtain rfl : j = k := by omega
            exact HY.out⟩, ⟨below_then HB.out HB.out.size HB1.out⟩⟩
        case measure => simp [intOf]; omega
      · replace hp := Bool.eq_false_iff.mpr hp
        have HY := Aside0.mk hp
        clear hp
        go_wp2_with fail
        rw [HX.out]
        refine (pred_bar _ _).mono ?_
        rintro e w1 ⟨rfl, hb1⟩
        have e1 : barB (bt s ((y + k : Nat) : Int)) = false := by rw [show ((y + k : Nat) : Int) = (y : Int) + k from by omega]; exact HY.out
        rw [e1]
        have HB1 := Aside0.mk hb1
        clear hb1 e1
        go_wp2
        go_ret
        exact ⟨by rw [runN_eq (by omega) HP.out (.inr HY.out)]; rfl, below_then HB.out HB.out.size HB1.out⟩
    · go_wp2
      go_ret
      exact ⟨by rw [runN_eq (by omega) HP.out (.inl (by omega))]; rfl, HB.out⟩
end
section
open Go.RowKit Go.Proofs.YthklnopfgoekeaaGreatDoorW.PrintWords Go.Proofs.YthklnopfgoekeaaGreatDoorW.PrintLast Go.Proofs.YthklnopfgoekeaaGreatDoorW.PrintMore
set_option linter.unusedVariables false

theorem slice_form {B : Nat} {v : Value} {ts : List S37} {w : World} {ok : Nat → Prop} (h : Kd.R k37 37 w B ok v ts) : ∃ A m c, v = .slice A m c := by
  obtain ⟨A, c, e⟩ := Kd.R_slice h
  exact ⟨A, _, c, e⟩
theorem below_drew_any {B : Nat} {w W : World} (h : Below B w W) : Below B w W.drew := ⟨h.os, h.tape, h.output, h.size, h.block⟩
theorem put_keeps {B g : Nat} {s : ByteArray} {x l c : Int} {v : Value} {ts : List S37} {w w1 : World} {o : Obj} (h : Cells g s x l c v w) (hr : Kd.R k37 37 w B (fun k => B ≤ k) v ts) (hg : g < B) (hgr : World.grownBy (w.alloc o).drew.drew w1 v.ownBlock) : Cells g s x l c v w1 := by
  refine ⟨blk_grown (blk_drew (blk_drew (blk_alloc h.b o))) hgr ?_⟩
  intro he
  have := hr.1 g he.symm
  omega
set_option maxHeartbeats 4000000 in
theorem put_calls (B g : Nat) (s : ByteArray) (x l c : Int) (v : Value) (ts : List S37) (k0 : Int) (tx : ByteArray) (q0 : Bool) (l0 c0 : Int) (n : Nat) (w : World) (hg : g < B) (hB : B ≤ w.heap.size) (h : Cells g s x l c v w) (hr : Kd.R k37 37 w B (fun k => B ≤ k) v ts) (hts : ts.length ≤ 1048576) (hb : Nb s x l c) (hn : x + n ≤ s.size) :
    Calls Tryz.prog 90 #[.pointer (some ⟨g, 0, none⟩), .agg #[.int .i64 k0, .string tx, .bool q0, .int .i64 l0, .int .i64 c0], .int .i64 n] w fun e w' => e = .returned (.int .i64 0) ∧ Fr B g w w' ∧ Sc B g s (x + n) (lc s x l c n).1 (lc s x l c n).2 (ts ++ [⟨k0, tx, q0, l, c⟩]) w' := by
  have H := Aside0.mk h
  have HB := Aside0.mk hb
  have HR := Aside0.mk hr
  have hgw := h.lt
  have hc2 := h.c2
  have hc3 := h.c3
  have hc4 := h.c4
  clear h hb hr
  go_enter Tryz.func90, Tryz.ntmps90
  go_wp2
  go_region
  go_wp2
  skip
  go_region_law (refine Kd.R_append_step (W := (w.alloc (.cells #[.int .i64 k0, .string tx, .bool q0, .int .i64 l, .int .i64 c] 37)).drew.drew) k37 B (by rfl) (.tmp 21) (.tmp 23) 48 37 _ 48 (by rfl) Tryz.underlying48 info37 (by rfl) (by decide) (by decide) v ts ⟨k0, tx, q0, l, c⟩ [.int .i64 k0, .string tx, .bool q0, .int .i64 l, .int .i64 c] (fun k => B ≤ k) (fun _ => False) (by rfl) (by simp [Act.eval]) (k37_mkM _ _ _ _) (fun _ h => h.elim) (fun k hk => Nat.le_trans (by simp; omega) hk) (Kd.R_drew (Kd.R_drew (Kd.R_alloc HR.out _))) (Below.refl _ _) (by simp; omega) (by omega) ?_; intro v1 w1 hR1 hb1 hg1 hat1; obtain ⟨A1, m1, n1, rfl⟩ := slice_form hR1; have HR1 := Aside0.mk hR1; have HB1 := Aside0.mk hb1; have HG1 := Aside0.mk hg1; have HC1 := Aside0.mk (put_keeps H.out HR.out hg hg1); have hd4 := HC1.out.c4; have hf4 := HC1.out.fz 4; clear hR1 hb1 hg1 hat1)
  all_goals
    have HC2 := Aside0.mk (HC1.out.set4 (.slice A1 m1 n1))
    go_wp2_with fail
    refine (step_calls g s x l c _ n _ HC2.out HB.out hn).mono ?_
    rintro e w2 ⟨rfl, hC3, hO3⟩
    have HC3 := Aside0.mk hC3
    have HO3 := Aside0.mk hO3
    clear hC3 hO3
    go_wp2
    go_ret
    have hsz : B ≤ w1.heap.size := Nat.le_trans hB (Nat.le_trans (by simp) HB1.out.size)
    have hfr : Fr B g w w1 := Fr.of_below ((below_drew_any (below_drew_any ((Below.refl B w).alloc hB _))).trans HB1.out)
    have hfr2 := (hfr.set_ 4 (.slice A1 m1 n1))
    refine ⟨rfl, hfr2.trans (HO3.out.fr (by simpa [World.setCell] using hsz)), ⟨hg, Nat.le_trans (by simpa [World.setCell] using hsz) HO3.out.size, _, HC3.out, HO3.out.row hg (Kd.R_far HR1.out (fun k hk => by show k ≠ g; omega) _)⟩⟩
end
section
open Go.RowKit Go.Proofs.YthklnopfgoekeaaGreatDoorW.PrintWords Go.Proofs.YthklnopfgoekeaaGreatDoorW.PrintLast Go.Proofs.YthklnopfgoekeaaGreatDoorW.PrintMore
set_option linter.unusedVariables false

def endC (c : Int) : Bool := c == 1 || c == 3 || c == 2 || c == 6 || c == 7
/-- May a bare token end at place y? -/
def endB (s : ByteArray) (y : Nat) : Bool := decide (s.size ≤ y) || endC (classI (bt s y))
set_option maxHeartbeats 2000000 in
theorem ended_calls (g : Nat) (s : ByteArray) (y : Nat) (hs : s.size ≤ 1048576) (w : World) (h : w.cell? ⟨g, 0, none⟩ = some (.string s)) :
    Calls Tryz.prog 113 #[.pointer (some ⟨g, 0, none⟩), .int .i64 y] w fun e w' => e = .returned (.bool (endB s y)) ∧ Below w.heap.size w w' := by
  have H := Aside0.mk h
  have hc0 := h
  clear h
  by_cases hlt : y < s.size
  · have HX := Aside0.mk (bt_nat s y hlt)
    have HE : Aside0 (endB s y = endC (classI (bt s y))) := ⟨by unfold endB; rw [decide_eq_false (by omega), Bool.false_or]⟩
    go_enter Tryz.func113, Tryz.ntmps113
    go_wp2_with fail
    rw [HX.out]
    refine (class_calls _ _).mono ?_
    rintro e w1 ⟨rfl, hb1⟩
    have HB1 := Aside0.mk hb1
    clear hb1
    obtain ⟨c, hc⟩ : ∃ c, c = classI (bt s y) := ⟨_, rfl⟩
    rw [← hc]
    have HC := Aside0.mk hc
    clear hc
    by_cases h1 : (c == 1) = true
    · go_wp2
      go_ret
      exact ⟨by rw [HE.out]; rw [← HC.out]; simp [endC, h1], HB1.out⟩
    replace h1 := Bool.eq_false_iff.mpr h1
    by_cases h2 : (c == 3) = true
    · go_wp2
      go_ret
      exact ⟨by rw [HE.out]; rw [← HC.out]; simp [endC, h1, h2], HB1.out⟩
    replace h2 := Bool.eq_false_iff.mpr h2
    by_cases h3 : (c == 2) = true
    · go_wp2
      go_ret
      exact ⟨by rw [HE.out]; rw [← HC.out]; simp [endC, h1, h2, h3], HB1.out⟩
    replace h3 := Bool.eq_false_iff.mpr h3
    by_cases h4 : (c == 6) = true
    · go_wp2
      go_ret
      exact ⟨by rw [HE.out]; rw [← HC.out]; simp [endC, h1, h2, h3, h4], HB1.out⟩
    replace h4 := Bool.eq_false_iff.mpr h4
    by_cases h5 : (c == 7) = true
    · go_wp2
      go_ret
      exact ⟨by rw [HE.out]; rw [← HC.out]; simp [endC, h1, h2, h3, h4, h5], HB1.out⟩
    replace h5 := Bool.eq_false_iff.mpr h5
    go_wp2
    go_ret
    exact ⟨by rw [HE.out]; rw [← HC.out]; simp [endC, h1, h2, h3, h4, h5], HB1.out⟩
  · have hge : s.size ≤ y := by omega
    go_enter Tryz.func113, Tryz.ntmps113
    go_wp2
    go_ret
    exact ⟨by unfold endB; rw [decide_eq_true hge]; rfl, Below.refl _ _⟩

/-- What a reader of one piece tells: an error, a token, how many bytes. -/
structure Rd where
  err : Int
  tok : Option (Int × ByteArray × Bool)
  n : Nat
def Rd.ts (r : Rd) (l c : Int) (ts : List S37) : List S37 := match r.tok with
  | none => ts
  | some (k, t, q) => ts ++ [⟨k, t, q, l, c⟩]
/-- The scanner has gone on as r says. -/
structure After (B g : Nat) (s : ByteArray) (x : Nat) (l c : Int) (ts : List S37) (r : Rd) (w w' : World) : Prop where
  fr : Fr B g w w'
  sc : Sc B g s ((x + r.n : Nat) : Int) (lc s x l c r.n).1 (lc s x l c r.n).2 (r.ts l c ts) w'
theorem After.stay {B g : Nat} {s : ByteArray} {x : Nat} {l c : Int} {ts : List S37} {w w' : World} (h : Sc B g s x l c ts w) (hb : Below w.heap.size w w') (e : Int) : After B g s x l c ts ⟨e, none, 0⟩ w w' := by
  refine ⟨Fr.of_below (hb.mono h.le), ?_⟩
  obtain ⟨h1, h2, v, h3, h4⟩ := h
  exact ⟨h1, Nat.le_trans h2 hb.size, v, h3.below hb, Kd.R_below h4 hb⟩
theorem box37 {w : World} {b : Nat} {v0 v1 v2 v3 v4 : Value} (h : w.heap[b]? = some (.cells #[v0, v1, v2, v3, v4] 37 (0, 0))) : w.cell? ⟨b, 0, none⟩ = some v0 ∧ w.cell? ⟨b, 1, none⟩ = some v1 ∧ w.cell? ⟨b, 2, none⟩ = some v2 ∧ w.cell? ⟨b, 3, none⟩ = some v3 ∧ w.cell? ⟨b, 4, none⟩ = some v4 := by
  refine ⟨?_, ?_, ?_, ?_, ?_⟩ <;> (rw [blk_cell h]; rfl)
def bareR (s : ByteArray) (x : Nat) (k : Int) (tx : ByteArray) (q : Bool) (n : Nat) (ok : Bool) : Rd := if (ok && endB s (x + n)) = true then ⟨0, some (k, tx, q), n⟩ else ⟨62, none, 0⟩
set_option maxHeartbeats 2000000 in
theorem bare_calls (B g : Nat) (s : ByteArray) (x : Nat) (l c : Int) (ts : List S37) (k0 : Int) (tx : ByteArray) (q0 : Bool) (n : Nat) (ok : Bool) (w : World) (h : Sc B g s x l c ts w) (hts : ts.length ≤ x) (hb : Nb s x l c) (hn : x + n ≤ s.size) :
    Calls Tryz.prog 91 #[.pointer (some ⟨g, 0, none⟩), .agg #[.int .i64 k0, .string tx, .bool q0, .int .i64 0, .int .i64 0], .int .i64 n, .bool ok] w fun e w' => e = .returned (.int .i64 (bareR s x k0 tx q0 n ok).err) ∧ After B g s x l c ts (bareR s x k0 tx q0 n ok) w w' := by
  have H := Aside0.mk h
  have HB := Aside0.mk hb
  have hs := hb.size
  obtain ⟨h1, h2, v, hC, hR⟩ := h
  have hgl := hC.lt
  have hc1 := hC.c1
  have HC := Aside0.mk hC
  have HR := Aside0.mk hR
  clear hC hR hb
  cases ok with
  | false =>
    have e : bareR s x k0 tx q0 n false = ⟨62, none, 0⟩ := rfl
    rw [e]
    have HE := Aside0.mk e
    clear e
    go_enter Tryz.func91, Tryz.ntmps91
    go_wp2
    go_ret
    exact ⟨rfl, After.stay H.out ((Below.refl _ _).alloc (Nat.le_refl _) _) _⟩
  | true =>
    by_cases he : endB s (x + n) = true
    · have e : bareR s x k0 tx q0 n true = ⟨0, some (k0, tx, q0), n⟩ := by unfold bareR; rw [he]; rfl
      rw [e]
      have HE := Aside0.mk he
      clear e he
      go_enter Tryz.func91, Tryz.ntmps91
      go_wp2_with fail
      have hcall := ended_calls g s (x + n) hs (w.alloc (.cells #[.int .i64 k0, .string tx, .bool q0, .int .i64 0, .int .i64 0] 37)) (by rw [World.cell?_alloc_past _ _ _ hgl]; exact HC.out.c0)
      rw [Int.natCast_add, HE.out] at hcall
      refine hcall.mono ?_
      clear hcall
      rintro e w1 ⟨rfl, hb1⟩
      have hbk := blk_below (blk_new w (.cells #[.int .i64 k0, .string tx, .bool q0, .int .i64 0, .int .i64 0] 37)) hb1
      obtain ⟨d0, d1, d2, d3, d4⟩ := box37 hbk
      have HB1 := Aside0.mk hb1
      clear hb1 hbk
      go_wp2_with fail
      have hW : Below w.heap.size w w1 := below_then ((Below.refl _ _).alloc (Nat.le_refl _) _) (by simp) HB1.out
      refine (put_calls B g s x l c v ts k0 tx q0 0 0 n w1 h1 (Nat.le_trans h2 hW.size) (HC.out.below hW) (Kd.R_below HR.out hW) (by have := HB.out.xs; omega) HB.out (by omega)).mono ?_
      rintro e w2 ⟨rfl, hF, hS⟩
      have HF := Aside0.mk hF
      have HS := Aside0.mk hS
      clear hF hS
      go_wp2
      go_ret
      refine ⟨rfl, ⟨(Fr.of_below (hW.mono h2)).trans HF.out, ?_⟩⟩
      have := HS.out
      rw [← Int.natCast_add] at this
      exact this
    · replace he := Bool.eq_false_iff.mpr he
      have e : bareR s x k0 tx q0 n true = ⟨62, none, 0⟩ := by unfold bareR; rw [he]; rfl
      rw [e]
      have HE := Aside0.mk he
      clear e he
      go_enter Tryz.func91, Tryz.ntmps91
      go_wp2_with fail
      have hcall := ended_calls g s (x + n) hs (w.alloc (.cells #[.int .i64 k0, .string tx, .bool q0, .int .i64 0, .int .i64 0] 37)) (by rw [World.cell?_alloc_past _ _ _ hgl]; exact HC.out.c0)
      rw [Int.natCast_add, HE.out] at hcall
      refine hcall.mono ?_
      clear hcall
      rintro e w1 ⟨rfl, hb1⟩
      have HB1 := Aside0.mk hb1
      clear hb1
      go_wp2
      go_ret
      exact ⟨rfl, After.stay H.out (below_then ((Below.refl _ _).alloc (Nat.le_refl _) _) (by simp) HB1.out) _⟩
end
section
open Go.RowKit Go.Proofs.YthklnopfgoekeaaGreatDoorW.PrintWords Go.Proofs.YthklnopfgoekeaaGreatDoorW.PrintLast Go.Proofs.YthklnopfgoekeaaGreatDoorW.PrintMore
set_option linter.unusedVariables false

theorem slice_str (s : ByteArray) (i j : Int) (a b : Nat) (hi : i = a) (hj : j = b) (h : a ≤ b) (hb : b ≤ s.size) : ∀ w : World, (Instr.slice 9 (.string s) (some (.int .i64 i)) (some (.int .i64 j)) none).run Tryz.prog w = .ok (.string (s.extract a b)) w := by
  intro w
  subst hi hj
  have h1 : (a : Int) ≤ b := by omega
  have h2 : (b : Int) ≤ s.size := by omega
  have h3 : 0 ≤ (a : Int) := by omega
  have h4 : 0 ≤ (b : Int) := by omega
  have hu := Tryz.underlying9
  simp [go_sem, h, hb]
theorem wrap_in (a : Int) (h0 : -9223372036854775808 ≤ a) (h1 : a ≤ 9223372036854775807) : IntKind.i64.wrap a = a := by
  rw [IntKind.wrap_i64]
  omega
theorem After.from {B g : Nat} {s : ByteArray} {x : Nat} {l c : Int} {ts : List S37} {r : Rd} {w w1 w' : World} (h : After B g s x l c ts r w1 w') (hf : Fr B g w w1) : After B g s x l c ts r w w' := ⟨hf.trans h.fr, h.sc⟩
/-- A reader: on every scanner, before a byte of its class. -/
def ReadsAs (F : Nat) (f : ByteArray → Nat → Rd) (cls : Int) : Prop := ∀ (B g : Nat) (s : ByteArray) (x : Nat) (l c : Int) (ts : List S37) (w : World), Sc B g s x l c ts w → ts.length ≤ x → Nb s x l c → x < s.size → classI (bt s x) = cls →
  Calls Tryz.prog F #[.pointer (some ⟨g, 0, none⟩)] w fun e w' => e = .returned (.int .i64 (f s x).err) ∧ After B g s x l c ts (f s x) w w'
def wordsR (s : ByteArray) (x : Nat) : Rd := bareR s x 8 (s.extract x (x + runN simpleB s x)) false (runN simpleB s x) true
theorem Sc.below {B g : Nat} {s : ByteArray} {x l c : Int} {ts : List S37} {w W : World} (h : Sc B g s x l c ts w) (hW : Below w.heap.size w W) : Sc B g s x l c ts W := by
  obtain ⟨h1, h2, v, h3, h4⟩ := h
  exact ⟨h1, Nat.le_trans h2 hW.size, v, h3.below hW, Kd.R_below h4 hW⟩
theorem put_on (B g : Nat) (s : ByteArray) (x : Nat) (l c : Int) (ts : List S37) (k0 : Int) (tx : ByteArray) (q0 : Bool) (n : Nat) (w W : World) (h : Sc B g s x l c ts w) (hts : ts.length ≤ x) (hb : Nb s x l c) (hn : x + n ≤ s.size) (N : Int) (hN : N = n) (hW : Below w.heap.size w W) :
    Calls Tryz.prog 90 #[.pointer (some ⟨g, 0, none⟩), .agg #[.int .i64 k0, .string tx, .bool q0, .int .i64 0, .int .i64 0], .int .i64 N] W fun e w' => e = .returned (.int .i64 0) ∧ After B g s x l c ts ⟨0, some (k0, tx, q0), n⟩ w w' := by
  subst hN
  obtain ⟨h1, h2, v, h3, h4⟩ := h.below hW
  refine (put_calls B g s x l c v ts k0 tx q0 0 0 n W h1 h2 h3 h4 (by have := hb.xs; have := hb.size; omega) hb (by omega)).mono ?_
  rintro e w' ⟨rfl, hF, hS⟩
  rw [← Int.natCast_add] at hS
  exact ⟨rfl, (Fr.of_below (hW.mono h.le)).trans hF, hS⟩
theorem bare_on (B g : Nat) (s : ByteArray) (x : Nat) (l c : Int) (ts : List S37) (k0 : Int) (tx : ByteArray) (q0 : Bool) (n : Nat) (ok : Bool) (w W : World) (h : Sc B g s x l c ts w) (hts : ts.length ≤ x) (hb : Nb s x l c) (hn : x + n ≤ s.size) (N : Int) (hN : N = n) (hW : Below w.heap.size w W) :
    Calls Tryz.prog 91 #[.pointer (some ⟨g, 0, none⟩), .agg #[.int .i64 k0, .string tx, .bool q0, .int .i64 0, .int .i64 0], .int .i64 N, .bool ok] W fun e w' => e = .returned (.int .i64 (bareR s x k0 tx q0 n ok).err) ∧ After B g s x l c ts (bareR s x k0 tx q0 n ok) w w' := by
  subst hN
  refine (bare_calls B g s x l c ts k0 tx q0 n ok W (h.below hW) hts hb hn).mono ?_
  rintro e w' ⟨rfl, hA⟩
  exact ⟨rfl, hA.from (Fr.of_below (hW.mono h.le))⟩
theorem step_on (B g : Nat) (s : ByteArray) (x : Nat) (l c : Int) (ts : List S37) (n : Nat) (w W : World) (h : Sc B g s x l c ts w) (hb : Nb s x l c) (hn : x + n ≤ s.size) (N : Int) (hN : N = n) (hW : Below w.heap.size w W) :
    Calls Tryz.prog 87 #[.pointer (some ⟨g, 0, none⟩), .int .i64 N] W fun e w' => e = .returned (.tuple #[]) ∧ After B g s x l c ts ⟨0, none, n⟩ w w' := by
  subst hN
  obtain ⟨h1, h2, v, h3, h4⟩ := h.below hW
  refine (step_calls g s x l c v n W h3 hb (by omega)).mono ?_
  rintro e w' ⟨rfl, hC, hO⟩
  rw [← Int.natCast_add] at hC
  exact ⟨rfl, (Fr.of_below (hW.mono h.le)).trans (hO.fr h2), ⟨h1, Nat.le_trans h2 hO.size, v, hC, hO.row h1 h4⟩⟩
set_option maxHeartbeats 2000000 in
set_option maxRecDepth 100000 in
theorem words_reads : ReadsAs 71 wordsR 9 := by
  intro B g s x l c ts w h hts hb hx hcls
  have H := Aside0.mk h
  have HB := Aside0.mk hb
  have hs := hb.size
  obtain ⟨h1, h2, v, hC, hR⟩ := h
  have hgl := hC.lt
  have hc1 := hC.c1
  have HC := Aside0.mk hC
  have HR := Aside0.mk hR
  clear hC hR hb hcls
  go_enter Tryz.func71, Tryz.ntmps71
  go_wp2_with fail
  refine (run_simple g s x (by omega) hs w HC.out.c0).mono ?_
  rintro e w1 ⟨rfl, hb1⟩
  have hle := runN_le simpleB s x (by omega)
  obtain ⟨n, hn⟩ : ∃ n, n = runN simpleB s x := ⟨_, rfl⟩
  rw [← hn] at hle ⊢
  have HN := Aside0.mk hn
  have HC1 := Aside0.mk (HC.out.below hb1)
  have HB1 := Aside0.mk hb1
  have hd0 := HC1.out.c0
  have hd1 := HC1.out.c1
  clear hn hb1
  go_wp2
  have hwr := wrap_in ((x : Int) + n) (by omega) (by omega)
  have hsl := slice_str s x (x + n) x (x + n) rfl (by omega) (by omega) (by omega)
  go_still_tail 18, (by kernel_rfl)
  change wpList _ _ _ _ _ w1.drew
  clear hwr hsl
  go_wp2_with fail
  have hS1 : Sc B g s x l c ts w1.drew := ⟨h1, Nat.le_trans h2 HB1.out.size, v, HC1.out.drew, Kd.R_drew (Kd.R_below HR.out HB1.out)⟩
  refine (bare_calls B g s x l c ts 8 (s.extract x (x + n)) false n true w1.drew hS1 hts HB.out hle).mono ?_
  rintro e w2 ⟨rfl, hA⟩
  have HA := Aside0.mk hA
  clear hA
  go_wp2
  go_ret
  have e : wordsR s x = bareR s x 8 (s.extract x (x + n)) false n true := by unfold wordsR; rw [HN.out]
  rw [e]
  exact ⟨rfl, HA.out.from (Fr.of_below ((below_drew HB1.out).mono h2))⟩

def blanksR (s : ByteArray) (x : Nat) : Rd := ⟨0, none, 1⟩
set_option maxHeartbeats 2000000 in
set_option maxRecDepth 100000 in
theorem blanks_reads : ReadsAs 63 blanksR 1 := by
  intro B g s x l c ts w h hts hb hx hcls
  have HB := Aside0.mk hb
  obtain ⟨h1, h2, v, hC, hR⟩ := h
  have HC := Aside0.mk hC
  have HR := Aside0.mk hR
  clear hC hR hb hcls
  go_enter Tryz.func63, Tryz.ntmps63
  go_wp2_with fail
  have hcall := step_calls g s x l c v 1 w HC.out HB.out (by omega)
  refine hcall.mono ?_
  clear hcall
  rintro e w1 ⟨rfl, hC1, hO1⟩
  have HC1 := Aside0.mk hC1
  have HO1 := Aside0.mk hO1
  clear hC1 hO1
  go_wp2
  go_ret
  exact ⟨rfl, ⟨HO1.out.fr h2, ⟨h1, Nat.le_trans h2 HO1.out.size, v, HC1.out, HO1.out.row h1 HR.out⟩⟩⟩
def commentsR (s : ByteArray) (x : Nat) : Rd := ⟨0, none, runN notNlB s x⟩
set_option maxHeartbeats 2000000 in
set_option maxRecDepth 100000 in
theorem comments_reads : ReadsAs 64 commentsR 2 := by
  intro B g s x l c ts w h hts hb hx hcls
  have HB := Aside0.mk hb
  have hs := hb.size
  obtain ⟨h1, h2, v, hC, hR⟩ := h
  have hc1 := hC.c1
  have HC := Aside0.mk hC
  have HR := Aside0.mk hR
  clear hC hR hb hcls
  go_enter Tryz.func64, Tryz.ntmps64
  go_wp2_with fail
  refine (run_notNl g s x (by omega) hs w HC.out.c0).mono ?_
  rintro e w1 ⟨rfl, hb1⟩
  have hle := runN_le notNlB s x (by omega)
  obtain ⟨n, hn⟩ : ∃ n, n = runN notNlB s x := ⟨_, rfl⟩
  have HE : Aside0 (commentsR s x = ⟨0, none, n⟩) := ⟨by unfold commentsR; rw [hn]⟩
  rw [← hn] at hle ⊢
  have HC1 := Aside0.mk (HC.out.below hb1)
  have HB1 := Aside0.mk hb1
  clear hn hb1
  go_wp2_with fail
  refine (step_calls g s x l c v n w1 HC1.out HB.out (by omega)).mono ?_
  rintro e w2 ⟨rfl, hC2, hO2⟩
  have HC2 := Aside0.mk hC2
  have HO2 := Aside0.mk hO2
  clear hC2 hO2
  go_wp2
  go_ret
  rw [HE.out]
  refine ⟨rfl, ⟨(Fr.of_below (HB1.out.mono h2)).trans (HO2.out.fr (Nat.le_trans h2 HB1.out.size)), ⟨h1, Nat.le_trans (Nat.le_trans h2 HB1.out.size) HO2.out.size, v, ?_, HO2.out.row h1 (Kd.R_below HR.out HB1.out)⟩⟩⟩
  have := HC2.out
  rw [← Int.natCast_add] at this
  exact this
def bracketsR (s : ByteArray) (x : Nat) : Rd := if bt s x = 41 then ⟨0, some (2, ⟨#[41]⟩, false), 1⟩ else ⟨0, some (1, ⟨#[40]⟩, false), 1⟩
set_option maxHeartbeats 2000000 in
set_option maxRecDepth 100000 in
theorem brackets_reads : ReadsAs 65 bracketsR 3 := by
  intro B g s x l c ts w h hts hb hx hcls
  have H := Aside0.mk h
  have HB := Aside0.mk hb
  have hs := hb.size
  obtain ⟨h1, h2, v, hC, hR⟩ := h
  have hgl := hC.lt
  have hc0 := hC.c0
  have hc1 := hC.c1
  have HC := Aside0.mk hC
  have HR := Aside0.mk hR
  have hbt := bt_nat s x hx
  clear hC hR hb hcls
  by_cases h41 : (bt s x == 41) = true
  · have HE : Aside0 (bracketsR s x = ⟨0, some (2, ⟨#[41]⟩, false), 1⟩) := ⟨by unfold bracketsR; rw [if_pos (by simpa using h41)]⟩
    go_enter Tryz.func65, Tryz.ntmps65
    go_wp2
    go_quiet (fail)
    go_wp2_with fail
    refine (put_on B g s x l c ts 2 ⟨#[41]⟩ false 1 w _ H.out hts HB.out (by omega) 1 rfl (by repeat (first | (refine Below.setCell ?_ (by simp) _) | exact pw_below_drewN ((Below.refl _ _).alloc (Nat.le_refl _) _) _))).mono ?_
    rintro e w1 ⟨rfl, hA⟩
    have HA := Aside0.mk hA
    clear hA
    go_wp2
    go_ret
    rw [HE.out]
    exact ⟨rfl, HA.out⟩
  · replace h41 := Bool.eq_false_iff.mpr h41
    have HE : Aside0 (bracketsR s x = ⟨0, some (1, ⟨#[40]⟩, false), 1⟩) := ⟨by unfold bracketsR; rw [if_neg (by simpa using h41)]⟩
    go_enter Tryz.func65, Tryz.ntmps65
    go_wp2
    go_quiet (fail)
    go_wp2_with fail
    refine (put_on B g s x l c ts 1 ⟨#[40]⟩ false 1 w _ H.out hts HB.out (by omega) 1 rfl (by repeat (first | (refine Below.setCell ?_ (by simp) _) | exact pw_below_drewN ((Below.refl _ _).alloc (Nat.le_refl _) _) _))).mono ?_
    rintro e w1 ⟨rfl, hA⟩
    have HA := Aside0.mk hA
    clear hA
    go_wp2
    go_ret
    rw [HE.out]
    exact ⟨rfl, HA.out⟩
end
section
open Go.RowKit Go.Proofs.YthklnopfgoekeaaGreatDoorW.PrintWords Go.Proofs.YthklnopfgoekeaaGreatDoorW.PrintLast Go.Proofs.YthklnopfgoekeaaGreatDoorW.PrintMore
set_option linter.unusedVariables false

theorem index_str (s : ByteArray) (i : Int) (a : Nat) (hi : i = a) (h : a < s.size) : ∀ w : World, (Instr.index 9 (.string s) (.int .i64 i)).run Tryz.prog w = .ok (.int .u8 (bt s i)) w := by
  intro w
  subst hi
  have h1 : (a : Int) < s.size := by omega
  have h3 : 0 ≤ (a : Int) := by omega
  have hu := Tryz.underlying9
  have hb := bt_nat s a h
  simp [go_sem, h, hb]
def colonsR (s : ByteArray) (x : Nat) : Rd := bareR s x 9 (s.extract (x + 1) (x + 1 + runN simpleB s (x + 1))) false (runN simpleB s (x + 1) + 1) (decide (0 < runN simpleB s (x + 1)))
set_option maxHeartbeats 2000000 in
set_option maxRecDepth 100000 in
theorem colons_reads : ReadsAs 70 colonsR 8 := by
  intro B g s x l c ts w h hts hb hx hcls
  have H := Aside0.mk h
  have HB := Aside0.mk hb
  have hs := hb.size
  obtain ⟨h1, h2, v, hC, hR⟩ := h
  have hc1 := hC.c1
  have HC := Aside0.mk hC
  clear hC hR hb hcls
  go_enter Tryz.func70, Tryz.ntmps70
  go_wp2_with fail
  have hrun := run_simple g s (x + 1) (by omega) hs w HC.out.c0
  rw [show ((x + 1 : Nat) : Int) = (x : Int) + 1 from by omega] at hrun
  refine hrun.mono ?_
  clear hrun
  rintro e w1 ⟨rfl, hb1⟩
  have hle := runN_le simpleB s (x + 1) (by omega)
  obtain ⟨n, hn⟩ : ∃ n, n = runN simpleB s (x + 1) := ⟨_, rfl⟩
  have HE : Aside0 (colonsR s x = bareR s x 9 (s.extract (x + 1) (x + 1 + n)) false (n + 1) (decide (0 < n))) := ⟨by unfold colonsR; rw [hn]⟩
  rw [← hn] at hle ⊢
  have HC1 := Aside0.mk (HC.out.below hb1)
  have HB1 := Aside0.mk hb1
  have hd0 := HC1.out.c0
  have hd1 := HC1.out.c1
  clear hn hb1
  go_wp2
  have hwr := wrap_in ((x : Int) + 1) (by omega) (by omega)
  have hwr2 := wrap_in ((x : Int) + 1 + n) (by omega) (by omega)
  have hwr3 := wrap_in ((n : Int) + 1) (by omega) (by omega)
  have hsl := slice_str s ((x : Int) + 1) ((x : Int) + 1 + n) (x + 1) (x + 1 + n) (by omega) (by omega) (by omega) (by omega)
  go_still_tail 23, (by kernel_rfl)
  change wpList _ _ _ _ _ w1.drew
  clear hwr hwr2 hwr3 hsl
  go_wp2_with fail
  refine (bare_on B g s x l c ts 9 (s.extract (x + 1) (x + 1 + n)) false (n + 1) _ w _ H.out hts HB.out (by omega) _ (by omega) (below_drew_any HB1.out)).mono ?_
  rintro e w2 ⟨rfl, hA⟩
  have HA := Aside0.mk hA
  clear hA
  go_wp2
  go_ret
  rw [HE.out]
  exact ⟨rfl, HA.out⟩
def barsR (s : ByteArray) (x : Nat) : Rd :=
  if x + 1 + runN barB s (x + 1) < s.size ∧ bt s ((x : Int) + 1 + runN barB s (x + 1)) = 124 then ⟨0, some (8, s.extract (x + 1) (x + 1 + runN barB s (x + 1)), true), runN barB s (x + 1) + 2⟩ else ⟨61, none, 0⟩
set_option maxHeartbeats 2000000 in
set_option maxRecDepth 100000 in
theorem bars_reads : ReadsAs 69 barsR 7 := by
  intro B g s x l c ts w h hts hb hx hcls
  have H := Aside0.mk h
  have HB := Aside0.mk hb
  have hs := hb.size
  obtain ⟨h1, h2, v, hC, hR⟩ := h
  have hc1 := hC.c1
  have HC := Aside0.mk hC
  clear hC hR hb hcls
  go_enter Tryz.func69, Tryz.ntmps69
  go_wp2_with fail
  have hrun := run_bar g s (x + 1) (by omega) hs w HC.out.c0
  rw [show ((x + 1 : Nat) : Int) = (x : Int) + 1 from by omega] at hrun
  refine hrun.mono ?_
  clear hrun
  rintro e w1 ⟨rfl, hb1⟩
  have hle := runN_le barB s (x + 1) (by omega)
  obtain ⟨n, hn⟩ : ∃ n, n = runN barB s (x + 1) := ⟨_, rfl⟩
  have HE : Aside0 (barsR s x = if x + 1 + n < s.size ∧ bt s ((x : Int) + 1 + n) = 124 then ⟨0, some (8, s.extract (x + 1) (x + 1 + n), true), n + 2⟩ else ⟨61, none, 0⟩) := ⟨by unfold barsR; rw [hn]⟩
  rw [← hn] at hle ⊢
  have HC1 := Aside0.mk (HC.out.below hb1)
  have HB1 := Aside0.mk hb1
  have hd0 := HC1.out.c0
  have hd1 := HC1.out.c1
  clear hn hb1
  have hwr := wrap_in ((x : Int) + 1) (by omega) (by omega)
  have hwr2 := wrap_in ((x : Int) + 1 + n) (by omega) (by omega)
  by_cases hin : x + 1 + n < s.size
  · have hin' : (x : Int) + 1 + n < s.size := by omega
    have hg : decide ((s.size : Int) ≤ (x : Int) + 1 + n) = false := decide_eq_false (by omega)
    have hix := index_str s ((x : Int) + 1 + n) (x + 1 + n) (by omega) hin
    by_cases h124 : (bt s ((x : Int) + 1 + n) != 124) = true
    · have HE2 : Aside0 (barsR s x = ⟨61, none, 0⟩) := ⟨by rw [HE.out, if_neg (fun h => by simp [h.2] at h124)]⟩
      go_wp2
      go_quiet (fail)
      go_wp2
      go_ret
      rw [HE2.out]
      exact ⟨rfl, After.stay H.out (pw_below_drewN HB1.out _) _⟩
    · replace h124 := Bool.eq_false_iff.mpr h124
      have HE2 : Aside0 (barsR s x = ⟨0, some (8, s.extract (x + 1) (x + 1 + n), true), n + 2⟩) := ⟨by rw [HE.out, if_pos ⟨hin, by simpa using h124⟩]⟩
      have hwr3 := wrap_in ((n : Int) + 2) (by omega) (by omega)
      have hsl := slice_str s ((x : Int) + 1) ((x : Int) + 1 + n) (x + 1) (x + 1 + n) (by omega) (by omega) (by omega) (by omega)
      go_wp2
      go_quiet (fail)
      generalize hw2 : w1.drewN _ = w2
      have HC2 : Aside0 (Cells g s x l c v w2) := ⟨by rw [← hw2]; exact HC1.out.drewN _⟩
      have HB2 : Aside0 (Below w.heap.size w w2) := ⟨by rw [← hw2]; exact pw_below_drewN HB1.out _⟩
      clear hw2 hd0 hd1
      have hd0 := HC2.out.c0
      have hd1 := HC2.out.c1
      go_wp2
      go_still_tail 21, (by kernel_rfl)
      change wpList _ _ _ _ _ w2.drew
      clear hwr hwr2 hwr3 hsl hix h124 hg
      go_wp2_with fail
      refine (put_on B g s x l c ts 8 (s.extract (x + 1) (x + 1 + n)) true (n + 2) w _ H.out hts HB.out (by omega) _ (by omega) (below_drew_any HB2.out)).mono ?_
      rintro e w3 ⟨rfl, hA⟩
      have HA := Aside0.mk hA
      clear hA
      go_wp2
      go_ret
      rw [HE2.out]
      exact ⟨rfl, HA.out⟩
  · have hg : decide ((s.size : Int) ≤ (x : Int) + 1 + n) = true := decide_eq_true (by omega)
    have HE2 : Aside0 (barsR s x = ⟨61, none, 0⟩) := ⟨by rw [HE.out, if_neg (fun h => hin h.1)]⟩
    go_wp2
    go_quiet (fail)
    go_wp2
    go_ret
    rw [HE2.out]
    exact ⟨rfl, After.stay H.out (pw_below_drewN HB1.out _) _⟩
end
end Go.Proofs.YthklnopfgoekeaaGreatDoor.X
