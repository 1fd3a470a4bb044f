import Derived.Test.YthklnopfgoekeaaDoorHBase
import Derived.Test.YthklnopfgoekeaaDoorHPred
namespace Go.Proofs.YthklnopfgoekeaaDoor.X
open Go.RowKit Go.Proofs.YthklnopfgoekeaaDoorW.PrintWords Go.Proofs.YthklnopfgoekeaaDoorW.PrintLast Go.Proofs.YthklnopfgoekeaaDoorW.PrintMore
set_option linter.unusedVariables false

def runK (p : Int → Bool) (s : ByteArray) : Nat → Nat → Nat
  | _, 0 => 0
  | y, d + 1 => if p (bt s y) = true then runK p s (y + 1) d + 1 else 0
/-- How many bytes from place y on meet p. -/
def runN (p : Int → Bool) (s : ByteArray) (y : Nat) : Nat := runK p s y (s.size - y)
theorem runK_eq (p : Int → Bool) (s : ByteArray) : ∀ (d y k : Nat), y + d = s.size → (∀ j, j < k → p (bt s ((y : Int) + (j : Nat))) = true) → k ≤ d → (k = d ∨ p (bt s ((y : Int) + k)) = false) → runK p s y d = k
  | 0, y, k, hd, h, hk, hs => by
    have : k = 0 := by omega
    subst this; rfl
  | d + 1, y, 0, hd, h, hk, hs => by
    rcases hs with hs | hs
    · omega
    · have hs' : p (bt s y) = false := by simpa using hs
      rw [runK, if_neg (by rw [hs']; decide)]
  | d + 1, y, k + 1, hd, h, hk, hs => by
    have h0 : p (bt s y) = true := by simpa using h 0 (by omega)
    rw [runK, if_pos h0]
    have := runK_eq p s d (y + 1) k (by omega) (fun j hj => by
      have := h (j + 1) (by omega)
      have e : (y : Int) + ((j + 1 : Nat) : Int) = ((y + 1 : Nat) : Int) + (j : Nat) := by omega
      rw [e] at this
      exact this) (by omega) (by
      rcases hs with hs | hs
      · exact .inl (by omega)
      · right
        have e : (y : Int) + ((k + 1 : Nat) : Int) = ((y + 1 : Nat) : Int) + (k : Nat) := by omega
        rw [e] at hs
        exact hs)
    omega
theorem runN_eq {p : Int → Bool} {s : ByteArray} {y k : Nat} (hy : y + k ≤ s.size) (h : ∀ j, j < k → p (bt s ((y : Int) + (j : Nat))) = true) (hs : y + k = s.size ∨ p (bt s ((y : Int) + k)) = false) : runN p s y = k := by
  unfold runN
  refine runK_eq p s _ y k (by omega) h (by omega) ?_
  rcases hs with hs | hs
  · exact .inl (by omega)
  · exact .inr hs
theorem runK_le (p : Int → Bool) (s : ByteArray) : ∀ (d y : Nat), runK p s y d ≤ d
  | 0, _ => Nat.le_refl _
  | d + 1, y => by
    rw [runK]
    split
    · have := runK_le p s d (y + 1); omega
    · omega
theorem runN_le (p : Int → Bool) (s : ByteArray) (y : Nat) (hy : y ≤ s.size) : y + runN p s y ≤ s.size := by
  have := runK_le p s (s.size - y) y
  unfold runN
  omega
theorem bt_nat (s : ByteArray) (i : Nat) (h : i < s.size) : ((s[i]'h).toNat : Int) = bt s i := by
  have := bt_at s i (by simpa using h)
  simpa using this

set_option maxHeartbeats 2000000 in
theorem run_digit (g : Nat) (s : ByteArray) (y : Nat) (hy : y ≤ s.size) (hs : s.size ≤ 1048576) (w : World) (h : w.cell? ⟨g, 0, none⟩ = some (.string s)) :
    Calls Tryd.prog 66 #[.pointer (some ⟨g, 0, none⟩), .int .i64 y, .func (.func 55) #[] #[]] w fun e w' => e = .returned (.int .i64 (runN digitB s y)) ∧ Below w.heap.size w w' := by
  have H := Aside0.mk h
  clear h
  go_enter Tryd.func66, Tryd.ntmps66
  go_wp2
  go_loopw [7] (fun i wr => ∃ (k : Nat), y + k ≤ s.size ∧ i = .int .i64 k ∧ Aside0 (∀ j, j < k → digitB (bt s ((y : Int) + (j : Nat))) = true) ∧ Aside0 (Below w.heap.size w wr)) (fun i _ => s.size - y - (intOf i).toNat)
  case atStart => exact ⟨0, by omega, rfl, ⟨fun j hj => by omega⟩, ⟨Below.refl _ _⟩⟩
  case round =>
    obtain ⟨k, hk, rfl, HP, HB⟩ := hrel
    have hc0 := pw_cell_below HB.out H.out
    by_cases hlt : y + k < s.size
    · have HX := Aside0.mk (bt_nat s (y + k) hlt)
      by_cases hp : digitB (bt s ((y : Int) + k)) = true
      · have HY := Aside0.mk hp
        clear hp
        go_wp2_with fail
        rw [HX.out]
        refine (pred_digit _ _).mono ?_
        rintro e w1 ⟨rfl, hb1⟩
        have e1 : digitB (bt s ((y + k : Nat) : Int)) = true := by rw [show ((y + k : Nat) : Int) = (y : Int) + k from by omega]; exact HY.out
        rw [e1]
        have HB1 := Aside0.mk hb1
        clear hb1 e1
        go_wp2
        go_roundw
        case rel => exact ⟨k + 1, by omega, by go_num, ⟨fun j hj => by
          rcases Nat.lt_or_ge j k with h1 | h1
          · exact HP.out j h1
          · obtain rfl : j = k := by omega
            exact HY.out⟩, ⟨below_then HB.out HB.out.size HB1.out⟩⟩
        case measure => simp [intOf]; omega
      · replace hp := Bool.eq_false_iff.mpr hp
        have HY := Aside0.mk hp
        clear hp
        go_wp2_with fail
        rw [HX.out]
        refine (pred_digit _ _).mono ?_
        rintro e w1 ⟨rfl, hb1⟩
        have e1 : digitB (bt s ((y + k : Nat) : Int)) = false := by rw [show ((y + k : Nat) : Int) = (y : Int) + k from by omega]; exact HY.out
        rw [e1]
        have HB1 := Aside0.mk hb1
        clear hb1 e1
        go_wp2
        go_ret
        exact ⟨by rw [runN_eq (by omega) HP.out (.inr HY.out)]; rfl, below_then HB.out HB.out.size HB1.out⟩
    · go_wp2
      go_ret
      exact ⟨by rw [runN_eq (by omega) HP.out (.inl (by omega))]; rfl, HB.out⟩

set_option maxHeartbeats 2000000 in
theorem run_simple (g : Nat) (s : ByteArray) (y : Nat) (hy : y ≤ s.size) (hs : s.size ≤ 1048576) (w : World) (h : w.cell? ⟨g, 0, none⟩ = some (.string s)) :
    Calls Tryd.prog 66 #[.pointer (some ⟨g, 0, none⟩), .int .i64 y, .func (.func 56) #[] #[]] w fun e w' => e = .returned (.int .i64 (runN simpleB s y)) ∧ Below w.heap.size w w' := by
  have H := Aside0.mk h
  clear h
  go_enter Tryd.func66, Tryd.ntmps66
  go_wp2
  go_loopw [7] (fun i wr => ∃ (k : Nat), y + k ≤ s.size ∧ i = .int .i64 k ∧ Aside0 (∀ j, j < k → simpleB (bt s ((y : Int) + (j : Nat))) = true) ∧ Aside0 (Below w.heap.size w wr)) (fun i _ => s.size - y - (intOf i).toNat)
  case atStart => exact ⟨0, by omega, rfl, ⟨fun j hj => by omega⟩, ⟨Below.refl _ _⟩⟩
  case round =>
    obtain ⟨k, hk, rfl, HP, HB⟩ := hrel
    have hc0 := pw_cell_below HB.out H.out
    by_cases hlt : y + k < s.size
    · have HX := Aside0.mk (bt_nat s (y + k) hlt)
      by_cases hp : simpleB (bt s ((y : Int) + k)) = true
      · have HY := Aside0.mk hp
        clear hp
        go_wp2_with fail
        rw [HX.out]
        refine (pred_simple _ _).mono ?_
        rintro e w1 ⟨rfl, hb1⟩
        have e1 : simpleB (bt s ((y + k : Nat) : Int)) = true := by rw [show ((y + k : Nat) : Int) = (y : Int) + k from by omega]; exact HY.out
        rw [e1]
        have HB1 := Aside0.mk hb1
        clear hb1 e1
        go_wp2
        go_roundw
        case rel => exact ⟨k + 1, by omega, by go_num, ⟨fun j hj => by
          rcases Nat.lt_or_ge j k with h1 | h1
          · exact HP.out j h1
          · obtain rfl : j = k := by omega
            exact HY.out⟩, ⟨below_then HB.out HB.out.size HB1.out⟩⟩
        case measure => simp [intOf]; omega
      · replace hp := Bool.eq_false_iff.mpr hp
        have HY := Aside0.mk hp
        clear hp
        go_wp2_with fail
        rw [HX.out]
        refine (pred_simple _ _).mono ?_
        rintro e w1 ⟨rfl, hb1⟩
        have e1 : simpleB (bt s ((y + k : Nat) : Int)) = false := by rw [show ((y + k : Nat) : Int) = (y : Int) + k from by omega]; exact HY.out
        rw [e1]
        have HB1 := Aside0.mk hb1
        clear hb1 e1
        go_wp2
        go_ret
        exact ⟨by rw [runN_eq (by omega) HP.out (.inr HY.out)]; rfl, below_then HB.out HB.out.size HB1.out⟩
    · go_wp2
      go_ret
      exact ⟨by rw [runN_eq (by omega) HP.out (.inl (by omega))]; rfl, HB.out⟩

set_option maxHeartbeats 2000000 in
theorem run_notNl (g : Nat) (s : ByteArray) (y : Nat) (hy : y ≤ s.size) (hs : s.size ≤ 1048576) (w : World) (h : w.cell? ⟨g, 0, none⟩ = some (.string s)) :
    Calls Tryd.prog 66 #[.pointer (some ⟨g, 0, none⟩), .int .i64 y, .func (.func 67) #[] #[]] w fun e w' => e = .returned (.int .i64 (runN notNlB s y)) ∧ Below w.heap.size w w' := by
  have H := Aside0.mk h
  clear h
  go_enter Tryd.func66, Tryd.ntmps66
  go_wp2
  go_loopw [7] (fun i wr => ∃ (k : Nat), y + k ≤ s.size ∧ i = .int .i64 k ∧ Aside0 (∀ j, j < k → notNlB (bt s ((y : Int) + (j : Nat))) = true) ∧ Aside0 (Below w.heap.size w wr)) (fun i _ => s.size - y - (intOf i).toNat)
  case atStart => exact ⟨0, by omega, rfl, ⟨fun j hj => by omega⟩, ⟨Below.refl _ _⟩⟩
  case round =>
    obtain ⟨k, hk, rfl, HP, HB⟩ := hrel
    have hc0 := pw_cell_below HB.out H.out
    by_cases hlt : y + k < s.size
    · have HX := Aside0.mk (bt_nat s (y + k) hlt)
      by_cases hp : notNlB (bt s ((y : Int) + k)) = true
      · have HY := Aside0.mk hp
        clear hp
        go_wp2_with fail
        rw [HX.out]
        refine (pred_notNl _ _).mono ?_
        rintro e w1 ⟨rfl, hb1⟩
        have e1 : notNlB (bt s ((y + k : Nat) : Int)) = true := by rw [show ((y + k : Nat) : Int) = (y : Int) + k from by omega]; exact HY.out
        rw [e1]
        have HB1 := Aside0.mk hb1
        clear hb1 e1
        go_wp2
        go_roundw
        case rel => exact ⟨k + 1, by omega, by go_num, ⟨fun j hj => by
          rcases Nat.lt_or_ge j k with h1 | h1
          · exact HP.out j h1
          · obtain rfl : j = k := by omega
            exact HY.out⟩, ⟨below_then HB.out HB.out.size HB1.out⟩⟩
        case measure => simp [intOf]; omega
      · replace hp := Bool.eq_false_iff.mpr hp
        have HY := Aside0.mk hp
        clear hp
        go_wp2_with fail
        rw [HX.out]
        refine (pred_notNl _ _).mono ?_
        rintro e w1 ⟨rfl, hb1⟩
        have e1 : notNlB (bt s ((y + k : Nat) : Int)) = false := by rw [show ((y + k : Nat) : Int) = (y : Int) + k from by omega]; exact HY.out
        rw [e1]
        have HB1 := Aside0.mk hb1
        clear hb1 e1
        go_wp2
        go_ret
        exact ⟨by rw [runN_eq (by omega) HP.out (.inr HY.out)]; rfl, below_then HB.out HB.out.size HB1.out⟩
    · go_wp2
      go_ret
      exact ⟨by rw [runN_eq (by omega) HP.out (.inl (by omega))]; rfl, HB.out⟩

set_option maxHeartbeats 2000000 in
theorem run_bin (g : Nat) (s : ByteArray) (y : Nat) (hy : y ≤ s.size) (hs : s.size ≤ 1048576) (w : World) (h : w.cell? ⟨g, 0, none⟩ = some (.string s)) :
    Calls Tryd.prog 66 #[.pointer (some ⟨g, 0, none⟩), .int .i64 y, .func (.func 70) #[] #[]] w fun e w' => e = .returned (.int .i64 (runN binB s y)) ∧ Below w.heap.size w w' := by
  have H := Aside0.mk h
  clear h
  go_enter Tryd.func66, Tryd.ntmps66
  go_wp2
  go_loopw [7] (fun i wr => ∃ (k : Nat), y + k ≤ s.size ∧ i = .int .i64 k ∧ Aside0 (∀ j, j < k → binB (bt s ((y : Int) + (j : Nat))) = true) ∧ Aside0 (Below w.heap.size w wr)) (fun i _ => s.size - y - (intOf i).toNat)
  case atStart => exact ⟨0, by omega, rfl, ⟨fun j hj => by omega⟩, ⟨Below.refl _ _⟩⟩
  case round =>
    obtain ⟨k, hk, rfl, HP, HB⟩ := hrel
    have hc0 := pw_cell_below HB.out H.out
    by_cases hlt : y + k < s.size
    · have HX := Aside0.mk (bt_nat s (y + k) hlt)
      by_cases hp : binB (bt s ((y : Int) + k)) = true
      · have HY := Aside0.mk hp
        clear hp
        go_wp2_with fail
        rw [HX.out]
        refine (pred_bin _ _).mono ?_
        rintro e w1 ⟨rfl, hb1⟩
        have e1 : binB (bt s ((y + k : Nat) : Int)) = true := by rw [show ((y + k : Nat) : Int) = (y : Int) + k from by omega]; exact HY.out
        rw [e1]
        have HB1 := Aside0.mk hb1
        clear hb1 e1
        go_wp2
        go_roundw
        case rel => exact ⟨k + 1, by omega, by go_num, ⟨fun j hj => by
          rcases Nat.lt_or_ge j k with h1 | h1
          · exact HP.out j h1
          · obtain rfl : j = k := by omega
            exact HY.out⟩, ⟨below_then HB.out HB.out.size HB1.out⟩⟩
        case measure => simp [intOf]; omega
      · replace hp := Bool.eq_false_iff.mpr hp
        have HY := Aside0.mk hp
        clear hp
        go_wp2_with fail
        rw [HX.out]
        refine (pred_bin _ _).mono ?_
        rintro e w1 ⟨rfl, hb1⟩
        have e1 : binB (bt s ((y + k : Nat) : Int)) = false := by rw [show ((y + k : Nat) : Int) = (y : Int) + k from by omega]; exact HY.out
        rw [e1]
        have HB1 := Aside0.mk hb1
        clear hb1 e1
        go_wp2
        go_ret
        exact ⟨by rw [runN_eq (by omega) HP.out (.inr HY.out)]; rfl, below_then HB.out HB.out.size HB1.out⟩
    · go_wp2
      go_ret
      exact ⟨by rw [runN_eq (by omega) HP.out (.inl (by omega))]; rfl, HB.out⟩

set_option maxHeartbeats 2000000 in
theorem run_hex (g : Nat) (s : ByteArray) (y : Nat) (hy : y ≤ s.size) (hs : s.size ≤ 1048576) (w : World) (h : w.cell? ⟨g, 0, none⟩ = some (.string s)) :
    Calls Tryd.prog 66 #[.pointer (some ⟨g, 0, none⟩), .int .i64 y, .func (.func 71) #[] #[]] w fun e w' => e = .returned (.int .i64 (runN hexB s y)) ∧ Below w.heap.size w w' := by
  have H := Aside0.mk h
  clear h
  go_enter Tryd.func66, Tryd.ntmps66
  go_wp2
  go_loopw [7] (fun i wr => ∃ (k : Nat), y + k ≤ s.size ∧ i = .int .i64 k ∧ Aside0 (∀ j, j < k → hexB (bt s ((y : Int) + (j : Nat))) = true) ∧ Aside0 (Below w.heap.size w wr)) (fun i _ => s.size - y - (intOf i).toNat)
  case atStart => exact ⟨0, by omega, rfl, ⟨fun j hj => by omega⟩, ⟨Below.refl _ _⟩⟩
  case round =>
    obtain ⟨k, hk, rfl, HP, HB⟩ := hrel
    have hc0 := pw_cell_below HB.out H.out
    by_cases hlt : y + k < s.size
    · have HX := Aside0.mk (bt_nat s (y + k) hlt)
      by_cases hp : hexB (bt s ((y : Int) + k)) = true
      · have HY := Aside0.mk hp
        clear hp
        go_wp2_with fail
        rw [HX.out]
        refine (pred_hex _ _).mono ?_
        rintro e w1 ⟨rfl, hb1⟩
        have e1 : hexB (bt s ((y + k : Nat) : Int)) = true := by rw [show ((y + k : Nat) : Int) = (y : Int) + k from by omega]; exact HY.out
        rw [e1]
        have HB1 := Aside0.mk hb1
        clear hb1 e1
        go_wp2
        go_roundw
        case rel => exact ⟨k + 1, by omega, by go_num, ⟨fun j hj => by
          rcases Nat.lt_or_ge j k with h1 | h1
          · exact HP.out j h1
          · obtain rfl : j = k := by omega
            exact HY.out⟩, ⟨below_then HB.out HB.out.size HB1.out⟩⟩
        case measure => simp [intOf]; omega
      · replace hp := Bool.eq_false_iff.mpr hp
        have HY := Aside0.mk hp
        clear hp
        go_wp2_with fail
        rw [HX.out]
        refine (pred_hex _ _).mono ?_
        rintro e w1 ⟨rfl, hb1⟩
        have e1 : hexB (bt s ((y + k : Nat) : Int)) = false := by rw [show ((y + k : Nat) : Int) = (y : Int) + k from by omega]; exact HY.out
        rw [e1]
        have HB1 := Aside0.mk hb1
        clear hb1 e1
        go_wp2
        go_ret
        exact ⟨by rw [runN_eq (by omega) HP.out (.inr HY.out)]; rfl, below_then HB.out HB.out.size HB1.out⟩
    · go_wp2
      go_ret
      exact ⟨by rw [runN_eq (by omega) HP.out (.inl (by omega))]; rfl, HB.out⟩

set_option maxHeartbeats 2000000 in
theorem run_quote (g : Nat) (s : ByteArray) (y : Nat) (hy : y ≤ s.size) (hs : s.size ≤ 1048576) (w : World) (h : w.cell? ⟨g, 0, none⟩ = some (.string s)) :
    Calls Tryd.prog 66 #[.pointer (some ⟨g, 0, none⟩), .int .i64 y, .func (.func 73) #[] #[]] w fun e w' => e = .returned (.int .i64 (runN quoteB s y)) ∧ Below w.heap.size w w' := by
  have H := Aside0.mk h
  clear h
  go_enter Tryd.func66, Tryd.ntmps66
  go_wp2
  go_loopw [7] (fun i wr => ∃ (k : Nat), y + k ≤ s.size ∧ i = .int .i64 k ∧ Aside0 (∀ j, j < k → quoteB (bt s ((y : Int) + (j : Nat))) = true) ∧ Aside0 (Below w.heap.size w wr)) (fun i _ => s.size - y - (intOf i).toNat)
  case atStart => exact ⟨0, by omega, rfl, ⟨fun j hj => by omega⟩, ⟨Below.refl _ _⟩⟩
  case round =>
    obtain ⟨k, hk, rfl, HP, HB⟩ := hrel
    have hc0 := pw_cell_below HB.out H.out
    by_cases hlt : y + k < s.size
    · have HX := Aside0.mk (bt_nat s (y + k) hlt)
      by_cases hp : quoteB (bt s ((y : Int) + k)) = true
      · have HY := Aside0.mk hp
        clear hp
        go_wp2_with fail
        rw [HX.out]
        refine (pred_quote _ _).mono ?_
        rintro e w1 ⟨rfl, hb1⟩
        have e1 : quoteB (bt s ((y + k : Nat) : Int)) = true := by rw [show ((y + k : Nat) : Int) = (y : Int) + k from by omega]; exact HY.out
        rw [e1]
        have HB1 := Aside0.mk hb1
        clear hb1 e1
        go_wp2
        go_roundw
        case rel => exact ⟨k + 1, by omega, by go_num, ⟨fun j hj => by
          rcases Nat.lt_or_ge j k with h1 | h1
          · exact HP.out j h1
          · obtain rfl : j = k := by omega
            exact HY.out⟩, ⟨below_then HB.out HB.out.size HB1.out⟩⟩
        case measure => simp [intOf]; omega
      · replace hp := Bool.eq_false_iff.mpr hp
        have HY := Aside0.mk hp
        clear hp
        go_wp2_with fail
        rw [HX.out]
        refine (pred_quote _ _).mono ?_
        rintro e w1 ⟨rfl, hb1⟩
        have e1 : quoteB (bt s ((y + k : Nat) : Int)) = false := by rw [show ((y + k : Nat) : Int) = (y : Int) + k from by omega]; exact HY.out
        rw [e1]
        have HB1 := Aside0.mk hb1
        clear hb1 e1
        go_wp2
        go_ret
        exact ⟨by rw [runN_eq (by omega) HP.out (.inr HY.out)]; rfl, below_then HB.out HB.out.size HB1.out⟩
    · go_wp2
      go_ret
      exact ⟨by rw [runN_eq (by omega) HP.out (.inl (by omega))]; rfl, HB.out⟩

set_option maxHeartbeats 2000000 in
theorem run_bar (g : Nat) (s : ByteArray) (y : Nat) (hy : y ≤ s.size) (hs : s.size ≤ 1048576) (w : World) (h : w.cell? ⟨g, 0, none⟩ = some (.string s)) :
    Calls Tryd.prog 66 #[.pointer (some ⟨g, 0, none⟩), .int .i64 y, .func (.func 75) #[] #[]] w fun e w' => e = .returned (.int .i64 (runN barB s y)) ∧ Below w.heap.size w w' := by
  have H := Aside0.mk h
  clear h
  go_enter Tryd.func66, Tryd.ntmps66
  go_wp2
  go_loopw [7] (fun i wr => ∃ (k : Nat), y + k ≤ s.size ∧ i = .int .i64 k ∧ Aside0 (∀ j, j < k → barB (bt s ((y : Int) + (j : Nat))) = true) ∧ Aside0 (Below w.heap.size w wr)) (fun i _ => s.size - y - (intOf i).toNat)
  case atStart => exact ⟨0, by omega, rfl, ⟨fun j hj => by omega⟩, ⟨Below.refl _ _⟩⟩
  case round =>
    obtain ⟨k, hk, rfl, HP, HB⟩ := hrel
    have hc0 := pw_cell_below HB.out H.out
    by_cases hlt : y + k < s.size
    · have HX := Aside0.mk (bt_nat s (y + k) hlt)
      by_cases hp : barB (bt s ((y : Int) + k)) = true
      · have HY := Aside0.mk hp
        clear hp
        go_wp2_with fail
        rw [HX.out]
        refine (pred_bar _ _).mono ?_
        rintro e w1 ⟨rfl, hb1⟩
        have e1 : barB (bt s ((y + k : Nat) : Int)) = true := by rw [show ((y + k : Nat) : Int) = (y : Int) + k from by omega]; exact HY.out
        rw [e1]
        have HB1 := Aside0.mk hb1
        clear hb1 e1
        go_wp2
        go_roundw
        case rel => exact ⟨k + 1, by omega, by go_num, ⟨fun j hj => by
          rcases Nat.lt_or_ge j k with h1 | h1
          · exact HP.out j h1
          · obtain rfl : j = k := by omega
            exact HY.out⟩, ⟨below_then HB.out HB.out.size HB1.out⟩⟩
        case measure => simp [intOf]; omega
      · replace hp := Bool.eq_false_iff.mpr hp
        have HY := Aside0.mk hp
        clear hp
        go_wp2_with fail
        rw [HX.out]
        refine (pred_bar _ _).mono ?_
        rintro e w1 ⟨rfl, hb1⟩
        have e1 : barB (bt s ((y + k : Nat) : Int)) = false := by rw [show ((y + k : Nat) : Int) = (y : Int) + k from by omega]; exact HY.out
        rw [e1]
        have HB1 := Aside0.mk hb1
        clear hb1 e1
        go_wp2
        go_ret
        exact ⟨by rw [runN_eq (by omega) HP.out (.inr HY.out)]; rfl, below_then HB.out HB.out.size HB1.out⟩
    · go_wp2
      go_ret
      exact ⟨by rw [runN_eq (by omega) HP.out (.inl (by omega))]; rfl, HB.out⟩
end Go.Proofs.YthklnopfgoekeaaDoor.X
